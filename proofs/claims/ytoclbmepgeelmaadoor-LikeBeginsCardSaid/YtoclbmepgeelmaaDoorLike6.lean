import Derived.Test.YtoclbmepgeelmaaDoorRfn
namespace Go.Proofs.YtoclbmepgeelmaaDoor.Utf
set_option linter.unusedVariables false
set_option linter.unusedSimpArgs false
open Go.RowKit Go.Lib Go.Proofs.YtoclbmepgeelmaaDoorW.PrintWords Go.Proofs.YtoclbmepgeelmaaDoorW.PrintLast Go.Proofs.YtoclbmepgeelmaaDoorW.PrintMore Go.Proofs.YtoclbmepgeelmaaDoor.PRa

theorem C_nil (w : World) (k : IntKind) : (Kd.int k).C w none 0 [] := by
  refine ⟨by simp, by simp, fun h => absurd h (by omega)⟩
theorem front_zero (b : Nat) (w : World) (h1 : w.cell? ⟨b, 1, none⟩ = some (.slice none 0 0)) :
    Calls Tryd.prog 25 #[.pointer (some ⟨b, 0, none⟩)] w fun e w' => e = .returned (.string ⟨#[]⟩) ∧ w' = w :=
  front_walk b none 0 [] w (by simp) (by simp) h1 (C_nil w _)
theorem pfront (W : World) (p : Value) (l : List UInt8) (hl : l.length ≤ 1000) (h : PatOr W p l) :
    Calls Tryd.prog 25 #[p] W fun e w' => e = .returned (.string (runesBytes (frontL (splitR l)))) ∧ w' = W := by
  have hr := runesOf_length l
  unfold PatOr at h
  split at h
  · rename_i h0
    obtain ⟨b, A, c, rfl, _, h1, hc, hC⟩ := h
    have : splitR l = runesOf l := by simp [splitR, (compE_zero h0).2]
    rw [this]
    exact front_walk b A c _ W (by omega) hc h1 hC
  · rename_i h0
    subst h
    have : splitR l = [] := by
      unfold splitR
      rw [if_neg]
      intro hv
      exact h0 (by unfold compE splitE; rw [if_neg (by omega), if_pos hv])
    rw [this]
    exact front_nil W
theorem pleast (W : World) (p : Value) (l : List UInt8) (hl : l.length ≤ 1000) (h : PatOr W p l) :
    Calls Tryd.prog 26 #[p] W fun e w' => e = .returned (.int .i64 (leastL (splitR l))) ∧ w' = W := by
  have hr := runesOf_length l
  unfold PatOr at h
  split at h
  · rename_i h0
    obtain ⟨b, A, c, rfl, _, h1, hc, hC⟩ := h
    have : splitR l = runesOf l := by simp [splitR, (compE_zero h0).2]
    rw [this]
    exact least_walk b A c _ W (by omega) hc h1 hC
  · rename_i h0
    subst h
    have : splitR l = [] := by
      unfold splitR
      rw [if_neg]
      intro hv
      exact h0 (by unfold compE splitE; rw [if_neg (by omega), if_pos hv])
    rw [this]
    exact least_nil W
theorem PatOr.below {W W' : World} {p : Value} {l : List UInt8} (h : PatOr W p l) (hb : Below W.heap.size W W') : PatOr W' p l := by
  unfold PatOr at h ⊢
  split
  · rename_i h0; rw [if_pos h0] at h; exact h.below hb
  · rename_i h0; rw [if_neg h0] at h; exact h
theorem splitR_scalar (l : List UInt8) : ∀ x ∈ splitR l, ∃ r : Nat, x = (r : Int) ∧ Scalar r := by
  unfold splitR
  split
  · rename_i h
    obtain ⟨rs, hs, _, i⟩ := valid_encs' h
    rw [i]
    intro x hx
    obtain ⟨r, hr, rfl⟩ := List.mem_map.1 hx
    exact ⟨r, rfl, hs r hr⟩
  · simp
theorem splitR_length (l : List UInt8) : (splitR l).length ≤ l.length := by
  unfold splitR; split
  · exact runesOf_length l
  · simp
theorem rfront (L : List Int) (hL : L.length ≤ 1000000) (hS : ∀ x ∈ L, ∃ r : Nat, x = (r : Int) ∧ Scalar r) (A : Option Addr) (c : Nat) (hc : L.length ≤ c) (W : World) (hC : (Kd.int .i64).C W A L.length L) :
    Calls Tryd.prog 24 #[.slice A L.length c] W fun e w' => e = .returned (.tuple #[.string (runesBytes (frontL L)), .int .i64 (leastL L)]) ∧ Below W.heap.size W w' := by
  obtain ⟨k, hk⟩ := front_f L hL hS
  exact hindsightref06_Front.calls k A c L _ _ W hC hc hk

set_option maxHeartbeats 8000000 in
set_option maxRecDepth 100000 in
theorem likeFronts_walk (p : ByteArray) (w : World) (hT : Tabs w) :
    Calls Tryd.prog 6 #[.string p] w fun e w' => e = .returned (.bool true) ∧ Below w.heap.size w w' := by
  have fin : ∀ W : World, Below w.heap.size w W → Calls Tryd.prog 17 #[] W fun e w' => e = .returned (.bool true) ∧ Below W.heap.size W w' := fun W h => alive06 W (hT.below h)
  have FIN := Aside0.mk fin
  by_cases hlen : 1000 < p.size
  · have c1 : decide ((1000 : Int) < (p.size : Int)) = true := decide_eq_true (by omega)
    clear fin hT
    go_enter Tryd.func6, Tryd.ntmps6
    go_wp2_with fail
    refine (FIN.out _ (Below.refl _ _)).mono ?_
    rintro e w1 ⟨rfl, hb⟩
    go_wp2_with fail
    go_ret
    exact ⟨rfl, hb⟩
  have c1 : decide ((1000 : Int) < (p.size : Int)) = false := decide_eq_false (by omega)
  have hlp : p.data.toList.length ≤ 1000 := by simp; omega
  have k1 := compile_walk p w hT
  have k2 := fun W => rsplit_walk p W (by omega)
  have k3 := fun (A : Option Addr) (c : Nat) (hc : (splitR p.data.toList).length ≤ c) (W : World) hC => rfront (splitR p.data.toList) (by have := splitR_length p.data.toList; omega) (splitR_scalar _) A c hc W hC
  have k4 := fun (W : World) (v : Value) h => pfront W v p.data.toList hlp h
  have k5 := fun (W : World) (v : Value) h => pleast W v p.data.toList hlp h
  have hE : compE p.data.toList = splitE p.data.toList := by unfold compE; rw [if_neg (by omega)]
  rw [hE] at k1
  have hV : (splitE p.data.toList == 0) = validD p.data.toList := by unfold splitE; cases validD p.data.toList <;> rfl
  obtain ⟨L, hL⟩ : ∃ L, splitR p.data.toList = L := ⟨_, rfl⟩
  simp only [hL] at k2 k3 k4 k5
  obtain ⟨FR, hFR⟩ : ∃ FR, runesBytes (frontL L) = FR := ⟨_, rfl⟩
  obtain ⟨LE, hLE⟩ : ∃ LE, leastL L = LE := ⟨_, rfl⟩
  simp only [hFR, hLE] at k3 k4 k5
  obtain ⟨E, hEE⟩ : ∃ E, splitE p.data.toList = E := ⟨_, rfl⟩
  obtain ⟨OK, hOK⟩ : ∃ OK, validD p.data.toList = OK := ⟨_, rfl⟩
  rw [hEE, hOK] at hV
  rw [hEE] at k1
  simp only [hOK] at k2
  have bF : (FR.toList == FR.toList) = true := by simp
  have bL : (LE == LE) = true := by simp
  have K1 := Aside0.mk k1
  have K2 := Aside0.mk k2
  have K3 := Aside0.mk k3
  have K4 := Aside0.mk k4
  have K5 := Aside0.mk k5
  clear k1 k2 k3 k4 k5 hE hL hFR hLE hEE hOK fin hT hlp
  go_enter Tryd.func6, Tryd.ntmps6
  go_wp2_with fail
  refine K1.out.mono ?_
  rintro e w1 ⟨pv, rfl, hP, hb⟩
  have HP := Aside0.mk hP
  have HB1 := Aside0.mk hb
  clear hP hb K1
  go_wp2_with fail
  refine (K2.out _).mono ?_
  rintro e w2 ⟨lv, rfl, hR, hb⟩
  obtain ⟨A, c, rfl, hc, hC⟩ := Kd.R_reads hR
  have HC := Aside0.mk hC
  have HB2 := Aside0.mk (below_step HB1.out hb)
  have HP2 := Aside0.mk (HP.out.below hb)
  clear hb hR hC HP K2 HB1
  go_wp2_with fail
  refine (K3.out A c hc _ HC.out).mono ?_
  rintro e w3 ⟨rfl, hb⟩
  have HB3 := Aside0.mk (below_step HB2.out hb)
  have HP3 := Aside0.mk (HP2.out.below hb)
  clear hb HP2 K3 HB2 HC hc
  go_wp2_with fail
  obtain ⟨W4, hW4⟩ : ∃ W4, w3.alloc (.cells #[.bool false, .slice none 0 0] 40) = W4 := ⟨_, rfl⟩
  obtain ⟨zb, hzb⟩ : ∃ zb, w3.heap.size = zb := ⟨_, rfl⟩
  have Z0 : Aside0 (W4.cell? ⟨zb, 0, none⟩ = some (.bool false)) := ⟨by rw [← hW4, ← hzb]; exact cell_new _ _ _ 0⟩
  have Z1 : Aside0 (W4.cell? ⟨zb, 1, none⟩ = some (.slice none 0 0)) := ⟨by rw [← hW4, ← hzb]; exact cell_new _ _ _ 1⟩
  have HB4 : Aside0 (Below w.heap.size w W4) := ⟨by rw [← hW4]; exact below_alloc HB3.out _⟩
  have HP4 : Aside0 (PatOr W4 pv p.data.toList) := ⟨by rw [← hW4]; exact HP3.out.below (below_alloc (Below.refl _ _) _)⟩
  rw [hW4, hzb]
  clear hW4 hzb HB3 HP3
  refine (pmatch_nil _ _).mono ?_
  rintro e w5 ⟨rfl, hb⟩
  have HB5 := Aside0.mk (below_step HB4.out hb)
  have HP5 := Aside0.mk (HP4.out.below hb)
  have Y0 := Aside0.mk (below_cellT hb Z0.out)
  have Y1 := Aside0.mk (below_cellT hb Z1.out)
  clear hb HB4 HP4 Z0 Z1
  go_wp2_with fail
  refine (pmatch_zero zb _ _ Y0.out).mono ?_
  rintro e w6 ⟨rfl, hb⟩
  have HB6 := Aside0.mk (below_step HB5.out hb)
  have HP6 := Aside0.mk (HP5.out.below hb)
  have X1 := Aside0.mk (below_cellT hb Y1.out)
  clear hb HB5 HP5 Y0 Y1
  go_wp2_with fail
  refine (FIN.out _ HB6.out).mono ?_
  rintro e w7 ⟨rfl, hb⟩
  have HB7 := Aside0.mk (below_step HB6.out hb)
  have HP7 := Aside0.mk (HP6.out.below hb)
  have V1 := Aside0.mk (below_cellT hb X1.out)
  clear hb HB6 HP6 X1
  have bV : ((E == 0) == OK) = true := by simp [hV]
  have bO : (OK == OK) = true := by simp
  go_wp2_with fail
  refine (K4.out _ _ HP7.out).mono ?_
  rintro e w8 ⟨rfl, rfl⟩
  go_wp2_with fail
  refine (K5.out _ _ HP7.out).mono ?_
  rintro e w8 ⟨rfl, rfl⟩
  go_wp2_with fail
  refine (front_nil _).mono ?_
  rintro e w8 ⟨rfl, rfl⟩
  go_wp2_with fail
  refine (front_zero zb _ V1.out).mono ?_
  rintro e w8 ⟨rfl, rfl⟩
  have nil2 : (({ data := #[] } : ByteArray) ++ { data := #[] }).toList = [] := by rw [ByteArray.toList_eq]; rfl
  go_wp2_with fail
  refine (least_nil _).mono ?_
  rintro e w8 ⟨rfl, rfl⟩
  go_wp2_with fail
  go_ret
  exact ⟨rfl, HB7.out⟩
end Go.Proofs.YtoclbmepgeelmaaDoor.Utf
