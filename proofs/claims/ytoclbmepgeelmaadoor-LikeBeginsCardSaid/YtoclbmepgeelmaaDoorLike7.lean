import Derived.Test.YtoclbmepgeelmaaDoorLike6
import Derived.Test.YtoclbmepgeelmaaDoorLike4
namespace Go.Proofs.YtoclbmepgeelmaaDoor.Utf
set_option linter.unusedVariables false
set_option linter.unusedSimpArgs false
open Go.RowKit Go.Lib Go.Proofs.YtoclbmepgeelmaaDoorW.PrintWords Go.Proofs.YtoclbmepgeelmaaDoorW.PrintLast Go.Proofs.YtoclbmepgeelmaaDoorW.PrintMore Go.Proofs.YtoclbmepgeelmaaDoor.PRa

theorem encode_bytes (r : Nat) (hr : Scalar r) : (Utf8.encode (r : Int)).data.toList = encodeRune (r : Int) := by
  unfold Scalar at hr
  have hv : Utf8.valid (r : Int) = true := by unfold Utf8.valid; simp; omega
  unfold Utf8.encode
  simp only [hv, if_true, Int.toNat_natCast]
  by_cases c1 : r < 128
  · rw [if_pos c1]
    simp only [encodeRune, encodeRuneZ_one (r := (r : Int)) (by omega) (by omega), List.map_cons, List.map_nil]
    all_goals rfl
  rw [if_neg c1]
  by_cases c2 : r < 2048
  · rw [if_pos c2]
    simp only [encodeRune, encodeRuneZ_two (r := (r : Int)) (by omega) (by omega), List.map_cons, List.map_nil]
    rw [show (192 + (r : Int) / 64).toNat = 192 + r / 64 by omega, show (128 + (r : Int) % 64).toNat = 128 + r % 64 by omega]
    all_goals rfl
  rw [if_neg c2]
  by_cases c3 : r < 65536
  · rw [if_pos c3]
    simp only [encodeRune, encodeRuneZ_three (r := (r : Int)) (by omega), List.map_cons, List.map_nil]
    rw [show (224 + (r : Int) / 4096).toNat = 224 + r / 4096 by omega, show (128 + (r : Int) / 64 % 64).toNat = 128 + r / 64 % 64 by omega, show (128 + (r : Int) % 64).toNat = 128 + r % 64 by omega]
    all_goals rfl
  · rw [if_neg c3]
    simp only [encodeRune, encodeRuneZ_four (r := (r : Int)) (by omega) (by omega), List.map_cons, List.map_nil]
    rw [show (240 + (r : Int) / 262144).toNat = 240 + r / 262144 by omega, show (128 + (r : Int) / 4096 % 64).toNat = 128 + r / 4096 % 64 by omega, show (128 + (r : Int) / 64 % 64).toNat = 128 + r / 64 % 64 by omega, show (128 + (r : Int) % 64).toNat = 128 + r % 64 by omega]
    all_goals rfl
theorem runesBytes_ints : ∀ rs : List Nat, (∀ r ∈ rs, Scalar r) → (runesBytes (ints rs)).data.toList = encs rs
  | [], _ => rfl
  | r :: rs, h => by
    have e : ints (r :: rs) = (r : Int) :: ints rs := rfl
    rw [e, runesBytes_cons, ByteArray.data_append, Array.toList_append, encode_bytes r (h r (by simp)), runesBytes_ints rs (fun q hq => h q (by simp [hq]))]
    rfl
theorem Lk.least {p s : List Int} (h : Lk p s) : leastL p ≤ s.length := by
  induction h with
  | nil => simp [leastL]
  | @one x c p s h hx hc ih =>
    have b : (x != 37) = true := by simpa using hx
    simp only [leastL, List.filter_cons, b, if_true, List.length_cons] at ih ⊢
    omega
  | none _ ih => simpa [leastL] using ih
  | more _ ih => simp only [List.length_cons]; omega
theorem frontL_plain : ∀ L : List Int, ∀ x ∈ frontL L, x ≠ 37 ∧ x ≠ 95
  | [], x, h => by simp [frontL] at h
  | y :: L, x, h => by
    unfold frontL at h
    rw [List.takeWhile_cons] at h
    split at h
    · rename_i hy
      rcases List.mem_cons.1 h with rfl | h
      · simpa using hy
      · exact frontL_plain L x h
    · simp at h
theorem begins_law {L : List Int} {s : List UInt8} (hL : ∀ x ∈ L, ∃ r : Nat, x = (r : Int) ∧ Scalar r) (h : textR L s = true) :
    (∃ t, s = (runesBytes (frontL L)).data.toList ++ t) ∧ leastL L ≤ s.length := by
  unfold textR at h
  split at h
  · rename_i h0
    have hv := (textE_zero h0).2
    have hk := (like_iff _ _).1 h
    obtain ⟨rs, hs, es, is⟩ := valid_encs' hv
    have hl := hk.least
    have hrl := runesOf_length s
    refine ⟨?_, by omega⟩
    have hLd : L = frontL L ++ L.dropWhile (fun x => x != 37 && x != 95) := (List.takeWhile_append_dropWhile).symm
    rw [hLd] at hk
    obtain ⟨a, b, e, k1, _⟩ := hk.split
    have ha := (like_plain (frontL L) a (frontL_plain L)).1 k1.like
    rw [is, ← ha] at e
    -- the points of the front
    have hm : ∀ (rs : List Nat) (u v : List Int), ints rs = u ++ v → ∃ r1 r2, rs = r1 ++ r2 ∧ ints r1 = u := by
      intro rs u v h
      refine ⟨rs.take u.length, rs.drop u.length, (List.take_append_drop _ _).symm, ?_⟩
      have := congrArg (List.take u.length) h
      simpa [ints, List.map_take] using this
    obtain ⟨r1, r2, er, e1⟩ := hm rs _ _ e
    refine ⟨encs r2, ?_⟩
    rw [← e1, runesBytes_ints r1 (fun q hq => hs q (by rw [er]; simp [hq])), es, er, encs_append]
  · cases h

set_option maxHeartbeats 8000000 in
set_option maxRecDepth 100000 in
theorem likeBegins_walk (p s : ByteArray) (w : World) (hT : Tabs w) :
    Calls Tryd.prog 7 #[.string p, .string s] w fun e w' => e = .returned (.bool true) ∧ Below w.heap.size w w' := by
  have fin : ∀ W : World, Below w.heap.size w W → Calls Tryd.prog 17 #[] W fun e w' => e = .returned (.bool true) ∧ Below W.heap.size W w' := fun W h => alive06 W (hT.below h)
  have FIN := Aside0.mk fin
  have HT := Aside0.mk hT
  clear fin hT
  go_enter Tryd.func7, Tryd.ntmps7
  go_upto_region 1 with (fail)
  go_cut [17] (fun v17 wc => ∃ x : Bool, v17 = .bool x ∧ (x = false → (p.size : Int) ≤ 300) ∧ wc = w)
  case first =>
    have hn : (p.size : Int) ≤ 300 ∨ 300 < (p.size : Int) := by omega
    have hm : (s.size : Int) ≤ 300 ∨ 300 < (s.size : Int) := by omega
    rcases hn with hn | hn <;> rcases hm with hm | hm
    all_goals
      first | have f1 := decide_eq_true (p := (300 : Int) < (p.size : Int)) (by omega) | have f1 := decide_eq_false (p := (300 : Int) < (p.size : Int)) (by omega)
      first | have f2 := decide_eq_true (p := (300 : Int) < (s.size : Int)) (by omega) | have f2 := decide_eq_false (p := (300 : Int) < (s.size : Int)) (by omega)
      go_wp2
      go_meet
      case rel => exact ⟨_, rfl, by simp <;> omega, rfl⟩
  case rest =>
    obtain ⟨x, rfl, hx, rfl⟩ := hcut
    cases x with
    | true =>
      clear hx
      go_wp2_with fail
      refine (FIN.out _ (Below.refl _ _)).mono ?_
      rintro e w1 ⟨rfl, hb⟩
      go_wp2_with fail
      go_ret
      exact ⟨rfl, hb⟩
    | false =>
      have hs := hx rfl
      clear hx
      have hlp : p.data.toList.length ≤ 1000 := by simp; omega
      have k1 := compile_walk p wc HT.out
      by_cases h0 : compE p.data.toList = 0
      · have hv := (compE_zero h0).2
        have sL : splitR p.data.toList = runesOf p.data.toList := by simp [splitR, hv]
        have hrl := runesOf_length p.data.toList
        have k2 := fun (W : World) (v : Value) hW h => pmatch_walk v (runesOf p.data.toList) s W hW h (by omega)
        have k4 := fun (W : World) (v : Value) h => pfront W v p.data.toList hlp h
        have k5 := fun (W : World) (v : Value) h => pleast W v p.data.toList hlp h
        have law := fun h => begins_law (L := runesOf p.data.toList) (s := s.data.toList) (by rw [← sL]; exact splitR_scalar _) h
        simp only [sL] at k4 k5
        unfold PatOr at k1 k4 k5
        simp only [h0, ↓reduceIte] at k1 k4 k5
        obtain ⟨L, hL⟩ : ∃ L, runesOf p.data.toList = L := ⟨_, rfl⟩
        simp only [hL] at k1 k2 k4 k5 law
        obtain ⟨X, hX⟩ : ∃ X, textR L s.data.toList = X := ⟨_, rfl⟩
        obtain ⟨F, hF⟩ : ∃ F, textE s.data.toList = F := ⟨_, rfl⟩
        obtain ⟨FR, hFR⟩ : ∃ FR, runesBytes (frontL L) = FR := ⟨_, rfl⟩
        obtain ⟨LE, hLE⟩ : ∃ LE, leastL L = LE := ⟨_, rfl⟩
        simp only [hX, hF] at k2
        simp only [hX, hFR, hLE] at law
        simp only [hFR] at k4
        simp only [hLE] at k5
        have K1 := Aside0.mk k1
        have K2 := Aside0.mk k2
        have K4 := Aside0.mk k4
        have K5 := Aside0.mk k5
        clear k1 k2 k4 k5 hL hX hF hFR hLE hrl sL hv h0 hlp hs
        have d : (F != 0) = true ∨ ((F != 0) = false ∧ X = false) ∨ ((F != 0) = false ∧ X = true) := by
          cases (F != 0) <;> cases X <;> simp
        rcases d with hF | ⟨hF, rfl⟩ | ⟨hF, rfl⟩
        iterate 2
          · go_wp2_with fail
            refine K1.out.mono ?_
            rintro e w1 ⟨pv, rfl, hP, hb⟩
            have HP := Aside0.mk hP
            have HB1 := Aside0.mk hb
            clear hP hb K1 law
            go_wp2_with fail
            refine (K2.out _ _ (HT.out.below HB1.out) HP.out).mono ?_
            rintro e w2 ⟨rfl, hb⟩
            have HB2 := Aside0.mk (below_step HB1.out hb)
            clear hb
            go_wp2_with fail
            refine (FIN.out _ HB2.out).mono ?_
            rintro e w3 ⟨rfl, hb⟩
            go_wp2_with fail
            go_ret
            exact ⟨rfl, below_step HB2.out hb⟩
        · obtain ⟨⟨t, ht⟩, hle⟩ := law rfl
          have hsz : FR.size ≤ s.size := by
            have := congrArg List.length ht
            simp at this
            omega
          have hext : ((s.extract 0 FR.size).toList == FR.toList) = true := by
            rw [ByteArray.toList_eq, ByteArray.toList_eq, beq_iff_eq, ByteArray.data_extract, Array.toList_extract, ht]
            have : FR.size = FR.data.toList.length := by simp
            rw [this, List.extract_eq_take_drop, Nat.sub_zero, List.drop_zero, List.take_left]
          have g1 : decide ((FR.size : Int) ≤ (s.size : Int)) = true := decide_eq_true (by omega)
          have g2 : decide (LE ≤ (s.size : Int)) = true := decide_eq_true (by simpa using hle)
          have HE := Aside0.mk hext
          clear law ht hle hext
          go_wp2_with fail
          refine K1.out.mono ?_
          rintro e w1 ⟨pv, rfl, hP, hb⟩
          have HP := Aside0.mk hP
          have HB1 := Aside0.mk hb
          clear hP hb K1
          go_wp2_with fail
          refine (K2.out _ _ (HT.out.below HB1.out) HP.out).mono ?_
          rintro e w2 ⟨rfl, hb⟩
          have HB2 := Aside0.mk (below_step HB1.out hb)
          have HP2 := Aside0.mk (HP.out.below hb)
          clear hb
          go_wp2_with fail
          refine (K4.out _ _ HP2.out).mono ?_
          rintro e w3 ⟨rfl, rfl⟩
          go_wp2_with fail
          refine (FIN.out _ HB2.out).mono ?_
          rintro e w3 ⟨rfl, hb⟩
          have HB3 := Aside0.mk (below_step HB2.out hb)
          have HP3 := Aside0.mk (HP2.out.below hb)
          clear hb
          have hex := HE.out
          go_wp2_with fail
          refine (K5.out _ _ HP3.out).mono ?_
          rintro e w4 ⟨rfl, rfl⟩
          go_wp2_with fail
          go_ret
          exact ⟨rfl, HB3.out⟩
      · unfold PatOr at k1
        obtain ⟨E, hE⟩ : ∃ E, compE p.data.toList = E := ⟨_, rfl⟩
        rw [hE] at k1 h0
        simp only [if_neg h0] at k1
        have b0 : (E != 0) = true := by simpa using h0
        have K1 := Aside0.mk k1
        clear k1 h0 hE hlp hs
        go_wp2_with fail
        refine K1.out.mono ?_
        rintro e w1 ⟨pv, rfl, rfl, hb⟩
        have HB1 := Aside0.mk hb
        clear hb K1
        go_wp2_with fail
        refine (pmatch_nil s _).mono ?_
        rintro e w2 ⟨rfl, hb⟩
        have HB2 := Aside0.mk (below_step HB1.out hb)
        clear hb
        go_wp2_with fail
        refine (FIN.out _ HB2.out).mono ?_
        rintro e w3 ⟨rfl, hb⟩
        go_wp2_with fail
        go_ret
        exact ⟨rfl, below_step HB2.out hb⟩
end Go.Proofs.YtoclbmepgeelmaaDoor.Utf
