import Derived.Test.YtoclbmepgeelmaaDoorSag
namespace Go.Proofs.YtoclbmepgeelmaaDoor.Utf
set_option linter.unusedVariables false
set_option linter.unusedSimpArgs false
open Go.RowKit Go.Lib Go.Proofs.YtoclbmepgeelmaaDoorW.PrintWords Go.Proofs.YtoclbmepgeelmaaDoorW.PrintLast Go.Proofs.YtoclbmepgeelmaaDoorW.PrintMore Go.Proofs.YtoclbmepgeelmaaDoor.PRe

theorem great_at (L : List S53) (b : Bool) (h : greatB L = b) (hl : L.length ≤ 9223372036854775807) (A : Option Addr) (c : Nat) (w : World) (hC : Kd.C k53 w A L.length L) (hc : L.length ≤ c) :
    Calls Tryd.prog 52 #[.slice A L.length c] w fun e w' => e = .returned (.bool b) ∧ Below w.heap.size w w' := by
  rw [← h]; exact great_walk L hl A c w hC hc
theorem great_fit {L : List S53} (h : greatB L = false) : L.length ≤ 200 ∧ ∀ t ∈ L, t.f2.size ≤ 300 := by
  unfold greatB at h
  rw [List.any_eq_false] at h
  have h' : ∀ t ∈ L, ¬ 200 < L.length ∧ ¬ 300 < t.f2.size := by
    intro t ht
    have := h t ht
    simp only [Bool.or_eq_true, decide_eq_true_eq, not_or] at this
    exact this
  refine ⟨?_, fun t ht => by have := (h' t ht).2; omega⟩
  cases hL : L with
  | nil => simp
  | cons t u =>
    have := (h' t (by rw [hL]; simp)).1
    rw [← hL]; omega
theorem eqUp_same {L M : List S53} {b : Bool} {i : Nat} (hi : i ≤ L.length) (h : b = (decide (L.length = M.length) && eqUp L M i)) (hend : b = false ∨ i = L.length) : b = sameG L M := by
  unfold sameG
  rcases hend with rfl | rfl
  · by_cases hl : L.length = M.length
    · rw [decide_eq_true hl, Bool.true_and] at h ⊢
      exact (eqUp_false L M L.length i hi h.symm).symm
    · rw [decide_eq_false hl]; rfl
  · exact h

set_option maxHeartbeats 4000000 in
set_option maxRecDepth 100000 in
theorem tokenWrites_walk (A0 : Option Addr) (c0 : Nat) (L : List S53) (A1 : Option Addr) (c1 : Nat) (M : List S53) (w : World) (hLr : ∀ t ∈ L, -9223372036854775808 ≤ t.f3 ∧ t.f3 ≤ 9223372036854775807)
    (hc0 : L.length ≤ c0) (hm0 : L.length ≤ 9223372036854775807) (h0 : Kd.C k53 w A0 L.length L) (hc1 : M.length ≤ c1) (hm1 : M.length ≤ 9223372036854775807) (h1 : Kd.C k53 w A1 M.length M) (hT : Tabs5 w) :
    Calls Tryd.prog 15 #[.slice A0 L.length c0, .slice A1 M.length c1] w fun e w' => e = .returned (.bool true) ∧ Below w.heap.size w w' := by
  have fin : ∀ W : World, Below w.heap.size w W → Calls Tryd.prog 27 #[] W fun e w' => e = .returned (.bool true) ∧ Below W.heap.size W w' := fun W h => alive19 W (Tabs5.toT hT |>.below h)
  have FIN := Aside0.mk fin
  have HT := Aside0.mk hT
  have H0 := Aside0.mk h0
  have H1 := Aside0.mk h1
  have HLR := Aside0.mk hLr
  clear fin hT h0 h1 hLr
  cases hg0 : greatB L with
  | true =>
    have K1 := Aside0.mk (fun W h => great_at L true hg0 (by omega) A0 c0 W h hc0)
    clear hg0
    go_enter Tryd.func15, Tryd.ntmps15
    go_wp2_with fail
    refine (K1.out _ H0.out).mono ?_
    rintro e w1 ⟨rfl, hb⟩
    go_wp2_with fail
    refine (FIN.out _ hb).mono ?_
    rintro e w2 ⟨rfl, hb2⟩
    go_wp2_with fail
    go_ret
    exact ⟨rfl, below_step hb hb2⟩
  | false =>
    have K1 := Aside0.mk (fun W h => great_at L false hg0 (by omega) A0 c0 W h hc0)
    obtain ⟨l200, l300⟩ := great_fit hg0
    have HFT := Aside0.mk (show ∀ t ∈ L, FitT t from fun t ht => ⟨HLR.out t ht, by have := l300 t ht; omega⟩)
    clear hg0 l300
    cases hg1 : greatB M with
    | true =>
      have K2 := Aside0.mk (fun W h => great_at M true hg1 (by omega) A1 c1 W h hc1)
      clear hg1
      go_enter Tryd.func15, Tryd.ntmps15
      go_wp2_with fail
      refine (K1.out _ H0.out).mono ?_
      rintro e w1 ⟨rfl, hb⟩
      go_wp2_with fail
      refine (K2.out _ (Kd.C_below H1.out hb)).mono ?_
      rintro e w2 ⟨rfl, hb2⟩
      have HB := Aside0.mk (below_step hb hb2)
      clear hb hb2
      go_wp2_with fail
      refine (FIN.out _ HB.out).mono ?_
      rintro e w3 ⟨rfl, hb⟩
      go_wp2_with fail
      go_ret
      exact ⟨rfl, below_step HB.out hb⟩
    | false =>
      have K2 := Aside0.mk (fun W h => great_at M false hg1 (by omega) A1 c1 W h hc1)
      obtain ⟨m200, _⟩ := great_fit hg1
      have KW := Aside0.mk (fun W h t => write_walk L A0 c0 W HFT.out (by omega) hc0 h t)
      have KA := Aside0.mk (fun W h => as_walk L (by omega) A0 c0 W h hc0)
      have KR := Aside0.mk (fun A c W h hc => rwrite_walk L HFT.out (by omega) A c W h hc)
      have KS := Aside0.mk (fun W h h' => sameG_walk L M (by omega) A0 c0 A1 c1 W h hc0 h' hc1)
      clear hg1
      go_enter Tryd.func15, Tryd.ntmps15
      go_wp2_with fail
      refine (K1.out _ H0.out).mono ?_
      rintro e w1 ⟨rfl, hb⟩
      go_wp2_with fail
      refine (K2.out _ (Kd.C_below H1.out hb)).mono ?_
      rintro e w2 ⟨rfl, hb2⟩
      have HB := Aside0.mk (below_step hb hb2)
      clear hb hb2 K1 K2
      go_wp2_with fail
      go_loopg [5, 6] (L.length + 1) (fun gk v5 v6 wx => ∃ (b : Bool) (i : Int), v5 = .bool b ∧ v6 = .int .i64 i ∧ Aside0 (Below w.heap.size w wx) ∧ Aside0 (b = (decide (L.length = M.length) && eqUp L M i.toNat)) ∧ 0 ≤ i ∧ i ≤ L.length ∧ L.length - i.toNat < gk)
      case atStart =>
        exact ⟨decide (L.length = M.length), 0, by first | rfl | (simp; done) | (congr 1; rw [Bool.eq_iff_iff]; simp; omega), by go_num, HB, ⟨by simp [eqUp]⟩, by omega, by omega, by omega⟩
      case round =>
        clear HB
        obtain ⟨b, i, rfl, rfl, HB, HE, hi0, hi1, hg⟩ := hrel
        cases gk with
        | zero => omega
        | succ kk =>
          by_cases hgo : i < (L.length : Int) ∧ b = true
          · obtain ⟨ci, rfl⟩ := hgo
            have di := decide_eq_true (p := i < (L.length : Int)) ci
            have hlen : L.length = M.length := by
              have := HE.out.symm
              rw [Bool.and_eq_true] at this
              exact of_decide_eq_true this.1
            have hup : eqUp L M i.toNat = true := by
              have := HE.out.symm
              rw [Bool.and_eq_true] at this
              exact this.2
            obtain ⟨ad0, e0, x0, x1, x2, x3⟩ := at_T53 (Kd.C_below H0.out HB.out) i (by omega) (by omega)
            subst e0
            obtain ⟨ad1, e1, y0, y1, y2, y3⟩ := at_T53 (Kd.C_below H1.out HB.out) i (by omega) (by omega)
            subst e1
            have im : i < (M.length : Int) := by omega
            have hst : (decide (L.length = M.length) && eqUp L M (i + 1).toNat) = eqT (rd_T53 L i) (rd_T53 M i) := by
              rw [show (i + 1).toNat = i.toNat + 1 by omega, decide_eq_true hlen]
              simp only [eqUp]; rw [hup, Int.toNat_of_nonneg hi0]; rfl
            have hcs := eqT_cases (rd_T53 L i) (rd_T53 M i)
            obtain ⟨a, ha⟩ : ∃ a, rd_T53 L i = a := ⟨_, rfl⟩
            obtain ⟨b, hb⟩ : ∃ b, rd_T53 M i = b := ⟨_, rfl⟩
            rw [ha, hb] at hst hcs
            rw [ha] at x0 x1 x2 x3
            rw [hb] at y0 y1 y2 y3
            obtain ⟨k, p, t, v⟩ := a
            obtain ⟨k', q, t', v'⟩ := b
            simp only at x0 x1 x2 x3 y0 y1 y2 y3 hcs
            have HST := Aside0.mk hst
            clear ha hb hst HE hlen hup x1 y1
            rcases hcs with ⟨g0, ge⟩ | ⟨g0, g2, ge⟩ | ⟨g0, g2, g3, ge⟩ | ⟨g0, g2, g3, ge⟩
            · have b0 : (k == k') = false := by simpa using g0
              have HG := Aside0.mk (HST.out.trans ge)
              clear g0 ge
              go_wp2_with fail
              go_quiet (fail)
              go_wp2
              go_roundg kk
              case measure => omega
              case rel => exact ⟨false, i + 1, rfl, by go_num, ⟨pw_below_drewN HB.out _⟩, ⟨HG.out.symm⟩, by omega, by omega, by omega⟩
            · subst g0
              have b0 : (k == k) = true := by simp
              have b2 : (t.toList == t'.toList) = false := by simpa using g2
              have HG := Aside0.mk (HST.out.trans ge)
              clear g2 ge
              go_wp2_with fail
              go_quiet (fail)
              go_wp2
              go_roundg kk
              case measure => omega
              case rel => exact ⟨false, i + 1, rfl, by go_num, ⟨pw_below_drewN HB.out _⟩, ⟨HG.out.symm⟩, by omega, by omega, by omega⟩
            · subst g0
              have b0 : (k == k) = true := by simp
              have b2 : (t.toList == t'.toList) = true := by simpa using g2
              have b3 : (v == v') = false := by simpa using g3
              have HG := Aside0.mk (HST.out.trans ge)
              clear g2 g3 ge
              go_wp2_with fail
              go_quiet (fail)
              go_wp2
              go_roundg kk
              case measure => omega
              case rel => exact ⟨false, i + 1, rfl, by go_num, ⟨pw_below_drewN HB.out _⟩, ⟨HG.out.symm⟩, by omega, by omega, by omega⟩
            · subst g0
              have b0 : (k == k) = true := by simp
              have b2 : (t.toList == t'.toList) = true := by simpa using g2
              have b3 : (v == v') = true := by simpa using g3
              have HG := Aside0.mk (HST.out.trans ge)
              clear g2 g3 ge
              go_wp2_with fail
              go_quiet (fail)
              go_wp2
              go_roundg kk
              case measure => omega
              case rel => exact ⟨true, i + 1, rfl, by go_num, ⟨pw_below_drewN HB.out _⟩, ⟨HG.out.symm⟩, by omega, by omega, by omega⟩
          · have hb : b = sameG L M := eqUp_same (i := i.toNat) (by omega) HE.out (by
              cases b with
              | false => exact .inl rfl
              | true => right; have : ¬ i < (L.length : Int) := fun h => hgo ⟨h, rfl⟩; omega)
            have hcond : (decide (i < (L.length : Int)) && b) = false := by
              cases b with
              | false => simp
              | true => rw [Bool.and_true, decide_eq_false_iff_not]; exact fun h => hgo ⟨h, rfl⟩
            have HBB := Aside0.mk hb
            have HC := Aside0.mk hcond
            clear hb hcond hgo HE
            by_cases ci : i < (L.length : Int)
            case' pos =>
              have di := decide_eq_true (p := i < (L.length : Int)) ci
              obtain rfl : b = false := by
                have := HC.out
                rw [di, Bool.true_and] at this
                exact this
            case' neg =>
              have di := decide_eq_false (p := i < (L.length : Int)) ci
            all_goals
              clear HC ci
              go_wp2_with fail
              refine (FIN.out _ HB.out).mono ?_
              rintro e w3 ⟨rfl, hb⟩
              have HB2 := Aside0.mk (below_step HB.out hb)
              clear hb HB
              go_wp2_with fail
              refine (KW.out _ (Kd.C_below H0.out HB2.out) (HT.out.below HB2.out)).mono ?_
              rintro e w4 ⟨rfl, hb⟩
              have HB3 := Aside0.mk (below_step HB2.out hb)
              clear hb HB2
              go_wp2_with fail
              refine (KA.out _ (Kd.C_below H0.out HB3.out)).mono ?_
              rintro e w5 ⟨A3, q3, rfl, hq3, hC3, hb⟩
              have HB4 := Aside0.mk (below_step HB3.out hb)
              have HC3 := Aside0.mk hC3
              clear hb HB3 hC3
              go_wp2_with fail
              refine (KR.out A3 q3 _ HC3.out hq3).mono ?_
              rintro e w6 ⟨rfl, hb⟩
              have HB5 := Aside0.mk (below_step HB4.out hb)
              clear hb HB4 HC3
              have bw : ((writeS L).toList == (writeS L).toList) = true := by simp
              go_wp2_with fail
              refine (KS.out _ (Kd.C_below H0.out HB5.out) (Kd.C_below H1.out HB5.out)).mono ?_
              rintro e w7 ⟨rfl, hb⟩
              have HB6 := Aside0.mk (below_step HB5.out hb)
              clear hb HB5
              rw [← HBB.out]
              clear HBB
              go_wp2_with fail
              go_ret
              exact ⟨by first | rfl | simp, HB6.out⟩
end Go.Proofs.YtoclbmepgeelmaaDoor.Utf
