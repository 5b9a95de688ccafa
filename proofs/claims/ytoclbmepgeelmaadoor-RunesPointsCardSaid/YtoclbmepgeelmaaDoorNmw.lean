import Derived.Test.YtoclbmepgeelmaaDoorFld
namespace Go.Proofs.YtoclbmepgeelmaaDoor.Utf
set_option linter.unusedVariables false
set_option linter.unusedSimpArgs false
open Go.RowKit Go.Lib Go.Proofs.YtoclbmepgeelmaaDoorW.PrintWords Go.Proofs.YtoclbmepgeelmaaDoorW.PrintLast Go.Proofs.YtoclbmepgeelmaaDoorW.PrintMore

/-- What a range over a text yields at a place: a byte below 128 itself; else a point from 128 on. -/
theorem decode_cases (s : ByteArray) (p : Nat) (h : p < s.size) :
    (bt s (p : Int) < 128 ∧ Utf8.decode s p = ((bt s (p : Int)).toNat, 1)) ∨ (128 ≤ bt s (p : Int) ∧ 128 ≤ (Utf8.decode s p).1 ∧ 1 ≤ (Utf8.decode s p).2) := by
  have hb : bt s (p : Int) = ((s[p]'h).toNat : Int) := by
    unfold bt
    rw [dif_pos (show (p : Int).toNat < s.size by omega)]
    rfl
  by_cases ha : (s[p]'h).toNat < 128
  · left
    refine ⟨by omega, ?_⟩
    rw [decode_ascii s p h ha, hb]; rfl
  · right
    obtain ⟨h1, h2⟩ := decode_high s p h (by omega)
    exact ⟨by omega, h1, h2⟩
theorem class_high (v : Int) (h : 127 ≤ v) : classZ v = 0 := by
  unfold classZ
  repeat' split
  all_goals first | rfl | (exfalso; omega)

set_option maxHeartbeats 4000000 in
set_option maxRecDepth 100000 in
theorem name_walk (s : ByteArray) (w : World) :
    Calls Tryd.prog 33 #[.string s] w fun e w' => e = .returned (.tuple #[.string (nameR s), .int .i64 (nameE s)]) ∧ Below w.heap.size w w' := by
  by_cases hlen : 20 < s.size
  · have e : nameE s = 2 := by simp [nameE, hlen]
    have r : nameR s = ⟨#[]⟩ := by simp [nameR, e]
    rw [e, r]
    have d := decide_eq_true (p := (20 : Int) < (s.size : Int)) (by omega)
    clear e r
    go_enter Tryd.func33, Tryd.ntmps33
    go_wp2
    go_ret2
    exact ⟨rfl, Below.refl _ _⟩
  have d := decide_eq_false (p := (20 : Int) < (s.size : Int)) (by omega)
  have cF := fun W => fold_walk s W (by omega)
  have CF := Aside0.mk cF
  have hN : nameE s = (if s.size = 0 then 3 else if nameOk true (bytesOf s) then 0 else 3) := by unfold nameE; rw [if_neg hlen]
  obtain ⟨E, hE⟩ : ∃ E, nameE s = E := ⟨_, rfl⟩
  obtain ⟨R, hR⟩ : ∃ R, nameR s = R := ⟨_, rfl⟩
  have hRR : R = if E = 0 then foldS s else ⟨#[]⟩ := by rw [← hR, ← hE]; rfl
  rw [hE] at hN
  rw [hE, hR]
  have HN := Aside0.mk hN
  have HRR := Aside0.mk hRR
  clear hE hR hN hRR cF
  go_enter Tryd.func33, Tryd.ntmps33
  go_wp2_with fail
  go_loopg [] (s.size + 1) (fun gk wx => ∃ p : Nat, Aside0 (wx.heap[w.heap.size]? = some (.stringIter s p)) ∧ Aside0 (Below w.heap.size w wx) ∧ s.size - p < gk ∧ p ≤ s.size ∧ Aside0 (nameOk true (bytesOf s) = nameOk (p == 0) ((bytesOf s).drop p)))
  case atStart => exact ⟨0, ⟨World.iter_heap w s 0⟩, ⟨below_alloc (Below.refl _ _) _⟩, by omega, by omega, ⟨by simp⟩⟩
  case round =>
    obtain ⟨p, HI, HB, hg, hp0, HO⟩ := hrel
    cases gk with
    | zero => omega
    | succ k1 =>
      by_cases hp : p < s.size
      · have hnx : ∀ ty, (Instr.next (.pointer (some ⟨w.heap.size, 0, none⟩)) true ty).run Tryd.prog wr = _ := fun ty => Lib.run_next_any_at wr w.heap.size s p ty HI.out hp
        have hd := decode_cases s p hp
        have hst : nameOk (p == 0) ((bytesOf s).drop p) = ((classZ (bt s (p : Int)) == 2 || (classZ (bt s (p : Int)) == 3 && !(p == 0))) && nameOk false ((bytesOf s).drop (p + 1))) := by rw [bytes_rd s p hp]; rfl
        obtain ⟨⟨r, n⟩, hrn⟩ : ∃ d, Utf8.decode s p = d := ⟨_, rfl⟩
        simp only [hrn] at hnx hd
        have HO2 := Aside0.mk (HO.out.trans hst)
        clear hst HO hrn
        have HI2 := Aside0.mk (Lib.iterAt_heap wr w.heap.size s p (p + n) HI.out)
        have HB2 := Aside0.mk (Lib.below_iterAt HB.out (k := w.heap.size) (by omega) s (p + n))
        obtain ⟨wi, hwi⟩ : ∃ wi, wr.iterAt w.heap.size s (p + n) = wi := ⟨_, rfl⟩
        rw [hwi] at hnx HI2 HB2
        clear hwi HI HB
        have cc : classZ (r : Int) = classZ (bt s (p : Int)) := by
          rcases hd with ⟨h1, h2⟩ | ⟨h1, h2, h3⟩
          · simp only [Prod.mk.injEq] at h2
            have := bt_range s (p : Int)
            rw [show (r : Int) = bt s (p : Int) by omega]
          · rw [class_high _ (by omega), class_high _ (by omega)]
        have hn : classZ (bt s (p : Int)) ≠ 0 → n = 1 := fun h => by
          rcases hd with ⟨h1, h2⟩ | ⟨h1, h2, h3⟩
          · simp only [Prod.mk.injEq] at h2; exact h2.2
          · exact absurd (class_high _ (by omega)) h
        rw [← cc] at HO2 hn
        have cW := fun W => class_walk (r : Int) W
        obtain ⟨c, hc⟩ : ∃ c, classZ (r : Int) = c := ⟨_, rfl⟩
        rw [hc] at HO2 hn cW
        have CW := Aside0.mk cW
        clear cW hd cc hc
        have go : (c ≠ 2 ∧ c ≠ 3) ∨ (c = 3 ∧ p = 0) ∨ (c = 3 ∧ p ≠ 0) ∨ c = 2 := by omega
        rcases go with ⟨g2, g3⟩ | ⟨g3, gp⟩ | ⟨g3, gp⟩ | g2
        · have b2 : (c != 2) = true := by simpa using g2
          have b3 : (c != 3) = true := by simpa using g3
          have hbad : nameOk true (bytesOf s) = false := by rw [HO2.out]; simp [g2, g3]
          have hE := HN.out
          rw [if_neg (by omega), hbad] at hE
          simp only [Bool.false_eq_true, ↓reduceIte] at hE
          have hR := HRR.out
          rw [hE] at hR
          simp only [show ¬ (3 : Int) = 0 by omega, ↓reduceIte] at hR
          subst hE hR
          clear HN HRR hn
          go_wp2_with (go_at_call 35; refine (CW.out _).mono ?_; rintro e w2 ⟨rfl, ⟨nd, rfl⟩⟩)
          go_ret2
          exact ⟨rfl, pw_below_drewN HB2.out nd⟩
        · subst g3 gp
          have hbad : nameOk true (bytesOf s) = false := by rw [HO2.out]; simp
          have hE := HN.out
          rw [if_neg (by omega), hbad] at hE
          simp only [Bool.false_eq_true, ↓reduceIte] at hE
          have hR := HRR.out
          rw [hE] at hR
          simp only [show ¬ (3 : Int) = 0 by omega, ↓reduceIte] at hR
          subst hE hR
          clear HN HRR hn
          go_wp2_with (go_at_call 35; refine (CW.out _).mono ?_; rintro e w2 ⟨rfl, ⟨nd, rfl⟩⟩)
          go_ret2
          exact ⟨rfl, pw_below_drewN HB2.out nd⟩
        · subst g3
          obtain rfl := hn (by omega)
          have bp : ((p : Int) == 0) = false := by simpa using gp
          have bp2 : (p == 0) = false := by simpa using gp
          have HO3 : Aside0 (nameOk true (bytesOf s) = nameOk ((p + 1) == 0) ((bytesOf s).drop (p + 1))) := ⟨by rw [HO2.out, bp2]; simp⟩
          clear hn HO2
          go_wp2_with (go_at_call 35; refine (CW.out _).mono ?_; rintro e w2 ⟨rfl, ⟨nd, rfl⟩⟩)
          go_roundg k1
          case measure => omega
          case rel => exact ⟨p + 1, HI2, ⟨pw_below_drewN HB2.out nd⟩, by omega, by omega, HO3⟩
        · subst g2
          obtain rfl := hn (by omega)
          have HO3 : Aside0 (nameOk true (bytesOf s) = nameOk ((p + 1) == 0) ((bytesOf s).drop (p + 1))) := ⟨by rw [HO2.out]; simp⟩
          clear hn HO2
          go_wp2_with (go_at_call 35; refine (CW.out _).mono ?_; rintro e w2 ⟨rfl, ⟨nd, rfl⟩⟩)
          go_roundg k1
          case measure => omega
          case rel => exact ⟨p + 1, HI2, ⟨pw_below_drewN HB2.out nd⟩, by omega, by omega, HO3⟩
      · have hnx : ∀ ty, (Instr.next (.pointer (some ⟨w.heap.size, 0, none⟩)) true ty).run Tryd.prog wr = _ := fun ty => Lib.run_next_end_at wr w.heap.size s p ty HI.out hp
        have hok : nameOk true (bytesOf s) = true := by rw [HO.out, List.drop_eq_nil_of_le (by rw [bytesOf_length]; omega)]; rfl
        by_cases h0 : s.size = 0
        · have hE := HN.out
          rw [if_pos h0] at hE
          have hR := HRR.out
          rw [hE] at hR
          simp only [show ¬ (3 : Int) = 0 by omega, ↓reduceIte] at hR
          subst hE hR
          have hs0 : s = ⟨#[]⟩ := by
            have : s.data.toList = [] := List.eq_nil_of_length_eq_zero (by simpa using h0)
            exact ByteArray.ext (Array.toList_inj.1 this)
          have bs : (s.toList == []) = true := by rw [hs0, ByteArray.toList_eq]; rfl
          have bs2 : s.toList = [] := by rw [hs0, ByteArray.toList_eq]
          clear HN HRR HO hok
          go_wp2_with fail
          go_ret2
          exact ⟨rfl, HB.out⟩
        · have hE := HN.out
          rw [if_neg h0, hok] at hE
          simp only [↓reduceIte] at hE
          have hR := HRR.out
          rw [hE] at hR
          simp only [↓reduceIte] at hR
          subst hE hR
          have bs2 : ¬ s.toList = [] := by
            rw [ByteArray.toList_eq]
            intro h
            have := congrArg List.length h
            simp at this
            exact h0 (by rw [this]; rfl)
          have bs : (s.toList == []) = false := by simpa using bs2
          clear HN HRR HO hok
          go_wp2_with (go_at_call 37; refine (CF.out _).mono ?_; rintro e w2 ⟨rfl, hb⟩)
          go_ret2
          exact ⟨rfl, below_step HB.out hb⟩
end Go.Proofs.YtoclbmepgeelmaaDoor.Utf
