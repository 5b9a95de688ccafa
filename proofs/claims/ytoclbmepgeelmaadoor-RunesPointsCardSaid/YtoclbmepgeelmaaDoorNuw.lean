import Derived.Test.YtoclbmepgeelmaaDoorNum
namespace Go.Proofs.YtoclbmepgeelmaaDoor.Utf
set_option linter.unusedVariables false
set_option linter.unusedSimpArgs false
open Go.RowKit Go.Lib Go.Proofs.YtoclbmepgeelmaaDoorW.PrintWords Go.Proofs.YtoclbmepgeelmaaDoorW.PrintLast Go.Proofs.YtoclbmepgeelmaaDoorW.PrintMore

theorem class_digit (v : Int) : (classZ v = 3) ↔ (48 ≤ v ∧ v ≤ 57) := by
  unfold classZ
  repeat' split
  all_goals constructor <;> intro h <;> omega

set_option maxHeartbeats 4000000 in
set_option maxRecDepth 100000 in
theorem num_walk (s : ByteArray) (w : World) (hs : s.size ≤ 1000000) :
    Calls Tryd.prog 41 #[.string s] w fun e w' => e = .returned (.tuple #[.int .i64 (numRE s).1, .int .i64 (numRE s).2]) ∧ Below w.heap.size w w' := by
  obtain ⟨R, hR⟩ : ∃ R, numRE s = R := ⟨_, rfl⟩
  rw [hR]
  have hRR : s.size ≠ 0 → R = numOf 0 0 (bytesOf s) := fun h => by rw [← hR, numRE, if_neg h]
  have hR0 : s.size = 0 → R = (0, 3) := fun h => by rw [← hR, numRE, if_pos h]
  have HR0 := Aside0.mk hR0
  have HRR := Aside0.mk hRR
  clear hR hRR hR0
  go_enter Tryd.func41, Tryd.ntmps41
  go_wp2_with fail
  go_loopg [4, 5] (s.size + 1) (fun gk v4 v5 wx => ∃ (p : Nat) (n : Int) (o : Bool), v4 = .int .u64 n ∧ v5 = .bool o ∧ Aside0 (wx.heap[w.heap.size]? = some (.stringIter s p)) ∧ Aside0 (Below w.heap.size w wx) ∧ s.size - p < gk ∧ p ≤ s.size ∧ 0 ≤ n ∧ n ≤ 9300000000000000000 ∧ (o = false → n ≤ 9223372036854775807) ∧ Aside0 (s.size ≠ 0 → R = numOf (if o then 21 else 0) n ((bytesOf s).drop p)))
  case atStart => exact ⟨0, 0, false, by go_num, rfl, ⟨World.iter_heap w s 0⟩, ⟨below_alloc (Below.refl _ _) _⟩, by omega, by omega, by omega, by omega, by omega, ⟨by simpa using HRR.out⟩⟩
  case round =>
    obtain ⟨p, n, o, rfl, rfl, HI, HB, hg, hp0, hn0, hn1, hno, HO⟩ := hrel
    cases gk with
    | zero => omega
    | succ k1 =>
      by_cases hp : p < s.size
      · have hnx : ∀ ty, (Instr.next (.pointer (some ⟨w.heap.size, 0, none⟩)) true ty).run Tryd.prog wr = _ := fun ty => Lib.run_next_any_at wr w.heap.size s p ty HI.out hp
        have hd := decode_cases s p hp
        have hst : R = numOf (if o then 21 else 0) n (bt s (p : Int) :: (bytesOf s).drop (p + 1)) := by rw [← bytes_rd s p hp]; exact HO.out (by omega)
        obtain ⟨⟨r, m⟩, hrn⟩ : ∃ d, Utf8.decode s p = d := ⟨_, rfl⟩
        simp only [hrn] at hnx hd
        clear HO hrn HR0 HRR
        have HI2 := Aside0.mk (Lib.iterAt_heap wr w.heap.size s p (p + m) HI.out)
        have HB2 := Aside0.mk (Lib.below_iterAt HB.out (k := w.heap.size) (by omega) s (p + m))
        obtain ⟨wi, hwi⟩ : ∃ wi, wr.iterAt w.heap.size s (p + m) = wi := ⟨_, rfl⟩
        rw [hwi] at hnx HI2 HB2
        clear hwi HI HB
        have hb := bt_range s (p : Int)
        obtain ⟨c, hc⟩ : ∃ c, bt s (p : Int) = c := ⟨_, rfl⟩
        rw [hc] at hd hst hb
        have cW := fun W => class_walk (r : Int) W
        by_cases c3 : 48 ≤ c ∧ c ≤ 57
        · obtain ⟨rfl, hrc⟩ : m = 1 ∧ (r : Int) = c := by
            rcases hd with ⟨h1, h2⟩ | ⟨h1, h2, h3⟩
            · simp only [Prod.mk.injEq] at h2; omega
            · omega
          rw [hrc] at hnx cW
          rw [(class_digit c).2 c3] at cW
          have CW := Aside0.mk cW
          clear cW hd hrc hc
          cases o with
          | true =>
            have hst2 : Aside0 (s.size ≠ 0 → R = numOf (if true then 21 else 0) n ((bytesOf s).drop (p + 1))) := ⟨fun _ => by rw [hst]; simp only [if_true]; rw [numOf_step c3, numOf_twice]⟩
            clear hst hno
            go_wp2_with (go_at_call 35; refine (CW.out _).mono ?_; rintro e w2 ⟨rfl, ⟨nd, rfl⟩⟩)
            go_roundg k1
            case measure => omega
            case rel => exact ⟨p + 1, n, true, by go_num, rfl, HI2, ⟨pw_below_drewN HB2.out nd⟩, by omega, by omega, by omega, by omega, by simp, hst2⟩
          | false =>
            have hn2 := hno rfl
            clear hno
            by_cases g1 : 922337203685477580 < n
            · have d1 := decide_eq_true (p := (922337203685477580 : Int) < n) g1
              have hst2 : Aside0 (s.size ≠ 0 → R = numOf (if true then 21 else 0) n ((bytesOf s).drop (p + 1))) := ⟨fun _ => by rw [hst]; simp only [if_true, Bool.false_eq_true, if_false]; rw [numOf_over hn0 c3 (by omega)]⟩
              clear hst
              go_wp2_with (go_at_call 35; refine (CW.out _).mono ?_; rintro e w2 ⟨rfl, ⟨nd, rfl⟩⟩)
              go_roundg k1
              case measure => omega
              case rel => exact ⟨p + 1, n, true, by go_num, rfl, HI2, ⟨pw_below_drewN HB2.out nd⟩, by omega, by omega, by omega, by omega, by simp, hst2⟩
            · have d1 := decide_eq_false (p := (922337203685477580 : Int) < n) g1
              by_cases g2 : 9223372036854775807 < 10 * n + (c - 48)
              · have d2 := decide_eq_true (p := (9223372036854775807 : Int) < 10 * n + (c - 48)) g2
                have hst2 : Aside0 (s.size ≠ 0 → R = numOf (if true then 21 else 0) (10 * n + (c - 48)) ((bytesOf s).drop (p + 1))) := ⟨fun _ => by rw [hst]; simp only [if_true, Bool.false_eq_true, if_false]; rw [numOf_over hn0 c3 (by omega), numOf_twice]⟩
                clear hst
                go_wp2_with (go_at_call 35; refine (CW.out _).mono ?_; rintro e w2 ⟨rfl, ⟨nd, rfl⟩⟩)
                go_roundg k1
                case measure => omega
                case rel => exact ⟨p + 1, 10 * n + (c - 48), true, by go_num, rfl, HI2, ⟨pw_below_drewN HB2.out nd⟩, by omega, by omega, by omega, by omega, by simp, hst2⟩
              · have d2 := decide_eq_false (p := (9223372036854775807 : Int) < 10 * n + (c - 48)) g2
                have hst2 : Aside0 (s.size ≠ 0 → R = numOf (if false then 21 else 0) (10 * n + (c - 48)) ((bytesOf s).drop (p + 1))) := ⟨fun _ => by rw [hst]; simp only [Bool.false_eq_true, if_false]; rw [numOf_step c3]⟩
                clear hst
                go_wp2_with (go_at_call 35; refine (CW.out _).mono ?_; rintro e w2 ⟨rfl, ⟨nd, rfl⟩⟩)
                go_roundg k1
                case measure => omega
                case rel => exact ⟨p + 1, 10 * n + (c - 48), false, by go_num, rfl, HI2, ⟨pw_below_drewN HB2.out nd⟩, by omega, by omega, by omega, by omega, by omega, hst2⟩
        · have cr : classZ (r : Int) ≠ 3 := by
            rw [Ne, class_digit]
            rcases hd with ⟨h1, h2⟩ | ⟨h1, h2, h3⟩
            · simp only [Prod.mk.injEq] at h2; omega
            · omega
          rw [numOf_cons_bad c3] at hst
          subst hst
          obtain ⟨cl, hcl⟩ : ∃ cl, classZ (r : Int) = cl := ⟨_, rfl⟩
          rw [hcl] at cr cW
          have b3 : (cl != 3) = true := by simpa using cr
          have CW := Aside0.mk cW
          clear cW hd hcl cr
          go_wp2_with (go_at_call 35; refine (CW.out _).mono ?_; rintro e w2 ⟨rfl, ⟨nd, rfl⟩⟩)
          go_ret2
          exact ⟨rfl, pw_below_drewN HB2.out nd⟩
      · have hnx : ∀ ty, (Instr.next (.pointer (some ⟨w.heap.size, 0, none⟩)) true ty).run Tryd.prog wr = _ := fun ty => Lib.run_next_end_at wr w.heap.size s p ty HI.out hp
        by_cases h0 : s.size = 0
        · have hR := HR0.out h0
          subst hR
          have hs0 : s = ⟨#[]⟩ := by
            have : s.data.toList = [] := List.eq_nil_of_length_eq_zero (by simpa using h0)
            exact ByteArray.ext (Array.toList_inj.1 this)
          have bs : (s.toList == []) = true := by rw [hs0, ByteArray.toList_eq]; rfl
          have bs2 : s.toList = [] := by rw [hs0, ByteArray.toList_eq]
          clear HR0 HRR HO hs0
          go_wp2_with fail
          go_ret2
          exact ⟨rfl, HB.out⟩
        · have hR := HO.out h0
          rw [List.drop_eq_nil_of_le (by rw [bytesOf_length]; omega)] at hR
          have bs2 : ¬ s.toList = [] := by
            rw [ByteArray.toList_eq]
            intro h
            have := congrArg List.length h
            simp at this
            exact h0 (by rw [this]; rfl)
          have bs : (s.toList == []) = false := by simpa using bs2
          clear HR0 HRR HO
          cases o with
          | true =>
            have e2 : R = (0, 21) := by rw [hR]; simp [numOf, digitsOk]
            subst e2
            clear hR
            go_wp2_with fail
            go_ret2
            exact ⟨rfl, HB.out⟩
          | false =>
            have hn2 := hno rfl
            have e2 : R = (n, 0) := by rw [hR]; simp [numOf, digitsOk, dv, hn2]
            subst e2
            clear hR hno
            go_wp2_with fail
            go_ret2
            exact ⟨rfl, HB.out⟩
end Go.Proofs.YtoclbmepgeelmaaDoor.Utf
