import Derived.Test.YtoclbmepgeelmaaDoorNuw
import Derived.Test.YtoclbmepgeelmaaDoorShf
import Derived.WalkSmall
import Derived.Lib.AppendIntMem
namespace Go.Proofs.YtoclbmepgeelmaaDoor.Utf
set_option linter.unusedVariables false
set_option linter.unusedSimpArgs false
open Go.RowKit Go.Lib Go.Proofs.YtoclbmepgeelmaaDoorW.PrintWords Go.Proofs.YtoclbmepgeelmaaDoorW.PrintLast Go.Proofs.YtoclbmepgeelmaaDoorW.PrintMore

set_option maxHeartbeats 4000000 in
set_option maxRecDepth 100000 in
theorem count_walk (s : ByteArray) (w : World) (hs : s.size ≤ 1000000) (hT : Tabs w) :
    Calls Tryd.prog 48 #[.string s] w fun e w' => e = .returned (.tuple #[.int .i64 ((splitR s.data.toList).length : Int), .int .i64 (splitE s.data.toList)]) ∧ Below w.heap.size w w' := by
  have cR := right_walk s w (by omega) hT
  by_cases hv : validD s.data.toList = true
  · have eE : splitE s.data.toList = 0 := by simp [splitE, hv]
    have eR : splitR s.data.toList = runesOf s.data.toList := by simp [splitR, hv]
    have hlen := runesOf_length s.data.toList
    simp only [Array.length_toList] at hlen
    have hlen' : (runesOf s.data.toList).length ≤ s.size := hlen
    rw [eE, eR]
    rw [hv] at cR
    obtain ⟨N, hN⟩ : ∃ N, (runesOf s.data.toList).length = N := ⟨_, rfl⟩
    rw [hN]
    rw [hN] at hlen'
    clear eE eR hv hT hlen
    have HN := Aside0.mk hN
    clear hN
    go_enter Tryd.func48, Tryd.ntmps48
    go_wp2_with (go_at_call 49; refine cR.mono ?_; rintro e w1 ⟨rfl, hb⟩; have HB := Aside0.mk hb; clear hb; clear cR)
    have hsz1 := below_size HB.out
    go_loopg [4] (s.size + 1) (fun gk v4 wx => ∃ (pos n : Nat), v4 = .int .i64 (n : Int) ∧ Aside0 (wx.heap[w1.heap.size]? = some (.stringIter s pos)) ∧ Aside0 (Below w.heap.size w wx) ∧ Aside0 (n + (runesOf (s.data.toList.drop pos)).length = N) ∧ s.size - pos < gk ∧ n ≤ pos ∧ pos ≤ 2000000 ∧ n ≤ 1000000)
    case atStart => exact ⟨0, 0, by go_num, ⟨World.iter_heap w1 s 0⟩, ⟨below_alloc HB.out _⟩, ⟨by simpa using HN.out⟩, by omega, by omega, by omega, by omega⟩
    case round =>
      clear HN HB
      obtain ⟨pos, n, rfl, HI, HBx, HA, hgk, hac, hp2, hn2⟩ := hrel
      cases gk with
      | zero => omega
      | succ k1 =>
        by_cases hp : pos < s.size
        · have hnx : ∀ ty, (Instr.next (.pointer (some ⟨w1.heap.size, 0, none⟩)) true ty).run Tryd.prog wr = _ := fun ty => Lib.run_next_any_at wr w1.heap.size s pos ty HI.out hp
          have hne : s.data.toList.drop pos ≠ [] := by
            intro h
            have := congrArg List.length h
            simp at this
            omega
          have hdl := decodeL_drop s pos
          have hw := decodeL_width (s.data.toList.drop pos)
          have hle := decodeL_le _ hne
          have hst := congrArg List.length (runesOf_step _ hne)
          rw [hdl] at hw hst hle
          rw [List.drop_drop] at hst
          simp only [List.length_drop, Array.length_toList, List.length_cons] at hle hst
          have hle' : (Utf8.decode s pos).2 ≤ s.size - pos := hle
          obtain ⟨⟨r, m⟩, hrn⟩ : ∃ d, Utf8.decode s pos = d := ⟨_, rfl⟩
          simp only [hrn] at hnx hw hst hle'
          have hA := HA.out
          rw [hst] at hA
          have HA2 := Aside0.mk (show n + 1 + (runesOf (s.data.toList.drop (pos + m))).length = N by omega)
          clear hst hdl hrn hne HA hA hle
          have HI2 := Aside0.mk (Lib.iterAt_heap wr w1.heap.size s pos (pos + m) HI.out)
          have HB2 := Aside0.mk (Lib.below_iterAt HBx.out (k := w1.heap.size) (by omega) s (pos + m))
          obtain ⟨wi, hwi⟩ : ∃ wi, wr.iterAt w1.heap.size s (pos + m) = wi := ⟨_, rfl⟩
          rw [hwi] at hnx HI2 HB2
          clear hwi HI HBx
          go_wp2
          go_roundg k1
          case measure => omega
          case rel => exact ⟨pos + m, n + 1, by go_num, HI2, HB2, HA2, by omega, by omega, by omega, by have := HA2.out; omega⟩
        · have hnx : ∀ ty, (Instr.next (.pointer (some ⟨w1.heap.size, 0, none⟩)) true ty).run Tryd.prog wr = _ := fun ty => Lib.run_next_end_at wr w1.heap.size s pos ty HI.out hp
          have hA := HA.out
          rw [List.drop_eq_nil_of_le (by simp; omega), runesOf_nil] at hA
          have hA' : n = N := by simpa using hA
          subst hA'
          clear HA hA
          go_wp2
          go_ret2
          exact ⟨rfl, HBx.out⟩
  · have hv : validD s.data.toList = false := by simpa using hv
    have eE : splitE s.data.toList = 3 := by simp [splitE, hv]
    have eR : splitR s.data.toList = [] := by simp [splitR, hv]
    rw [eE, eR]
    rw [hv] at cR
    clear eE eR hv hT
    go_enter Tryd.func48, Tryd.ntmps48
    go_wp2_with (go_at_call 49; refine cR.mono ?_; rintro e w1 ⟨rfl, hb⟩; clear cR)
    go_ret2
    exact ⟨rfl, hb⟩
end Go.Proofs.YtoclbmepgeelmaaDoor.Utf
