import Derived.Test.YtoclbmepgeelmaaDoorNam
import Derived.Lib.ConvBytes
import Derived.Lib.SmallJoins
import Derived.Test.YtoclbmepgeelmaaDoorLk
namespace Go.Proofs.YtoclbmepgeelmaaDoor.Utf
set_option linter.unusedVariables false
set_option linter.unusedSimpArgs false
open Go.RowKit Go.Lib Go.Proofs.YtoclbmepgeelmaaDoorW.PrintWords Go.Proofs.YtoclbmepgeelmaaDoorW.PrintLast Go.Proofs.YtoclbmepgeelmaaDoorW.PrintMore

/-- A row of bytes that came of a text, in block B: the first bytes are xs. -/
def BRow (W : World) (B : Nat) (xs : List Int) : Prop :=
  ∃ cs : Array Value, ∃ N, W.heap[B]? = some (.cells cs 5 (N, N + 1)) ∧ cs.size = N ∧ xs.length ≤ N ∧ ∀ j, j < xs.length → cs[j]? = some (.int .u8 (xs.getD j 0))
theorem BRow.cell {W : World} {B : Nat} {xs : List Int} (h : BRow W B xs) (j : Nat) (hj : j < xs.length) : W.cell? ⟨B, j, none⟩ = some (.int .u8 (xs.getD j 0)) ∧ W.frozen? ⟨B, j, none⟩ = false := by
  obtain ⟨cs, N, h1, h2, h3, h4⟩ := h
  constructor
  · simp only [World.cell?, h1]; simpa using h4 j hj
  · simp only [World.frozen?, h1]
    have : ¬ N ≤ j := by omega
    simp [this]
theorem BRow.set {W : World} {B : Nat} {xs : List Int} (h : BRow W B xs) (j : Nat) (hj : j < xs.length) (v : Int) : BRow (W.setCell ⟨B, j, none⟩ (.int .u8 v)) B (xs.set j v) := by
  obtain ⟨cs, N, h1, h2, h3, h4⟩ := h
  refine ⟨cs.setIfInBounds j (.int .u8 v), N, ?_, by simpa using h2, by simpa using h3, ?_⟩
  · simp only [World.setCell, Array.getElem?_modify]
    rw [if_pos trivial, h1]; rfl
  · intro q hq
    rw [List.length_set] at hq
    by_cases e : j = q
    · subst e
      rw [Array.getElem?_setIfInBounds_self_of_lt (by omega)]
      simp [List.getD_eq_getElem?_getD, hj]
    · rw [Array.getElem?_setIfInBounds_ne e, h4 q hq, List.getD_eq_getElem?_getD, List.getD_eq_getElem?_getD, List.getElem?_set_ne e]
theorem BRow.new (W : World) (s : ByteArray) : BRow (bytesWorld W 5 s) W.heap.size (bytesOf s) := by
  refine ⟨_, _, bytesWorld_at_new W 5 s, rfl, ?_, ?_⟩
  · rw [bytesOf_length]
    simp [bytesCells]
  · intro j hj
    rw [bytesOf_length] at hj
    have hc := bytesWorld_cell W 5 s j hj
    simp only [World.cell?, bytesWorld_at_new] at hc
    have e : (bytesOf s).getD j 0 = ((s.data.toList.getD j 0).toNat : Int) := by
      have hl : j < s.data.toList.length := by simpa using hj
      simp [bytesOf, List.getD_eq_getElem?_getD, List.getElem?_eq_getElem hl]
    rw [e]
    simpa using hc

/-- The bytes, the first i of them folded. -/
def foldTo (s : ByteArray) (i : Nat) : List Int := ((bytesOf s).take i).map foldZ ++ (bytesOf s).drop i
theorem foldTo_zero (s : ByteArray) : foldTo s 0 = bytesOf s := by simp [foldTo]
theorem foldTo_length (s : ByteArray) (i : Nat) : (foldTo s i).length = s.size := by
  have := bytesOf_length s
  simp [foldTo]; omega
theorem foldTo_at (s : ByteArray) (i : Nat) (h : i < s.size) : (foldTo s i).getD i 0 = bt s (i : Int) := by
  have hl := bytesOf_length s
  have h1 : (((bytesOf s).take i).map foldZ).length = i := by simp; omega
  rw [List.getD_eq_getElem?_getD, foldTo, List.getElem?_append_right (by omega), h1, Nat.sub_self, bytes_rd s i h]
  rfl
theorem foldTo_step (s : ByteArray) (i : Nat) (h : i < s.size) : foldTo s (i + 1) = (foldTo s i).set i (foldZ (bt s (i : Int))) := by
  have hl := bytesOf_length s
  have h1 : (((bytesOf s).take i).map foldZ).length = i := by simp; omega
  have hi : i < (bytesOf s).length := by omega
  have ht : (bytesOf s).take (i + 1) = (bytesOf s).take i ++ [bt s (i : Int)] := by
    rw [take_rd _ i hi, rd_bytesOf]
  rw [foldTo, foldTo, ht, List.set_append_right _ _ (by omega), h1, Nat.sub_self, bytes_rd s i h]
  simp
theorem foldTo_all (s : ByteArray) : strOfNums (foldTo s s.size) = foldS s := by
  have hl := bytesOf_length s
  rw [foldTo, List.take_of_length_le (by omega), List.drop_eq_nil_of_le (by omega), List.append_nil, foldS]

set_option maxHeartbeats 4000000 in
set_option maxRecDepth 100000 in
theorem fold_walk (s : ByteArray) (w : World) (hs : s.size ≤ 140737488351232) : Calls Tryd.prog 37 #[.string s] w fun e w' => e = .returned (.string (foldS s)) ∧ Below w.heap.size w w' := by
  have hcv := Go.Lib.run_convert_string_bytes (P := Tryd.prog) w 9 70 5 s Tryd.underlying9 Tryd.underlying70 Tryd.underlying5
  obtain ⟨W, hW⟩ : ∃ W, bytesWorld w 5 s = W := ⟨_, rfl⟩
  have hb : Below w.heap.size w W := by rw [← hW]; exact Go.Joins.below_bytesWorld _ _ _ _ (Nat.le_refl _)
  have hr : BRow W w.heap.size (bytesOf s) := by rw [← hW]; exact BRow.new w s
  have hsz : w.heap.size < W.heap.size := by rw [← hW, bytesWorld_size]; omega
  rw [hW] at hcv
  obtain ⟨C, hC⟩ : ∃ C, grownCap w s.size 0 5 = C := ⟨_, rfl⟩
  rw [hC] at hcv
  obtain ⟨B, hB⟩ : ∃ B, w.heap.size = B := ⟨_, rfl⟩
  rw [hB] at hcv hr hsz
  have HR := Aside0.mk hr
  have HB := Aside0.mk hb
  clear hr hb hW hC
  go_enter Tryd.func37, Tryd.ntmps37
  go_wp2
  go_loopg [10] (s.size + 1) (fun gk v10 wx => ∃ j : Int, v10 = .int .i64 j ∧ 0 ≤ j ∧ j ≤ s.size ∧ s.size - j.toNat < gk ∧ Aside0 (BRow wx B (foldTo s j.toNat)) ∧ Aside0 (Below w.heap.size w wx))
  case atStart => exact ⟨0, by go_num, by omega, by omega, by omega, ⟨by rw [show (0 : Int).toNat = 0 from rfl, foldTo_zero]; exact HR.out⟩, HB⟩
  case round =>
    clear HR HB
    obtain ⟨j, rfl, hj0, hj1, hg, HR, HB⟩ := hrel
    cases gk with
    | zero => omega
    | succ k1 =>
      by_cases cj : j < (s.size : Int)
      · have dj := decide_eq_true (p := j < (s.size : Int)) cj
        obtain ⟨cc, cf⟩ := HR.out.cell j.toNat (by rw [foldTo_length]; omega)
        rw [foldTo_at s j.toNat (by omega), Int.toNat_of_nonneg hj0] at cc
        have hb := bt_range s j
        have hstep := foldTo_step s j.toNat (by omega)
        rw [Int.toNat_of_nonneg hj0] at hstep
        obtain ⟨c, hc⟩ : ∃ c, bt s j = c := ⟨_, rfl⟩
        rw [hc] at cc hb hstep
        by_cases c65 : 65 ≤ c ∧ c ≤ 90
        · have d1 := decide_eq_true (p := 65 ≤ c) c65.1
          have d2 := decide_eq_true (p := c ≤ 90) c65.2
          have hset := HR.out.set j.toNat (by rw [foldTo_length]; omega) (c + 97 - 65)
          rw [← show foldZ c = c + 97 - 65 by unfold foldZ; rw [if_pos c65]; omega, ← hstep, show foldZ c = c + 97 - 65 by unfold foldZ; rw [if_pos c65]; omega] at hset
          have HS := Aside0.mk hset
          clear hset hstep
          go_wp2
          go_roundg k1
          case measure => omega
          case rel => exact ⟨j + 1, by go_num, by omega, by omega, by omega, ⟨by rw [show (j + 1).toNat = j.toNat + 1 by omega]; exact HS.out⟩, ⟨HB.out.setCell (by show _ ≤ B; omega) _⟩⟩
        · have hkeep : BRow wr B (foldTo s (j.toNat + 1)) := by
            have : foldTo s (j.toNat + 1) = foldTo s j.toNat := by
              rw [hstep, show foldZ c = c by unfold foldZ; rw [if_neg c65]]
              have hl : j.toNat < (foldTo s j.toNat).length := by rw [foldTo_length]; omega
              have hg := foldTo_at s j.toNat (by omega)
              rw [Int.toNat_of_nonneg hj0, hc, List.getD_eq_getElem?_getD, List.getElem?_eq_getElem hl] at hg
              simp only [Option.getD_some] at hg
              rw [← hg, List.set_getElem_self]
            rw [this]; exact HR.out
          have HS := Aside0.mk hkeep
          clear hkeep hstep
          by_cases c1 : 65 ≤ c
          · have d1 := decide_eq_true (p := 65 ≤ c) c1
            have d2 := decide_eq_false (p := c ≤ 90) (by omega)
            go_wp2
            go_roundg k1
            case measure => omega
            case rel => exact ⟨j + 1, by go_num, by omega, by omega, by omega, ⟨by rw [show (j + 1).toNat = j.toNat + 1 by omega]; exact HS.out⟩, HB⟩
          · have d1 := decide_eq_false (p := 65 ≤ c) c1
            go_wp2
            go_roundg k1
            case measure => omega
            case rel => exact ⟨j + 1, by go_num, by omega, by omega, by omega, ⟨by rw [show (j + 1).toNat = j.toNat + 1 by omega]; exact HS.out⟩, HB⟩
      · have dj := decide_eq_false (p := j < (s.size : Int)) cj
        have hr : ReadsInt wr .u8 (some ⟨B, 0, none⟩) s.size (foldTo s j.toNat) := by
          refine ⟨foldTo_length _ _, by omega, fun hn => ⟨⟨B, 0, none⟩, rfl, fun q hq => ?_⟩⟩
          have := (HR.out.cell q (by rw [foldTo_length]; exact hq)).1
          simpa [add_at] using this
        have cv := string_of_reads (P := Tryd.prog) (c := C) (src := 70) (dst := 9) (e := 5) Tryd.underlying70 Tryd.underlying5 Tryd.underlying9 hr
        rw [show j.toNat = s.size by omega, foldTo_all] at cv
        clear hr HR
        go_wp2
        go_ret
        exact ⟨rfl, by first | exact HB.out | (rw [← hB]; exact HB.out)⟩
end Go.Proofs.YtoclbmepgeelmaaDoor.Utf
