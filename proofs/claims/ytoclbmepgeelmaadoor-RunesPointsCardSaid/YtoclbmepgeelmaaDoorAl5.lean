import Derived.Test.YtoclbmepgeelmaaDoorUnq
namespace Go.Proofs.YtoclbmepgeelmaaDoor.Utf
set_option linter.unusedVariables false
set_option linter.unusedSimpArgs false
open Go.RowKit Go.Lib Go.Proofs.YtoclbmepgeelmaaDoorW.PrintWords Go.Proofs.YtoclbmepgeelmaaDoorW.PrintLast Go.Proofs.YtoclbmepgeelmaaDoorW.PrintMore

theorem name_at (s x : ByteArray) (e0 : Int) (h : nameR s = x ∧ nameE s = e0) (w : World) :
    Calls Tryd.prog 33 #[.string s] w fun e w' => e = .returned (.tuple #[.string x, .int .i64 e0]) ∧ Below w.heap.size w w' := by
  rw [← h.1, ← h.2]; exact name_walk s w
theorem unquote_at (s x : ByteArray) (e0 : Int) (hs : s.size ≤ 1000000) (h : unqR s = x ∧ unqE s = e0) (w : World) :
    Calls Tryd.prog 39 #[.string s] w fun e w' => e = .returned (.tuple #[.string x, .int .i64 e0]) ∧ Below w.heap.size w w' := by
  rw [← h.1, ← h.2]; exact unquote_walk s w hs
theorem number_at (s : ByteArray) (r : Int × Int) (hs : s.size ≤ 1000000) (h : numRE s = r) (w : World) :
    Calls Tryd.prog 41 #[.string s] w fun e w' => e = .returned (.tuple #[.int .i64 r.1, .int .i64 r.2]) ∧ Below w.heap.size w w' := by
  rw [← h]; exact num_walk s w hs
theorem count_at (s : ByteArray) (n e0 : Int) (hs : s.size ≤ 1000000) (h : ((splitR s.data.toList).length : Int) = n ∧ splitE s.data.toList = e0) (w : World) (hT : Tabs w) :
    Calls Tryd.prog 48 #[.string s] w fun e w' => e = .returned (.tuple #[.int .i64 n, .int .i64 e0]) ∧ Below w.heap.size w w' := by
  rw [← h.1, ← h.2]; exact count_walk s w hs hT
theorem quote_at (s x : ByteArray) (hs : s.size ≤ 1000000) (h : quoteS s = x) (w : World) (hT : Tabs5 w) :
    Calls Tryd.prog 43 #[.string s] w fun e w' => e = .returned (.string x) ∧ Below w.heap.size w w' := by
  rw [← h]; exact quote_walk s w hs hT
theorem digits_at (n : Int) (x : ByteArray) (h0 : -9223372036854775808 ≤ n) (h1 : n ≤ 9223372036854775807) (h : (⟨(Lib.itoa n).toArray⟩ : ByteArray) = x) (w : World) (hT : Tabs5 w) :
    Calls Tryd.prog 45 #[.int .i64 n] w fun e w' => e = .returned (.string x) ∧ Below w.heap.size w w' := by
  rw [← h]; exact digits_walk n w h0 h1 hT

set_option maxHeartbeats 4000000 in
set_option maxRecDepth 100000 in
theorem alive05 (w : World) (hT : Tabs5 w) : Calls Tryd.prog 32 #[] w fun e w' => e = .returned (.bool true) ∧ Below w.heap.size w w' := by
  have c1 := name_at { data := #[65, 98, 95, 49] } { data := #[97, 98, 95, 49] } 0 ⟨by decide, by decide⟩
  have c2 := name_at { data := #[49, 97] } { data := #[] } 3 ⟨by decide, by decide⟩
  have c3 := unquote_at { data := #[39, 105, 116, 39, 39, 115, 39] } { data := #[105, 116, 39, 115] } 0 (by decide) ⟨by decide, by decide⟩
  have c4 := number_at { data := #[57, 50, 50, 51, 51, 55, 50, 48, 51, 54, 56, 53, 52, 55, 55, 53, 56, 48, 56] } (0, 21) (by decide) (by decide)
  have c5 := count_at { data := #[97, 195, 164, 226, 130, 172] } 3 0 (by decide) ⟨by decide, by decide⟩
  have c6 := quote_at { data := #[105, 116, 39, 115] } { data := #[39, 105, 116, 39, 39, 115, 39] } (by decide) (by decide)
  have c7 := digits_at (-7) { data := #[45, 55] } (by omega) (by omega) (by
    have : Lib.itoa (-7) = [45, 55] := by
      unfold Lib.itoa
      rw [if_pos (by omega), show (-7 : Int).natAbs = 7 from rfl, Lib.decDigits, dif_pos (by omega)]; rfl
    rw [this])
  have C1 := Aside0.mk c1
  have C2 := Aside0.mk c2
  have C3 := Aside0.mk c3
  have C4 := Aside0.mk c4
  have C5 := Aside0.mk c5
  have C6 := Aside0.mk c6
  have C7 := Aside0.mk c7
  have HT := Aside0.mk hT
  clear c1 c2 c3 c4 c5 c6 c7 hT
  go_enter Tryd.func32, Tryd.ntmps32
  go_wp2_with fail
  refine (C1.out _).mono ?_
  rintro e w1 ⟨rfl, hb⟩
  have HB1 := Aside0.mk hb; clear hb
  go_wp2_with fail
  refine (C2.out _).mono ?_
  rintro e w2 ⟨rfl, hb⟩
  have HB2 := Aside0.mk (below_step HB1.out hb); clear hb
  go_wp2_with fail
  refine (C3.out _).mono ?_
  rintro e w3 ⟨rfl, hb⟩
  have HB3 := Aside0.mk (below_step HB2.out hb); clear hb
  go_wp2_with fail
  refine (C4.out _).mono ?_
  rintro e w4 ⟨rfl, hb⟩
  have HB4 := Aside0.mk (below_step HB3.out hb); clear hb
  go_wp2_with fail
  refine (C5.out _ (HT.out.below HB4.out).1).mono ?_
  rintro e w5 ⟨rfl, hb⟩
  have HB5 := Aside0.mk (below_step HB4.out hb); clear hb
  go_wp2_with fail
  refine (C6.out _ (HT.out.below HB5.out)).mono ?_
  rintro e w6 ⟨rfl, hb⟩
  have HB6 := Aside0.mk (below_step HB5.out hb); clear hb
  go_wp2_with fail
  refine (C7.out _ (HT.out.below HB6.out)).mono ?_
  rintro e w7 ⟨rfl, hb⟩
  have HB7 := Aside0.mk (below_step HB6.out hb); clear hb
  go_wp2_with fail
  go_ret
  exact ⟨rfl, HB7.out⟩
end Go.Proofs.YtoclbmepgeelmaaDoor.Utf
