import Derived.Test.YtoclbmepgeelmaaDoorTk2
import Derived.Test.YtoclbmepgeelmaaDoorTk3
namespace Go.Proofs.YtoclbmepgeelmaaDoor.Utf
set_option linter.unusedVariables false
set_option linter.unusedSimpArgs false
open Go.RowKit Go.Lib Go.Proofs.YtoclbmepgeelmaaDoorW.PrintWords Go.Proofs.YtoclbmepgeelmaaDoorW.PrintLast Go.Proofs.YtoclbmepgeelmaaDoorW.PrintMore Go.Proofs.YtoclbmepgeelmaaDoor.PRe

theorem rd_map87 (L : List S53) (i : Int) (h0 : 0 ≤ i) (h1 : i < L.length) : rd_T87 (L.map to87) i = to87 (rd_T53 L i) := by
  have hl : i.toNat < L.length := by omega
  simp [rd_T87, rd_T53, List.getD_eq_getElem?_getD, hl]
theorem ev_same0 (L : List S53) (hL : L.length ≤ 100000) : ∀ (m i : Nat), i + m = L.length → Ev (fun k => hindsightlaw19_same.l0 k L (L.map to87) (i : Int)) true := by
  intro m
  induction m with
  | zero =>
    intro i hi
    refine Ev.step (f := fun k => some true) (fun k => ?_) (Ev.now _)
    simp only [hindsightlaw19_same.l0]
    rw [if_neg (by omega)]
  | succ m ih =>
    intro i hi
    have w1 : wrap64 ((i : Int) + 1) = ((i + 1 : Nat) : Int) := by rw [wrap64_id (by omega) (by omega)]; omega
    refine Ev.step (f := fun k => hindsightlaw19_same.l0 k L (L.map to87) ((i + 1 : Nat) : Int)) (fun k => ?_) (ih (i + 1) (by omega))
    simp only [hindsightlaw19_same.l0]
    rw [if_pos (by omega), if_pos (by omega), if_pos (by rw [List.length_map]; omega), rd_map87 L i (by omega) (by omega)]
    simp only [to87, ↓reduceIte]
    rw [w1]
theorem same_walk (L : List S53) (hL : L.length ≤ 100000) (A0 : Option Addr) (c0 : Nat) (A1 : Option Addr) (c1 : Nat) (w : World) (h0 : Kd.C k53 w A0 L.length L) (hc0 : L.length ≤ c0) (h1 : Kd.C k87 w A1 L.length (L.map to87)) (hc1 : L.length ≤ c1) :
    Calls Tryd.prog 30 #[.slice A0 L.length c0, .slice A1 L.length c1] w fun e w' => e = .returned (.bool true) ∧ Below w.heap.size w w' := by
  obtain ⟨k, hk⟩ := (Ev.congr (fun k => by unfold hindsightlaw19_same.f; rw [if_pos (by rw [List.length_map])]; rfl) (ev_same0 L hL L.length 0 (by omega)) : Ev (fun k => hindsightlaw19_same.f k L (L.map to87)) true).rounds
  have e : (L.map to87).length = L.length := List.length_map ..
  have := hindsightlaw19_same.calls k A0 c0 L A1 c1 (L.map to87) true w h0 hc0 (by rw [e]; exact h1) (by rw [e]; exact hc1) hk
  rw [e] at this
  refine this.mono ?_
  rintro e w' ⟨rfl, ⟨nd, rfl⟩⟩
  exact ⟨rfl, pw_below_drewN (Below.refl _ _) nd⟩
theorem rread_walk (s : ByteArray) (L : List S53) (p c : Int) (h : readT s = (L, p, c)) (hs : s.size ≤ 100000) (w : World) :
    Calls Tryd.prog 29 #[.string s] w fun e w' => ∃ (A : Option Addr) (q : Nat), e = .returned (.tuple #[.slice A L.length q, .agg #[.int .i64 p, .int .i64 c]]) ∧ L.length ≤ q ∧ Kd.C k87 w' A L.length (L.map to87) ∧ Below w.heap.size w w' := by
  obtain ⟨k, hk⟩ := (ev_read s hs).rounds
  rw [h] at hk
  refine (hindsightref19_Read.calls k s (L.map to87) p c w hk).mono ?_
  rintro e w' ⟨v, rfl, hR, hb⟩
  obtain ⟨A, q, rfl, hq, hC⟩ := Kd.R_reads hR
  rw [List.length_map] at hq hC ⊢
  exact ⟨A, q, rfl, hq, hC, hb⟩
theorem readP_len : ∀ (f : Nat) (l : List Int) (p : Nat) (acc : List S53), (readP f l p acc).1.length ≤ acc.length + f
  | 0, l, p, acc => by simp [readP]
  | f + 1, l, p, acc => by
    simp only [readP]
    split
    · simp
    · split
      · simp
      · have := readP_len f ((l.drop (runL blkC l)).drop (nextP (l.drop (runL blkC l))).2.2.2.1) (p + runL blkC l + (nextP (l.drop (runL blkC l))).2.2.2.1) (acc ++ [⟨(nextP (l.drop (runL blkC l))).1, ((p + runL blkC l : Nat) : Int), (nextP (l.drop (runL blkC l))).2.1, (nextP (l.drop (runL blkC l))).2.2.1⟩])
        simp only [List.length_append, List.length_singleton] at this
        omega
theorem readT_len (s : ByteArray) : (readT s).1.length ≤ s.size + 1 := by
  unfold readT
  split
  · simp
  · split
    · have := readP_len (s.size + 1) (bytesOf s) 0 []
      simpa using this
    · simp

set_option maxHeartbeats 1200000 in
set_option maxRecDepth 100000 in
theorem tokenReads_walk (s : ByteArray) (w : World) (hT : TabsT w) :
    Calls Tryd.prog 8 #[.string s] w fun e w' => e = .returned (.bool true) ∧ Below w.heap.size w w' := by
  have fin : ∀ W : World, Below w.heap.size w W → Calls Tryd.prog 27 #[] W fun e w' => e = .returned (.bool true) ∧ Below W.heap.size W w' := fun W h => alive19 W (hT.below h)
  have FIN := Aside0.mk fin
  have HT := Aside0.mk hT
  clear fin hT
  by_cases hg : (1000 < s.size ∧ s.size ≤ 4096) ∨ 4200 < s.size
  · by_cases h1 : 1000 < s.size
    · have d1 := decide_eq_true (p := (1000 : Int) < (s.size : Int)) (by omega)
      by_cases h2 : s.size ≤ 4096
      · have d2 := decide_eq_true (p := (s.size : Int) ≤ (4096 : Int)) (by omega)
        go_enter Tryd.func8, Tryd.ntmps8
        go_wp2_with fail
        refine (FIN.out _ (Below.refl _ _)).mono ?_
        rintro e w1 ⟨rfl, hb⟩
        go_wp2_with fail
        go_ret
        exact ⟨rfl, hb⟩
      · have d2 := decide_eq_false (p := (s.size : Int) ≤ (4096 : Int)) (by omega)
        have d3 := decide_eq_true (p := (4200 : Int) < (s.size : Int)) (by omega)
        go_enter Tryd.func8, Tryd.ntmps8
        go_wp2_with fail
        refine (FIN.out _ (Below.refl _ _)).mono ?_
        rintro e w1 ⟨rfl, hb⟩
        go_wp2_with fail
        go_ret
        exact ⟨rfl, hb⟩
    · exfalso; omega
  have hs : s.size ≤ 100000 := by omega
  have hlen := readT_len s
  rcases hR : readT s with ⟨L, p, c⟩
  rw [hR] at hlen
  simp only at hlen
  have K1 := Aside0.mk (fun W h => read_at s L p c hR hs W h)
  have K2 := Aside0.mk (fun W => rread_walk s L p c hR hs W)
  have hL : L.length ≤ 100000 := by omega
  have bp : (p == p) = true := by simp
  have bc : (c == c) = true := by simp
  have d0 : (decide ((1000 : Int) < (s.size : Int)) && decide ((s.size : Int) ≤ (4096 : Int))) = false := by
    rw [Bool.and_eq_false_iff, decide_eq_false_iff_not, decide_eq_false_iff_not]; omega
  have d3 := decide_eq_false (p := (4200 : Int) < (s.size : Int)) (by omega)
  clear hR hlen
  by_cases h1 : 1000 < s.size
  case' pos =>
    have d1 := decide_eq_true (p := (1000 : Int) < (s.size : Int)) (by omega)
    have d2 := decide_eq_false (p := (s.size : Int) ≤ (4096 : Int)) (by omega)
  case' neg =>
    have d1 := decide_eq_false (p := (1000 : Int) < (s.size : Int)) (by omega)
  all_goals
    clear hg h1 d0
    go_enter Tryd.func8, Tryd.ntmps8
    go_wp2_with fail
    refine (K1.out _ HT.out).mono ?_
    rintro e w1 ⟨A1, q1, rfl, hq1, hC1, hb⟩
    have HC1 := Aside0.mk (Kd.C_below hC1 (below_alloc (Below.refl _ _) (.cells #[.int .i64 p, .int .i64 c] 45 (0, 0))))
    have HB := Aside0.mk (below_alloc hb (.cells #[.int .i64 p, .int .i64 c] 45 (0, 0)))
    have BK1 := Aside0.mk (blk_new w1 (.cells #[.int .i64 p, .int .i64 c] 45 (0, 0)))
    clear hb hC1
    go_wp2_with fail
    refine (K2.out _).mono ?_
    rintro e w2 ⟨A2, q2, rfl, hq2, hC2, hb⟩
    have BK1' := Aside0.mk (blk_alloc (blk_below BK1.out hb) (.cells #[.int .i64 p, .int .i64 c] 45 (0, 0)))
    have HC1' := Aside0.mk (Kd.C_below HC1.out (below_alloc hb (.cells #[.int .i64 p, .int .i64 c] 45 (0, 0))))
    have HB' := Aside0.mk (below_alloc (below_step HB.out hb) (.cells #[.int .i64 p, .int .i64 c] 45 (0, 0)))
    have BK2 := Aside0.mk (blk_new w2 (.cells #[.int .i64 p, .int .i64 c] 45 (0, 0)))
    have HC2 := Aside0.mk (Kd.C_below hC2 (below_alloc (Below.refl _ _) (.cells #[.int .i64 p, .int .i64 c] 45 (0, 0))))
    clear hb hC2 BK1 HC1 HB
    go_wp2_with fail
    refine (FIN.out _ HB'.out).mono ?_
    rintro e w3 ⟨rfl, hb⟩
    have BK1 := Aside0.mk (blk_below BK1'.out hb)
    have BK2' := Aside0.mk (blk_below BK2.out hb)
    have HC1 := Aside0.mk (Kd.C_below HC1'.out hb)
    have HC2' := Aside0.mk (Kd.C_below HC2.out hb)
    have HB := Aside0.mk (below_step HB'.out hb)
    clear hb BK1' BK2 HC1' HC2 HB'
    go_wp2_with fail
    refine (same_walk L hL A1 q1 A2 q2 _ HC1.out hq1 HC2'.out hq2).mono ?_
    rintro e w4 ⟨rfl, hb⟩
    have BK1' := Aside0.mk (blk_below BK1.out hb)
    have BK2 := Aside0.mk (blk_below BK2'.out hb)
    have HB' := Aside0.mk (below_step HB.out hb)
    clear hb BK1 BK2' HC1 HC2' HB
    have f0 := (blk_cell BK1'.out 0).trans (show _ = some (.int .i64 p) from rfl)
    have f1 := (blk_cell BK1'.out 1).trans (show _ = some (.int .i64 c) from rfl)
    have f2 := (blk_cell BK2.out 0).trans (show _ = some (.int .i64 p) from rfl)
    have f3 := (blk_cell BK2.out 1).trans (show _ = some (.int .i64 c) from rfl)
    go_wp2_with fail
    go_ret
    exact ⟨rfl, HB'.out⟩
end Go.Proofs.YtoclbmepgeelmaaDoor.Utf
