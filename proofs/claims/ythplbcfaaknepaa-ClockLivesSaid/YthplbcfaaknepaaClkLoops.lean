import Derived.Test.YthplbcfaaknepaaClkAlive
namespace Go.Proofs.Ythplbcfaaknepaa
set_option linter.unusedVariables false
set_option linter.unusedSimpArgs false
open Go.RowKit Go.Proofs.YthplbcfaaknepaaW.PrintWords

def I64 (x : Int) : Prop := -9223372036854775808 ≤ x ∧ x ≤ 9223372036854775807
theorem nextS_rng (a b : Int) (ha : I64 a) (hb : I64 b) : I64 (nextS a b).1 := by
  obtain ⟨a1, a2⟩ := ha
  obtain ⟨b1, b2⟩ := hb
  unfold nextS
  split
  · exact ⟨by decide, by decide⟩
  · split <;> exact ⟨by simp; omega, by simp; omega⟩

set_option maxHeartbeats 1600000 in
set_option maxRecDepth 100000 in
theorem lives_any (last : Int) (hl : I64 last) (A1 A2 : Option Addr) (n1 c1 n2 c2 : Nat) (rs ks : List Int) (w : World) (h1 : ReadsInt w .i64 A1 n1 rs) (h2 : ReadsInt w .i64 A2 n2 ks)
    (b1 : ∀ x ∈ rs, I64 x) (b2 : ∀ x ∈ ks, I64 x) :
    Calls Try.prog 5 #[.int .i64 last, .slice A1 n1 c1, .slice A2 n2 c2] w fun e w' => e = .returned (.bool true) ∧ Below w.heap.size w w' := by
  have HL := Lib.hid hl
  have H1 := Lib.hid h1
  have H2 := Lib.hid h2
  have B1 := Lib.hid b1
  have B2 := Lib.hid b2
  have m1 : n1 ≤ 9223372036854775807 := h1.2.1
  have m2 : n2 ≤ 9223372036854775807 := h2.2.1
  clear hl h1 h2 b1 b2
  go_enter Try.func5, Try.ntmps5
  go_wp2_with fail
  refine (new_any _ _).mono ?_
  rintro e w1 ⟨rfl, rfl⟩
  go_wp2
  go_loopw [0, 8] (fun vl vi wr => ∃ (k : Nat) (l : Int), k ≤ n1 ∧ vi = .int .i64 k ∧ vl = .int .i64 l ∧ Hid (I64 l) ∧ Hid (wr.heap[w.heap.size]? = some (.cells #[.int .i64 l] 52 (0, 0))) ∧ Hid (Below w.heap.size w wr)) (fun _ vi _ => n1 - (intOf vi).toNat)
  case atStart => exact ⟨0, last, Nat.zero_le _, rfl, rfl, HL, Lib.hid (heap_alloc_new _ _), Lib.hid (below_alloc (Below.refl _ _) _)⟩
  case round =>
    obtain ⟨k, l, hk, rfl, rfl, RL, RC, RB⟩ := hrel
    have hc : wr.cell? ⟨w.heap.size, 0, none⟩ = some (.int .i64 l) := by rw [cell_of_row _ _ _ _ _ _ RC.out]; rfl
    have hf : wr.frozen? ⟨w.heap.size, 0, none⟩ = false := frozen_of_row _ _ _ _ _ RC.out
    by_cases hlt : k < n1 ∧ k < 60
    · obtain ⟨hlt, h60⟩ := hlt
      obtain ⟨ad, rfl, hcell⟩ := ((H1.out).below RB.out).at_ (k : Int) (by omega) (by omega)
      have hcell' : wr.cell? (ad.add k) = some (.int .i64 (rs.getD k 0)) := by simpa [rd] using hcell
      clear hcell
      have HR : Hid (I64 (rs.getD k 0)) := by
        have hk' : k < rs.length := by rw [H1.out.1]; exact hlt
        exact B1.out _ (by simp [List.getD_eq_getElem?_getD, List.getElem?_eq_getElem hk'])
      generalize rs.getD k 0 = r at *
      have RN := Lib.hid (nextS_rng l r RL.out HR.out)
      obtain ⟨l1, l2⟩ := RL.out
      go_wp2_with fail
      refine (ask_any _ l _ l1 _ hc).mono ?_
      rintro e w2 ⟨rfl, rfl⟩
      go_wp2_with fail
      refine (rnext_any l _ l1 HR.out.2 _).mono ?_
      rintro e w2 ⟨rfl, rfl⟩
      go_wp2_with fail
      refine (last_any _ l _ hc).mono ?_
      rintro e w2 ⟨rfl, rfl⟩
      by_cases hk2 : k < n2
      · obtain ⟨ad2, rfl, hcell2⟩ := ((H2.out).below RB.out).at_ (k : Int) (by omega) (by omega)
        have hcell2' : wr.cell? (ad2.add k) = some (.int .i64 (ks.getD k 0)) := by simpa [rd] using hcell2
        clear hcell2
        have HK : Hid (I64 (ks.getD k 0)) := by
          have hk' : k < ks.length := by rw [H2.out.1]; exact hk2
          exact B2.out _ (by simp [List.getD_eq_getElem?_getD, List.getElem?_eq_getElem hk'])
        generalize ks.getD k 0 = s at *
        by_cases hs : l < s
        · go_wp2_with fail
          refine (keep_yes _ l s hs _ hc hf).mono ?_
          rintro e w2 ⟨rfl, rfl⟩
          go_wp2
          go_roundw
          case rel => exact ⟨k + 1, s, by omega, by go_num, rfl, HK, Lib.hid (heap_setCell_same _ _ _ _ _ _ RC.out), Lib.hid (RB.out.setCell (by simp) _)⟩
          case measure => simp [intOf]; omega
        · have hs' : s ≤ l := by omega
          clear hs
          go_wp2_with fail
          refine (keep_no _ l s hs' _ hc).mono ?_
          rintro e w2 ⟨rfl, rfl⟩
          go_wp2
          go_roundw
          case rel => exact ⟨k + 1, l, by omega, by go_num, rfl, RL, RC, RB⟩
          case measure => simp [intOf]; omega
      · obtain ⟨s, hs0⟩ : ∃ s, s = (nextS l r).1 := ⟨_, rfl⟩
        rw [← hs0] at RN ⊢
        clear hs0
        by_cases hs : l < s
        · go_wp2_with fail
          refine (keep_yes _ l s hs _ hc hf).mono ?_
          rintro e w2 ⟨rfl, rfl⟩
          go_wp2
          go_roundw
          case rel => exact ⟨k + 1, s, by omega, by go_num, rfl, RN, Lib.hid (heap_setCell_same _ _ _ _ _ _ RC.out), Lib.hid (RB.out.setCell (by simp) _)⟩
          case measure => simp [intOf]; omega
        · have hs' : s ≤ l := by omega
          clear hs
          go_wp2_with fail
          refine (keep_no _ l s hs' _ hc).mono ?_
          rintro e w2 ⟨rfl, rfl⟩
          go_wp2
          go_roundw
          case rel => exact ⟨k + 1, l, by omega, by go_num, rfl, RL, RC, RB⟩
          case measure => simp [intOf]; omega
    · have hstop : n1 ≤ k ∨ (k < n1 ∧ 60 ≤ k) := by omega
      clear hlt
      rcases hstop with hstop | ⟨hstop, h60⟩
      all_goals
        go_wp2_with fail
        refine (ask_nil _ _).mono ?_
        rintro e w2 ⟨rfl, rfl⟩
        go_wp2_with fail
        refine (alive_any _).mono ?_
        rintro e w2 ⟨rfl, hb2⟩
        have hc2 : w2.cell? ⟨w.heap.size, 0, none⟩ = some (.int .i64 l) := (pw_cell_below hb2 hc)
        have HB2 := Lib.hid hb2
        clear hb2
        go_wp2_with fail
        refine (keep_nil _ _).mono ?_
        rintro e w3 ⟨rfl, rfl⟩
        go_wp2_with fail
        refine (last_nil _).mono ?_
        rintro e w3 ⟨rfl, rfl⟩
        go_wp2_with fail
        refine (last_any _ l _ hc2).mono ?_
        rintro e w3 ⟨rfl, rfl⟩
        go_wp2_with fail
        go_ret
        exact ⟨rfl, RB.out.trans (HB2.out.mono RB.out.size)⟩

theorem nextS_top {a b : Int} (h : 9223372036854775805 < a ∨ b = 9223372036854775807) : (nextS a b) = (0, 44) := by
  unfold nextS; rw [if_pos (by omega)]
theorem nextS_ok {a b : Int} (h1 : a ≤ 9223372036854775805) (h2 : b ≤ 9223372036854775806) : (nextS a b) = (if b < a + 1 then a + 1 else b, 0) := by
  unfold nextS; rw [if_neg (by omega)]
set_option maxHeartbeats 1600000 in
set_option maxRecDepth 100000 in
theorem rises_any (last : Int) (hl : I64 last) (A1 : Option Addr) (n1 c1 : Nat) (rs : List Int) (w : World) (h1 : ReadsInt w .i64 A1 n1 rs) (b1 : ∀ x ∈ rs, I64 x) :
    Calls Try.prog 6 #[.int .i64 last, .slice A1 n1 c1] w fun e w' => e = .returned (.bool true) ∧ Below w.heap.size w w' := by
  have HL := Lib.hid hl
  have H1 := Lib.hid h1
  have B1 := Lib.hid b1
  have m1 : n1 ≤ 9223372036854775807 := h1.2.1
  clear hl h1 b1
  go_enter Try.func6, Try.ntmps6
  go_wp2_with fail
  refine (new_any _ _).mono ?_
  rintro e w1 ⟨rfl, rfl⟩
  go_wp2
  go_loopw [6] (fun vi wr => ∃ (k : Nat) (l : Int), k ≤ n1 ∧ vi = .int .i64 k ∧ Hid (I64 l) ∧ Hid (wr.heap[w.heap.size]? = some (.cells #[.int .i64 l] 52 (0, 0))) ∧ Hid (Below w.heap.size w wr)) (fun vi _ => n1 - (intOf vi).toNat)
  case atStart => exact ⟨0, last, Nat.zero_le _, rfl, HL, Lib.hid (heap_alloc_new _ _), Lib.hid (below_alloc (Below.refl _ _) _)⟩
  case round =>
    obtain ⟨k, l, hk, rfl, RL, RC, RB⟩ := hrel
    have hc : wr.cell? ⟨w.heap.size, 0, none⟩ = some (.int .i64 l) := by rw [cell_of_row _ _ _ _ _ _ RC.out]; rfl
    have hf : wr.frozen? ⟨w.heap.size, 0, none⟩ = false := frozen_of_row _ _ _ _ _ RC.out
    by_cases hlt : k < n1 ∧ k < 200
    · obtain ⟨hlt, h60⟩ := hlt
      obtain ⟨ad, rfl, hcell⟩ := ((H1.out).below RB.out).at_ (k : Int) (by omega) (by omega)
      have hcell' : wr.cell? (ad.add k) = some (.int .i64 (rs.getD k 0)) := by simpa [rd] using hcell
      clear hcell
      have HR : Hid (I64 (rs.getD k 0)) := by
        have hk' : k < rs.length := by rw [H1.out.1]; exact hlt
        exact B1.out _ (by simp [List.getD_eq_getElem?_getD, List.getElem?_eq_getElem hk'])
      generalize rs.getD k 0 = r at *
      obtain ⟨l1, l2⟩ := RL.out
      go_wp2_with fail
      refine (last_any _ l _ hc).mono ?_
      rintro e w2 ⟨rfl, rfl⟩
      go_wp2_with fail
      refine (ask_any _ l _ l1 _ hc).mono ?_
      rintro e w2 ⟨rfl, rfl⟩
      by_cases ht : 9223372036854775805 < l ∨ r = 9223372036854775807
      · rw [nextS_top ht]
        by_cases ht1 : 9223372036854775805 < l
        · clear ht
          go_wp2
          go_roundw
          case rel => exact ⟨k + 1, l, by omega, by go_num, RL, RC, RB⟩
          case measure => simp [intOf]; omega
        · have ht2 : (r == 9223372036854775807) = true := by simp; omega
          clear ht
          go_wp2
          go_roundw
          case rel => exact ⟨k + 1, l, by omega, by go_num, RL, RC, RB⟩
          case measure => simp [intOf]; omega
      · have h3 : l ≤ 9223372036854775805 := by omega
        have h4 : r ≤ 9223372036854775806 := by have := HR.out.2; omega
        have h5 : (r == 9223372036854775807) = false := by simp; omega
        rw [nextS_ok h3 h4]
        clear ht
        by_cases hb : r < l + 1
        · rw [if_pos hb]
          have q1 : (l + 1 != r) = true := by rw [bne_iff_ne]; omega
          go_wp2_with fail
          refine (keep_yes _ l _ (by omega) _ hc hf).mono ?_
          rintro e w2 ⟨rfl, rfl⟩
          go_wp2_with fail
          refine (last_any _ (l + 1) _ (by simp [go_sem, hc])).mono ?_
          rintro e w2 ⟨rfl, rfl⟩
          go_wp2
          go_roundw
          case rel => exact ⟨k + 1, (l + 1), by omega, by go_num, Lib.hid ⟨by omega, by omega⟩, Lib.hid (heap_setCell_same _ _ _ _ _ _ RC.out), Lib.hid (RB.out.setCell (by simp) _)⟩
          case measure => simp [intOf]; omega
        · rw [if_neg hb]
          go_wp2_with fail
          refine (keep_yes _ l _ (by omega) _ hc hf).mono ?_
          rintro e w2 ⟨rfl, rfl⟩
          go_wp2_with fail
          refine (last_any _ r _ (by simp [go_sem, hc])).mono ?_
          rintro e w2 ⟨rfl, rfl⟩
          go_wp2
          go_roundw
          case rel => exact ⟨k + 1, r, by omega, by go_num, Lib.hid ⟨by omega, by omega⟩, Lib.hid (heap_setCell_same _ _ _ _ _ _ RC.out), Lib.hid (RB.out.setCell (by simp) _)⟩
          case measure => simp [intOf]; omega
    · have hstop : n1 ≤ k ∨ (k < n1 ∧ 200 ≤ k) := by omega
      clear hlt
      rcases hstop with hstop | ⟨hstop, h60⟩
      all_goals
        go_wp2_with fail
        refine (alive_any _).mono ?_
        rintro e w2 ⟨rfl, hb2⟩
        have HB2 := Lib.hid hb2
        clear hb2
        go_wp2
        go_ret
        exact ⟨rfl, RB.out.trans (HB2.out.mono RB.out.size)⟩
end Go.Proofs.Ythplbcfaaknepaa
