import Derived.Test.YtoclbmepgeelmaaDoorSplit
namespace Go.Proofs.YtoclbmepgeelmaaDoor.Utf
set_option linter.unusedVariables false
set_option linter.unusedSimpArgs false
open Go.RowKit Go.Lib Go.Proofs.YtoclbmepgeelmaaDoorW.PrintWords Go.Proofs.YtoclbmepgeelmaaDoor.PRa

/-- A pattern that Compile made: its two cells and the row of its points. -/
def PatAt (W : World) (p : Value) (l : List Int) : Prop :=
  ∃ b A c, p = .pointer (some ⟨b, 0, none⟩) ∧ W.cell? ⟨b, 0, none⟩ = some (.bool true) ∧ W.cell? ⟨b, 1, none⟩ = some (.slice A l.length c) ∧ l.length ≤ c ∧ (Kd.int .i32).C W A l.length l
theorem PatAt.below {W W' : World} {p : Value} {l : List Int} (h : PatAt W p l) (hb : Below W.heap.size W W') : PatAt W' p l := by
  obtain ⟨b, A, c, rfl, h0, h1, hl, hr⟩ := h
  exact ⟨b, A, c, rfl, below_cellT hb h0, below_cellT hb h1, hl, Kd.C_below hr hb⟩

theorem cell_new (w : World) (cs : Array Value) (t : TypeId) (i : Nat) : (w.alloc (.cells cs t)).cell? ⟨w.heap.size, i, none⟩ = cs[i]? := by
  have := heap_alloc_new w (.cells cs t)
  simp only [World.cell?, this]
  simp

/-- What 'Compile' gives. -/
def compE (l : List UInt8) : Int := if 1000 < l.length then 2 else splitE l
def PatOr (W : World) (p : Value) (l : List UInt8) : Prop := if compE l = 0 then PatAt W p (runesOf l) else p = .pointer none

theorem compE_zero {l : List UInt8} (h : compE l = 0) : l.length ≤ 1000 ∧ validD l = true := by
  unfold compE splitE at h
  split at h
  · simp at h
  · split at h
    · exact ⟨by omega, by assumption⟩
    · simp at h

set_option maxHeartbeats 4000000 in
set_option maxRecDepth 100000 in
theorem compile_walk (s : ByteArray) (w : World) (hT : Tabs w) :
    Calls Tryd.prog 20 #[.string s] w fun e w' => ∃ p : Value, e = .returned (.tuple #[p, .int .i64 (compE s.data.toList)]) ∧ PatOr w' p s.data.toList ∧ Below w.heap.size w w' := by
  have hl : s.data.toList.length = s.size := by simp
  by_cases hlen : 1000 < s.size
  · have eE : compE s.data.toList = 2 := by simp [compE, hl, hlen]
    unfold PatOr
    rw [eE]
    have c0 : decide ((s.size : Int) > 1000) = true := decide_eq_true (by omega)
    have c1 : decide ((1000 : Int) < (s.size : Int)) = true := decide_eq_true (by omega)
    clear hT hl eE
    go_enter Tryd.func20, Tryd.ntmps20
    go_wp2
    go_ret2
    exact ⟨_, rfl, by simp, Below.refl _ _⟩
  · have cS := split_walk s w (by omega) hT
    have c1 : decide ((1000 : Int) < (s.size : Int)) = false := decide_eq_false (by omega)
    have eE : compE s.data.toList = splitE s.data.toList := by simp [compE, hl, hlen]
    unfold PatOr
    rw [eE]
    by_cases hv : validD s.data.toList = true
    · have e0 : splitE s.data.toList = 0 := by simp [splitE, hv]
      have r0 : splitR s.data.toList = runesOf s.data.toList := by simp [splitR, hv]
      rw [e0, r0] at cS
      rw [e0]
      simp only [↓reduceIte]
      obtain ⟨L, hL⟩ : ∃ L, runesOf s.data.toList = L := ⟨_, rfl⟩
      rw [hL] at cS ⊢
      clear hT hl eE e0 r0 hv hL
      go_enter Tryd.func20, Tryd.ntmps20
      go_wp2_with (go_at_call 47; refine cS.mono ?_; rintro e w1 ⟨v, rfl, hR, hb⟩; clear cS; obtain ⟨A, c, rfl, hc, hC⟩ := Kd.R_reads hR; have HC := Aside0.mk hC; have HB := Aside0.mk hb; clear hR hb hC)
      go_ret2
      have hs1 := below_size HB.out
      exact ⟨_, rfl, ⟨w1.heap.size, A, c, rfl, cell_new _ _ _ 0, cell_new _ _ _ 1, hc, Kd.C_below HC.out (below_alloc (Below.refl _ _) _)⟩, below_alloc HB.out _⟩
    · have e0 : splitE s.data.toList = 3 := by simp [splitE, hv]
      rw [e0] at cS
      rw [e0]
      clear hT hl eE e0 hv
      go_enter Tryd.func20, Tryd.ntmps20
      go_wp2_with (go_at_call 47; refine cS.mono ?_; rintro e w1 ⟨v, rfl, hR, hb⟩; clear cS)
      go_ret2
      exact ⟨_, rfl, by simp, hb⟩
end Go.Proofs.YtoclbmepgeelmaaDoor.Utf
