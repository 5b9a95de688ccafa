import Derived.Test.YtoclbmepgeelmaaDoorUtf
import Derived.Test.YtoclbmepgeelmaaDoorVal
import Derived.Lib.OthersKept
import Derived.Lib.TrimUEq
import Derived.Laws.RangeAny
namespace Go.Proofs.YtoclbmepgeelmaaDoor.Utf
set_option linter.unusedVariables false
set_option linter.unusedSimpArgs false
open Go.RowKit Go.Lib Go.Proofs.YtoclbmepgeelmaaDoorW.PrintWords Go.Proofs.YtoclbmepgeelmaaDoor.PRa

/-- The two tables of unicode/utf8 lie in the world. -/
def Tabs (w : World) : Prop := Lib.Utf8Tabs (Tryd.laysValid_ren.g 3) (Tryd.laysValid_ren.g 4) w
theorem cell_lt {w : World} {p : Addr} {v : Value} (hc : w.cell? p = some v) : p.block < w.heap.size := by
  by_cases hk : p.block < w.heap.size
  · exact hk
  · simp [World.cell?, Array.getElem?_eq_none (show w.heap.size ≤ p.block by omega)] at hc
theorem below_cellT {w w' : World} (h : Below w.heap.size w w') {p : Addr} {v : Value} (hc : w.cell? p = some v) : w'.cell? p = some v := by
  have := h.block p.block (cell_lt hc)
  simp only [World.cell?] at hc ⊢
  rw [this]; exact hc
theorem Tabs.below {w w' : World} (h : Tabs w) (hb : Below w.heap.size w w') : Tabs w' :=
  ⟨fun c hc => below_cellT hb (h.1 c hc), fun i hi => ⟨below_cellT hb (h.2 i hi).1, below_cellT hb (h.2 i hi).2⟩⟩

set_option maxRecDepth 100000 in
theorem right_walk (s : ByteArray) (w : World) (hs : s.size ≤ 9223372036854775807) (hT : Tabs w) :
    Calls Tryd.prog 49 #[.string s] w fun e w' => e = .returned (.bool (validD s.data.toList)) ∧ Below w.heap.size w w' := by
  go_enter Tryd.func49, Tryd.ntmps49
  go_wp2_with (go_at_call 65; refine (Tryd.utf8_ValidString s w hs hT).mono ?_; rintro e w' ⟨rfl, hb⟩)
  go_ret
  exact ⟨rfl, hb⟩

theorem info21 : (Tryd.prog.info? 21).map (fun i => (i.zero, i.size, i.bytes)) = some (some (.int .i32 0), 1, 4) := by kernel_rfl
/-- A row of the call's own beside an iterator that moves on. -/
theorem R_iterAt {d : Kd Int} {e base : Nat} {w : World} {k : Nat} {v : Value} {xs : List Int} (h : d.R e w base (fun b => b ≠ k) v xs) (s : ByteArray) (pos : Nat) : d.R e (w.iterAt k s pos) base (fun b => b ≠ k) v xs :=
  Kd.R_move h (fun b hb => Lib.iterAt_other w k b s pos hb)

/-- What 'Split' gives. -/
def splitE (l : List UInt8) : Int := if validD l then 0 else 3
def splitR (l : List UInt8) : List Int := if validD l then runesOf l else []

set_option maxHeartbeats 4000000 in
set_option maxRecDepth 100000 in
theorem split_walk (s : ByteArray) (w : World) (hs : s.size ≤ 35184372088830) (hT : Tabs w) :
    Calls Tryd.prog 47 #[.string s] w fun e w' => ∃ v : Value, e = .returned (.tuple #[v, .int .i64 (splitE s.data.toList)]) ∧ (Kd.int .i32).R 21 w' w.heap.size (fun _ => True) v (splitR s.data.toList) ∧ Below w.heap.size w w' := by
  have cR := right_walk s w (by omega) hT
  by_cases hv : validD s.data.toList = true
  · have eE : splitE s.data.toList = 0 := by simp [splitE, hv]
    have eR : splitR s.data.toList = runesOf s.data.toList := by simp [splitR, hv]
    rw [eE, eR]
    rw [hv] at cR
    clear eE eR
    have hv0 := Aside0.mk hv; clear hv
    have hT0 := Aside0.mk hT; clear hT
    go_enter Tryd.func47, Tryd.ntmps47
    go_wp2_with (go_at_call 49; refine cR.mono ?_; rintro e w1 ⟨rfl, hb⟩; have HB := Aside0.mk hb; clear hb; clear cR)
    have hsz1 := below_size HB.out
    go_loopg [4] (s.size + 1) (fun gk v4 wx => ∃ (pos : Nat) (acc : List Int), Aside0 (wx.heap[w1.heap.size]? = some (.stringIter s pos)) ∧ Aside0 ((Kd.int .i32).R 21 wx w.heap.size (fun b => b ≠ w1.heap.size) v4 acc) ∧ Aside0 (Below w.heap.size w wx) ∧ Aside0 (acc ++ runesOf (s.data.toList.drop pos) = runesOf s.data.toList) ∧ s.size - pos < gk ∧ acc.length ≤ pos)
    case atStart =>
      refine ⟨0, [], ⟨World.iter_heap w1 s 0⟩, ⟨Kd.R_nil _ _ _ _ _⟩, ⟨below_alloc HB.out _⟩, ⟨by simp⟩, by omega, by simp⟩
    case round =>
      obtain ⟨pos, acc, HI, HO, HBx, HA, hgk, hac⟩ := hrel
      cases gk with
      | zero => omega
      | succ k1 =>
        have hszx : w1.heap.size < wr.heap.size := (Array.getElem?_eq_some_iff.1 HI.out).1
        by_cases hp : pos < s.size
        · have hnx : ∀ ty, (Instr.next (.pointer (some ⟨w1.heap.size, 0, none⟩)) true ty).run Tryd.prog wr = _ := fun ty => Lib.run_next_any_at wr w1.heap.size s pos ty HI.out hp
          have hne : s.data.toList.drop pos ≠ [] := by
            intro h
            have := congrArg List.length h
            simp at this
            omega
          have hdl := decodeL_drop s pos
          have hw := decodeL_width (s.data.toList.drop pos)
          have hst := runesOf_step _ hne
          rw [hdl] at hw hst
          rw [List.drop_drop] at hst
          obtain ⟨⟨r, n⟩, hrn⟩ : ∃ d, Utf8.decode s pos = d := ⟨_, rfl⟩
          simp only [hrn] at hnx hw hst
          have HA2 := Aside0.mk HA.out
          have hst0 := Aside0.mk hst
          clear hst hdl hrn hne HA
          have HO2 := Aside0.mk (R_iterAt HO.out s (pos + n))
          have HI2 := Aside0.mk (Lib.iterAt_heap wr w1.heap.size s pos (pos + n) HI.out)
          have HB2 := Aside0.mk (Lib.below_iterAt HBx.out (k := w1.heap.size) (by omega) s (pos + n))
          have hszx2 : w1.heap.size < (wr.iterAt w1.heap.size s (pos + n)).heap.size := by rw [Lib.iterAt_size]; exact hszx
          obtain ⟨wi, hwi⟩ : ∃ wi, wr.iterAt w1.heap.size s (pos + n) = wi := ⟨_, rfl⟩
          rw [hwi] at hnx HO2 HI2 HB2 hszx2
          clear hwi HO HI HBx hszx
          go_wp2_with (at_builtin; go_must (refine Kd.R_append (Kd.int .i32) (w0 := w) w.heap.size rfl (.tmp 15) (.tmp 17) 38 21 (.int .i32 0) 4 rfl Tryd.underlying38 info21 rfl (by decide) (by omega) u4 acc (r : Int) [.int .i32 (r : Int)] (fun b => b ≠ w1.heap.size) (fun _ => False) rfl rfl ?aP (fun _ hk => hk.elim) ?aF ?aO ?aB ?aS ?aL ?_; (case aP => exact rfl); (case aB => exact HB2.out); (case aF => exact fun b hb => by omega); (case aO => exact HO2.out); (case aS => omega); (case aL => omega); intro v1 w2 ho hb hg hat))
          have hI3 : w2.heap[w1.heap.size]? = some (.stringIter s (pos + n)) := (hg.block w1.heap.size hszx2 (Kd.R_away HO2.out (fun b hb => hb))).trans HI2.out
          clear hnx
          go_roundg k1
          case measure => omega
          case rel =>
            refine ⟨pos + n, acc ++ [(r : Int)], ⟨hI3⟩, ⟨ho⟩, ⟨hb⟩, ⟨?_⟩, by omega, by simp; omega⟩
            rw [← HA2.out, hst0.out, List.append_assoc]; rfl
        · have hnx : ∀ ty, (Instr.next (.pointer (some ⟨w1.heap.size, 0, none⟩)) true ty).run Tryd.prog wr = _ := fun ty => Lib.run_next_end_at wr w1.heap.size s pos ty HI.out hp
          have hA := HA.out
          rw [List.drop_eq_nil_of_le (by simp; omega), runesOf_nil, List.append_nil] at hA
          subst hA
          go_wp2
          go_ret2
          exact ⟨_, rfl, Kd.R_mono HO.out (fun _ _ => trivial), HBx.out⟩
  · have hv : validD s.data.toList = false := by simpa using hv
    have eE : splitE s.data.toList = 3 := by simp [splitE, hv]
    have eR : splitR s.data.toList = [] := by simp [splitR, hv]
    rw [eE, eR]
    rw [hv] at cR
    clear eE eR hv hT
    go_enter Tryd.func47, Tryd.ntmps47
    go_wp2_with (go_at_call 49; refine cR.mono ?_; rintro e w1 ⟨rfl, hb⟩; clear cR)
    go_ret2
    exact ⟨_, rfl, Kd.R_nil _ _ _ _ _, hb⟩
end Go.Proofs.YtoclbmepgeelmaaDoor.Utf
