import Derived.Test.YtepjcgcobaaphaaPl8
namespace Go.Proofs.Ytepjcgcobaaphaa.Pl
set_option linter.unusedVariables false
set_option linter.unusedSimpArgs false
open Go.RowKit Go.Lib Go.Proofs.YtepjcgcobaaphaaW.PrintWords Go.Proofs.YtepjcgcobaaphaaW.PrintLast Go.Proofs.YtepjcgcobaaphaaW.PrintMore Go.Proofs.Ytepjcgcobaaphaa.PPa

def oneN : S36 := ⟨1, ⟨#[]⟩, ⟨1, 1, ⟨#[]⟩⟩, 0, 1, []⟩
def colN : S36 := ⟨2, ⟨#[]⟩, ⟨0, 0, ⟨#[]⟩⟩, 0, 1, []⟩
def binN (o : ByteArray) : S36 := ⟨4, o, ⟨0, 0, ⟨#[]⟩⟩, 0, 1, [colN, oneN]⟩
abbrev colV : Value := .agg #[.int .i64 2, .string ⟨#[]⟩, .int .u8 0, .int .i64 0, .string ⟨#[]⟩, .int .i64 0, .int .u8 1, .slice none 0 0]
set_option maxHeartbeats 2000000 in
set_option maxRecDepth 100000 in
theorem col_walk (w : World) : Calls Try.prog 13 #[.int .i64 0] w fun e w' => e = .returned colV ∧ Below w.heap.size w w' := by
  go_enter Try.func13, Try.ntmps13
  go_wp2_with ((with_reducible refine gate_dst (N := 2) rfl ?_); refine box_event ?hg (N := 2) ?hd (cs := Z8) (t := 36) ?hr ?_; (case hd => rfl); (case hg => rfl); (case hr => first | (go_simp; done) | (go_simp; rfl)); intro gb hg w3 hbox hb; have HG : Aside0 (w.heap.size ≤ gb) := ⟨by rw [hg]; exact Nat.le_refl _⟩; have HBK := Aside0.mk hbox; have HB3 := Aside0.mk hb; obtain ⟨r0, r1, r2, r3, r4, r5, r6, r7⟩ := cells8 hbox; have rf := fz36 hbox; clear hg; clear hbox; clear hb)
  refine bodyPost_ret (results_cell_row rfl _ _ gb 36 #[.int .i64 2, .string ⟨#[]⟩, .int .u8 0, .int .i64 0, .string ⟨#[]⟩, .int .i64 0, .int .u8 1, .slice none 0 0] (0, 0) _ rfl (put8 HBK.out _ _ _ _ _ _ _ _) Try.underlying36 rfl (by kernel_rfl)) rfl ?_
  exact ⟨rfl, set8 HB3.out HG.out _ _ _ _ _ _ _ _⟩
abbrev oneC : Array Value := #[.int .i64 1, .string ⟨#[]⟩, .int .u8 1, .int .i64 1, .string ⟨#[]⟩, .int .i64 0, .int .u8 1, .slice none 0 0]
abbrev rowC : Array Value := #[.int .i64 2, .string ⟨#[]⟩, .int .u8 0, .int .i64 0, .string ⟨#[]⟩, .int .i64 0, .int .u8 1, .slice none 0 0, .int .i64 1, .string ⟨#[]⟩, .int .u8 1, .int .i64 1, .string ⟨#[]⟩, .int .i64 0, .int .u8 1, .slice none 0 0]
abbrev binC (o : ByteArray) (b : Nat) : Array Value := #[.int .i64 4, .string o, .int .u8 0, .int .i64 0, .string ⟨#[]⟩, .int .i64 0, .int .u8 1, .slice (some ⟨b, 0, none⟩) 2 2]
theorem blk_new1 (w : World) (o1 o2 : Obj) : ((w.alloc o1).alloc o2).heap[w.heap.size + 1]? = some o2 := by
  have := blk_new (w.alloc o1) o2
  rwa [World.size_alloc] at this
theorem blk_new2 (w : World) (o1 o2 o3 : Obj) : (((w.alloc o1).alloc o2).alloc o3).heap[w.heap.size + 1 + 1]? = some o3 := by
  have := blk_new ((w.alloc o1).alloc o2) o3
  rwa [World.size_alloc, World.size_alloc] at this
theorem size8 (w : World) (g : Nat) (v0 v1 v2 v3 v4 v5 v6 v7 : Value) :
    ((((((((w.setCell ⟨g, 0, none⟩ v0).setCell ⟨g, 1, none⟩ v1).setCell ⟨g, 2, none⟩ v2).setCell ⟨g, 3, none⟩ v3).setCell ⟨g, 4, none⟩ v4).setCell ⟨g, 5, none⟩ v5).setCell ⟨g, 6, none⟩ v6).setCell ⟨g, 7, none⟩ v7).heap.size = w.heap.size := by
  simp [World.setCell]
theorem blk_newS (w : World) (g : Nat) (v0 v1 v2 v3 v4 v5 v6 v7 : Value) (o : Obj) :
    (((((((((w.setCell ⟨g, 0, none⟩ v0).setCell ⟨g, 1, none⟩ v1).setCell ⟨g, 2, none⟩ v2).setCell ⟨g, 3, none⟩ v3).setCell ⟨g, 4, none⟩ v4).setCell ⟨g, 5, none⟩ v5).setCell ⟨g, 6, none⟩ v6).setCell ⟨g, 7, none⟩ v7).alloc o).heap[w.heap.size]? = some o := by
  have := blk_new ((((((((w.setCell ⟨g, 0, none⟩ v0).setCell ⟨g, 1, none⟩ v1).setCell ⟨g, 2, none⟩ v2).setCell ⟨g, 3, none⟩ v3).setCell ⟨g, 4, none⟩ v4).setCell ⟨g, 5, none⟩ v5).setCell ⟨g, 6, none⟩ v6).setCell ⟨g, 7, none⟩ v7) o
  rwa [size8] at this
theorem far8 {w : World} {g k : Nat} {o : Obj} (h : w.heap[k]? = some o) (hk : k ≠ g) (v0 v1 v2 v3 v4 v5 v6 v7 : Value) :
    ((((((((w.setCell ⟨g, 0, none⟩ v0).setCell ⟨g, 1, none⟩ v1).setCell ⟨g, 2, none⟩ v2).setCell ⟨g, 3, none⟩ v3).setCell ⟨g, 4, none⟩ v4).setCell ⟨g, 5, none⟩ v5).setCell ⟨g, 6, none⟩ v6).setCell ⟨g, 7, none⟩ v7).heap[k]? = some o := by
  have s : ∀ (W : World) (j : Nat) (u : Value), (W.setCell ⟨g, j, none⟩ u).heap[k]? = W.heap[k]? := fun W j u => Below.heap_setCell W ⟨g, j, none⟩ u k hk
  rw [s, s, s, s, s, s, s, s, h]
theorem C_blk {α : Type} (d : Kd α) {w : World} {b : Nat} {e : TypeId} {xs : List α} {cells : Array Value} (h : w.heap[b]? = some (.cells cells e (0, 0))) (hr : Reps (d.K w) d.sz xs cells.toList) (hm : xs.length ≤ maxLen) : Kd.C d w (some ⟨b, 0, none⟩) xs.length xs := by
  have hs : cells.size = xs.length * d.sz := by have := hr.1; simpa using this
  have ho : OwnRow (d.K w) e d.sz w 0 (.slice (some ⟨b, 0, none⟩) xs.length xs.length) xs :=
    ⟨cells.toList, ⟨by simpa using hs, .inr ⟨b, xs.length, cells, rfl, Nat.zero_le _, h, Nat.le_refl _, hm, hs, List.take_of_length_le (by rw [Array.length_toList, hs]; exact Nat.le_refl _)⟩⟩, hr⟩
  obtain ⟨A, c, he, hl, hr2⟩ := OwnRow.reads ho
  injection he with e1 e2 e3
  subst e1
  exact hr2
theorem row_colone {w : World} {b : Nat} (h : w.heap[b]? = some (.cells rowC 36 (0, 0))) : Kd.C k36 w (some ⟨b, 0, none⟩) 2 [colN, oneN] := by
  refine C_blk k36 (xs := [colN, oneN]) h ?_ (by unfold maxLen; decide)
  have h1 := k36_mk w colN (A7 := none) (c7 := 0) (Nat.le_refl _) (Kd.C_nil _ _)
  have h2 := k36_mk w oneN (A7 := none) (c7 := 0) (Nat.le_refl _) (Kd.C_nil _ _)
  exact ((Reps.none (k36.K w) 8).snoc h1 rfl).snoc h2 rfl
theorem bin_K {w : World} {b : Nat} (o : ByteArray) (h : w.heap[b]? = some (.cells rowC 36 (0, 0))) : k36.K w (binN o) (binC o b).toList :=
  k36_mk w (binN o) (A7 := some ⟨b, 0, none⟩) (c7 := 2) (Nat.le_refl 2) (row_colone h)
theorem row_bin {w : World} {g b : Nat} (o : ByteArray) (hg : w.heap[g]? = some (.cells (binC o b) 36 (0, 0))) (h : w.heap[b]? = some (.cells rowC 36 (0, 0))) : Kd.C k36 w (some ⟨g, 0, none⟩) 1 [binN o] := by
  refine C_blk k36 (xs := [binN o]) hg ?_ (by show 1 ≤ maxLen; unfold maxLen; decide)
  exact (Reps.none (k36.K w) 8).snoc (bin_K o h) rfl
theorem row_bins {w : World} {g b b' : Nat} (o o' : ByteArray) (hg : w.heap[g]? = some (.cells (#[.int .i64 4, .string o, .int .u8 0, .int .i64 0, .string ⟨#[]⟩, .int .i64 0, .int .u8 1, .slice (some ⟨b, 0, none⟩) 2 2, .int .i64 4, .string o', .int .u8 0, .int .i64 0, .string ⟨#[]⟩, .int .i64 0, .int .u8 1, .slice (some ⟨b', 0, none⟩) 2 2]) 36 (0, 0))) (h : w.heap[b]? = some (.cells rowC 36 (0, 0))) (h' : w.heap[b']? = some (.cells rowC 36 (0, 0))) : Kd.C k36 w (some ⟨g, 0, none⟩) 2 [binN o, binN o'] := by
  refine C_blk k36 (xs := [binN o, binN o']) hg ?_ (by show 2 ≤ maxLen; unfold maxLen; decide)
  exact ((Reps.none (k36.K w) 8).snoc (bin_K o h) rfl).snoc (bin_K o' h') rfl
def tabT : S29 := ⟨0, 2, [0], [], true⟩
theorem row_tab {w : World} {g b : Nat} (hg : w.heap[g]? = some (.cells #[.int .i64 0, .int .i64 2, .slice (some ⟨b, 0, none⟩) 1 1, .slice none 0 0, .bool true] 29 (0, 0))) (h : w.heap[b]? = some (.cells #[.int .i64 0] 3 (0, 0))) : Kd.C k29 w (some ⟨g, 0, none⟩) 1 [tabT] := by
  have hk : Kd.C (Kd.int .i64) w (some ⟨b, 0, none⟩) 1 [0] := C_blk (Kd.int .i64) (xs := [0]) h ((Reps.none ((Kd.int .i64).K w) 1).snoc (p := (0 : Int)) (c := [.int .i64 0]) rfl rfl) (by unfold maxLen; decide)
  refine C_blk k29 (xs := [tabT]) hg ?_ (by unfold maxLen; decide)
  exact (Reps.none (k29.K w) 5).snoc (k29_mk w tabT (A2 := some ⟨b, 0, none⟩) (c2 := 1) (A3 := none) (c3 := 0) (Nat.le_refl 1) hk (Nat.le_refl 0) (Kd.C_nil _ _)) rfl
theorem first45 {w0 w : World} {base : Nat} {ok : Nat → Prop} {v : Value} {s : Int × Int × List S36} (h : Kd.R (kS w0) 45 w base ok v [s]) :
    ∃ g c A cn, v = .slice (some ⟨g, 0, none⟩) 1 c ∧ base ≤ g ∧ g < w.heap.size ∧ w.cell? ⟨g, 0, none⟩ = some (.int .i64 s.1) ∧ w.cell? ⟨g, 1, none⟩ = some (.int .i64 s.2.1) ∧ w.cell? ⟨g, 2, none⟩ = some (.slice A s.2.2.length cn) := by
  obtain ⟨inner, ho⟩ := Kd.R_own h
  obtain ⟨A0, c0, he, hl, hC⟩ := Kd.R_reads h
  rcases ho.2 with ⟨hv, h0⟩ | ⟨g, cap, cur, hv, hb, hg, _⟩
  · exact absurd h0 (by simp)
  · rw [hv] at he
    injection he with e1 e2 e3
    subst e1
    obtain ⟨ad, c, e, _, hK, hc⟩ := Kd.C_get hC (0, 0, []) 0 (by omega) (by show (0 : Int) < 1; omega)
    injection e with e
    subst e
    obtain ⟨A, cn, hcs, _, _⟩ := kS_open hK
    have hcc : ∀ j u, c[j]? = some u → w.cell? ((⟨g, 0, none⟩ : Addr).add ((0 : Int).toNat * 3 + j)) = some u := hc
    subst hcs
    refine ⟨g, cap, A, cn, hv, hb, blk_lt hg, ?_, ?_, ?_⟩
    · exact hcc 0 _ rfl
    · exact hcc 1 _ rfl
    · exact hcc 2 _ rfl
theorem toL (l : Array UInt8) : (⟨l⟩ : ByteArray).toList = l.toList := ByteArray.toList_eq _
theorem safe1 : safeP (binN ⟨#[61]⟩) = true := by simp [binN, colN, oneN, safeP, safeL, baseSafe, opsSafe, toL]
theorem safe2 : safeP (binN ⟨#[43]⟩) = false := by simp [binN, colN, oneN, safeP, safeL, baseSafe, opsSafe, toL]
theorem steps1 : stepsP [tabT] [binN ⟨#[61]⟩] = [(1, 0, [oneN])] := by
  have h1 : allSafe [binN ⟨#[61]⟩] = true := by simp [allSafe, safe1]
  have h2 : allParts [binN ⟨#[61]⟩] = [binN ⟨#[61]⟩] := by simp [allParts, binN, partsP, isAnd, toL]
  have h3 : equalP [binN ⟨#[61]⟩] 0 0 = some oneN := by
    simp [equalP, eqOne, isEq, binN, toL, rd_T36, isSlotP, colN, oneN, belowP, cols, colsL]
  simp [stepsP, h1, h2, stepP, refuse, tabT, wrongP, keyNodes, h3]
theorem steps2 : stepsP [tabT] [binN ⟨#[61]⟩, binN ⟨#[43]⟩] = [(0, 0, [])] := by
  have h1 : allSafe [binN ⟨#[61]⟩, binN ⟨#[43]⟩] = false := by simp [allSafe, safe1, safe2, show ∀ o, (binN o).f0 = 4 from fun _ => rfl]
  simp [stepsP, h1]
theorem safeC {x : S36} {A : Option Addr} {c : Nat} {w : World} (h1 : cnt x ≤ 1000) (h2 : x.f5.length ≤ c) (h3 : Kd.C k36 w A x.f5.length x.f5) : Calls Try.prog 14 #[V36 x A c] w fun e w' => e = .returned (.bool (safeP x)) ∧ Below w.heap.size w w' :=
  safe_walk (cnt x) x A c w (Nat.le_refl _) (by omega) h2 h3
end Go.Proofs.Ytepjcgcobaaphaa.Pl
