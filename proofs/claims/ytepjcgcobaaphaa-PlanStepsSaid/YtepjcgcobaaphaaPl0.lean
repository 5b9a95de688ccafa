import Derived.Test.YtepjcgcobaaphaaPPax0
import Derived.Test.YtepjcgcobaaphaaPPax1
import Derived.Lib.Walk
namespace Go.Proofs.Ytepjcgcobaaphaa.Pl
set_option linter.unusedVariables false
set_option linter.unusedSimpArgs false
open Go.RowKit Go.Lib Go.Proofs.YtepjcgcobaaphaaW.PrintWords Go.Proofs.YtepjcgcobaaphaaW.PrintLast Go.Proofs.YtepjcgcobaaphaaW.PrintMore Go.Proofs.Ytepjcgcobaaphaa.PPa

/-! ### The plain functions of plan -/
abbrev V36 (x : S36) (A : Option Addr) (c : Nat) : Value := .agg #[.int .i64 x.f0, .string x.f1, .int .u8 x.f2.f0, .int .i64 x.f2.f1, .string x.f2.f2, .int .i64 x.f3, .int .u8 x.f4, .slice A x.f5.length c]
mutual
def cnt : S36 → Nat
  | ⟨_, _, _, _, _, l⟩ => 1 + cntL l
def cntL : List S36 → Nat
  | [] => 0
  | a :: t => cnt a + cntL t
end
theorem cntL_mem {l : List S36} {a : S36} (h : a ∈ l) : cnt a ≤ cntL l := by
  induction l with
  | nil => cases h
  | cons b t ih =>
    rw [cntL]
    rcases List.mem_cons.1 h with rfl | h
    · omega
    · have := ih h; omega
theorem cnt_mem {x a : S36} (h : a ∈ x.f5) : cnt a < cnt x := by
  have h1 := cntL_mem h
  cases x; rw [cnt]; simp only at h1; omega
theorem cnt_eq (x : S36) : cnt x = 1 + cntL x.f5 := by cases x; rw [cnt]
def opsSafe : List (List UInt8) := [[110, 111, 116], [111, 114], [97, 110, 100], [61], [60, 62], [60], [60, 61], [62], [62, 61]]
def baseSafe (k : Int) (o : ByteArray) : Bool := (k == 1 || k == 2 || k == 5) || opsSafe.any (fun s => o.toList == s)
mutual
def safeP : S36 → Bool
  | ⟨k, o, _, _, _, l⟩ => baseSafe k o && safeL l
def safeL : List S36 → Bool
  | [] => true
  | a :: t => safeP a && safeL t
end
theorem safeL_all (l : List S36) : safeL l = l.all safeP := by
  induction l with
  | nil => rfl
  | cons a t ih => rw [safeL, ih]; rfl
theorem safeP_eq (x : S36) : safeP x = (baseSafe x.f0 x.f1 && x.f5.all safeP) := by
  cases x; rw [safeP, safeL_all]

theorem bcell {w w1 : World} (hb : Below w.heap.size w w1) {a : Addr} {v : Value} (h : w.cell? a = some v) : w1.cell? a = some v := by
  have hlt : a.block < w.heap.size := by
    rcases Nat.lt_or_ge a.block w.heap.size with h' | h'
    · exact h'
    · unfold World.cell? at h
      rw [Array.getElem?_eq_none h'] at h
      split at h
      · rename_i q; cases q
      · cases h
  exact (hb.cell hlt).trans h
theorem at36 {w0 w : World} {A : Option Addr} {n : Nat} {xs : List S36} (h : Kd.C k36 w0 A n xs) (hb : Below w0.heap.size w0 w) (i : Int) (h0 : 0 ≤ i) (h1 : i < n) : ∃ ad A7 c7, A = some ad ∧ w.cell? (ad.add (i.toNat * 8)) = some (.int .i64 (rd_T36 xs i).f0) ∧ w.cell? ⟨(ad.add (i.toNat * 8)).block, (ad.add (i.toNat * 8)).off + 1, none⟩ = some (.string (rd_T36 xs i).f1) ∧ w.cell? ⟨(ad.add (i.toNat * 8)).block, (ad.add (i.toNat * 8)).off + 2, none⟩ = some (.int .u8 (rd_T36 xs i).f2.f0) ∧ w.cell? ⟨(ad.add (i.toNat * 8)).block, (ad.add (i.toNat * 8)).off + 3, none⟩ = some (.int .i64 (rd_T36 xs i).f2.f1) ∧ w.cell? ⟨(ad.add (i.toNat * 8)).block, (ad.add (i.toNat * 8)).off + 4, none⟩ = some (.string (rd_T36 xs i).f2.f2) ∧ w.cell? ⟨(ad.add (i.toNat * 8)).block, (ad.add (i.toNat * 8)).off + 5, none⟩ = some (.int .i64 (rd_T36 xs i).f3) ∧ w.cell? ⟨(ad.add (i.toNat * 8)).block, (ad.add (i.toNat * 8)).off + 6, none⟩ = some (.int .u8 (rd_T36 xs i).f4) ∧ w.cell? ⟨(ad.add (i.toNat * 8)).block, (ad.add (i.toNat * 8)).off + 7, none⟩ = some (.slice A7 (rd_T36 xs i).f5.length c7) ∧ (rd_T36 xs i).f5.length ≤ c7 ∧ k36.C w0 A7 (rd_T36 xs i).f5.length (rd_T36 xs i).f5 := by
  obtain ⟨ad, A7, c7, e, h0, h1, h2, h3, h4, h5, h6, h7, hl, hC⟩ := at_T36 h i h0 h1
  exact ⟨ad, A7, c7, e, bcell hb h0, bcell hb h1, bcell hb h2, bcell hb h3, bcell hb h4, bcell hb h5, bcell hb h6, bcell hb h7, hl, hC⟩
theorem rd36_mem (L : List S36) (i : Nat) (h : i < L.length) : rd_T36 L (i : Int) ∈ L := by
  unfold rd_T36
  rw [Int.toNat_natCast, List.getD_eq_getElem?_getD, List.getElem?_eq_getElem h]
  exact List.getElem_mem h
theorem any_take (p : S36 → Bool) (L : List S36) (i : Nat) (h : i < L.length) : (L.take (i + 1)).any p = ((L.take i).any p || p (rd_T36 L (i : Int))) := by
  rw [List.take_succ_eq_append_getElem h, List.any_append]
  unfold rd_T36
  rw [Int.toNat_natCast, List.getD_eq_getElem?_getD, List.getElem?_eq_getElem h]
  simp

end Go.Proofs.Ytepjcgcobaaphaa.Pl
