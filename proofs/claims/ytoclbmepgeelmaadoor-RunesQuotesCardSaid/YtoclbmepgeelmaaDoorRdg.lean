import Derived.Test.YtoclbmepgeelmaaDoorRun
import Derived.Lib.ItoaLen
namespace Go.Proofs.YtoclbmepgeelmaaDoor.Utf
set_option linter.unusedVariables false
set_option linter.unusedSimpArgs false
open Go.RowKit Go.Lib Go.Proofs.YtoclbmepgeelmaaDoorW.PrintWords Go.Proofs.YtoclbmepgeelmaaDoorW.PrintLast Go.Proofs.YtoclbmepgeelmaaDoorW.PrintMore

/-- The digits of a number, as bytes. -/
def digS (u : Nat) : ByteArray := ⟨(decDigits u).toArray⟩
theorem digS_small {u : Nat} (h : u < 10) : digS u = strOfNums [48 + ((u % 10 : Nat) : Int)] := by
  unfold digS; rw [decDigits, dif_pos h]
  apply ByteArray.ext; apply Array.toList_inj.1
  rw [strOfNums_data]
  simp only [List.map_cons, List.map_nil]
  rw [show (48 + ((u % 10 : Nat) : Int)).toNat = 48 + u by omega]
theorem digS_big {u : Nat} (h : ¬ u < 10) : digS u = digS (u / 10) ++ strOfNums [48 + ((u % 10 : Nat) : Int)] := by
  unfold digS; rw [decDigits, dif_neg h]
  apply ByteArray.ext; apply Array.toList_inj.1
  rw [ByteArray.data_append, Array.toList_append, strOfNums_data]
  simp only [List.map_cons, List.map_nil]
  rw [show (48 + ((u % 10 : Nat) : Int)).toNat = 48 + u % 10 by omega]
theorem tmod_abs (i : Int) : (Int.tmod i 10 < 0 → -(Int.tmod i 10) = ((i.natAbs % 10 : Nat) : Int)) ∧ (¬ Int.tmod i 10 < 0 → Int.tmod i 10 = ((i.natAbs % 10 : Nat) : Int)) ∧ (Int.tdiv i 10).natAbs = i.natAbs / 10 := by
  by_cases h : 0 ≤ i
  · rw [Int.tmod_eq_emod_of_nonneg h, Int.tdiv_eq_ediv_of_nonneg h]
    refine ⟨fun q => by omega, fun q => by omega, by omega⟩
  · obtain ⟨u, rfl⟩ : ∃ u : Nat, i = -(u : Int) := ⟨i.natAbs, by omega⟩
    rw [Int.neg_tmod, Int.neg_tdiv, Int.tmod_eq_emod_of_nonneg (by omega), Int.tdiv_eq_ediv_of_nonneg (by omega)]
    refine ⟨fun q => by omega, fun q => by omega, by omega⟩
theorem rdig_l0 (x0 : Int) : ∀ (u : Nat) (i : Int) (acc : ByteArray), i.natAbs = u → -9223372036854775808 ≤ i → i ≤ 9223372036854775807 → acc.size + (decDigits u).length ≤ 100 →
    ∃ k, PRb.hindsightref05_Digits.l0 k x0 acc i = some (if x0 < 0 then (⟨#[45]⟩ : ByteArray) ++ (digS u ++ acc) else digS u ++ acc) := by
  intro u
  induction u using Nat.strongRecOn with
  | _ u ih =>
  intro i acc hu h0 h1 hs
  obtain ⟨m1, m2, m3⟩ := tmod_abs i
  rw [hu] at m1 m2 m3
  have hstep : ∀ k, PRb.hindsightref05_Digits.l0 (k + 1) x0 acc i = (if (strOfNums [48 + ((u % 10 : Nat) : Int)]).size + acc.size ≤ 9223372036854775807 then (if (wrap64 (Int.tdiv i 10)) = 0 then (if x0 < 0 then (if 1 + ((strOfNums [48 + ((u % 10 : Nat) : Int)]) ++ acc).size ≤ 9223372036854775807 then (some ((⟨#[45]⟩ : ByteArray) ++ ((strOfNums [48 + ((u % 10 : Nat) : Int)]) ++ acc))) else (none)) else (some ((strOfNums [48 + ((u % 10 : Nat) : Int)]) ++ acc))) else (PRb.hindsightref05_Digits.l0 k x0 ((strOfNums [48 + ((u % 10 : Nat) : Int)]) ++ acc) (wrap64 (Int.tdiv i 10)))) else (none)) := by
    intro k
    simp only [PRb.hindsightref05_Digits.l0]
    by_cases h : Int.tmod i 10 < 0
    · have e := m1 h
      have hm : u % 10 < 10 := Nat.mod_lt _ (by omega)
      have e1 : (wrap64 (48 + wrap64 (-(Int.tmod i 10)))) % 256 = 48 + ((u % 10 : Nat) : Int) := by
        rw [e, show wrap64 ((u % 10 : Nat) : Int) = ((u % 10 : Nat) : Int) from wrap64_id (by omega) (by omega), wrap64_id (by omega) (by omega)]; omega
      rw [if_pos h, Option.bind_some, e1]
    · have e := m2 h
      have hm : u % 10 < 10 := Nat.mod_lt _ (by omega)
      have e1 : (wrap64 (48 + (Int.tmod i 10))) % 256 = 48 + ((u % 10 : Nat) : Int) := by
        rw [e, wrap64_id (by omega) (by omega)]; omega
      rw [if_neg h, Option.bind_some, e1]
  have hw : wrap64 (Int.tdiv i 10) = Int.tdiv i 10 := wrap64_id (by omega) (by omega)
  have hz1 : (strOfNums [48 + ((u % 10 : Nat) : Int)]).size = 1 := by rw [strOfNums_size]; rfl
  have hz2 : (strOfNums [48 + ((u % 10 : Nat) : Int)] ++ acc).size = 1 + acc.size := by rw [ByteArray.size_append, hz1]
  by_cases hsm : u < 10
  · refine ⟨1, ?_⟩
    rw [hstep, hw, if_pos (by omega), if_pos (by omega), hz2, digS_small hsm]
    by_cases hx : x0 < 0
    · rw [if_pos hx, if_pos hx, if_pos (by omega)]
    · rw [if_neg hx, if_neg hx]
  · have hl : (decDigits u).length = (decDigits (u / 10)).length + 1 := by
      rw [decDigits, dif_neg hsm]; simp
    obtain ⟨k, hk⟩ := ih (u / 10) (by omega) (Int.tdiv i 10) (strOfNums [48 + ((u % 10 : Nat) : Int)] ++ acc) m3 (by omega) (by omega) (by omega)
    refine ⟨k + 1, ?_⟩
    rw [hstep, hw, if_pos (by omega), if_neg (by omega), hk, digS_big hsm]
    simp only [ByteArray.append_assoc]
theorem rdig_f (n : Int) (h0 : -9223372036854775808 ≤ n) (h1 : n ≤ 9223372036854775807) : ∃ k, PRb.hindsightref05_Digits.f k n = some ⟨(itoa n).toArray⟩ := by
  have hl := itoa_length_le n h0 h1
  obtain ⟨k, hk⟩ := rdig_l0 n n.natAbs n ⟨#[]⟩ rfl h0 h1 (by
    unfold itoa at hl
    show 0 + _ ≤ _
    split at hl
    · simp at hl; omega
    · rw [show n.natAbs = n.toNat by omega]; omega)
  refine ⟨k, ?_⟩
  unfold PRb.hindsightref05_Digits.f
  rw [hk]
  congr 1
  unfold itoa
  have he : ∀ x : ByteArray, x ++ (⟨#[]⟩ : ByteArray) = x := fun x => ByteArray.ext (by rw [ByteArray.data_append]; simp)
  rw [he]
  split
  · apply ByteArray.ext; apply Array.toList_inj.1
    rw [ByteArray.data_append]; simp [digS]
  · rw [show n.natAbs = n.toNat by omega]; rfl
end Go.Proofs.YtoclbmepgeelmaaDoor.Utf
