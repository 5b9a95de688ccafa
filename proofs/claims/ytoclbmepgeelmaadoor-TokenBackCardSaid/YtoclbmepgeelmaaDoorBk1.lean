import Derived.Test.YtoclbmepgeelmaaDoorTk1
namespace Go.Proofs.YtoclbmepgeelmaaDoor.Utf
set_option linter.unusedVariables false
set_option linter.unusedSimpArgs false
open Go.RowKit Go.Lib Go.Proofs.YtoclbmepgeelmaaDoorW.PrintWords

/-! ### Good texts cut behind an ASCII byte -/
theorem enc_ascii (r : Nat) (hr : Scalar r) : (∃ c, encodeRune (r : Int) = [c]) ∨ ∀ c ∈ encodeRune (r : Int), 128 ≤ c.toNat := by
  unfold Scalar at hr
  have E : ∀ x : Int, 0 ≤ x → x < 256 → (x.toNat.toUInt8).toNat = x.toNat := fun x h0 h1 => by have := encL x h0 h1; omega
  by_cases c1 : r ≤ 127
  · exact .inl ⟨_, enc_one c1⟩
  refine .inr ?_
  by_cases c2 : r ≤ 2047
  · rw [show encodeRune (r : Int) = _ from by simp only [encodeRune, encodeRuneZ_two (r := (r : Int)) (by omega) (by omega), List.map_cons, List.map_nil]; rfl]
    intro c hc
    simp only [List.mem_cons, List.mem_nil_iff, or_false] at hc
    rcases hc with rfl | rfl <;> (rw [E _ (by omega) (by omega)]; omega)
  by_cases c3 : r ≤ 65535
  · rw [show encodeRune (r : Int) = _ from by simp only [encodeRune, encodeRuneZ_three (r := (r : Int)) (by omega), List.map_cons, List.map_nil]; rfl]
    intro c hc
    simp only [List.mem_cons, List.mem_nil_iff, or_false] at hc
    rcases hc with rfl | rfl | rfl <;> (rw [E _ (by omega) (by omega)]; omega)
  · rw [show encodeRune (r : Int) = _ from by simp only [encodeRune, encodeRuneZ_four (r := (r : Int)) (by omega) (by omega), List.map_cons, List.map_nil]; rfl]
    intro c hc
    simp only [List.mem_cons, List.mem_nil_iff, or_false] at hc
    rcases hc with rfl | rfl | rfl | rfl <;> (rw [E _ (by omega) (by omega)]; omega)
theorem encs_behind : ∀ (rs : List Nat) (x : List UInt8) (c : UInt8) (y : List UInt8), (∀ r ∈ rs, Scalar r) → c.toNat < 128 → encs rs = x ++ c :: y → validD y = true
  | [], x, c, y, _, _, h => by simp [encs] at h
  | r :: rs, x, c, y, hs, hc, h => by
    have e : encs (r :: rs) = encodeRune (r : Int) ++ encs rs := by simp [encs]
    have hs' : ∀ q ∈ rs, Scalar q := fun q hq => hs q (by simp [hq])
    rw [e] at h
    rcases enc_ascii r (hs r (by simp)) with ⟨a, ha⟩ | ha
    · rw [ha] at h
      cases x with
      | nil =>
        simp only [List.cons_append, List.nil_append, List.cons.injEq] at h
        rw [← h.2]; exact (encs_valid rs hs').1
      | cons b x =>
        simp only [List.cons_append, List.nil_append, List.cons.injEq] at h
        exact encs_behind rs x c y hs' hc h.2
    · rcases List.append_eq_append_iff.1 h with ⟨m, h1, h2⟩ | ⟨m, h1, h2⟩
      · exact encs_behind rs m c y hs' hc h2
      · cases m with
        | nil => exact encs_behind rs [] c y hs' hc (by simpa using h2.symm)
        | cons b m =>
          simp only [List.cons_append, List.cons.injEq] at h2
          have := ha b (by rw [h1]; simp)
          rw [← h2.1] at this
          omega
theorem valid_behind {x y : List UInt8} {c : UInt8} (hc : c.toNat < 128) (h : validD (x ++ c :: y) = true) : validD y = true ∧ validD (x ++ [c]) = true := by
  obtain ⟨rs, hs, e, _⟩ := valid_encs' h
  have hy := encs_behind rs x c y hs hc e.symm
  refine ⟨hy, ?_⟩
  have : x ++ c :: y = (x ++ [c]) ++ y := by simp
  rw [this] at h
  exact (valid_split hy h).1
/-- A list of bytes as numbers is a good text. -/
def vZ (l : List Int) : Bool := validD (strOfNums l).data.toList
theorem vZ_bytes (s : ByteArray) : vZ (bytesOf s) = validD s.data.toList := by unfold vZ; rw [strOfNums_bytes]
theorem strOfNums_app_data (a b : List Int) : (strOfNums (a ++ b)).data.toList = (strOfNums a).data.toList ++ (strOfNums b).data.toList := by
  rw [strOfNums_data, strOfNums_data, strOfNums_data, List.map_append]
theorem vZ_app {a b : List Int} (ha : vZ a = true) : vZ (a ++ b) = vZ b := by
  unfold vZ; rw [strOfNums_app_data]; exact (valid_append ha).1
theorem vZ_behind {x y : List Int} {c : Int} (h0 : 0 ≤ c) (hc : c < 128) (h : vZ (x ++ c :: y) = true) : vZ y = true ∧ vZ (x ++ [c]) = true := by
  unfold vZ at h ⊢
  rw [strOfNums_app_data, show c :: y = [c] ++ y from rfl, strOfNums_app_data] at h
  rw [strOfNums_app_data]
  have e : (strOfNums [c]).data.toList = [UInt8.ofNat c.toNat] := by rw [strOfNums_data]; rfl
  rw [e] at h ⊢
  exact valid_behind (by rw [UInt8.toNat_ofNat']; omega) h
theorem vZ_nil : vZ [] = true := by unfold vZ; rw [strOfNums_data]; rfl
theorem vZ_one {c : Int} (h0 : 0 ≤ c) (hc : c < 128) : vZ [c] = true := by
  unfold vZ
  rw [strOfNums_data]
  have : encs [c.toNat] = [UInt8.ofNat c.toNat] := by
    have h1 := enc_one (r := c.toNat) (by omega)
    unfold encs
    rw [List.flatMap_cons, List.flatMap_nil, List.append_nil, h1]
    try rfl
  rw [List.map_cons, List.map_nil, ← this]
  exact (encs_valid _ (by intro r hr; rw [List.mem_singleton.1 hr]; unfold Scalar; omega)).1
theorem vZ_ascii : ∀ l : List Int, (∀ c ∈ l, 0 ≤ c ∧ c < 128) → vZ l = true
  | [], _ => vZ_nil
  | c :: t, h => by
    rw [show c :: t = [c] ++ t from rfl, vZ_app (vZ_one (h c (by simp)).1 (h c (by simp)).2)]
    exact vZ_ascii t (fun d hd => h d (by simp [hd]))
end Go.Proofs.YtoclbmepgeelmaaDoor.Utf
