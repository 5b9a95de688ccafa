import Derived.Test.YtoclbmepgeelmaaDoorPRex0
import Derived.Test.YtoclbmepgeelmaaDoorRn3
namespace Go.Proofs.YtoclbmepgeelmaaDoor.Utf
set_option linter.unusedVariables false
set_option linter.unusedSimpArgs false
open Go.RowKit Go.Lib Go.Proofs.YtoclbmepgeelmaaDoorW.PrintWords Go.Proofs.YtoclbmepgeelmaaDoorW.PrintLast Go.Proofs.YtoclbmepgeelmaaDoorW.PrintMore Go.Proofs.YtoclbmepgeelmaaDoor.PRa Go.Proofs.YtoclbmepgeelmaaDoor.PRe

/-! ### The tokens of bytes, plainly -/
/-- How many bytes at the front are of some classes. -/
def runL (p : Int → Bool) (l : List Int) : Nat := (l.takeWhile fun c => p (classZ c)).length
theorem runL_nil (p : Int → Bool) : runL p [] = 0 := rfl
theorem runL_yes {p : Int → Bool} {c : Int} (t : List Int) (h : p (classZ c) = true) : runL p (c :: t) = runL p t + 1 := by simp [runL, List.takeWhile_cons, h]
theorem runL_no {p : Int → Bool} {c : Int} (t : List Int) (h : p (classZ c) = false) : runL p (c :: t) = 0 := by simp [runL, List.takeWhile_cons, h]
theorem runL_le (p : Int → Bool) (l : List Int) : runL p l ≤ l.length := (List.takeWhile_prefix _).length_le
def clsAt : List Int → Int
  | [] => 0
  | c :: _ => classZ c
/-- Where the quoted text ends whose first quote stands ahead of the list. -/
def closeL : List Int → Option Nat
  | [] => none
  | c :: t => if c = 39 then (match t with
      | [] => some 0
      | d :: u => if d = 39 then (closeL u).map (· + 2) else some 0) else (closeL t).map (· + 1)
theorem closeL_other {c : Int} (hc : c ≠ 39) (t : List Int) : closeL (c :: t) = (closeL t).map (· + 1) := by
  cases t <;> simp [closeL, hc]
def hexZ (c : Int) : Int := if 48 ≤ c ∧ c ≤ 57 then c - 48 else if 97 ≤ c ∧ c ≤ 102 then c - 87 else if 65 ≤ c ∧ c ≤ 70 then c - 55 else -1
theorem hexZ_le (c : Int) : -1 ≤ hexZ c ∧ hexZ c ≤ 15 := by unfold hexZ; split <;> (try split) <;> (try split) <;> omega
/-- The bytes that stand as digits; none: they are none. -/
def unhexL : List Int → Option (List Int)
  | [] => some []
  | [_] => none
  | a :: b :: t => if hexZ a < 0 then none else if hexZ b < 0 then none else (unhexL t).map ((16 * hexZ a + hexZ b) :: ·)
/-- A token: kind, text, number, how many bytes, error. -/
abbrev Tk := Int × ByteArray × Int × Nat × Int
def failT : Tk := (0, ⟨#[]⟩, 0, 0, 40)
def isB : List Int → Bool
  | a :: b :: _ => (a == 120 || a == 88) && b == 39
  | _ => false
def bytesP (l : List Int) : Tk :=
  match closeL (l.drop 2) with
  | none => failT
  | some k => match unhexL ((l.drop 2).take k) with
    | none => failT
    | some o => (4, strOfNums o, 0, k + 3, 0)
def wordC (c : Int) : Bool := c == 3 || c == 2
def digC (c : Int) : Bool := c == 3
def wordP (l : List Int) : Tk :=
  let X := strOfNums (l.take (runL wordC l))
  if nameE X = 0 then (1, nameR X, 0, runL wordC l, 0) else failT
def numP (l : List Int) : Tk :=
  if clsAt (l.drop (runL digC l)) = 2 then failT
  else (2, ⟨#[]⟩, (numRE (strOfNums (l.take (runL digC l)))).1, runL digC l, (numRE (strOfNums (l.take (runL digC l)))).2)
def quoP (l : List Int) : Tk :=
  match closeL (l.drop 1) with
  | none => failT
  | some k => (3, unqR (strOfNums (l.take (k + 2))), 0, k + 2, 0)
def oneL (a : Int) : Bool := ([40, 41, 44, 59, 46, 42, 43, 45, 47, 37, 61, 60, 62] : List Int).any fun x => a == x
def twoL (a b : Int) : Bool := (a == 60 && b == 61) || (a == 62 && b == 61) || (a == 60 && b == 62) || (a == 124 && b == 124)
def sgnN : List Int → Nat
  | a :: b :: _ => if twoL a b then 2 else if oneL a then 1 else 0
  | [a] => if oneL a then 1 else 0
  | [] => 0
def sgnP (l : List Int) : Tk := if sgnN l = 0 then failT else (5, strOfNums (l.take (sgnN l)), 0, sgnN l, 0)
def nextP (l : List Int) : Tk :=
  if isB l then bytesP l
  else if clsAt l = 2 then wordP l
  else if clsAt l = 3 then numP l
  else if clsAt l = 4 then quoP l
  else sgnP l
def blkC (c : Int) : Bool := c == 1
/-- A text's tokens from a place on. -/
def readP : Nat → List Int → Nat → List S53 → List S53 × Int × Int
  | 0, _, _, _ => ([], 0, 0)
  | f + 1, l, p, acc =>
    let b := runL blkC l
    if l.drop b = [] then (acc ++ [⟨0, ((p + b : Nat) : Int), ⟨#[]⟩, 0⟩], 0, 0)
    else
      let r := nextP (l.drop b)
      if r.2.2.2.2 ≠ 0 then ([], ((p + b : Nat) : Int), r.2.2.2.2)
      else readP f ((l.drop b).drop r.2.2.2.1) (p + b + r.2.2.2.1) (acc ++ [⟨r.1, ((p + b : Nat) : Int), r.2.1, r.2.2.1⟩])
def readT (s : ByteArray) : List S53 × Int × Int :=
  if 4096 < s.size then ([], 0, 2) else if validD s.data.toList then readP (s.size + 1) (bytesOf s) 0 [] else ([], 0, 3)
def to87 (x : S53) : S87 := ⟨x.f0, x.f1, x.f2, x.f3⟩

theorem ext_nums (s : ByteArray) (a b : Nat) : s.extract a b = strOfNums (((bytesOf s).drop a).take (b - a)) := by
  apply ByteArray.ext; apply Array.toList_inj.1
  rw [strOfNums_data, ByteArray.data_extract, Array.toList_extract, List.extract_eq_take_drop, bytesOf, List.map_take, List.map_drop, List.map_map]
  congr 2
  conv => lhs; rw [← List.map_id s.data.toList]
  apply List.map_congr_left
  intro x _
  simp
theorem closeL_lt : ∀ (n : Nat) (l : List Int), l.length ≤ n → ∀ k, closeL l = some k → k < l.length
  | _, [], _, k, h => by simp [closeL] at h
  | 0, c :: t, hn, _, _ => by simp at hn
  | n + 1, c :: t, hn, k, h => by
    simp only [List.length_cons] at hn
    by_cases hc : c = 39
    · subst hc
      cases t with
      | nil =>
        simp only [closeL, ↓reduceIte, Option.some.injEq] at h
        subst h; simp
      | cons d u =>
        by_cases hd : d = 39
        · subst hd
          simp only [closeL, ↓reduceIte, Option.map_eq_some_iff] at h
          obtain ⟨q, hq, rfl⟩ := h
          have := closeL_lt n u (by simp at hn; omega) q hq
          simp; omega
        · simp only [closeL, ↓reduceIte] at h
          rw [if_neg hd, Option.some.injEq] at h
          subst h; simp
    · rw [closeL_other hc, Option.map_eq_some_iff] at h
      obtain ⟨q, hq, rfl⟩ := h
      have := closeL_lt n t (by omega) q hq
      simp; omega
theorem unhexL_odd : ∀ (n : Nat) (l : List Int), l.length = 2 * n + 1 → unhexL l = none
  | 0, l, h => by
    match l, h with
    | [_], _ => rfl
  | n + 1, l, h => by
    match l, h with
    | a :: b :: t, h =>
      simp only [List.length_cons] at h
      simp only [unhexL]
      rw [unhexL_odd n t (by omega)]
      split
      · rfl
      · split <;> rfl
theorem u8_ofNat {a : Int} {n : Nat} (h0 : 0 ≤ a) (h1 : a ≤ 255) (hn : n ≤ 255) : (UInt8.ofNat a.toNat = UInt8.ofNat n) ↔ a = (n : Int) := by
  constructor
  · intro h
    have := congrArg UInt8.toNat h
    rw [UInt8.toNat_ofNat', UInt8.toNat_ofNat'] at this
    omega
  · rintro rfl; rw [Int.toNat_natCast]
abbrev onesS : ByteArray := ⟨#[40, 41, 44, 59, 46, 42, 43, 45, 47, 37, 61, 60, 62]⟩
theorem next_ok (l : List Int) : ((nextP l).2.2.2.1 = 0 → nextP l = failT) ∧ (nextP l).2.2.2.1 ≤ l.length := by
  unfold nextP
  split
  · unfold bytesP
    cases h : closeL (l.drop 2) with
    | none => exact ⟨fun _ => rfl, by simp [failT]⟩
    | some k =>
      have := closeL_lt _ _ (Nat.le_refl _) k h
      rw [List.length_drop] at this
      simp only
      split
      · exact ⟨fun _ => rfl, by simp [failT]⟩
      · exact ⟨fun h => by simp at h, by simp; omega⟩
  · split
    · rename_i hc
      unfold wordP
      simp only
      split
      · refine ⟨fun h => ?_, runL_le _ _⟩
        exfalso
        cases l with
        | nil => simp [clsAt] at hc
        | cons c t =>
          simp only [clsAt] at hc
          simp only at h
          rw [runL_yes t (by rw [hc]; rfl)] at h
          omega
      · exact ⟨fun _ => rfl, by simp [failT]⟩
    · split
      · rename_i hc
        unfold numP
        split
        · exact ⟨fun _ => rfl, by simp [failT]⟩
        · refine ⟨fun h => ?_, runL_le _ _⟩
          exfalso
          cases l with
          | nil => simp [clsAt] at hc
          | cons c t =>
            simp only [clsAt] at hc
            simp only at h
            rw [runL_yes t (by rw [hc]; rfl)] at h
            omega
      · split
        · unfold quoP
          cases h : closeL (l.drop 1) with
          | none => exact ⟨fun _ => rfl, by simp [failT]⟩
          | some k =>
            have := closeL_lt _ _ (Nat.le_refl _) k h
            rw [List.length_drop] at this
            exact ⟨fun h => by simp at h, by simp; omega⟩
        · unfold sgnP
          split
          · exact ⟨fun _ => rfl, by simp [failT]⟩
          · rename_i hn
            refine ⟨fun h => absurd h hn, ?_⟩
            simp only
            unfold sgnN
            split
            · simp only [List.length_cons]; split
              · omega
              · split <;> omega
            · simp only [List.length_cons, List.length_nil]; split <;> omega
            · simp
theorem take_ext (s : ByteArray) (p n : Nat) : s.extract p (p + n) = strOfNums (((bytesOf s).drop p).take n) := by
  rw [ext_nums, show p + n - p = n by omega]
theorem readP_blank (f : Nat) (c : Int) (t : List Int) (p : Nat) (acc : List S53) (h : classZ c = 1) : readP f (c :: t) p acc = readP f t (p + 1) acc := by
  cases f with
  | zero => rfl
  | succ f =>
    have hy : blkC (classZ c) = true := by rw [h]; rfl
    simp only [readP]
    rw [runL_yes t hy, List.drop_succ_cons, show p + (runL blkC t + 1) = p + 1 + runL blkC t by omega]
/-- What the world must hold for tokens: the tables of unicode/utf8, and an integer in bytealg.MaxLen. -/
def TabsT (w : World) : Prop := Tabs w ∧ True ∧ ∃ m, w.cell? ⟨3, 0, none⟩ = some (.int .i64 m)
theorem TabsT.below {w w' : World} (h : TabsT w) (hb : Below w.heap.size w w') : TabsT w' := by
  obtain ⟨h1, _, m, h3⟩ := h
  exact ⟨h1.below hb, trivial, m, below_cellT hb h3⟩
theorem Tabs5.toT {w : World} (h : Tabs5 w) : TabsT w := ⟨h.1, trivial, h.2.2⟩
end Go.Proofs.YtoclbmepgeelmaaDoor.Utf
