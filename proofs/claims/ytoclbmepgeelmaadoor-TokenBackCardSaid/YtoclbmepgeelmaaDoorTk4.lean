import Derived.Test.YtoclbmepgeelmaaDoorTk1
namespace Go.Proofs.YtoclbmepgeelmaaDoor.Utf
set_option linter.unusedVariables false
set_option linter.unusedSimpArgs false
open Go.RowKit Go.Lib Go.Proofs.YtoclbmepgeelmaaDoorW.PrintWords Go.Proofs.YtoclbmepgeelmaaDoorW.PrintLast Go.Proofs.YtoclbmepgeelmaaDoorW.PrintMore Go.Proofs.YtoclbmepgeelmaaDoor.PRe

/-! ### Where tokens stand -/
/-- Places rise, from b on. -/
def Rise : Int → List S53 → Prop
  | _, [] => True
  | b, t :: u => b ≤ t.f1 ∧ Rise (t.f1 + 1) u
theorem Rise.mono : ∀ {b c : Int} {L : List S53}, c ≤ b → Rise b L → Rise c L
  | _, _, [], _, _ => trivial
  | _, _, _ :: _, h, ⟨h1, h2⟩ => ⟨Int.le_trans h h1, h2⟩
theorem Rise.at_ : ∀ {b : Int} {L : List S53} (i : Nat), Rise b L → i < L.length → b ≤ (L.getD i z53).f1 ∧ (i + 1 < L.length → (L.getD i z53).f1 < (L.getD (i + 1) z53).f1)
  | b, t :: u, 0, ⟨h1, h2⟩, _ => by
    refine ⟨h1, fun h => ?_⟩
    cases u with
    | nil => simp at h
    | cons v x => exact Int.lt_of_lt_of_le (by show t.f1 < t.f1 + 1; omega) h2.1
  | b, t :: u, i + 1, ⟨h1, h2⟩, h => by
    obtain ⟨q1, q2⟩ := Rise.at_ i h2 (by simpa using h)
    refine ⟨?_, fun h => q2 (by simpa using h)⟩
    have : t.f1 + 1 ≤ (u.getD i z53).f1 := q1
    show b ≤ (u.getD i z53).f1
    omega
theorem readP_step (f : Nat) (l : List Int) (p : Nat) (acc : List S53) : readP (f + 1) l p acc =
    if l.drop (runL blkC l) = [] then (acc ++ [⟨0, ((p + runL blkC l : Nat) : Int), ⟨#[]⟩, 0⟩], 0, 0)
    else if (nextP (l.drop (runL blkC l))).2.2.2.2 ≠ 0 then ([], ((p + runL blkC l : Nat) : Int), (nextP (l.drop (runL blkC l))).2.2.2.2)
    else readP f ((l.drop (runL blkC l)).drop (nextP (l.drop (runL blkC l))).2.2.2.1) (p + runL blkC l + (nextP (l.drop (runL blkC l))).2.2.2.1) (acc ++ [⟨(nextP (l.drop (runL blkC l))).1, ((p + runL blkC l : Nat) : Int), (nextP (l.drop (runL blkC l))).2.1, (nextP (l.drop (runL blkC l))).2.2.1⟩]) := rfl
theorem next_pos {l : List Int} (h : (nextP l).2.2.2.2 = 0) : 1 ≤ (nextP l).2.2.2.1 := by
  apply Decidable.byContradiction
  intro hn
  have := (next_ok l).1 (by omega)
  rw [this] at h
  simp [failT] at h
/-- What Read's answer is like. -/
theorem readP_shape : ∀ (f : Nat) (l : List Int) (p : Nat) (acc : List S53), l.length < f →
    ((readP f l p acc).2.2 = 0 ∧ ∃ M, (readP f l p acc).1 = acc ++ M ++ [⟨0, ((p + l.length : Nat) : Int), ⟨#[]⟩, 0⟩] ∧ Rise p (M ++ [⟨0, ((p + l.length : Nat) : Int), ⟨#[]⟩, 0⟩]))
    ∨ ((readP f l p acc).2.2 ≠ 0 ∧ (readP f l p acc).1 = [] ∧ (p : Int) ≤ (readP f l p acc).2.1 ∧ (readP f l p acc).2.1 ≤ ((p + l.length : Nat) : Int))
  | 0, l, p, acc, h => by omega
  | f + 1, l, p, acc, h => by
    rw [readP_step]
    have hb := runL_le blkC l
    by_cases he : l.drop (runL blkC l) = []
    · have hl : l.length = runL blkC l := by
        have := congrArg List.length he
        simp at this
        omega
      rw [if_pos he]
      left
      refine ⟨rfl, [], by rw [hl]; simp, ?_⟩
      refine ⟨?_, trivial⟩
      show (p : Int) ≤ ((p + l.length : Nat) : Int)
      omega
    · rw [if_neg he]
      obtain ⟨n1, n2⟩ := next_ok (l.drop (runL blkC l))
      rw [List.length_drop] at n2
      by_cases hc : (nextP (l.drop (runL blkC l))).2.2.2.2 ≠ 0
      · rw [if_pos hc]
        right
        refine ⟨hc, rfl, ?_, ?_⟩
        · show (p : Int) ≤ ((p + runL blkC l : Nat) : Int)
          omega
        · show ((p + runL blkC l : Nat) : Int) ≤ _
          omega
      · rw [if_neg hc]
        have hm := next_pos (Decidable.not_not.1 hc)
        obtain ⟨N, hN⟩ : ∃ N, nextP (l.drop (runL blkC l)) = N := ⟨_, rfl⟩
        rw [hN] at n2 hm ⊢
        obtain ⟨b, hbb⟩ : ∃ b, runL blkC l = b := ⟨_, rfl⟩
        rw [hbb] at hb n2 ⊢
        have hlen : ((l.drop b).drop N.2.2.2.1).length = l.length - b - N.2.2.2.1 := by rw [List.length_drop, List.length_drop]
        have hsum : p + b + N.2.2.2.1 + ((l.drop b).drop N.2.2.2.1).length = p + l.length := by omega
        have := readP_shape f ((l.drop b).drop N.2.2.2.1) (p + b + N.2.2.2.1) (acc ++ [⟨N.1, ((p + b : Nat) : Int), N.2.1, N.2.2.1⟩]) (by omega)
        rw [hsum] at this
        rcases this with ⟨q1, M, q2, q3⟩ | ⟨q1, q2, q3, q4⟩
        · left
          refine ⟨q1, ⟨N.1, ((p + b : Nat) : Int), N.2.1, N.2.2.1⟩ :: M, by rw [q2]; simp, ?_⟩
          refine ⟨?_, Rise.mono ?_ q3⟩
          · show (p : Int) ≤ ((p + b : Nat) : Int)
            omega
          · show ((p + b : Nat) : Int) + 1 ≤ _
            omega
        · right
          exact ⟨q1, q2, by omega, q4⟩
/-- A token moved. -/
def sh (n : Nat) (t : S53) : S53 := ⟨t.f0, t.f1 + n, t.f2, t.f3⟩
def shT (n : Nat) (r : List S53 × Int × Int) : List S53 × Int × Int := (r.1.map (sh n), if r.2.2 = 0 then r.2.1 else r.2.1 + n, r.2.2)
theorem readP_shift (n : Nat) : ∀ (f : Nat) (l : List Int) (p : Nat) (acc : List S53), readP f l (p + n) (acc.map (sh n)) = shT n (readP f l p acc)
  | 0, l, p, acc => rfl
  | f + 1, l, p, acc => by
    rw [readP_step, readP_step]
    obtain ⟨b, hb⟩ : ∃ b, runL blkC l = b := ⟨_, rfl⟩
    rw [hb]
    have e1 : ((p + n + b : Nat) : Int) = ((p + b : Nat) : Int) + n := by omega
    by_cases he : l.drop b = []
    · rw [if_pos he, if_pos he, e1]
      simp [shT, sh]
    · rw [if_neg he, if_neg he]
      obtain ⟨N, hN⟩ : ∃ N, nextP (l.drop b) = N := ⟨_, rfl⟩
      rw [hN]
      by_cases hc : N.2.2.2.2 ≠ 0
      · rw [if_pos hc, if_pos hc, e1]
        simp only [shT, List.map_nil]
        rw [if_neg hc]
      · rw [if_neg hc, if_neg hc]
        have := readP_shift n f ((l.drop b).drop N.2.2.2.1) (p + b + N.2.2.2.1) (acc ++ [⟨N.1, ((p + b : Nat) : Int), N.2.1, N.2.2.1⟩])
        rw [← this, List.map_append, show p + n + b + N.2.2.2.1 = p + b + N.2.2.2.1 + n by omega, e1]
        rfl
theorem readP_fuel : ∀ (f g : Nat) (l : List Int) (p : Nat) (acc : List S53), l.length < f → l.length < g → readP f l p acc = readP g l p acc
  | 0, g, l, p, acc, h, _ => by omega
  | f + 1, 0, l, p, acc, _, h => by omega
  | f + 1, g + 1, l, p, acc, h, h' => by
    rw [readP_step, readP_step]
    have hb := runL_le blkC l
    by_cases he : l.drop (runL blkC l) = []
    · rw [if_pos he, if_pos he]
    · rw [if_neg he, if_neg he]
      by_cases hc : (nextP (l.drop (runL blkC l))).2.2.2.2 ≠ 0
      · rw [if_pos hc, if_pos hc]
      · rw [if_neg hc, if_neg hc]
        have hm := next_pos (Decidable.not_not.1 hc)
        have hl : 0 < (l.drop (runL blkC l)).length := List.length_pos_iff.2 he
        exact readP_fuel f g _ _ _ (by rw [List.length_drop]; rw [List.length_drop] at hl ⊢; omega) (by rw [List.length_drop]; rw [List.length_drop] at hl ⊢; omega)
/-- n spaces. -/
def spaces (n : Nat) : ByteArray := ⟨(List.replicate n (32 : UInt8)).toArray⟩
theorem spaces_bytes (n : Nat) (s : ByteArray) : bytesOf (spaces n ++ s) = List.replicate n 32 ++ bytesOf s := by
  unfold bytesOf spaces
  rw [ByteArray.data_append, Array.toList_append, List.map_append, List.map_replicate]
  rfl
theorem spaces_snoc (n : Nat) : spaces (n + 1) = spaces n ++ (⟨#[32]⟩ : ByteArray) := by
  apply ByteArray.ext; apply Array.toList_inj.1
  unfold spaces
  rw [ByteArray.data_append, Array.toList_append]
  show List.replicate (n + 1) 32 = List.replicate n 32 ++ [32]
  exact List.replicate_succ'
theorem spaces_size (n : Nat) : (spaces n).size = n := by
  show (List.replicate n (32 : UInt8)).toArray.size = n
  simp
theorem valid_spaces (n : Nat) (s : ByteArray) : validD (spaces n ++ s).data.toList = validD s.data.toList := by
  rw [ByteArray.data_append, Array.toList_append]
  unfold spaces
  induction n with
  | zero => rfl
  | succ n ih =>
    show validD ((32 : UInt8) :: (List.replicate n 32 ++ s.data.toList)) = _
    rw [validD_cons _ _ (by decide)]
    exact ih
theorem readP_spaces (f : Nat) : ∀ (n : Nat) (l : List Int) (p : Nat) (acc : List S53), readP f (List.replicate n 32 ++ l) p acc = readP f l (p + n) acc
  | 0, l, p, acc => rfl
  | n + 1, l, p, acc => by
    show readP f (32 :: (List.replicate n 32 ++ l)) p acc = _
    rw [readP_blank f 32 _ p acc (by decide), readP_spaces f n l (p + 1) acc, show p + 1 + n = p + (n + 1) by omega]
/-- Blanks ahead: the same tokens, moved. -/
theorem readT_spaces (n : Nat) (s : ByteArray) (h : n + s.size ≤ 4096) : ∃ p', readT (spaces n ++ s) = ((readT s).1.map (sh n), p', (readT s).2.2) ∧ ((readT s).2.2 = 40 → p' = (readT s).2.1 + n) := by
  have hz : (spaces n ++ s).size = n + s.size := by rw [ByteArray.size_append, spaces_size]
  have a1 : ¬ 4096 < (spaces n ++ s).size := by omega
  have a2 : ¬ 4096 < s.size := by omega
  unfold readT
  simp only [if_neg a1, if_neg a2, valid_spaces]
  cases validD s.data.toList with
  | false => exact ⟨0, rfl, fun h => by simp at h⟩
  | true =>
    simp only [↓reduceIte]
    rw [spaces_bytes, readP_spaces, hz]
    have := readP_shift n (n + s.size + 1) (bytesOf s) 0 []
    rw [List.map_nil] at this
    rw [this, readP_fuel (n + s.size + 1) (s.size + 1) (bytesOf s) 0 [] (by rw [bytesOf_length]; omega) (by rw [bytesOf_length]; omega)]
    refine ⟨_, rfl, fun h => ?_⟩
    rw [if_neg (by omega)]
theorem readT_shape (s : ByteArray) (h : s.size ≤ 4096) :
    ((readT s).2.2 = 0 ∧ ∃ M, (readT s).1 = M ++ [⟨0, (s.size : Int), ⟨#[]⟩, 0⟩] ∧ Rise 0 (readT s).1)
    ∨ ((readT s).2.2 ≠ 0 ∧ (readT s).1 = [] ∧ 0 ≤ (readT s).2.1 ∧ (readT s).2.1 ≤ (s.size : Int)) := by
  unfold readT
  rw [if_neg (by omega)]
  cases validD s.data.toList with
  | false => exact .inr ⟨by simp, rfl, by simp, by simp⟩
  | true =>
    simp only [↓reduceIte]
    have := readP_shape (s.size + 1) (bytesOf s) 0 [] (by rw [bytesOf_length]; omega)
    rw [bytesOf_length, Nat.zero_add] at this
    rcases this with ⟨q1, M, q2, q3⟩ | q
    · left
      rw [List.nil_append] at q2
      exact ⟨q1, M, q2, by rw [q2]; exact q3⟩
    · exact .inr q
theorem readP_lenP : ∀ (f : Nat) (l : List Int) (p : Nat) (acc : List S53), (readP f l p acc).1.length ≤ acc.length + f
  | 0, l, p, acc => by simp [readP]
  | f + 1, l, p, acc => by
    simp only [readP]
    split
    · simp
    · split
      · simp
      · have := readP_lenP f ((l.drop (runL blkC l)).drop (nextP (l.drop (runL blkC l))).2.2.2.1) (p + runL blkC l + (nextP (l.drop (runL blkC l))).2.2.2.1) (acc ++ [⟨(nextP (l.drop (runL blkC l))).1, ((p + runL blkC l : Nat) : Int), (nextP (l.drop (runL blkC l))).2.1, (nextP (l.drop (runL blkC l))).2.2.1⟩])
        simp only [List.length_append, List.length_singleton] at this
        omega
theorem readT_lenP (s : ByteArray) : (readT s).1.length ≤ s.size + 1 := by
  unfold readT
  split
  · simp
  · split
    · have := readP_lenP (s.size + 1) (bytesOf s) 0 []
      simpa using this
    · simp
end Go.Proofs.YtoclbmepgeelmaaDoor.Utf
