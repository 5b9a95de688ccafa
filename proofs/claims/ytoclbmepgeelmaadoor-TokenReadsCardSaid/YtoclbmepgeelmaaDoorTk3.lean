import Derived.Test.YtoclbmepgeelmaaDoorTk1
import Derived.Test.YtoclbmepgeelmaaDoorPRey4
namespace Go.Proofs.YtoclbmepgeelmaaDoor.Utf
set_option linter.unusedVariables false
set_option linter.unusedSimpArgs false
open Go.RowKit Go.Lib Go.Proofs.YtoclbmepgeelmaaDoorW.PrintWords Go.Proofs.YtoclbmepgeelmaaDoorW.PrintLast Go.Proofs.YtoclbmepgeelmaaDoorW.PrintMore Go.Proofs.YtoclbmepgeelmaaDoor.PRa Go.Proofs.YtoclbmepgeelmaaDoor.PRe

/-! ### The document's functions, by these -/
theorem ev_class (s : ByteArray) (p : Nat) (hs : s.size ≤ 100000) : Ev (fun k => hindsightref19_class.f k s (p : Int)) (clsAt ((bytesOf s).drop p)) := by
  by_cases h : s.size ≤ p
  · rw [List.drop_eq_nil_of_le (by rw [bytesOf_length]; exact h)]
    exact Ev.congr (fun k => by unfold hindsightref19_class.f; rw [if_pos (by omega)]) (Ev.now 0)
  · rw [bytes_rd s p (by omega)]
    have hb := bt_range s (p : Int)
    refine Ev.congr (f := fun k => (PRb.hindsightref05_Class.f k (wrap64 (bt s (p : Int)))).bind fun t => some t) (fun k => ?_) ?_
    · unfold hindsightref19_class.f; rw [if_neg (by omega), if_pos (by omega), if_pos (by omega)]
    · rw [wrap64_id (by omega) (by omega)]
      exact Ev.bind (Ev.of (PRb.hindsightref05_Class.mono _) (rclass_f _)) (Ev.now _)
def closeR (i : Nat) : Option Nat → Int
  | none => -1
  | some q => ((i + q : Nat) : Int)
theorem ev_closing0 (s : ByteArray) (hs : s.size ≤ 100000) : ∀ (m i : Nat), s.size - i ≤ m → i ≤ s.size + 1 → Ev (fun k => hindsightref19_closing.l0 k s (i : Int)) (closeR i (closeL ((bytesOf s).drop i))) := by
  intro m
  induction m using Nat.strongRecOn with
  | _ m ih =>
  intro i hm hi
  have w1 : wrap64 ((i : Int) + 1) = ((i + 1 : Nat) : Int) := by rw [wrap64_id (by omega) (by omega)]; omega
  have w2 : wrap64 (((i + 1 : Nat) : Int) + 1) = ((i + 2 : Nat) : Int) := by rw [wrap64_id (by omega) (by omega)]; omega
  by_cases h : i < s.size
  · have hd := bytes_rd s i h
    by_cases c : bt s (i : Int) = 39
    · by_cases h1 : i + 1 < s.size
      · have hd1 := bytes_rd s (i + 1) h1
        by_cases c1 : bt s ((i + 1 : Nat) : Int) = 39
        · have e : closeL ((bytesOf s).drop i) = (closeL ((bytesOf s).drop (i + 2))).map (· + 2) := by
            rw [hd, hd1, c, c1]; simp [closeL]
          have hr : closeR i (closeL ((bytesOf s).drop i)) = closeR (i + 2) (closeL ((bytesOf s).drop (i + 2))) := by
            rw [e]; cases closeL ((bytesOf s).drop (i + 2)) <;> simp [closeR]; omega
          rw [hr]
          refine Ev.step (f := fun k => hindsightref19_closing.l0 k s ((i + 2 : Nat) : Int)) (fun k => ?_) (ih (m - 1) (by omega) (i + 2) (by omega) (by omega))
          simp only [hindsightref19_closing.l0]
          rw [w1, if_pos (by omega), if_pos (by omega), if_pos c, if_pos (by omega), if_pos (by omega), if_pos c1, w2]
        · have e : closeL ((bytesOf s).drop i) = some 0 := by
            rw [hd, hd1, c]; simp only [closeL, ↓reduceIte]; rw [if_neg c1]
          rw [e]
          refine Ev.step (f := fun k => some (i : Int)) (fun k => ?_) (Ev.now _)
          simp only [hindsightref19_closing.l0]
          rw [w1, if_pos (by omega), if_pos (by omega), if_pos c, if_pos (by omega), if_pos (by omega), if_neg c1]
      · have e : closeL ((bytesOf s).drop i) = some 0 := by
          rw [hd, c, List.drop_eq_nil_of_le (by rw [bytesOf_length]; omega)]; simp [closeL]
        rw [e]
        refine Ev.step (f := fun k => some (i : Int)) (fun k => ?_) (Ev.now _)
        simp only [hindsightref19_closing.l0]
        rw [w1, if_pos (by omega), if_pos (by omega), if_pos c, if_neg (by omega)]
    · have hr : closeR i (closeL ((bytesOf s).drop i)) = closeR (i + 1) (closeL ((bytesOf s).drop (i + 1))) := by
        rw [hd, closeL_other c]; cases closeL ((bytesOf s).drop (i + 1)) <;> simp [closeR]; omega
      rw [hr]
      refine Ev.step (f := fun k => hindsightref19_closing.l0 k s ((i + 1 : Nat) : Int)) (fun k => ?_) (ih (m - 1) (by omega) (i + 1) (by omega) (by omega))
      simp only [hindsightref19_closing.l0]
      rw [w1, if_pos (by omega), if_pos (by omega), if_neg c]
  · rw [List.drop_eq_nil_of_le (by rw [bytesOf_length]; omega)]
    refine Ev.step (f := fun k => some (-1 : Int)) (fun k => ?_) (Ev.now _)
    simp only [hindsightref19_closing.l0]
    rw [if_neg (by omega)]
theorem ev_closing (s : ByteArray) (p : Nat) (hs : s.size ≤ 100000) (hp : p ≤ s.size) : Ev (fun k => hindsightref19_closing.f k s (p : Int)) (closeR (p + 1) (closeL ((bytesOf s).drop (p + 1)))) := by
  refine Ev.congr (f := fun k => hindsightref19_closing.l0 k s ((p + 1 : Nat) : Int)) (fun k => ?_) (ev_closing0 s hs _ (p + 1) (Nat.le_refl _) (by omega))
  unfold hindsightref19_closing.f
  rw [wrap64_id (by omega) (by omega)]; rfl
theorem digit_fin : ∀ n : Fin 256, hindsightref19_digit.f 2 (n.val : Int) = some (hexZ (n.val : Int)) := by decide +kernel
theorem ev_digit (c : Int) (h0 : 0 ≤ c) (h1 : c ≤ 255) : Ev (fun k => hindsightref19_digit.f k c) (hexZ c) := by
  have k2 : hindsightref19_digit.f 2 c = some (hexZ c) := by
    have := digit_fin ⟨c.toNat, by omega⟩
    simpa [Int.toNat_of_nonneg h0] using this
  exact Ev.of (hindsightref19_digit.mono _) k2
def bytesR (e : Nat) (out : List Int) : Option (List Int) → ByteArray × Int
  | none => (⟨#[]⟩, 0)
  | some o => (strOfNums (out ++ o), ((e + 1 : Nat) : Int))
theorem ev_bytes0 (s : ByteArray) (hs : s.size ≤ 100000) (e : Nat) (he : e < s.size) : ∀ (m i : Nat) (out : List Int), e = i + 2 * m → out.length ≤ i →
    Ev (fun k => hindsightref19_bytes.l0 k s (e : Int) out (i : Int)) (bytesR e out (unhexL (((bytesOf s).drop i).take (2 * m)))) := by
  intro m
  induction m with
  | zero =>
    intro i out hi ho
    have : (((bytesOf s).drop i).take (2 * 0)) = [] := by simp
    rw [this]
    refine Ev.step (f := fun k => some (bytesR e out (unhexL []))) (fun k => ?_) (Ev.now _)
    simp only [hindsightref19_bytes.l0]
    rw [if_neg (by omega), wrap64_id (by omega) (by omega)]
    simp [unhexL, bytesR]
  | succ m ih =>
    intro i out hi ho
    have w1 : wrap64 ((i : Int) + 1) = ((i + 1 : Nat) : Int) := by rw [wrap64_id (by omega) (by omega)]; omega
    have w2 : wrap64 ((i : Int) + 2) = ((i + 2 : Nat) : Int) := by rw [wrap64_id (by omega) (by omega)]; omega
    have b0 := bt_range s (i : Int)
    have b1 := bt_range s ((i + 1 : Nat) : Int)
    have hd : ((bytesOf s).drop i).take (2 * (m + 1)) = bt s (i : Int) :: bt s ((i + 1 : Nat) : Int) :: ((bytesOf s).drop (i + 2)).take (2 * m) := by
      rw [bytes_rd s i (by omega), bytes_rd s (i + 1) (by omega), show 2 * (m + 1) = 2 * m + 1 + 1 by omega]; rfl
    rw [hd]
    have h0 := hexZ_le (bt s (i : Int))
    have h1 := hexZ_le (bt s ((i + 1 : Nat) : Int))
    refine Ev.step (f := fun k => (hindsightref19_digit.f k (bt s (i : Int))).bind fun t124 => ((hindsightref19_digit.f k (bt s ((i + 1 : Nat) : Int))).bind fun t125 => (if t124 < 0 then (some ((⟨#[]⟩ : ByteArray), 0)) else (if t125 < 0 then (some ((⟨#[]⟩ : ByteArray), 0)) else (hindsightref19_bytes.l0 k s (e : Int) (out ++ [(wrap64 ((wrap64 (16 * t124)) + t125)) % 256]) ((i + 2 : Nat) : Int)))))) (fun k => ?_) ?_
    · simp only [hindsightref19_bytes.l0]
      have q0 : 0 ≤ ((i + 1 : Nat) : Int) := by omega
      have q1 : ((i + 1 : Nat) : Int) < (s.size : Int) := by omega
      have q2 : out.length < 140737488355328 := by omega
      rw [if_pos (by omega), if_pos (by omega), if_pos (by omega), w1, w2]
      simp only [if_pos q0, if_pos q1, if_pos q2]
    · refine Ev.bind (ev_digit _ b0.1 b0.2) (Ev.bind (ev_digit _ b1.1 b1.2) ?_)
      by_cases c0 : hexZ (bt s (i : Int)) < 0
      · refine Ev.congr (fun k => if_pos c0) ?_
        simp only [unhexL, bytesR]
        rw [if_pos c0]
        exact Ev.now _
      refine Ev.congr (fun k => if_neg c0) ?_
      by_cases c1 : hexZ (bt s ((i + 1 : Nat) : Int)) < 0
      · refine Ev.congr (fun k => if_pos c1) ?_
        simp only [unhexL, bytesR]
        rw [if_neg c0, if_pos c1]
        exact Ev.now _
      refine Ev.congr (fun k => if_neg c1) ?_
      have hv : wrap64 ((wrap64 (16 * hexZ (bt s (i : Int)))) + hexZ (bt s ((i + 1 : Nat) : Int))) % 256 = 16 * hexZ (bt s (i : Int)) + hexZ (bt s ((i + 1 : Nat) : Int)) := by
        rw [show wrap64 (16 * hexZ (bt s (i : Int))) = 16 * hexZ (bt s (i : Int)) from wrap64_id (by omega) (by omega), wrap64_id (by omega) (by omega)]; omega
      rw [hv]
      have hr : bytesR e out (unhexL (bt s (i : Int) :: bt s ((i + 1 : Nat) : Int) :: ((bytesOf s).drop (i + 2)).take (2 * m))) = bytesR e (out ++ [16 * hexZ (bt s (i : Int)) + hexZ (bt s ((i + 1 : Nat) : Int))]) (unhexL (((bytesOf s).drop (i + 2)).take (2 * m))) := by
        simp only [unhexL]
        rw [if_neg c0, if_neg c1]
        cases unhexL (((bytesOf s).drop (i + 2)).take (2 * m)) <;> simp [bytesR]
      rw [hr]
      exact ih (i + 2) _ (by omega) (by simp; omega)
/-- From the quote on: the bytes' text, and the place behind it. -/
def bytesQ (p : Nat) (l : List Int) : ByteArray × Int :=
  match closeL l with
  | none => (⟨#[]⟩, 0)
  | some k => bytesR (p + 1 + k) [] (unhexL (l.take k))
theorem ev_bytes (s : ByteArray) (p : Nat) (hs : s.size ≤ 100000) (hp : p < s.size) : Ev (fun k => hindsightref19_bytes.f k s (p : Int)) (bytesQ p ((bytesOf s).drop (p + 1))) := by
  have hc := ev_closing s p hs (by omega)
  have hl := closeL_lt _ ((bytesOf s).drop (p + 1)) (Nat.le_refl _)
  rw [List.length_drop, bytesOf_length] at hl
  unfold bytesQ
  cases hq : closeL ((bytesOf s).drop (p + 1)) with
  | none =>
    rw [hq] at hc
    refine Ev.congr (fun k => by unfold hindsightref19_bytes.f; rfl) (Ev.bind hc ?_)
    refine Ev.congr (fun k => if_pos (by simp [closeR])) ?_
    refine Ev.step (f := fun k => some ((⟨#[]⟩ : ByteArray), (0 : Int))) (fun k => ?_) (Ev.now _)
    simp [hindsightref19_bytes.j0]
  | some q =>
    rw [hq] at hc
    have hq2 := hl q hq
    show Ev _ (bytesR (p + 1 + q) [] (unhexL (List.take q (List.drop (p + 1) (bytesOf s)))))
    refine Ev.congr (fun k => by unfold hindsightref19_bytes.f; rfl) (Ev.bind hc ?_)
    refine Ev.congr (fun k => if_neg (by simp only [closeR]; omega)) ?_
    have ew : wrap64 (closeR (p + 1) (some q) - (p : Int)) = ((q + 1 : Nat) : Int) := by
      simp only [closeR]; rw [wrap64_id (by omega) (by omega)]; omega
    have ec : closeR (p + 1) (some q) = ((p + 1 + q : Nat) : Int) := rfl
    rw [ew, ec, Int.tmod_eq_emod_of_nonneg (by omega)]
    by_cases hev : q % 2 = 0
    · rw [show ((((q + 1 : Nat) : Int) % 2) == 0) = false by rw [beq_eq_false_iff_ne]; omega]
      refine Ev.step (f := fun k => hindsightref19_bytes.l0 k s ((p + 1 + q : Nat) : Int) [] ((p + 1 : Nat) : Int)) (fun k => ?_) ?_
      · simp only [hindsightref19_bytes.j0]
        rw [if_neg (by simp), wrap64_id (by omega) (by omega)]; rfl
      · have := ev_bytes0 s hs (p + 1 + q) (by omega) (q / 2) (p + 1) [] (by omega) (by simp)
        rw [show 2 * (q / 2) = q by omega] at this
        exact this
    · rw [show ((((q + 1 : Nat) : Int) % 2) == 0) = true by rw [beq_iff_eq]; omega]
      have : unhexL (((bytesOf s).drop (p + 1)).take q) = none := unhexL_odd (q / 2) _ (by rw [List.length_take, List.length_drop, bytesOf_length]; omega)
      simp only [this, bytesR]
      refine Ev.step (f := fun k => some ((⟨#[]⟩ : ByteArray), (0 : Int))) (fun k => ?_) (Ev.now _)
      simp [hindsightref19_bytes.j0]
/-- What the document's token gives of a token. -/
def tokR (p : Nat) (r : Tk) : Int × Int × ByteArray × Int × Int × Int :=
  if r.2.2.2.1 = 0 then (0, 0, ⟨#[]⟩, 0, 0, 40) else (r.1, (p : Int), r.2.1, r.2.2.1, ((p + r.2.2.2.1 : Nat) : Int), r.2.2.2.2)
theorem tokR_fail (p : Nat) : tokR p failT = (0, 0, ⟨#[]⟩, 0, 0, 40) := rfl
abbrev fail6 : Int × Int × ByteArray × Int × Int × Int := (0, 0, ⟨#[]⟩, 0, 0, 40)
def wordR (s : ByteArray) (p tt : Nat) (nb : Bool) : Int × Int × ByteArray × Int × Int × Int :=
  if nb = true then (if clsAt ((bytesOf s).drop tt) = 2 then fail6 else (2, (p : Int), ⟨#[]⟩, (numRE (s.extract p tt)).1, (tt : Int), (numRE (s.extract p tt)).2))
  else (if nameE (s.extract p tt) = 0 then (1, (p : Int), nameR (s.extract p tt), 0, (tt : Int), nameE (s.extract p tt)) else fail6)
theorem ev_name (X : ByteArray) : Ev (fun k => PRb.hindsightref05_Name.f k X) (nameR X, nameE X) := by
  obtain ⟨k, hk⟩ := rname_f X
  exact Ev.of (PRb.hindsightref05_Name.mono _) hk
theorem ev_num (X : ByteArray) (h : (X.size : Int) ≤ 1000000) : Ev (fun k => PRb.hindsightref05_Number.f k X) (numRE X) := by
  obtain ⟨k, hk⟩ := rnum_f X h
  exact Ev.of (PRb.hindsightref05_Number.mono _) hk
theorem ev_unq (X : ByteArray) (h : (X.size : Int) ≤ 100000) : Ev (fun k => PRb.hindsightref05_Unquote.f k X) (unqR X, unqE X) := by
  obtain ⟨k, hk⟩ := runq_f X h
  exact Ev.of (PRb.hindsightref05_Unquote.mono _) hk
theorem ev_word_j1 (s : ByteArray) (hs : s.size ≤ 100000) (p tt : Nat) (nb : Bool) (h1 : p ≤ tt) (h2 : tt ≤ s.size) : Ev (fun k => hindsightref19_word.j1 k s (p : Int) (tt : Int) nb) (wordR s p tt nb) := by
  have hz : (s.extract p tt).size ≤ s.size := by rw [ByteArray.size_extract]; omega
  unfold wordR
  cases nb with
  | true =>
    rw [if_pos rfl]
    refine Ev.step (f := fun k => (hindsightref19_class.f k s (tt : Int)).bind fun t144 => (if t144 = 2 then some fail6 else ((PRb.hindsightref05_Number.f k (s.extract p tt)).bind fun bt145 => some (2, (p : Int), (⟨#[]⟩ : ByteArray), bt145.1, (tt : Int), bt145.2)))) (fun k => ?_) ?_
    · have q1 : 0 ≤ (p : Int) := by omega
      have q2 : (p : Int) ≤ (tt : Int) := by omega
      have q3 : (tt : Int) ≤ (s.size : Int) := by omega
      simp only [hindsightref19_word.j1, ↓reduceIte, if_pos q1, if_pos q2, if_pos q3, Int.toNat_natCast]
    · refine Ev.bind (ev_class s tt hs) ?_
      by_cases c : clsAt ((bytesOf s).drop tt) = 2
      · rw [if_pos c]
        exact Ev.congr (fun k => if_pos c) (Ev.now _)
      · rw [if_neg c]
        refine Ev.congr (fun k => if_neg c) (Ev.bind (ev_num _ (by omega)) (Ev.now _))
  | false =>
    rw [if_neg (by simp)]
    refine Ev.step (f := fun k => (PRb.hindsightref05_Name.f k (s.extract p tt)).bind fun bt147 => (if bt147.2 = 0 then some (1, (p : Int), bt147.1, 0, (tt : Int), bt147.2) else some fail6)) (fun k => ?_) ?_
    · have q1 : 0 ≤ (p : Int) := by omega
      have q2 : (p : Int) ≤ (tt : Int) := by omega
      have q3 : (tt : Int) ≤ (s.size : Int) := by omega
      simp only [hindsightref19_word.j1, Bool.false_eq_true, ↓reduceIte, if_pos q1, if_pos q2, if_pos q3, Int.toNat_natCast]
    · refine Ev.bind (ev_name _) ?_
      by_cases c : nameE (s.extract p tt) = 0
      · rw [show (if nameE (s.extract p tt) = 0 then ((1, (p : Int), nameR (s.extract p tt), 0, (tt : Int), nameE (s.extract p tt)) : Int × Int × ByteArray × Int × Int × Int) else fail6) = (1, (p : Int), nameR (s.extract p tt), 0, (tt : Int), nameE (s.extract p tt)) from if_pos c]
        refine Ev.congr (f := fun _ => some (1, (p : Int), nameR (s.extract p tt), 0, (tt : Int), nameE (s.extract p tt))) (fun k => ?_) (Ev.now _)
        exact if_pos c
      · rw [show (if nameE (s.extract p tt) = 0 then ((1, (p : Int), nameR (s.extract p tt), 0, (tt : Int), nameE (s.extract p tt)) : Int × Int × ByteArray × Int × Int × Int) else fail6) = fail6 from if_neg c]
        refine Ev.congr (f := fun _ => some fail6) (fun k => ?_) (Ev.now _)
        exact if_neg c
def wcls (nb : Bool) : Int → Bool := if nb then digC else wordC
theorem ev_word_l0 (s : ByteArray) (hs : s.size ≤ 100000) (p : Nat) (nb : Bool) : ∀ (m tt : Nat), s.size - tt ≤ m → p ≤ tt → tt ≤ s.size →
    Ev (fun k => hindsightref19_word.l0 k s (p : Int) (tt : Int) nb) (wordR s p (tt + runL (wcls nb) ((bytesOf s).drop tt)) nb) := by
  intro m
  induction m with
  | zero =>
    intro tt hm h1 h2
    have hn : (bytesOf s).drop tt = [] := List.drop_eq_nil_of_le (by rw [bytesOf_length]; omega)
    have hc := ev_class s tt hs
    have hj := ev_word_j1 s hs p tt nb h1 h2
    rw [hn] at hc ⊢
    rw [runL_nil, Nat.add_zero]
    refine Ev.step (f := fun k => _) (fun k => by simp only [hindsightref19_word.l0]; rfl) (Ev.bind hc ?_)
    refine Ev.congr (fun k => if_neg (by simp [clsAt])) ?_
    by_cases c : nb = true
    · exact Ev.congr (fun k => if_pos c) hj
    · refine Ev.congr (fun k => if_neg c) (Ev.bind hc ?_)
      exact Ev.congr (fun k => if_neg (by simp [clsAt])) hj
  | succ m ih =>
    intro tt hm h1 h2
    by_cases hend : tt = s.size
    · have hn : (bytesOf s).drop tt = [] := List.drop_eq_nil_of_le (by rw [bytesOf_length]; omega)
      have hc := ev_class s tt hs
      have hj := ev_word_j1 s hs p tt nb h1 h2
      rw [hn] at hc ⊢
      rw [runL_nil, Nat.add_zero]
      refine Ev.step (f := fun k => _) (fun k => by simp only [hindsightref19_word.l0]; rfl) (Ev.bind hc ?_)
      refine Ev.congr (fun k => if_neg (by simp [clsAt])) ?_
      by_cases c : nb = true
      · exact Ev.congr (fun k => if_pos c) hj
      · refine Ev.congr (fun k => if_neg c) (Ev.bind hc ?_)
        exact Ev.congr (fun k => if_neg (by simp [clsAt])) hj
    have hd := bytes_rd s tt (by omega)
    have hc := ev_class s tt hs
    have hj := ev_word_j1 s hs p tt nb h1 h2
    have hn := ih (tt + 1) (by omega) (by omega) (by omega)
    have w1 : wrap64 ((tt : Int) + 1) = ((tt + 1 : Nat) : Int) := by rw [wrap64_id (by omega) (by omega)]; omega
    rw [hd] at hc ⊢
    obtain ⟨c, hcc⟩ : ∃ c, classZ (bt s (tt : Int)) = c := ⟨_, rfl⟩
    simp only [clsAt] at hc
    rw [hcc] at hc
    refine Ev.step (f := fun k => _) (fun k => by simp only [hindsightref19_word.l0]; rfl) (Ev.bind hc ?_)
    rw [w1]
    by_cases c3 : c = 3
    · have hy : wcls nb (classZ (bt s (tt : Int))) = true := by rw [hcc, c3]; cases nb <;> rfl
      rw [runL_yes _ hy, show tt + (runL (wcls nb) ((bytesOf s).drop (tt + 1)) + 1) = tt + 1 + runL (wcls nb) ((bytesOf s).drop (tt + 1)) by omega]
      exact Ev.congr (fun k => if_pos c3) hn
    · refine Ev.congr (fun k => if_neg c3) ?_
      by_cases cn : nb = true
      · have hy : wcls nb (classZ (bt s (tt : Int))) = false := by rw [hcc, cn]; simp [wcls, digC, c3]
        rw [runL_no _ hy, Nat.add_zero]
        exact Ev.congr (fun k => if_pos cn) hj
      · refine Ev.congr (fun k => if_neg cn) (Ev.bind hc ?_)
        have cn' : nb = false := by simpa using cn
        by_cases c2 : c = 2
        · have hy : wcls nb (classZ (bt s (tt : Int))) = true := by rw [hcc, cn', c2]; rfl
          rw [runL_yes _ hy, show tt + (runL (wcls nb) ((bytesOf s).drop (tt + 1)) + 1) = tt + 1 + runL (wcls nb) ((bytesOf s).drop (tt + 1)) by omega]
          exact Ev.congr (fun k => if_pos c2) hn
        · have hy : wcls nb (classZ (bt s (tt : Int))) = false := by rw [hcc, cn']; simp [wcls, wordC, c3, c2]
          rw [runL_no _ hy, Nat.add_zero]
          exact Ev.congr (fun k => if_neg c2) hj
theorem ev_word (s : ByteArray) (hs : s.size ≤ 100000) (p : Nat) (hp : p ≤ s.size) : Ev (fun k => hindsightref19_word.f k s (p : Int)) (wordR s p (p + runL (wcls (clsAt ((bytesOf s).drop p) == 3)) ((bytesOf s).drop p)) (clsAt ((bytesOf s).drop p) == 3)) :=
  Ev.congr (fun k => by unfold hindsightref19_word.f; rfl) (Ev.bind (ev_class s p hs) (ev_word_l0 s hs p _ _ p (Nat.le_refl _) (Nat.le_refl _) hp))

/-! ### Signs -/
theorem two_eq (s : ByteArray) (p : Nat) (h : p + 2 ≤ s.size) (x y : Nat) (hx : x ≤ 255) (hy : y ≤ 255) : (s.extract p (p + 2)).toList = [UInt8.ofNat x, UInt8.ofNat y] ↔ (bt s (p : Int) = (x : Int) ∧ bt s ((p + 1 : Nat) : Int) = (y : Int)) := by
  have b0 := bt_range s (p : Int)
  have b1 := bt_range s ((p + 1 : Nat) : Int)
  rw [ByteArray.toList_eq, ext_nums, strOfNums_data, bytes_rd s p (by omega), bytes_rd s (p + 1) (by omega), show p + 2 - p = 2 by omega]
  simp only [List.take_succ_cons, List.take_zero, List.map_cons, List.map_nil, List.cons.injEq, and_true]
  rw [u8_ofNat b0.1 b0.2 hx, u8_ofNat b1.1 b1.2 hy]
theorem ones_bytes : bytesOf onesS = [40, 41, 44, 59, 46, 42, 43, 45, 47, 37, 61, 60, 62] := by decide
theorem ev_sign_l1 (s : ByteArray) (p : Nat) (hp : p < s.size) : ∀ (m i : Nat), i + m = 13 →
    Ev (fun k => hindsightref19_sign.l1 k s (p : Int) onesS (i : Int)) (if ((bytesOf onesS).drop i).any (fun x => bt s (p : Int) == x) then 1 else 0) := by
  have hz : onesS.size = 13 := rfl
  intro m
  induction m with
  | zero =>
    intro i hi
    rw [List.drop_eq_nil_of_le (by rw [bytesOf_length, hz]; omega)]
    refine Ev.step (f := fun k => some (0 : Int)) (fun k => ?_) (Ev.now _)
    simp only [hindsightref19_sign.l1]
    rw [if_neg (by rw [hz]; omega)]
  | succ m ih =>
    intro i hi
    have w1 : wrap64 ((i : Int) + 1) = ((i + 1 : Nat) : Int) := by rw [wrap64_id (by omega) (by omega)]; omega
    rw [bytes_rd onesS i (by rw [hz]; omega), List.any_cons]
    by_cases c : bt s (p : Int) = bt onesS (i : Int)
    · have : (bt s (p : Int) == bt onesS (i : Int)) = true := by simpa using c
      rw [this, Bool.true_or]
      refine Ev.step (f := fun k => some (1 : Int)) (fun k => ?_) (Ev.now _)
      simp only [hindsightref19_sign.l1]
      rw [if_pos (by rw [hz]; omega), if_pos (by omega), if_pos (by omega), if_pos (by omega), if_pos c]
    · have : (bt s (p : Int) == bt onesS (i : Int)) = false := by simpa using c
      rw [this, Bool.false_or]
      refine Ev.step (f := fun k => hindsightref19_sign.l1 k s (p : Int) onesS ((i + 1 : Nat) : Int)) (fun k => ?_) (ih (i + 1) (by omega))
      simp only [hindsightref19_sign.l1]
      rw [if_pos (by rw [hz]; omega), if_pos (by omega), if_pos (by omega), if_pos (by omega), if_neg c, w1]
abbrev twosS : List ByteArray := [(⟨#[60, 61]⟩ : ByteArray), (⟨#[62, 61]⟩ : ByteArray), (⟨#[60, 62]⟩ : ByteArray), (⟨#[124, 124]⟩ : ByteArray)]
theorem sign_step (s : ByteArray) (p : Nat) (hp : p < s.size) (hs : s.size ≤ 100000) (i x y : Nat) (hi : i < 4) (hx : x ≤ 255) (hy : y ≤ 255) (hr : (rdOf ByteArray.empty twosS (i : Int)).toList = [UInt8.ofNat x, UInt8.ofNat y]) (k : Nat) :
    hindsightref19_sign.l0 (k + 1) s (p : Int) twosS (i : Int) = if p + 2 ≤ s.size ∧ bt s (p : Int) = (x : Int) ∧ bt s ((p + 1 : Nat) : Int) = (y : Int) then some 2 else hindsightref19_sign.l0 k s (p : Int) twosS ((i + 1 : Nat) : Int) := by
  have w1 : wrap64 ((i : Int) + 1) = ((i + 1 : Nat) : Int) := by rw [wrap64_id (by omega) (by omega)]; omega
  have w2 : wrap64 ((p : Int) + 2) = ((p + 2 : Nat) : Int) := by rw [wrap64_id (by omega) (by omega)]; omega
  simp only [hindsightref19_sign.l0]
  rw [if_pos (by omega), w1, w2]
  by_cases h : p + 2 ≤ s.size
  · rw [if_pos (by omega), if_pos (by omega), if_pos (by omega), if_pos (by omega), if_pos (show (i : Int) < (twosS.length : Int) by show (i : Int) < 4; omega), hr, Int.toNat_natCast, Int.toNat_natCast]
    have := two_eq s p h x y hx hy
    by_cases c : bt s (p : Int) = (x : Int) ∧ bt s ((p + 1 : Nat) : Int) = (y : Int)
    · rw [if_pos (this.2 c), if_pos ⟨h, c⟩]
    · rw [if_neg (fun q => c (this.1 q)), if_neg (fun q => c q.2)]
  · rw [if_neg (by omega), if_neg (fun q => h q.1)]
theorem ev_sign (s : ByteArray) (p : Nat) (hp : p < s.size) (hs : s.size ≤ 100000) : Ev (fun k => hindsightref19_sign.f k s (p : Int)) ((sgnN ((bytesOf s).drop p) : Nat) : Int) := by
  have s0 := sign_step s p hp hs 0 60 61 (by omega) (by omega) (by omega) (by rw [ByteArray.toList_eq]; rfl)
  have s1 := sign_step s p hp hs 1 62 61 (by omega) (by omega) (by omega) (by rw [ByteArray.toList_eq]; rfl)
  have s2 := sign_step s p hp hs 2 60 62 (by omega) (by omega) (by omega) (by rw [ByteArray.toList_eq]; rfl)
  have s3 := sign_step s p hp hs 3 124 124 (by omega) (by omega) (by omega) (by rw [ByteArray.toList_eq]; rfl)
  have hl := ev_sign_l1 s p hp 13 0 rfl
  rw [List.drop_zero, ones_bytes] at hl
  have h4 : ∀ k, hindsightref19_sign.l0 (k + 1) s (p : Int) twosS ((4 : Nat) : Int) = hindsightref19_sign.l1 k s (p : Int) onesS ((0 : Nat) : Int) := by
    intro k
    simp only [hindsightref19_sign.l0]
    rw [if_neg (by omega)]; rfl
  refine Ev.congr (f := fun k => hindsightref19_sign.l0 k s (p : Int) twosS ((0 : Nat) : Int)) (fun k => by unfold hindsightref19_sign.f; rfl) ?_
  have hone : ∀ l, (bytesOf s).drop p = bt s (p : Int) :: l → (if oneL (bt s (p : Int)) then (1 : Nat) else 0 : Nat) = (if oneL (bt s (p : Int)) then 1 else 0 : Nat) := fun _ _ => rfl
  have e1 : (((if oneL (bt s (p : Int)) then 1 else 0 : Nat) : Nat) : Int) = if ([40, 41, 44, 59, 46, 42, 43, 45, 47, 37, 61, 60, 62] : List Int).any (fun x => bt s (p : Int) == x) then 1 else 0 := by
    unfold oneL; split <;> rfl
  by_cases h2 : p + 2 ≤ s.size
  · have hd : sgnN ((bytesOf s).drop p) = if twoL (bt s (p : Int)) (bt s ((p + 1 : Nat) : Int)) then 2 else if oneL (bt s (p : Int)) then 1 else 0 := by
      rw [bytes_rd s p hp, bytes_rd s (p + 1) (by omega)]; rfl
    rw [hd]
    obtain ⟨a, ha⟩ : ∃ a, bt s (p : Int) = a := ⟨_, rfl⟩
    obtain ⟨b, hb⟩ : ∃ b, bt s ((p + 1 : Nat) : Int) = b := ⟨_, rfl⟩
    rw [ha, hb] at s0 s1 s2 s3
    rw [ha] at e1 hl
    rw [ha, hb]
    by_cases c0 : a = ((60 : Nat) : Int) ∧ b = ((61 : Nat) : Int)
    · have : twoL a b = true := by rw [c0.1, c0.2]; rfl
      rw [this]
      exact Ev.step (f := fun k => some (2 : Int)) (fun k => by rw [s0, if_pos ⟨h2, c0⟩]) (Ev.now _)
    refine Ev.step (fun k => by rw [s0, if_neg (fun q => c0 q.2)]) ?_
    by_cases c1 : a = ((62 : Nat) : Int) ∧ b = ((61 : Nat) : Int)
    · have : twoL a b = true := by rw [c1.1, c1.2]; rfl
      rw [this]
      exact Ev.step (f := fun k => some (2 : Int)) (fun k => by rw [s1, if_pos ⟨h2, c1⟩]) (Ev.now _)
    refine Ev.step (fun k => by rw [s1, if_neg (fun q => c1 q.2)]) ?_
    by_cases c2 : a = ((60 : Nat) : Int) ∧ b = ((62 : Nat) : Int)
    · have : twoL a b = true := by rw [c2.1, c2.2]; rfl
      rw [this]
      exact Ev.step (f := fun k => some (2 : Int)) (fun k => by rw [s2, if_pos ⟨h2, c2⟩]) (Ev.now _)
    refine Ev.step (fun k => by rw [s2, if_neg (fun q => c2 q.2)]) ?_
    by_cases c3 : a = ((124 : Nat) : Int) ∧ b = ((124 : Nat) : Int)
    · have : twoL a b = true := by rw [c3.1, c3.2]; rfl
      rw [this]
      exact Ev.step (f := fun k => some (2 : Int)) (fun k => by rw [s3, if_pos ⟨h2, c3⟩]) (Ev.now _)
    refine Ev.step (fun k => by rw [s3, if_neg (fun q => c3 q.2)]) ?_
    have : twoL a b = false := by
      have d : ∀ x y : Nat, ¬ (a = (x : Int) ∧ b = (y : Int)) → (a == (x : Int) && b == (y : Int)) = false := by
        intro x y h
        rw [Bool.and_eq_false_iff]
        by_cases q : a = (x : Int)
        · right; rw [beq_eq_false_iff_ne]; exact fun r => h ⟨q, r⟩
        · left; rw [beq_eq_false_iff_ne]; exact q
      have d0 := d 60 61 c0
      have d1 := d 62 61 c1
      have d2 := d 60 62 c2
      have d3 := d 124 124 c3
      unfold twoL
      rw [show (a == 60 && b == 61) = false from d0, show (a == 62 && b == 61) = false from d1, show (a == 60 && b == 62) = false from d2, show (a == 124 && b == 124) = false from d3]; rfl
    rw [this]
    simp only [Bool.false_eq_true, ↓reduceIte]
    rw [e1]
    exact Ev.step (fun k => h4 k) hl
  · have hd : sgnN ((bytesOf s).drop p) = if oneL (bt s (p : Int)) then 1 else 0 := by
      rw [bytes_rd s p hp, List.drop_eq_nil_of_le (by rw [bytesOf_length]; omega)]; rfl
    rw [hd, e1]
    refine Ev.step (fun k => by rw [s0, if_neg (fun q => h2 q.1)]) ?_
    refine Ev.step (fun k => by rw [s1, if_neg (fun q => h2 q.1)]) ?_
    refine Ev.step (fun k => by rw [s2, if_neg (fun q => h2 q.1)]) ?_
    refine Ev.step (fun k => by rw [s3, if_neg (fun q => h2 q.1)]) ?_
    exact Ev.step (fun k => h4 k) hl
theorem token_j (s : ByteArray) (hs : s.size ≤ 100000) (p : Nat) (hp : p < s.size) (k : Nat) :
    hindsightref19_token.f k s (p : Int) = (hindsightref19_class.f k s (p : Int)).bind fun t => hindsightref19_token.j0 k s (p : Int) t (isB ((bytesOf s).drop p)) := by
  have w1 : wrap64 ((p : Int) + 1) = ((p + 1 : Nat) : Int) := by rw [wrap64_id (by omega) (by omega)]; omega
  have q0 : (0 : Int) ≤ (p : Int) := by omega
  have q1 : (p : Int) < (s.size : Int) := by omega
  unfold hindsightref19_token.f
  congr 1
  funext t
  rw [if_pos q0, if_pos q1, w1]
  by_cases h : p + 1 < s.size
  · have q2 : ((p + 1 : Nat) : Int) < (s.size : Int) := by omega
    have q3 : (0 : Int) ≤ ((p + 1 : Nat) : Int) := by omega
    rw [if_pos q2, if_pos q3, bytes_rd s p hp, bytes_rd s (p + 1) h]
    simp only [isB]
    by_cases c : bt s (p : Int) = 120
    · rw [if_pos c, c]; rfl
    · rw [if_neg c]
      by_cases c2 : bt s (p : Int) = 88
      · rw [if_pos c2, c2]; rfl
      · rw [if_neg c2, show (bt s (p : Int) == 120) = false by simpa using c, show (bt s (p : Int) == 88) = false by simpa using c2]; rfl
  · have q2 : ¬ ((p + 1 : Nat) : Int) < (s.size : Int) := by omega
    rw [if_neg q2, bytes_rd s p hp, List.drop_eq_nil_of_le (by rw [bytesOf_length]; omega)]
    simp only [isB, ite_self]
theorem ev_token (s : ByteArray) (hs : s.size ≤ 100000) (p : Nat) (hp : p < s.size) : Ev (fun k => hindsightref19_token.f k s (p : Int)) (tokR p (nextP ((bytesOf s).drop p))) := by
  have hc := ev_class s p hs
  have w1 : wrap64 ((p : Int) + 1) = ((p + 1 : Nat) : Int) := by rw [wrap64_id (by omega) (by omega)]; omega
  refine Ev.congr (fun k => token_j s hs p hp k) (Ev.bind hc ?_)
  unfold nextP
  have hlen : ((bytesOf s).drop p).length = s.size - p := by rw [List.length_drop, bytesOf_length]
  cases hb : isB ((bytesOf s).drop p) with
  | true =>
    rw [if_pos rfl]
    have h1 : p + 1 < s.size := by
      apply Decidable.byContradiction
      intro hn
      rw [bytes_rd s p hp, List.drop_eq_nil_of_le (by rw [bytesOf_length]; omega)] at hb
      simp [isB] at hb
    have hby := ev_bytes s (p + 1) hs h1
    have hdd : (bytesOf s).drop (p + 1 + 1) = ((bytesOf s).drop p).drop 2 := by rw [List.drop_drop]
    rw [hdd] at hby
    refine Ev.step (f := fun k => (hindsightref19_bytes.f k s ((p + 1 : Nat) : Int)).bind fun bt155 => (if bt155.2 = 0 then (some fail6) else (some (4, (p : Int), bt155.1, 0, bt155.2, 0)))) (fun k => ?_) (Ev.bind hby ?_)
    · simp only [hindsightref19_token.j0, ↓reduceIte]; rw [w1]
    · unfold bytesQ bytesP
      cases closeL (((bytesOf s).drop p).drop 2) with
      | none => exact Ev.congr (f := fun _ => some fail6) (fun k => if_pos rfl) (Ev.now _)
      | some q =>
        simp only
        cases unhexL ((((bytesOf s).drop p).drop 2).take q) with
        | none => exact Ev.congr (f := fun _ => some fail6) (fun k => if_pos rfl) (Ev.now _)
        | some o =>
          have hr : tokR p (4, strOfNums o, 0, q + 3, 0) = (4, (p : Int), (bytesR (p + 1 + 1 + q) [] (some o)).1, 0, (bytesR (p + 1 + 1 + q) [] (some o)).2, 0) := by
            unfold tokR bytesR
            rw [if_neg (by simp)]
            simp only [List.nil_append]
            rw [show p + (q + 3) = p + 1 + 1 + q + 1 by omega]
          rw [hr]
          exact Ev.congr (fun k => if_neg (by simp only [bytesR]; omega)) (Ev.now _)
  | false =>
    rw [if_neg (by simp)]
    have hw := ev_word s hs p (by omega)
    have hj0 : ∀ (t : Int) k, hindsightref19_token.j0 (k + 1) s (p : Int) t false = if t = 2 then hindsightref19_token.j1 k s (p : Int) t true else hindsightref19_token.j1 k s (p : Int) t (t == 3) := by
      intro t k; simp [hindsightref19_token.j0]
    have hj1t : ∀ (t : Int) k, hindsightref19_token.j1 (k + 1) s (p : Int) t true = (hindsightref19_word.f k s (p : Int)).bind fun b => some (b.1, b.2.1, b.2.2.1, b.2.2.2.1, b.2.2.2.2.1, b.2.2.2.2.2) := by
      intro t k; simp [hindsightref19_token.j1]
    by_cases c2 : clsAt ((bytesOf s).drop p) = 2
    · rw [if_pos c2]
      refine Ev.step (f := fun k => hindsightref19_token.j1 k s (p : Int) (clsAt ((bytesOf s).drop p)) true) (fun k => by rw [hj0, if_pos c2]) ?_
      refine Ev.step (fun k => hj1t _ k) (Ev.bind hw ?_)
      rw [c2, show ((2 : Int) == 3) = false from rfl]
      have hr : wordR s p (p + runL (wcls false) ((bytesOf s).drop p)) false = tokR p (wordP ((bytesOf s).drop p)) := by
        have hn : runL wordC ((bytesOf s).drop p) ≠ 0 := by
          rw [bytes_rd s p hp] at c2 ⊢
          simp only [clsAt] at c2
          rw [runL_yes _ (by rw [c2]; rfl)]; omega
        unfold wordR wordP
        rw [if_neg (by simp), take_ext]
        simp only [show wcls false = wordC from rfl]
        split
        · rename_i he
          unfold tokR
          rw [if_neg hn, he]
        · rfl
      rw [hr]
      exact Ev.now _
    rw [if_neg c2]
    by_cases c3 : clsAt ((bytesOf s).drop p) = 3
    · rw [if_pos c3]
      refine Ev.step (f := fun k => hindsightref19_token.j1 k s (p : Int) (clsAt ((bytesOf s).drop p)) true) (fun k => by rw [hj0, if_neg c2, c3]; rfl) ?_
      refine Ev.step (fun k => hj1t _ k) (Ev.bind hw ?_)
      rw [c3, show ((3 : Int) == 3) = true from rfl]
      have hr : wordR s p (p + runL (wcls true) ((bytesOf s).drop p)) true = tokR p (numP ((bytesOf s).drop p)) := by
        have hn : runL digC ((bytesOf s).drop p) ≠ 0 := by
          rw [bytes_rd s p hp] at c3 ⊢
          simp only [clsAt] at c3
          rw [runL_yes _ (by rw [c3]; rfl)]; omega
        unfold wordR numP
        rw [if_pos rfl, take_ext]
        simp only [show wcls true = digC from rfl, List.drop_drop]
        split
        · rfl
        · unfold tokR
          rw [if_neg hn]
      rw [hr]
      exact Ev.now _
    rw [if_neg c3]
    refine Ev.step (f := fun k => hindsightref19_token.j1 k s (p : Int) (clsAt ((bytesOf s).drop p)) false) (fun k => by rw [hj0, if_neg c2, show (clsAt ((bytesOf s).drop p) == 3) = false by simpa using c3]) ?_
    by_cases c4 : clsAt ((bytesOf s).drop p) = 4
    · rw [if_pos c4, c4]
      have hcl := ev_closing s p hs (by omega)
      have hl := closeL_lt _ ((bytesOf s).drop (p + 1)) (Nat.le_refl _)
      rw [List.length_drop, bytesOf_length] at hl
      have hdd : (bytesOf s).drop (p + 1) = ((bytesOf s).drop p).drop 1 := by rw [List.drop_drop]
      rw [hdd] at hcl hl
      have hstep : ∀ k, hindsightref19_token.j1 (k + 1) s (p : Int) 4 false = (hindsightref19_closing.f k s (p : Int)).bind fun t163 => (if t163 < 0 then (some fail6) else (if 0 ≤ (p : Int) then (if (p : Int) ≤ (wrap64 (t163 + 1)) then (if (wrap64 (t163 + 1)) ≤ (s.size : Int) then ((PRb.hindsightref05_Unquote.f k (s.extract p ((wrap64 (t163 + 1)) : Int).toNat)).bind fun bt164 => (some (3, (p : Int), bt164.1, 0, wrap64 (t163 + 1), 0))) else (none)) else (none)) else (none))) := by
        intro k; simp [hindsightref19_token.j1]
      refine Ev.step hstep (Ev.bind hcl ?_)
      unfold quoP
      cases hq : closeL (((bytesOf s).drop p).drop 1) with
      | none => exact Ev.congr (f := fun _ => some fail6) (fun k => if_pos (by simp [closeR])) (Ev.now _)
      | some q =>
        have hq2 := hl q hq
        have ew : wrap64 (closeR (p + 1) (some q) + 1) = ((p + (q + 2) : Nat) : Int) := by
          simp only [closeR]; rw [wrap64_id (by omega) (by omega)]; omega
        rw [ew]
        have n0 : ¬ closeR (p + 1) (some q) < 0 := by simp only [closeR]; omega
        have n1 : (0 : Int) ≤ (p : Int) := by omega
        have n2 : (p : Int) ≤ ((p + (q + 2) : Nat) : Int) := by omega
        have n3 : ((p + (q + 2) : Nat) : Int) ≤ (s.size : Int) := by omega
        have hz : (s.extract p (p + (q + 2))).size ≤ s.size := by rw [ByteArray.size_extract]; omega
        refine Ev.congr (f := fun k => (PRb.hindsightref05_Unquote.f k (s.extract p (p + (q + 2)))).bind fun bt164 => (some (3, (p : Int), bt164.1, 0, ((p + (q + 2) : Nat) : Int), 0))) (fun k => ?_) (Ev.bind (ev_unq _ (by omega)) ?_)
        · rw [if_neg n0, if_pos n1, if_pos n2, if_pos n3, Int.toNat_natCast]
        · rw [take_ext]
          have hr : tokR p (3, unqR (strOfNums (((bytesOf s).drop p).take (q + 2))), 0, q + 2, 0) = (3, (p : Int), unqR (strOfNums (((bytesOf s).drop p).take (q + 2))), 0, ((p + (q + 2) : Nat) : Int), 0) := by
            unfold tokR; rw [if_neg (by simp)]
          show Ev _ (tokR p (3, unqR (strOfNums (((bytesOf s).drop p).take (q + 2))), 0, q + 2, 0))
          rw [hr]
          exact Ev.now _
    · rw [if_neg c4]
      have hsg := ev_sign s p hp hs
      have hstep : ∀ k, hindsightref19_token.j1 (k + 1) s (p : Int) (clsAt ((bytesOf s).drop p)) false = (hindsightref19_sign.f k s (p : Int)).bind fun t166 => (if t166 = 0 then (some fail6) else (if 0 ≤ (p : Int) then (if (p : Int) ≤ (wrap64 ((p : Int) + t166)) then (if (wrap64 ((p : Int) + t166)) ≤ (s.size : Int) then (some (5, (p : Int), s.extract p ((wrap64 ((p : Int) + t166)) : Int).toNat, 0, wrap64 ((p : Int) + t166), 0)) else (none)) else (none)) else (none))) := by
        intro k; simp [hindsightref19_token.j1, c4]
      refine Ev.step hstep (Ev.bind hsg ?_)
      have hno := (next_ok ((bytesOf s).drop p)).2
      have hnp : nextP ((bytesOf s).drop p) = sgnP ((bytesOf s).drop p) := by
        unfold nextP; rw [hb, if_neg (by simp), if_neg c2, if_neg c3, if_neg c4]
      rw [hnp, hlen] at hno
      unfold sgnP at hno ⊢
      by_cases h0 : sgnN ((bytesOf s).drop p) = 0
      · rw [if_pos h0]
        exact Ev.congr (f := fun _ => some fail6) (fun k => if_pos (by omega)) (Ev.now _)
      · rw [if_neg h0] at hno ⊢
        simp only at hno
        have ew : wrap64 ((p : Int) + ((sgnN ((bytesOf s).drop p) : Nat) : Int)) = ((p + sgnN ((bytesOf s).drop p) : Nat) : Int) := by
          rw [wrap64_id (by omega) (by omega)]; omega
        rw [ew]
        have n0 : ¬ ((sgnN ((bytesOf s).drop p) : Nat) : Int) = 0 := by omega
        have n1 : (0 : Int) ≤ (p : Int) := by omega
        have n2 : (p : Int) ≤ ((p + sgnN ((bytesOf s).drop p) : Nat) : Int) := by omega
        have n3 : ((p + sgnN ((bytesOf s).drop p) : Nat) : Int) ≤ (s.size : Int) := by omega
        refine Ev.congr (f := fun k => some (5, (p : Int), s.extract p (p + sgnN ((bytesOf s).drop p)), 0, ((p + sgnN ((bytesOf s).drop p) : Nat) : Int), 0)) (fun k => ?_) ?_
        · rw [if_neg n0, if_pos n1, if_pos n2, if_pos n3, Int.toNat_natCast]
        · rw [take_ext]
          have hr : tokR p (5, strOfNums (((bytesOf s).drop p).take (sgnN ((bytesOf s).drop p))), 0, sgnN ((bytesOf s).drop p), 0) = (5, (p : Int), strOfNums (((bytesOf s).drop p).take (sgnN ((bytesOf s).drop p))), 0, ((p + sgnN ((bytesOf s).drop p) : Nat) : Int), 0) := by
            unfold tokR; rw [if_neg h0]
          rw [hr]
          exact Ev.now _
def map87 (r : List S53 × Int × Int) : List S87 × Int × Int := (r.1.map to87, r.2.1, r.2.2)
theorem ev_read_l0 (s : ByteArray) (hs : s.size ≤ 100000) : ∀ (d p f : Nat) (acc : List S53), s.size - p = d → p ≤ s.size → d < f → acc.length ≤ p →
    Ev (fun k => hindsightref19_Read.l0 k s (acc.map to87) (p : Int)) (map87 (readP f ((bytesOf s).drop p) p acc)) := by
  intro d
  induction d using Nat.strongRecOn with
  | _ d ih =>
  intro p f acc hd hp hf ha
  obtain ⟨f, rfl⟩ : ∃ g, f = g + 1 := ⟨f - 1, by omega⟩
  have hlen : (acc.map to87).length < 3518437208883 := by rw [List.length_map]; omega
  by_cases h : p < s.size
  · have hc := ev_class s p hs
    have hrd := bytes_rd s p h
    have w1 : wrap64 ((p : Int) + 1) = ((p + 1 : Nat) : Int) := by rw [wrap64_id (by omega) (by omega)]; omega
    refine Ev.step (f := fun k => (hindsightref19_class.f k s (p : Int)).bind fun t175 => (if t175 = 1 then (hindsightref19_Read.l0 k s (acc.map to87) ((p + 1 : Nat) : Int)) else ((hindsightref19_token.f k s (p : Int)).bind fun bt176 => (if bt176.2.2.2.2.2 = 0 then (hindsightref19_Read.l0 k s ((acc.map to87) ++ [(⟨bt176.1, bt176.2.1, bt176.2.2.1, bt176.2.2.2.1⟩ : S87)]) bt176.2.2.2.2.1) else (some (([] : List (S87)), (p : Int), bt176.2.2.2.2.2)))))) (fun k => ?_) (Ev.bind hc ?_)
    · simp only [hindsightref19_Read.l0]
      rw [if_pos (by omega), w1]
      simp only [if_pos hlen]
    · by_cases c1 : clsAt ((bytesOf s).drop p) = 1
      · refine Ev.congr (fun k => if_pos c1) ?_
        rw [hrd] at c1 ⊢
        simp only [clsAt] at c1
        rw [readP_blank _ _ _ _ _ c1]
        exact ih (d - 1) (by omega) (p + 1) (f + 1) acc (by omega) (by omega) (by omega) (by omega)
      · refine Ev.congr (fun k => if_neg c1) (Ev.bind (ev_token s hs p h) ?_)
        obtain ⟨n1, n2⟩ := next_ok ((bytesOf s).drop p)
        rw [List.length_drop, bytesOf_length] at n2
        have hr : readP (f + 1) ((bytesOf s).drop p) p acc = if (nextP ((bytesOf s).drop p)).2.2.2.2 ≠ 0 then ([], (p : Int), (nextP ((bytesOf s).drop p)).2.2.2.2) else readP f (((bytesOf s).drop p).drop (nextP ((bytesOf s).drop p)).2.2.2.1) (p + (nextP ((bytesOf s).drop p)).2.2.2.1) (acc ++ [⟨(nextP ((bytesOf s).drop p)).1, (p : Int), (nextP ((bytesOf s).drop p)).2.1, (nextP ((bytesOf s).drop p)).2.2.1⟩]) := by
          have hb : runL blkC ((bytesOf s).drop p) = 0 := by
            rw [hrd] at c1 ⊢
            simp only [clsAt] at c1
            exact runL_no _ (by simpa [blkC] using c1)
          have hne : (bytesOf s).drop p ≠ [] := by rw [hrd]; simp
          simp only [readP]
          rw [hb, List.drop_zero, if_neg hne, Nat.add_zero]
        rw [hr]
        obtain ⟨N, hN⟩ : ∃ N, nextP ((bytesOf s).drop p) = N := ⟨_, rfl⟩
        rw [hN] at n1 n2 ⊢
        by_cases h0 : N.2.2.2.1 = 0
        · have := n1 h0
          subst this
          rw [tokR_fail, if_pos (by simp [failT])]
          exact Ev.congr (f := fun _ => some (([] : List S87), (p : Int), (40 : Int))) (fun k => if_neg (by simp)) (Ev.now _)
        · have ht : tokR p N = (N.1, (p : Int), N.2.1, N.2.2.1, ((p + N.2.2.2.1 : Nat) : Int), N.2.2.2.2) := by unfold tokR; rw [if_neg h0]
          rw [ht]
          by_cases he : N.2.2.2.2 = 0
          · rw [if_neg (by simpa using he)]
            refine Ev.congr (fun k => if_pos he) ?_
            have := ih (d - N.2.2.2.1) (by omega) (p + N.2.2.2.1) f (acc ++ [⟨N.1, (p : Int), N.2.1, N.2.2.1⟩]) (by omega) (by omega) (by omega) (by simp; omega)
            rw [List.map_append, ← List.drop_drop] at this
            exact this
          · rw [if_pos he]
            exact Ev.congr (f := fun _ => some (([] : List S87), (p : Int), N.2.2.2.2)) (fun k => if_neg he) (Ev.now _)
  · have hn : (bytesOf s).drop p = [] := List.drop_eq_nil_of_le (by rw [bytesOf_length]; omega)
    have hpe : p = s.size := by omega
    rw [hn]
    refine Ev.step (f := fun k => some (map87 (readP (f + 1) [] p acc))) (fun k => ?_) (Ev.now _)
    simp only [hindsightref19_Read.l0]
    rw [if_neg (by omega), if_pos hlen]
    simp only [readP, runL_nil, List.drop_nil, ↓reduceIte, map87, List.map_append, Nat.add_zero]
    rw [hpe]; rfl
/-- The document's Read. -/
theorem ev_read (s : ByteArray) (hs : s.size ≤ 100000) : Ev (fun k => hindsightref19_Read.f k s) (map87 (readT s)) := by
  unfold readT
  by_cases h : 4096 < s.size
  · rw [if_pos h]
    exact Ev.congr (f := fun _ => some (([] : List S87), (0 : Int), (2 : Int))) (fun k => by unfold hindsightref19_Read.f; rw [if_pos (by omega)]) (Ev.now _)
  · rw [if_neg h]
    have hsp : Ev (fun k => PRa.hindsightref05_Split.f k s) (splitR s.data.toList, validD s.data.toList) := by
      have h2 : PRa.hindsightref05_Split.f (s.size + 21) s = some (splitR s.data.toList, validD s.data.toList) := by
        rw [split_f s (by omega), splitR]; cases validD s.data.toList <;> rfl
      exact Ev.of (PRa.hindsightref05_Split.mono _) h2
    refine Ev.congr (fun k => by unfold hindsightref19_Read.f; rw [if_neg (by omega)]) (Ev.bind hsp ?_)
    cases hv : validD s.data.toList with
    | true =>
      rw [if_pos rfl]
      refine Ev.congr (fun k => if_pos rfl) ?_
      have := ev_read_l0 s hs s.size 0 (s.size + 1) [] (by omega) (by omega) (by omega) (by simp)
      rw [List.drop_zero] at this
      exact this
    | false =>
      rw [if_neg (by simp)]
      exact Ev.congr (f := fun _ => some (([] : List S87), (0 : Int), (3 : Int))) (fun k => if_neg (by simp)) (Ev.now _)
end Go.Proofs.YtoclbmepgeelmaaDoor.Utf
