import Derived.Test.YtoclbmepgeelmaaDoorRn2
import Derived.Lib.ItoaLen
import Derived.Shelf.Strings.BuilderRune
import Derived.Test.YtoclbmepgeelmaaDoorSplit
import Derived.Test.YtoclbmepgeelmaaDoorEnc
import Derived.Test.YtoclbmepgeelmaaDoorRn1
namespace Go.Proofs.YtoclbmepgeelmaaDoor.Utf
set_option linter.unusedVariables false
set_option linter.unusedSimpArgs false
open Go.RowKit Go.Lib Go.Proofs.YtoclbmepgeelmaaDoorW.PrintWords Go.Proofs.YtoclbmepgeelmaaDoorW.PrintLast Go.Proofs.YtoclbmepgeelmaaDoorW.PrintMore

theorem bytesOf_str (xs : List Int) (h : ∀ x ∈ xs, 0 ≤ x ∧ x ≤ 255) : bytesOf (strOfNums xs) = xs := by
  unfold bytesOf
  rw [strOfNums_data, List.map_map]
  conv => rhs; rw [← List.map_id xs]
  apply List.map_congr_left
  intro x hx
  obtain ⟨h0, h1⟩ := h x hx
  show ((UInt8.ofNat x.toNat).toNat : Int) = x
  rw [UInt8.toNat_ofNat']
  omega
theorem bytesOf_range (s : ByteArray) : ∀ x ∈ bytesOf s, 0 ≤ x ∧ x ≤ 255 := by
  intro x hx
  obtain ⟨b, _, rfl⟩ := List.mem_map.1 hx
  have := b.toNat_lt
  omega
theorem foldZ_range {x : Int} (h : 0 ≤ x ∧ x ≤ 255) : 0 ≤ foldZ x ∧ foldZ x ≤ 255 := by unfold foldZ; split <;> omega
theorem foldZ_twice (x : Int) : foldZ (foldZ x) = foldZ x := by unfold foldZ; repeat' split; all_goals omega
theorem bytesOf_fold (s : ByteArray) : bytesOf (foldS s) = (bytesOf s).map foldZ := by
  refine bytesOf_str _ fun x hx => ?_
  obtain ⟨y, hy, rfl⟩ := List.mem_map.1 hx
  exact foldZ_range (bytesOf_range s y hy)
theorem foldS_size (s : ByteArray) : (foldS s).size = s.size := by
  rw [foldS, strOfNums_size, List.length_map, bytesOf_length]
theorem foldS_twice (s : ByteArray) : foldS (foldS s) = foldS s := by
  rw [foldS, bytesOf_fold, List.map_map, foldS]
  congr 1
  apply List.map_congr_left
  intro x _
  exact foldZ_twice x
theorem class_fold (c : Int) : classZ (foldZ c) = classZ c := by
  unfold foldZ
  split
  · rename_i h
    have e1 : classZ (c + 32) = 2 := by unfold classZ; rw [if_neg (by omega), if_pos (by omega)]
    have e2 : classZ c = 2 := by unfold classZ; rw [if_neg (by omega), if_pos (by omega)]
    rw [e1, e2]
  · rfl
theorem nameOk_fold : ∀ (l : List Int) (f : Bool), nameOk f (l.map foldZ) = nameOk f l
  | [], _ => rfl
  | c :: t, f => by
    simp only [List.map_cons, nameOk, class_fold, nameOk_fold t false]
theorem told_law (s : ByteArray) (h : nameE s = 0) : nameR s = foldS s ∧ nameE (foldS s) = 0 ∧ nameR (foldS s) = foldS s ∧ s.size ≤ 20 := by
  have h1 : nameR s = foldS s := by unfold nameR; rw [if_pos h]
  have h20 : s.size ≤ 20 := by
    unfold nameE at h
    split at h
    · simp at h
    · omega
  have h2 : nameE (foldS s) = 0 := by
    unfold nameE at h ⊢
    rw [foldS_size, bytesOf_fold, nameOk_fold]
    exact h
  refine ⟨h1, h2, ?_, h20⟩
  unfold nameR
  rw [if_pos h2, foldS_twice]

set_option maxHeartbeats 4000000 in
set_option maxRecDepth 100000 in
theorem runesTold_walk (s : ByteArray) (w : World) (hT : Tabs5 w) :
    Calls Tryd.prog 12 #[.string s] w fun e w' => e = .returned (.bool true) ∧ Below w.heap.size w w' := by
  have fin : ∀ W : World, Below w.heap.size w W → Calls Tryd.prog 32 #[] W fun e w' => e = .returned (.bool true) ∧ Below w.heap.size w w' := fun W h => (alive05 W (hT.below h)).mono fun e w' h' => ⟨h'.1, below_step h h'.2⟩
  have FIN := Aside0.mk fin
  clear fin hT
  by_cases hlen : 1000 < s.size
  · have d := decide_eq_true (p := (1000 : Int) < (s.size : Int)) (by omega)
    go_enter Tryd.func12, Tryd.ntmps12
    go_wp2_with fail
    refine (FIN.out _ (Below.refl _ _)).mono ?_
    rintro e w1 ⟨rfl, hb⟩
    go_wp2_with fail
    go_ret
    exact ⟨rfl, hb⟩
  have d := decide_eq_false (p := (1000 : Int) < (s.size : Int)) (by omega)
  have k1 := name_walk s w
  have k2 := fun W => fold_walk s W (by omega)
  have hfs := foldS_size s
  have k3 := fun W => fold_walk (foldS s) W (by omega)
  rw [foldS_twice] at k3
  obtain ⟨F, hF⟩ : ∃ F, foldS s = F := ⟨_, rfl⟩
  have bF : (F.toList == F.toList) = true := by simp
  have bF2 : (F.toList != F.toList) = false := by simp
  have bS : ((F.size : Int) == (s.size : Int)) = true := by rw [← hF, hfs]; simp
  have bS2 : ((F.size : Int) != (s.size : Int)) = false := by rw [← hF, hfs]; simp
  by_cases h0 : nameE s = 0
  · obtain ⟨l1, l2, l3, l4⟩ := told_law s h0
    have k4 := fun W => name_at (foldS s) (foldS s) 0 ⟨l3, l2⟩ W
    rw [l1, h0] at k1
    rw [hF] at k1 k4 hfs
    simp only [hF] at k2 k3
    have d20 := decide_eq_false (p := (20 : Int) < (F.size : Int)) (by omega)
    have K1 := Aside0.mk k1
    have K2 := Aside0.mk k2
    have K3 := Aside0.mk k3
    have K4 := Aside0.mk k4
    clear k1 k2 k3 k4 l1 l2 l3 h0 hF
    go_enter Tryd.func12, Tryd.ntmps12
    go_wp2_with fail
    refine K1.out.mono ?_
    rintro e w1 ⟨rfl, hb⟩
    have HB1 := Aside0.mk hb; clear hb
    go_wp2_with fail
    refine (K2.out _).mono ?_
    rintro e w2 ⟨rfl, hb⟩
    have HB2 := Aside0.mk (below_step HB1.out hb); clear hb
    go_wp2_with fail
    refine (K4.out _).mono ?_
    rintro e w3 ⟨rfl, hb⟩
    have HB3 := Aside0.mk (below_step HB2.out hb); clear hb
    go_wp2_with fail
    refine (FIN.out _ HB3.out).mono ?_
    rintro e w4 ⟨rfl, hb⟩
    have HB4 := Aside0.mk hb; clear hb
    go_wp2_with fail
    refine (K3.out _).mono ?_
    rintro e w5 ⟨rfl, hb⟩
    have HB5 := Aside0.mk (below_step HB4.out hb); clear hb
    go_wp2_with fail
    go_ret
    exact ⟨rfl, HB5.out⟩
  · have k1' := k1
    obtain ⟨E, hE⟩ : ∃ E, nameE s = E := ⟨_, rfl⟩
    obtain ⟨R, hR⟩ : ∃ R, nameR s = R := ⟨_, rfl⟩
    rw [hE, hR] at k1
    rw [hE] at h0
    have b0 : (E == 0) = false := by simpa using h0
    simp only [hF] at k2 k3
    have K1 := Aside0.mk k1
    have K2 := Aside0.mk k2
    have K3 := Aside0.mk k3
    clear k1 k1' k2 k3 h0 hE hR hF hfs
    go_enter Tryd.func12, Tryd.ntmps12
    go_wp2_with fail
    refine K1.out.mono ?_
    rintro e w1 ⟨rfl, hb⟩
    have HB1 := Aside0.mk hb; clear hb
    go_wp2_with fail
    refine (K2.out _).mono ?_
    rintro e w2 ⟨rfl, hb⟩
    have HB2 := Aside0.mk (below_step HB1.out hb); clear hb
    go_wp2_with fail
    refine (FIN.out _ HB2.out).mono ?_
    rintro e w4 ⟨rfl, hb⟩
    have HB4 := Aside0.mk hb; clear hb
    go_wp2_with fail
    refine (K3.out _).mono ?_
    rintro e w5 ⟨rfl, hb⟩
    have HB5 := Aside0.mk (below_step HB4.out hb); clear hb
    go_wp2_with fail
    go_ret
    exact ⟨rfl, HB5.out⟩
end Go.Proofs.YtoclbmepgeelmaaDoor.Utf
namespace Go.Proofs.YtoclbmepgeelmaaDoor.Utf
set_option linter.unusedVariables false
set_option linter.unusedSimpArgs false
open Go.RowKit Go.Lib Go.Proofs.YtoclbmepgeelmaaDoorW.PrintWords Go.Proofs.YtoclbmepgeelmaaDoorW.PrintLast Go.Proofs.YtoclbmepgeelmaaDoorW.PrintMore

/-- A quote twice, of numbers. -/
def dblZ (l : List Int) : List Int := l.flatMap fun c => if c = 39 then [39, 39] else [c]
theorem rquote_l0 (s : ByteArray) (hs : (s.size : Int) ≤ 1000000) : ∀ (m i : Nat) (acc : List Int), i + m = s.size → acc.length ≤ 2 * i + 1 → ∃ k, PRb.hindsightref05_Quote.l0 k s acc (i : Int) = some (strOfNums (acc ++ dblZ ((bytesOf s).drop i) ++ [39])) := by
  intro m
  induction m with
  | zero =>
    intro i acc hi ha
    refine ⟨1, ?_⟩
    simp only [PRb.hindsightref05_Quote.l0]
    rw [if_neg (by omega), if_pos (by omega), List.drop_eq_nil_of_le (by rw [bytesOf_length]; omega)]
    simp [dblZ]
  | succ m ih =>
    intro i acc hi ha
    have wi : wrap64 ((i : Int) + 1) = ((i + 1 : Nat) : Int) := by rw [wrap64_id (by omega) (by omega)]; omega
    rw [bytes_rd s i (by omega)]
    by_cases h39 : bt s (i : Int) = 39
    · obtain ⟨k, hk⟩ := ih (i + 1) (acc ++ [39] ++ [39]) (by omega) (by simp; omega)
      refine ⟨k + 1, ?_⟩
      simp only [PRb.hindsightref05_Quote.l0]
      rw [if_pos (by omega), if_pos (by omega), if_pos (by omega), Option.bind_some, if_pos h39, if_pos (by simp; omega), wi, h39, hk]
      simp [dblZ]
    · obtain ⟨k, hk⟩ := ih (i + 1) (acc ++ [bt s (i : Int)]) (by omega) (by simp; omega)
      refine ⟨k + 1, ?_⟩
      simp only [PRb.hindsightref05_Quote.l0]
      rw [if_pos (by omega), if_pos (by omega), if_pos (by omega), Option.bind_some, if_neg h39, wi, hk]
      simp [dblZ, h39]
theorem quoteS_nums (s : ByteArray) : quoteS s = strOfNums (39 :: (dblZ (bytesOf s) ++ [39])) := by
  have h : ∀ l : List UInt8, (dblZ (l.map fun b => (b.toNat : Int))).map (fun n => UInt8.ofNat n.toNat) = dbl l := by
    intro l
    induction l with
    | nil => rfl
    | cons b t ih =>
      have hb : ((b.toNat : Int) = 39) = (b = 39) := by
        apply propext
        constructor
        · intro e
          apply UInt8.toNat_inj.1
          have : b.toNat = 39 := by omega
          rw [this]; rfl
        · rintro rfl; rfl
      by_cases h39 : b = 39
      · subst h39
        have e1 : dblZ (((39 : UInt8) :: t).map fun b => (b.toNat : Int)) = 39 :: 39 :: dblZ (t.map fun b => (b.toNat : Int)) := by simp [dblZ]
        have e2 : dbl (39 :: t) = 39 :: 39 :: dbl t := by simp [dbl]
        rw [e1, e2, List.map_cons, List.map_cons, ih]; rfl
      · have e1 : dblZ ((b :: t).map fun b => (b.toNat : Int)) = (b.toNat : Int) :: dblZ (t.map fun b => (b.toNat : Int)) := by
          simp [dblZ, hb, h39]
        have e2 : dbl (b :: t) = b :: dbl t := by simp [dbl, h39]
        rw [e1, e2, List.map_cons, ih]
        simp
  apply ByteArray.ext
  apply Array.toList_inj.1
  rw [strOfNums_data, List.map_cons, List.map_append, bytesOf, h]
  simp [quoteS]
theorem rquote_f (s : ByteArray) (hs : (s.size : Int) ≤ 1000000) : ∃ k, PRb.hindsightref05_Quote.f k s = some (quoteS s) := by
  obtain ⟨k, hk⟩ := rquote_l0 s hs s.size 0 [39] (by omega) (by simp)
  refine ⟨k, ?_⟩
  unfold PRb.hindsightref05_Quote.f
  rw [quoteS_nums]
  simpa using hk
end Go.Proofs.YtoclbmepgeelmaaDoor.Utf
namespace Go.Proofs.YtoclbmepgeelmaaDoor.Utf
set_option linter.unusedVariables false
set_option linter.unusedSimpArgs false
open Go.RowKit Go.Lib Go.Proofs.YtoclbmepgeelmaaDoorW.PrintWords Go.Proofs.YtoclbmepgeelmaaDoorW.PrintLast Go.Proofs.YtoclbmepgeelmaaDoorW.PrintMore

/-- Each byte; behind a quote the next is passed over. -/
def pick : List Int → List Int
  | [] => []
  | c :: t => if c = 39 then (match t with
      | [] => [39]
      | _ :: u => 39 :: pick u) else c :: pick t
theorem pick_other {c : Int} (hc : c ≠ 39) (t : List Int) : pick (c :: t) = c :: pick t := by
  cases t <;> simp [pick, hc]
theorem dblZ_cons (c : Int) (t : List Int) : dblZ (c :: t) = if c = 39 then 39 :: 39 :: dblZ t else c :: dblZ t := by
  unfold dblZ; rw [List.flatMap_cons]; split <;> rfl
theorem unqL_dbl : ∀ X : List Int, unqL (dblZ X) = some X
  | [] => rfl
  | c :: t => by
    rw [dblZ_cons]
    by_cases h : c = 39
    · subst h; rw [if_pos rfl]; simp [unqL, unqL_dbl t]
    · rw [if_neg h, unqL_other h, unqL_dbl t]; rfl
theorem pick_dbl : ∀ X : List Int, pick (dblZ X) = X
  | [] => rfl
  | c :: t => by
    rw [dblZ_cons]
    by_cases h : c = 39
    · subst h; rw [if_pos rfl]; simp [pick, pick_dbl t]
    · rw [if_neg h, pick_other h, pick_dbl t]
theorem dbl_unqL : ∀ (n : Nat) (l X : List Int), l.length ≤ n → unqL l = some X → dblZ X = l
  | _, [], X, _, h => by
    simp only [unqL, Option.some.injEq] at h
    subst h; rfl
  | 0, c :: t, X, hn, _ => by simp at hn
  | n + 1, c :: t, X, hn, h => by
    simp only [List.length_cons] at hn
    by_cases hc : c = 39
    · subst hc
      cases t with
      | nil => simp [unqL] at h
      | cons d u =>
        by_cases hd : d = 39
        · subst hd
          simp only [unqL, ↓reduceIte, Option.map_eq_some_iff] at h
          obtain ⟨Y, hY, rfl⟩ := h
          rw [dblZ_cons, if_pos rfl, dbl_unqL n u Y (by simp at hn; omega) hY]
        · simp [unqL, hd] at h
    · rw [unqL_other hc, Option.map_eq_some_iff] at h
      obtain ⟨Y, hY, rfl⟩ := h
      rw [dblZ_cons, if_neg hc, dbl_unqL n t Y (by omega) hY]
theorem runq_l0 (s : ByteArray) (hs : (s.size : Int) ≤ 100000) : ∀ (m i : Nat) (acc : List Int), s.size ≤ i + m + 1 → 1 ≤ i → i ≤ s.size + 1 → acc.length ≤ i →
    ∃ k, PRb.hindsightref05_Unquote.l0 k s acc (i : Int) = (if (quoteS (strOfNums (acc ++ pick (((bytesOf s).take (s.size - 1)).drop i)))).toList = s.toList then some (strOfNums (acc ++ pick (((bytesOf s).take (s.size - 1)).drop i)), 0) else some (⟨#[]⟩, 3)) := by
  intro m
  induction m using Nat.strongRecOn with
  | _ m ih =>
  intro i acc hi hi1 hi2 ha
  have hbl := bytesOf_length s
  have w1 : wrap64 ((i : Int) + 1) = ((i + 1 : Nat) : Int) := by rw [wrap64_id (by omega) (by omega)]; omega
  by_cases hlt : i + 1 < s.size
  · have hd : ((bytesOf s).take (s.size - 1)).drop i = bt s (i : Int) :: ((bytesOf s).take (s.size - 1)).drop (i + 1) := by
      have hl : i < ((bytesOf s).take (s.size - 1)).length := by simp; omega
      have hl2 : i < (bytesOf s).length := by omega
      rw [List.drop_eq_getElem_cons hl]
      congr 1
      rw [List.getElem_take, ← rd_bytesOf]
      simp [rd, List.getD_eq_getElem?_getD, hl2]
    by_cases h39 : bt s (i : Int) = 39
    · have w2 : wrap64 ((((i + 1 : Nat) : Int)) + 1) = ((i + 2 : Nat) : Int) := by rw [wrap64_id (by omega) (by omega)]; omega
      obtain ⟨k, hk⟩ := ih (m - 1) (by omega) (i + 2) (acc ++ [39]) (by omega) (by omega) (by omega) (by simp; omega)
      refine ⟨k + 1, ?_⟩
      have hp : acc ++ pick (((bytesOf s).take (s.size - 1)).drop i) = acc ++ [39] ++ pick (((bytesOf s).take (s.size - 1)).drop (i + 2)) := by
        rw [hd, h39]
        cases hr : ((bytesOf s).take (s.size - 1)).drop (i + 1) with
        | nil =>
          have : ((bytesOf s).take (s.size - 1)).drop (i + 2) = [] := by
            rw [show i + 2 = i + 1 + 1 by omega, ← List.drop_drop, hr]; rfl
          rw [this]; simp [pick]
        | cons d u =>
          have : ((bytesOf s).take (s.size - 1)).drop (i + 2) = u := by
            rw [show i + 2 = i + 1 + 1 by omega, ← List.drop_drop, hr]; rfl
          rw [this]; simp [pick]
      rw [hp]
      simp only [PRb.hindsightref05_Unquote.l0]
      rw [w1, if_pos (by omega), if_pos (by omega), if_pos (by omega), if_pos (by omega), Option.bind_some, if_pos h39, w2, h39, hk]
    · obtain ⟨k, hk⟩ := ih (m - 1) (by omega) (i + 1) (acc ++ [bt s (i : Int)]) (by omega) (by omega) (by omega) (by simp; omega)
      refine ⟨k + 1, ?_⟩
      have hp : acc ++ pick (((bytesOf s).take (s.size - 1)).drop i) = acc ++ [bt s (i : Int)] ++ pick (((bytesOf s).take (s.size - 1)).drop (i + 1)) := by
        rw [hd, pick_other h39]; simp
      rw [hp]
      simp only [PRb.hindsightref05_Unquote.l0]
      rw [w1, if_pos (by omega), if_pos (by omega), if_pos (by omega), if_pos (by omega), Option.bind_some, if_neg h39, hk]
  · have hnil : ((bytesOf s).take (s.size - 1)).drop i = [] := List.drop_eq_nil_of_le (by simp; omega)
    rw [hnil]
    have hacc : acc ++ pick [] = acc := by simp [pick]
    rw [hacc]
    obtain ⟨k, hk⟩ := rquote_f (strOfNums acc) (by rw [strOfNums_size]; omega)
    refine ⟨k + 1, ?_⟩
    simp only [PRb.hindsightref05_Unquote.l0]
    rw [w1, if_neg (by omega), hk, Option.bind_some]
theorem quote_nums_inj {xs : List Int} {s : ByteArray} (hx : ∀ x ∈ xs, 0 ≤ x ∧ x ≤ 255) : (quoteS (strOfNums xs)).toList = s.toList ↔ bytesOf s = 39 :: (dblZ xs ++ [39]) := by
  have hd : ∀ x ∈ (39 :: (dblZ xs ++ [39]) : List Int), 0 ≤ x ∧ x ≤ 255 := by
    intro x hm
    rcases List.mem_cons.1 hm with rfl | hm
    · omega
    · rcases List.mem_append.1 hm with hm | hm
      · obtain ⟨c, hc, hxc⟩ := List.mem_flatMap.1 hm
        have := hx c hc
        split at hxc
        · simp at hxc; omega
        · simp at hxc; omega
      · simp at hm; omega
  rw [ByteArray.toList_eq, ByteArray.toList_eq, quoteS_nums, bytesOf_str xs hx]
  constructor
  · intro h
    have : strOfNums (39 :: (dblZ xs ++ [39])) = s := ByteArray.ext (Array.toList_inj.1 h)
    rw [← this, bytesOf_str _ hd]
  · intro h
    rw [← h, strOfNums_data, bytesOf, List.map_map]
    conv => rhs; rw [← List.map_id s.data.toList]
    apply List.map_congr_left
    intro b _
    simp
theorem pick_mem : ∀ (n : Nat) (l : List Int), l.length ≤ n → ∀ x ∈ pick l, x ∈ l
  | _, [], _, x, h => by simp [pick] at h
  | 0, c :: t, hn, _, _ => by simp at hn
  | n + 1, c :: t, hn, x, h => by
    simp only [List.length_cons] at hn
    by_cases hc : c = 39
    · subst hc
      cases t with
      | nil => simpa [pick] using h
      | cons d u =>
        simp only [pick, ↓reduceIte, List.mem_cons] at h
        rcases h with rfl | h
        · simp
        · have := pick_mem n u (by simp at hn; omega) x h
          simp [this]
    · rw [pick_other hc] at h
      rcases List.mem_cons.1 h with rfl | h
      · simp
      · have := pick_mem n t (by omega) x h
        simp [this]
/-- A text of two bytes or more: its ends, and what stands between. -/
theorem bytes_ends (s : ByteArray) (h : 2 ≤ s.size) : bytesOf s = bt s 0 :: (bytesOf (s.extract 1 (s.size - 1)) ++ [bt s ((s.size : Int) - 1)]) := by
  have e0 := bytes_rd s 0 (by omega)
  rw [List.drop_zero] at e0
  have e1 := bytes_rd s (s.size - 1) (by omega)
  have e2 : List.drop (s.size - 1) (bytesOf s) = [bt s ((s.size : Int) - 1)] := by
    rw [e1, show ((s.size - 1 : Nat) : Int) = (s.size : Int) - 1 by omega, show s.size - 1 + 1 = s.size by omega, List.drop_eq_nil_of_le (by rw [bytesOf_length]; omega)]
  have hm : bytesOf (s.extract 1 (s.size - 1)) = ((bytesOf s).take (s.size - 1)).drop 1 := by
    unfold bytesOf
    rw [ByteArray.data_extract, Array.toList_extract, List.extract_eq_drop_take', List.map_drop, List.map_take]
  rw [hm, ← e2]
  conv => lhs; rw [e0]
  show _ :: _ = _ :: _
  congr 1
  rw [show (0 + 1 : Nat) = 1 from rfl]
  rw [List.drop_take, show List.drop (s.size - 1) (bytesOf s) = List.drop (s.size - 1 - 1) (List.drop 1 (bytesOf s)) by rw [List.drop_drop]; congr 1; omega, List.take_append_drop]
theorem unqO_ends {s : ByteArray} {M : List Int} (h : bytesOf s = 39 :: (M ++ [39])) : unqO s = unqL M := by
  have hl := congrArg List.length h
  rw [bytesOf_length] at hl
  simp at hl
  have h2 := bytes_ends s (by omega)
  rw [h] at h2
  obtain ⟨q0, q⟩ := List.cons.inj h2
  obtain ⟨q1, q2⟩ := List.append_inj' q rfl
  simp only [List.cons.injEq, and_true] at q2
  unfold unqO
  rw [if_neg (by omega), if_neg (by rw [← q0, ← q2]; simp), q1]
theorem unqO_some {s : ByteArray} {Q : List Int} (h : unqO s = some Q) : bytesOf s = 39 :: (dblZ Q ++ [39]) := by
  unfold unqO at h
  split at h
  · cases h
  · split at h
    · cases h
    · rename_i a b
      rw [bytes_ends s (by omega), dbl_unqL _ _ _ (Nat.le_refl _) h]
      have b0 : bt s 0 = 39 := Decidable.byContradiction fun q => b (.inl q)
      have b1 : bt s ((s.size : Int) - 1) = 39 := Decidable.byContradiction fun q => b (.inr q)
      rw [b0, b1]
/-- The document's Unquote. -/
theorem runq_f (s : ByteArray) (hs : (s.size : Int) ≤ 100000) : ∃ k, PRb.hindsightref05_Unquote.f k s = some (unqR s, unqE s) := by
  obtain ⟨k, hk⟩ := runq_l0 s hs s.size 1 [] (by omega) (by omega) (by omega) (by simp)
  refine ⟨k, ?_⟩
  unfold PRb.hindsightref05_Unquote.f
  rw [show ((1 : Nat) : Int) = 1 from rfl] at hk
  rw [hk]
  clear hk
  simp only [List.nil_append]
  obtain ⟨P, hP⟩ : ∃ P, pick (((bytesOf s).take (s.size - 1)).drop 1) = P := ⟨_, rfl⟩
  have hPb : ∀ x ∈ P, 0 ≤ x ∧ x ≤ 255 := by
    rw [← hP]
    intro x hx
    exact bytesOf_range s x (List.mem_of_mem_take (List.mem_of_mem_drop (pick_mem _ _ (Nat.le_refl _) x hx)))
  rw [hP]
  unfold unqR unqE
  cases hO : unqO s with
  | none =>
    rw [if_neg]
    · rfl
    · rw [quote_nums_inj hPb]
      intro h
      rw [unqO_ends h, unqL_dbl] at hO
      cases hO
  | some Q =>
    have hb := unqO_some hO
    have hPQ : P = Q := by
      have hl := congrArg List.length hb
      rw [bytesOf_length] at hl
      simp at hl
      rw [← hP, hb, hl]
      simp [pick_dbl]
    subst hPQ
    rw [if_pos ((quote_nums_inj hPb).2 hb)]
    rfl
end Go.Proofs.YtoclbmepgeelmaaDoor.Utf
namespace Go.Proofs.YtoclbmepgeelmaaDoor.Utf
set_option linter.unusedVariables false
set_option linter.unusedSimpArgs false
open Go.RowKit Go.Lib Go.Proofs.YtoclbmepgeelmaaDoorW.PrintWords Go.Proofs.YtoclbmepgeelmaaDoorW.PrintLast Go.Proofs.YtoclbmepgeelmaaDoorW.PrintMore

/-- The digits of a number, as bytes. -/
def digS (u : Nat) : ByteArray := ⟨(decDigits u).toArray⟩
theorem digS_small {u : Nat} (h : u < 10) : digS u = strOfNums [48 + ((u % 10 : Nat) : Int)] := by
  unfold digS; rw [decDigits, dif_pos h]
  apply ByteArray.ext; apply Array.toList_inj.1
  rw [strOfNums_data]
  simp only [List.map_cons, List.map_nil]
  rw [show (48 + ((u % 10 : Nat) : Int)).toNat = 48 + u by omega]
theorem digS_big {u : Nat} (h : ¬ u < 10) : digS u = digS (u / 10) ++ strOfNums [48 + ((u % 10 : Nat) : Int)] := by
  unfold digS; rw [decDigits, dif_neg h]
  apply ByteArray.ext; apply Array.toList_inj.1
  rw [ByteArray.data_append, Array.toList_append, strOfNums_data]
  simp only [List.map_cons, List.map_nil]
  rw [show (48 + ((u % 10 : Nat) : Int)).toNat = 48 + u % 10 by omega]
theorem tmod_abs (i : Int) : (Int.tmod i 10 < 0 → -(Int.tmod i 10) = ((i.natAbs % 10 : Nat) : Int)) ∧ (¬ Int.tmod i 10 < 0 → Int.tmod i 10 = ((i.natAbs % 10 : Nat) : Int)) ∧ (Int.tdiv i 10).natAbs = i.natAbs / 10 := by
  by_cases h : 0 ≤ i
  · rw [Int.tmod_eq_emod_of_nonneg h, Int.tdiv_eq_ediv_of_nonneg h]
    refine ⟨fun q => by omega, fun q => by omega, by omega⟩
  · obtain ⟨u, rfl⟩ : ∃ u : Nat, i = -(u : Int) := ⟨i.natAbs, by omega⟩
    rw [Int.neg_tmod, Int.neg_tdiv, Int.tmod_eq_emod_of_nonneg (by omega), Int.tdiv_eq_ediv_of_nonneg (by omega)]
    refine ⟨fun q => by omega, fun q => by omega, by omega⟩
theorem rdig_l0 (x0 : Int) : ∀ (u : Nat) (i : Int) (acc : ByteArray), i.natAbs = u → -9223372036854775808 ≤ i → i ≤ 9223372036854775807 → acc.size + (decDigits u).length ≤ 100 →
    ∃ k, PRb.hindsightref05_Digits.l0 k x0 acc i = some (if x0 < 0 then (⟨#[45]⟩ : ByteArray) ++ (digS u ++ acc) else digS u ++ acc) := by
  intro u
  induction u using Nat.strongRecOn with
  | _ u ih =>
  intro i acc hu h0 h1 hs
  obtain ⟨m1, m2, m3⟩ := tmod_abs i
  rw [hu] at m1 m2 m3
  have hstep : ∀ k, PRb.hindsightref05_Digits.l0 (k + 1) x0 acc i = (if (strOfNums [48 + ((u % 10 : Nat) : Int)]).size + acc.size ≤ 9223372036854775807 then (if (wrap64 (Int.tdiv i 10)) = 0 then (if x0 < 0 then (if 1 + ((strOfNums [48 + ((u % 10 : Nat) : Int)]) ++ acc).size ≤ 9223372036854775807 then (some ((⟨#[45]⟩ : ByteArray) ++ ((strOfNums [48 + ((u % 10 : Nat) : Int)]) ++ acc))) else (none)) else (some ((strOfNums [48 + ((u % 10 : Nat) : Int)]) ++ acc))) else (PRb.hindsightref05_Digits.l0 k x0 ((strOfNums [48 + ((u % 10 : Nat) : Int)]) ++ acc) (wrap64 (Int.tdiv i 10)))) else (none)) := by
    intro k
    simp only [PRb.hindsightref05_Digits.l0]
    by_cases h : Int.tmod i 10 < 0
    · have e := m1 h
      have hm : u % 10 < 10 := Nat.mod_lt _ (by omega)
      have e1 : (wrap64 (48 + wrap64 (-(Int.tmod i 10)))) % 256 = 48 + ((u % 10 : Nat) : Int) := by
        rw [e, show wrap64 ((u % 10 : Nat) : Int) = ((u % 10 : Nat) : Int) from wrap64_id (by omega) (by omega), wrap64_id (by omega) (by omega)]; omega
      rw [if_pos h, Option.bind_some, e1]
    · have e := m2 h
      have hm : u % 10 < 10 := Nat.mod_lt _ (by omega)
      have e1 : (wrap64 (48 + (Int.tmod i 10))) % 256 = 48 + ((u % 10 : Nat) : Int) := by
        rw [e, wrap64_id (by omega) (by omega)]; omega
      rw [if_neg h, Option.bind_some, e1]
  have hw : wrap64 (Int.tdiv i 10) = Int.tdiv i 10 := wrap64_id (by omega) (by omega)
  have hz1 : (strOfNums [48 + ((u % 10 : Nat) : Int)]).size = 1 := by rw [strOfNums_size]; rfl
  have hz2 : (strOfNums [48 + ((u % 10 : Nat) : Int)] ++ acc).size = 1 + acc.size := by rw [ByteArray.size_append, hz1]
  by_cases hsm : u < 10
  · refine ⟨1, ?_⟩
    rw [hstep, hw, if_pos (by omega), if_pos (by omega), hz2, digS_small hsm]
    by_cases hx : x0 < 0
    · rw [if_pos hx, if_pos hx, if_pos (by omega)]
    · rw [if_neg hx, if_neg hx]
  · have hl : (decDigits u).length = (decDigits (u / 10)).length + 1 := by
      rw [decDigits, dif_neg hsm]; simp
    obtain ⟨k, hk⟩ := ih (u / 10) (by omega) (Int.tdiv i 10) (strOfNums [48 + ((u % 10 : Nat) : Int)] ++ acc) m3 (by omega) (by omega) (by omega)
    refine ⟨k + 1, ?_⟩
    rw [hstep, hw, if_pos (by omega), if_neg (by omega), hk, digS_big hsm]
    simp only [ByteArray.append_assoc]
theorem rdig_f (n : Int) (h0 : -9223372036854775808 ≤ n) (h1 : n ≤ 9223372036854775807) : ∃ k, PRb.hindsightref05_Digits.f k n = some ⟨(itoa n).toArray⟩ := by
  have hl := itoa_length_le n h0 h1
  obtain ⟨k, hk⟩ := rdig_l0 n n.natAbs n ⟨#[]⟩ rfl h0 h1 (by
    unfold itoa at hl
    show 0 + _ ≤ _
    split at hl
    · simp at hl; omega
    · rw [show n.natAbs = n.toNat by omega]; omega)
  refine ⟨k, ?_⟩
  unfold PRb.hindsightref05_Digits.f
  rw [hk]
  congr 1
  unfold itoa
  have he : ∀ x : ByteArray, x ++ (⟨#[]⟩ : ByteArray) = x := fun x => ByteArray.ext (by rw [ByteArray.data_append]; simp)
  rw [he]
  split
  · apply ByteArray.ext; apply Array.toList_inj.1
    rw [ByteArray.data_append]; simp [digS]
  · rw [show n.natAbs = n.toNat by omega]; rfl
end Go.Proofs.YtoclbmepgeelmaaDoor.Utf
namespace Go.Proofs
set_option linter.unusedVariables false
open Go.Shelf
/-- The numbers of this program that (*strings.Builder).WriteRune's closure names. -/
def Tryd.lays168_ren : Go.Shelf.Ren := ⟨fun | 168 => 67 | 240 => 83 | 242 => 84 | 276 => 98 | 278 => 99 | n => n, fun | 0 => 0 | 3 => 3 | 4 => 4 | 5 => 5 | 9 => 9 | 20 => 20 | 21 => 21 | 37 => 70 | 46 => 114 | 51 => 135 | 70 => 93 | 72 => 95 | 75 => 98 | 80 => 41 | 164 => 133 | n => n, fun | n => n⟩
theorem Tryd.lays168 : Go.Proofs.Lays.n168 Tryd.prog Tryd.lays168_ren := {
  mixed := by kernel_rfl
  f168 := Tryd.func67.trans (congrArg some (by kernel_rfl))
  f240 := Tryd.func83.trans (congrArg some (by kernel_rfl))
  f242 := Tryd.func84.trans (congrArg some (by kernel_rfl))
  f276 := Tryd.func98.trans (congrArg some (by kernel_rfl))
  f278 := Tryd.func99.trans (congrArg some (by kernel_rfl))
  t0 := Tryd.underlying0
  a0 := Tryd.isAgg0
  z0 := Tryd.sizeOf0
  v0 := Tryd.zeroValue0
  t3 := Tryd.underlying3
  a3 := Tryd.isAgg3
  z3 := Tryd.sizeOf3
  v3 := Tryd.zeroValue3
  t4 := Tryd.underlying4
  a4 := Tryd.isAgg4
  z4 := Tryd.sizeOf4
  v4 := Tryd.zeroValue4
  t5 := Tryd.underlying5
  a5 := Tryd.isAgg5
  z5 := Tryd.sizeOf5
  v5 := Tryd.zeroValue5
  t9 := Tryd.underlying9
  a9 := Tryd.isAgg9
  z9 := Tryd.sizeOf9
  v9 := Tryd.zeroValue9
  t20 := Tryd.underlying20
  a20 := Tryd.isAgg20
  z20 := Tryd.sizeOf20
  v20 := Tryd.zeroValue20
  t21 := Tryd.underlying21
  a21 := Tryd.isAgg21
  z21 := Tryd.sizeOf21
  v21 := Tryd.zeroValue21
  t37 := Tryd.underlying70
  a37 := Tryd.isAgg70
  z37 := Tryd.sizeOf70
  v37 := Tryd.zeroValue70
  t46 := Tryd.underlying114
  a46 := Tryd.isAgg114
  z46 := Tryd.sizeOf114
  v46 := Tryd.zeroValue114
  t51 := Tryd.underlying135
  a51 := Tryd.isAgg135
  z51 := Tryd.sizeOf135
  v51 := Tryd.zeroValue135
  t70 := Tryd.underlying93
  a70 := Tryd.isAgg93
  z70 := Tryd.sizeOf93
  v70 := Tryd.zeroValue93
  t72 := Tryd.underlying95
  a72 := Tryd.isAgg95
  z72 := Tryd.sizeOf95
  v72 := Tryd.zeroValue95
  t75 := Tryd.underlying98
  a75 := Tryd.isAgg98
  z75 := Tryd.sizeOf98
  v75 := Tryd.zeroValue98
  t164 := Tryd.underlying133
  a164 := Tryd.isAgg133
  z164 := Tryd.sizeOf133
  v164 := Tryd.zeroValue133 }
theorem Tryd.Builder_Extra_168 : Builder.Extra Tryd.prog Tryd.lays168_ren := {
  sizeBuilder := by kernel_rfl
  liesBuilder := by kernel_rfl
  t5 := Tryd.underlying5
  a5 := Tryd.isAgg5
  z5 := Tryd.sizeOf5
  v5 := Tryd.zeroValue5
  infoByte := by kernel_rfl
  cellsByte := by kernel_rfl
  sizeByte := by kernel_rfl
  neB5 := by decide }
open Go.RowKit in
/-- (*strings.Builder).WriteRune at this program: one application of the library's contract. -/
theorem Tryd.Builder_WriteRune_k (B b : Nat) (bs : List Value) (r : Int) (hr0 : -2147483648 ≤ r) (hr1 : r ≤ 2147483647) (w : World) (h : Lib.IsBuilderF 95 5 B b bs w) (hlen : bs.length + 4 ≤ 140737488355328) (hBw : B ≤ w.heap.size) :
    Calls Tryd.prog 67 #[.pointer (some ⟨b, 0, none⟩), .int .i32 r] w fun e w' => e = .returned (.tuple #[.int .i64 (Lib.runeCells r).length, .nilIface]) ∧ (Lib.BuilderAtF 95 5 B b (.pointer (some ⟨b, 0, none⟩)) (bs ++ Lib.runeCells r) w' ∧ Below B w w' ∧ Lib.OthersKept 5 (some b) w w') :=
  Any.Builder_WriteRune_k Tryd.lays168 Tryd.Builder_Extra_168 B b bs r hr0 hr1 w h hlen hBw
end Go.Proofs
namespace Go.Proofs.YtoclbmepgeelmaaDoor.Utf
set_option linter.unusedVariables false
set_option linter.unusedSimpArgs false
open Go.RowKit Go.Lib Go.Proofs.YtoclbmepgeelmaaDoorW.PrintWords Go.Proofs.YtoclbmepgeelmaaDoorW.PrintLast Go.Proofs.YtoclbmepgeelmaaDoorW.PrintMore

/-- The bytes of points, and what Join gives. -/
def encZ (xs : List Int) : List UInt8 := xs.flatMap encodeRune
def joinOk (xs : List Int) : Bool := xs.all validRune
def joinE (xs : List Int) : Int := if joinOk xs then 0 else 3
def joinR (xs : List Int) : ByteArray := if joinOk xs then ⟨(encZ xs).toArray⟩ else ⟨#[]⟩
theorem encodeRune_le (r : Int) : (encodeRune r).length ≤ 4 := by
  have := runeCells_le r
  rw [runeCells_length] at this
  exact this.2
theorem encZ_le : ∀ xs : List Int, (encZ xs).length ≤ 4 * xs.length
  | [] => by simp [encZ]
  | x :: t => by
    have h : encZ (x :: t) = encodeRune x ++ encZ t := by simp [encZ]
    have := encZ_le t
    have := encodeRune_le x
    rw [h, List.length_append, List.length_cons]; omega
theorem take_rdJ (xs : List Int) (j : Int) (h0 : 0 ≤ j) (h1 : j < xs.length) : xs.take (j + 1).toNat = xs.take j.toNat ++ [rd xs j] := by
  have hl : j.toNat < xs.length := by omega
  rw [show (j + 1).toNat = j.toNat + 1 by omega, List.take_succ_eq_append_getElem hl]
  simp [rd, List.getD_eq_getElem?_getD, hl]
theorem mem_rdJ (xs : List Int) (j : Int) (h0 : 0 ≤ j) (h1 : j < xs.length) : rd xs j ∈ xs := by
  have hl : j.toNat < xs.length := by omega
  have : rd xs j = xs[j.toNat] := by simp [rd, List.getD_eq_getElem?_getD, hl]
  rw [this]; exact List.getElem_mem _
theorem valid_at (x : Int) (b : Bool) (h : validRune x = b) (W : World) : Calls Tryd.prog 66 #[.int .i32 x] W fun e w' => e = .returned (.bool b) ∧ W = w' := by
  rw [← h]
  exact (Tryd.utf8_ValidRune x W).mono fun e w' h => ⟨h.1, h.2.symm⟩

set_option maxHeartbeats 4000000 in
set_option maxRecDepth 100000 in
theorem join_walk (A : Option Addr) (c : Nat) (xs : List Int) (w : World) (hx : ∀ x ∈ xs, -2147483648 ≤ x ∧ x ≤ 2147483647) (hl : xs.length ≤ 1000000) (hc : xs.length ≤ c) (hC : (Kd.int .i32).C w A xs.length xs) :
    Calls Tryd.prog 51 #[.slice A xs.length c] w fun e w' => e = .returned (.tuple #[.string (joinR xs), .int .i64 (joinE xs)]) ∧ Below w.heap.size w w' := by
  have HC := Aside0.mk hC
  have HX := Aside0.mk hx
  clear hC hx
  obtain ⟨ok, hok⟩ : ∃ b, joinOk xs = b := ⟨_, rfl⟩
  have eE : joinE xs = if ok then 0 else 3 := by rw [joinE, hok]
  have eR : joinR xs = if ok then ⟨(encZ xs).toArray⟩ else ⟨#[]⟩ := by rw [joinR, hok]
  rw [eE, eR]
  have HOK := Aside0.mk hok
  clear hok eE eR
  go_enter Tryd.func51, Tryd.ntmps51
  go_wp2
  go_loopg [9] (xs.length + 1) (fun gk v9 wx => ∃ j : Int, v9 = .int .i64 j ∧ Aside0 (IsBuilderF 95 5 w.heap.size w.heap.size (byteCells (encZ (xs.take j.toNat))) wx) ∧ Aside0 (Below w.heap.size w wx) ∧ Aside0 (joinOk (xs.take j.toNat) = true) ∧ 0 ≤ j ∧ j ≤ xs.length ∧ xs.length - j.toNat < gk)
  case atStart =>
    exact ⟨0, by go_num, ⟨by simpa [encZ, byteCells] using IsBuilderF.of (fresh_isBuilder 95 5 w)⟩, ⟨below_alloc (Below.refl _ _) _⟩, ⟨by simp [joinOk]⟩, by omega, by omega, by omega⟩
  case round =>
    obtain ⟨j, rfl, HI, HB, HO, hj0, hj1, hg⟩ := hrel
    cases gk with
    | zero => omega
    | succ k1 =>
      by_cases cj : j < (xs.length : Int)
      · obtain ⟨ad, e1, cl⟩ := Kd.at_int (Kd.C_below HC.out HB.out) j (by omega) (by omega)
        subst e1
        have ht := take_rdJ xs j hj0 cj
        have hr := HX.out _ (mem_rdJ xs j hj0 cj)
        have hmem := mem_rdJ xs j hj0 cj
        obtain ⟨x, hx⟩ : ∃ x, rd xs j = x := ⟨_, rfl⟩
        rw [hx] at cl ht hr hmem
        have dj := decide_eq_true (p := j < (xs.length : Int)) cj
        by_cases cv : validRune x = true
        · have kv := fun W => valid_at x true cv W
          have KV := Aside0.mk kv
          have hO2 := Aside0.mk (show joinOk (xs.take (j + 1).toNat) = true by
            rw [ht]; have := HO.out; simp only [joinOk, List.all_append, List.all_cons, List.all_nil] at this ⊢; rw [this, cv]; rfl)
          have hE2 : byteCells (encZ (xs.take j.toNat)) ++ runeCells x = byteCells (encZ (xs.take (j + 1).toNat)) := by
            rw [ht, ← byteCells_encodeRune, ← byteCells_append]; simp [encZ]
          have hlen : (byteCells (encZ (xs.take j.toNat))).length + 4 ≤ 140737488355328 := by
            rw [byteCells_length]
            have h1 := encZ_le (xs.take j.toNat)
            rw [List.length_take] at h1
            omega
          have kw := fun W h1 h2 => Tryd.Builder_WriteRune_k w.heap.size w.heap.size (byteCells (encZ (xs.take j.toNat))) x hr.1 hr.2 W h1 hlen h2
          rw [hE2] at kw
          have KW := Aside0.mk kw
          clear kv kw hE2 hlen ht hr hmem hx cv HO
          go_wp2_with fail
          refine (KV.out _).mono ?_
          rintro e w1 ⟨rfl, rfl⟩
          go_wp2_with fail
          refine (KW.out _ (by first | exact HI.out | exact HI.out.drew) (by first | exact HB.out.size | exact (below_drew HB.out).size)).mono ?_
          rintro e w2 ⟨rfl, hi, hb, hk⟩
          have HI2 := Aside0.mk hi
          have HB2 := Aside0.mk hb
          clear hi hb hk
          go_wp2
          go_roundg k1
          case measure => omega
          case rel => exact ⟨j + 1, by go_num, ⟨.inr HI2.out⟩, ⟨HB.out.trans HB2.out⟩, hO2, by omega, by omega, by omega⟩
        · have cv' : validRune x = false := by simpa using cv
          have KV := Aside0.mk (fun W => valid_at x false cv' W)
          have hN : joinOk xs = false := by
            unfold joinOk
            rw [List.all_eq_false]
            exact ⟨x, hmem, cv⟩
          obtain rfl : false = ok := hN.symm.trans HOK.out
          clear ht hr hmem hx cv cv' hN HO
          go_wp2_with fail
          refine (KV.out _).mono ?_
          rintro e w1 ⟨rfl, rfl⟩
          go_wp2_with fail
          go_ret2
          exact ⟨rfl, by first | exact HB.out | exact below_drew HB.out⟩
      · have dj := decide_eq_false (p := j < (xs.length : Int)) cj
        have hfull : xs.take j.toNat = xs := List.take_of_length_le (by omega)
        have hO := HO.out
        have hI := HI.out
        rw [hfull] at hO hI
        obtain rfl : true = ok := hO.symm.trans HOK.out
        have HI2 := Aside0.mk hI
        clear hfull hO hI HO HI
        go_wp2_with fail
        refine (Tryd.Builder_String_any_k w.heap.size w.heap.size (encZ xs) _ (by first | exact HI2.out | exact HI2.out.drew) (by first | exact HB.out.size | exact (below_drew HB.out).size)).mono ?_
        rintro e w2 ⟨rfl, hi, hb, hk⟩
        have HB2 := Aside0.mk (HB.out.trans hb)
        clear hi hb hk
        go_wp2_with fail
        go_ret2
        exact ⟨rfl, HB2.out⟩
end Go.Proofs.YtoclbmepgeelmaaDoor.Utf
namespace Go.Proofs.YtoclbmepgeelmaaDoor.Utf
set_option linter.unusedVariables false
set_option linter.unusedSimpArgs false
open Go.RowKit Go.Lib Go.Proofs.YtoclbmepgeelmaaDoorW.PrintWords Go.Proofs.YtoclbmepgeelmaaDoorW.PrintLast Go.Proofs.YtoclbmepgeelmaaDoorW.PrintMore Go.Proofs.YtoclbmepgeelmaaDoor.PRa

/-- The document's Write: a point's bytes, or none. -/
def wrL (x : Int) : List Int := if validRune x then encodeRuneZ x else []
theorem rwr_f (x : Int) : hindsightref05_Write.f 1 x = some (wrL x) := by
  unfold hindsightref05_Write.f wrL
  by_cases hv : validRune x = true
  · rw [if_pos hv]
    unfold validRune at hv
    simp only [decide_eq_true_eq] at hv
    rw [if_neg (by omega), if_neg (by omega)]
    have E : (if x ≥ 55296 then hindsightref05_Write.j0 1 x (decide (x ≤ 57343)) else hindsightref05_Write.j0 1 x false) = hindsightref05_Write.j0 1 x false := by
      by_cases h : x ≥ 55296
      · rw [if_pos h, decide_eq_false (by omega)]
      · rw [if_neg h]
    rw [E]
    simp only [hindsightref05_Write.j0]
    rw [if_neg (by simp)]
    have t : ∀ d : Int, 0 < d → Int.tdiv x d = x / d := fun d hd => Int.tdiv_eq_ediv_of_nonneg (by omega)
    have m : ∀ y : Int, 0 ≤ y → Int.tmod y 64 = y % 64 := fun y hy => Int.tmod_eq_emod_of_nonneg hy
    rw [t 64 (by omega), t 4096 (by omega), t 262144 (by omega)]
    rw [show wrap64 (x / 64) = x / 64 from wrap64_id (by omega) (by omega), show wrap64 (x / 4096) = x / 4096 from wrap64_id (by omega) (by omega), show wrap64 (x / 262144) = x / 262144 from wrap64_id (by omega) (by omega)]
    rw [m x (by omega), m (x / 64) (by omega), m (x / 4096) (by omega)]
    by_cases c1 : x < 128
    · rw [if_pos c1, encodeRuneZ_one (by omega) (by omega), show x % 256 = x by omega]
    rw [if_neg c1]
    have e1 : wrap64 (128 + x % 64) % 256 = 128 + x % 64 := by rw [wrap64_id (by omega) (by omega)]; omega
    by_cases c2 : x < 2048
    · rw [if_pos c2, encodeRuneZ_two (by omega) (by omega), e1]
      rw [show wrap64 (192 + x / 64) % 256 = 192 + x / 64 by rw [wrap64_id (by omega) (by omega)]; omega]
    rw [if_neg c2]
    have e2 : wrap64 (128 + x / 64 % 64) % 256 = 128 + x / 64 % 64 := by rw [wrap64_id (by omega) (by omega)]; omega
    by_cases c3 : x < 65536
    · rw [if_pos c3, encodeRuneZ_three (by omega), e1, e2]
      rw [show wrap64 (224 + x / 4096) % 256 = 224 + x / 4096 by rw [wrap64_id (by omega) (by omega)]; omega]
    rw [if_neg c3, encodeRuneZ_four (by omega) (by omega), e1, e2]
    rw [show wrap64 (240 + x / 262144) % 256 = 240 + x / 262144 by rw [wrap64_id (by omega) (by omega)]; omega, show wrap64 (128 + x / 4096 % 64) % 256 = 128 + x / 4096 % 64 by rw [wrap64_id (by omega) (by omega)]; omega]
  · rw [if_neg hv]
    unfold validRune at hv
    simp only [decide_eq_true_eq] at hv
    have J : hindsightref05_Write.j0 1 x true = some [] := by simp [hindsightref05_Write.j0]
    by_cases c1 : x < 0
    · rw [if_pos c1, J]
    rw [if_neg c1]
    by_cases c2 : x > 1114111
    · rw [if_pos c2, J]
    rw [if_neg c2, if_pos (by omega), decide_eq_true (by omega), J]
theorem rwr_walk (x : Int) (w : World) : Calls Tryd.prog 50 #[.int .i64 x] w fun e w' => ∃ v : Value, e = .returned v ∧ (Kd.int .u8).R 5 w' w.heap.size (fun _ => True) v (wrL x) ∧ Below w.heap.size w w' :=
  hindsightref05_Write.calls 1 x _ w (rwr_f x)
/-- What the law's own loop puts together. -/
def wantS (xs : List Int) : ByteArray := strOfNums (xs.flatMap wrL)
theorem strOfNums_app (a b : List Int) : strOfNums (a ++ b) = strOfNums a ++ strOfNums b := by
  apply ByteArray.ext; apply Array.toList_inj.1
  rw [ByteArray.data_append, Array.toList_append, strOfNums_data, strOfNums_data, strOfNums_data, List.map_append]
theorem wantS_snoc (xs : List Int) (x : Int) : wantS (xs ++ [x]) = wantS xs ++ strOfNums (wrL x) := by
  unfold wantS; rw [List.flatMap_append, strOfNums_app]; simp
theorem wrL_le (x : Int) : (wrL x).length ≤ 4 := by
  unfold wrL
  split
  · exact (encodeRuneZ_length x).2
  · simp
theorem wantS_le : ∀ xs : List Int, (wantS xs).size ≤ 4 * xs.length := by
  intro xs
  unfold wantS
  rw [strOfNums_size]
  induction xs with
  | nil => simp
  | cons x t ih =>
    have := wrL_le x
    rw [List.flatMap_cons, List.length_append, List.length_cons]; omega
theorem wantS_ok : ∀ {xs : List Int}, joinOk xs = true → wantS xs = ⟨(encZ xs).toArray⟩ := by
  intro xs h
  apply ByteArray.ext; apply Array.toList_inj.1
  unfold wantS
  rw [strOfNums_data]
  show _ = encZ xs
  unfold encZ
  induction xs with
  | nil => rfl
  | cons x t ih =>
    simp only [joinOk, List.all_cons, Bool.and_eq_true] at h
    rw [List.flatMap_cons, List.flatMap_cons, List.map_append, ih h.2, wrL, if_pos h.1]
    rfl
end Go.Proofs.YtoclbmepgeelmaaDoor.Utf
namespace Go.Proofs.YtoclbmepgeelmaaDoor.Utf
set_option linter.unusedVariables false
set_option linter.unusedSimpArgs false
open Go.RowKit Go.Lib Go.Proofs.YtoclbmepgeelmaaDoorW.PrintWords Go.Proofs.YtoclbmepgeelmaaDoorW.PrintLast Go.Proofs.YtoclbmepgeelmaaDoorW.PrintMore

theorem valid_scalar {r : Nat} : Scalar r ↔ validRune (r : Int) = true := by
  unfold Scalar validRune
  simp only [decide_eq_true_eq]
  omega
theorem encZ_ints (rs : List Nat) : encZ (ints rs) = encs rs := by
  unfold encZ ints encs
  rw [List.flatMap_map]
theorem joinOk_ints (rs : List Nat) (h : ∀ r ∈ rs, Scalar r) : joinOk (ints rs) = true := by
  unfold joinOk ints
  rw [List.all_eq_true]
  intro x hx
  obtain ⟨r, hr, rfl⟩ := List.mem_map.1 hx
  exact valid_scalar.1 (h r hr)
/-- The points of a good text, put together, are the text. -/
theorem join_split (s : ByteArray) (h : validD s.data.toList = true) : joinR (splitR s.data.toList) = s ∧ joinE (splitR s.data.toList) = 0 := by
  obtain ⟨rs, h1, h2, h3⟩ := valid_encs' h
  have hk := joinOk_ints rs h1
  have e1 : splitR s.data.toList = ints rs := by rw [splitR, if_pos h, h3]
  rw [e1]
  refine ⟨?_, by rw [joinE, if_pos hk]⟩
  rw [joinR, if_pos hk, encZ_ints, ← h2]
/-- Good points, put together, are taken apart again. -/
theorem split_join (xs : List Int) (h : joinOk xs = true) : splitR (joinR xs).data.toList = xs ∧ splitE (joinR xs).data.toList = 0 := by
  have hx : xs = ints (xs.map Int.toNat) := by
    unfold ints
    rw [List.map_map]
    conv => lhs; rw [← List.map_id xs]
    apply List.map_congr_left
    intro x hx
    unfold joinOk at h
    have := List.all_eq_true.1 h x hx
    unfold validRune at this
    simp only [decide_eq_true_eq] at this
    simp only [id, Function.comp]; omega
  have hs : ∀ r ∈ xs.map Int.toNat, Scalar r := by
    intro r hr
    obtain ⟨x, hx, rfl⟩ := List.mem_map.1 hr
    unfold joinOk at h
    have := List.all_eq_true.1 h x hx
    unfold validRune at this
    simp only [decide_eq_true_eq] at this
    unfold Scalar
    omega
  have e : (joinR xs).data.toList = encs (xs.map Int.toNat) := by
    rw [joinR, if_pos h]
    show encZ xs = _
    conv => lhs; rw [hx]
    exact encZ_ints _
  obtain ⟨v1, v2⟩ := encs_valid _ hs
  rw [e]
  unfold splitR splitE
  rw [if_pos v1, if_pos v1, v2]
  exact ⟨hx.symm, rfl⟩
theorem strOfNums_bytes (s : ByteArray) : strOfNums (bytesOf s) = s := by
  apply ByteArray.ext; apply Array.toList_inj.1
  rw [strOfNums_data, bytesOf, List.map_map]
  conv => rhs; rw [← List.map_id s.data.toList]
  apply List.map_congr_left
  intro b _
  simp
/-- What is quoted is taken back. -/
theorem unquote_quote (s : ByteArray) : unqR (quoteS s) = s ∧ unqE (quoteS s) = 0 := by
  have h : unqO (quoteS s) = some (bytesOf s) := by
    have e : bytesOf (quoteS s) = 39 :: (dblZ (bytesOf s) ++ [39]) := by
      have := (quote_nums_inj (xs := bytesOf s) (s := quoteS s) (bytesOf_range s)).1 (by rw [strOfNums_bytes])
      exact this
    rw [unqO_ends e, unqL_dbl]
  unfold unqR unqE
  rw [h]
  exact ⟨strOfNums_bytes s, rfl⟩
theorem quoteS_size (s : ByteArray) : (quoteS s).size ≤ 2 * s.size + 2 := by
  have h1 : (quoteS s).size = (dbl s.data.toList).length + 2 := by
    show (39 :: (dbl s.data.toList ++ [39])).toArray.size = _
    simp
  have h2 := dbl_length s.data.toList
  have h3 := List.count_le_length (a := (39 : UInt8)) (l := s.data.toList)
  have h4 : s.data.toList.length = s.size := by simp
  omega
def digZ (u : Nat) : List Int := (decDigits u).map fun b => (b.toNat : Int)
theorem digZ_small {u : Nat} (h : u < 10) : digZ u = [48 + (u : Int)] := by
  unfold digZ; rw [decDigits, dif_pos h]
  simp only [List.map_cons, List.map_nil]
  rw [UInt8.toNat_ofNat']
  congr 1; omega
theorem digZ_big {u : Nat} (h : ¬ u < 10) : digZ u = digZ (u / 10) ++ [48 + ((u % 10 : Nat) : Int)] := by
  unfold digZ; rw [decDigits, dif_neg h]
  rw [List.map_append]
  congr 1
  simp only [List.map_cons, List.map_nil]
  rw [UInt8.toNat_ofNat']
  congr 1; omega
theorem dv_app : ∀ (l m : List Int) (a : Int), dv a (l ++ m) = dv (dv a l) m
  | [], m, a => rfl
  | c :: t, m, a => by simp only [List.cons_append, dv]; exact dv_app t m _
theorem dig_back : ∀ u : Nat, digitsOk (digZ u) = true ∧ dv 0 (digZ u) = (u : Int) := by
  intro u
  induction u using Nat.strongRecOn with
  | _ u ih =>
  by_cases h : u < 10
  · rw [digZ_small h]
    refine ⟨by simp [digitsOk]; omega, by simp [dv]; omega⟩
  · rw [digZ_big h]
    obtain ⟨i1, i2⟩ := ih (u / 10) (by omega)
    refine ⟨?_, ?_⟩
    · unfold digitsOk at i1 ⊢
      rw [List.all_append, i1]; simp; omega
    · rw [dv_app, i2]; simp only [dv]; omega
/-- A number's digits are its number. -/
theorem number_digits (n : Int) (h0 : 0 ≤ n) (h1 : n ≤ 9223372036854775807) : numRE ⟨(itoa n).toArray⟩ = (n, 0) := by
  obtain ⟨d1, d2⟩ := dig_back n.toNat
  have e : itoa n = decDigits n.toNat := by unfold itoa; rw [if_neg (by omega)]
  have eb : bytesOf (⟨(itoa n).toArray⟩ : ByteArray) = digZ n.toNat := by rw [e]; rfl
  have hsz : (⟨(itoa n).toArray⟩ : ByteArray).size ≠ 0 := by
    intro h
    have h2 := bytesOf_length (⟨(itoa n).toArray⟩ : ByteArray)
    rw [h, eb] at h2
    have h3 : digZ n.toNat = [] := List.eq_nil_of_length_eq_zero h2
    by_cases h : n.toNat < 10
    · rw [digZ_small h] at h3; cases h3
    · rw [digZ_big h] at h3; simp at h3
  unfold numRE
  rw [if_neg hsz, eb]
  unfold numOf
  rw [if_pos d1, if_pos ⟨rfl, by omega⟩, d2]
  congr 1; omega
end Go.Proofs.YtoclbmepgeelmaaDoor.Utf
