import Derived.Test.YtoclbmepgeelmaaDoorWrw
import Derived.Test.YtoclbmepgeelmaaDoorPRgy2
namespace Go.Proofs.YtoclbmepgeelmaaDoor.Utf
set_option linter.unusedVariables false
set_option linter.unusedSimpArgs false
open Go.RowKit Go.Lib Go.Proofs.YtoclbmepgeelmaaDoorW.PrintWords Go.Proofs.YtoclbmepgeelmaaDoorW.PrintLast Go.Proofs.YtoclbmepgeelmaaDoorW.PrintMore Go.Proofs.YtoclbmepgeelmaaDoor.PRe Go.Proofs.YtoclbmepgeelmaaDoor.PRg

/-! ### The document's text and Write -/
theorem strOfNums_appR (a b : List Int) : strOfNums (a ++ b) = strOfNums a ++ strOfNums b := by
  apply ByteArray.ext; apply Array.toList_inj.1
  rw [ByteArray.data_append, Array.toList_append, strOfNums_data, strOfNums_data, strOfNums_data, List.map_append]
theorem hexL_noquote (l : List Int) (h : ∀ x ∈ l, 0 ≤ x ∧ x ≤ 255) : 39 ∉ hexL l := by
  intro hm
  unfold hexL at hm
  obtain ⟨c, hc, hx⟩ := List.mem_flatMap.1 hm
  have := h c hc
  simp only [List.mem_cons, List.not_mem_nil, or_false] at hx
  rcases hx with hx | hx
  · unfold hexD at hx; split at hx <;> omega
  · unfold hexD at hx; split at hx <;> omega
theorem dblZ_id : ∀ X : List Int, 39 ∉ X → dblZ X = X
  | [], _ => rfl
  | c :: t, h => by
    have hc : c ≠ 39 := fun e => h (by rw [e]; simp)
    rw [dblZ_cons, if_neg hc, dblZ_id t (fun q => h (by simp [q]))]
theorem hexQuote (t : ByteArray) : (⟨#[120]⟩ : ByteArray) ++ quoteS (strOfNums (hexL (bytesOf t))) = (⟨#[120, 39]⟩ : ByteArray) ++ strOfNums (hexL (bytesOf t)) ++ (⟨#[39]⟩ : ByteArray) := by
  rw [quoteS_nums, bytesOf_str _ (hexL_range _ (bytesOf_range t)), dblZ_id _ (hexL_noquote _ (bytesOf_range t))]
  apply ByteArray.ext; apply Array.toList_inj.1
  rw [ByteArray.data_append, ByteArray.data_append, ByteArray.data_append, Array.toList_append, Array.toList_append, Array.toList_append, strOfNums_data, strOfNums_data]
  simp
abbrev digS16 : ByteArray := ⟨#[48, 49, 50, 51, 52, 53, 54, 55, 56, 57, 97, 98, 99, 100, 101, 102]⟩
theorem ev_text0 (k p : Int) (t : ByteArray) (v : Int) (ht : t.size ≤ 100000) : ∀ (m i : Nat), i + m = t.size →
    Ev (fun q => hindsightref19_text.l0 q digS16 ((⟨#[120, 39]⟩ : ByteArray) ++ strOfNums (hexL ((bytesOf t).take i))) (i : Int) k p t v) ((⟨#[120, 39]⟩ : ByteArray) ++ strOfNums (hexL (bytesOf t)) ++ (⟨#[39]⟩ : ByteArray)) := by
  have hz2 : (⟨#[120, 39]⟩ : ByteArray).size = 2 := rfl
  have hz16 : digS16.size = 16 := rfl
  intro m
  induction m with
  | zero =>
    intro i hi
    have hf : (bytesOf t).take i = bytesOf t := List.take_of_length_le (by rw [bytesOf_length]; omega)
    rw [hf]
    refine Ev.step (f := fun q => some _) (fun q => ?_) (Ev.now _)
    simp only [hindsightref19_text.l0]
    have hz : ((⟨#[120, 39]⟩ : ByteArray) ++ strOfNums (hexL (bytesOf t))).size = 2 + 2 * t.size := by
      rw [ByteArray.size_append, hz2, strOfNums_size, hexL_length, bytesOf_length]
    rw [if_neg (by omega), if_pos (by omega)]
  | succ m ih =>
    intro i hi
    have w1 : wrap64 ((i : Int) + 1) = ((i + 1 : Nat) : Int) := by rw [wrap64_id (by omega) (by omega)]; omega
    have b := bt_range t (i : Int)
    obtain ⟨c, hc⟩ : ∃ c, bt t (i : Int) = c := ⟨_, rfl⟩
    have hx := hexL_take t i (by omega)
    rw [hc] at hx b
    have q1 : Int.tdiv c 16 % 256 = c / 16 := by rw [Int.tdiv_eq_ediv_of_nonneg b.1]; omega
    have q2 : Int.tmod c 16 = c % 16 := Int.tmod_eq_emod_of_nonneg b.1
    refine Ev.step (f := fun q => hindsightref19_text.l0 q digS16 ((⟨#[120, 39]⟩ : ByteArray) ++ strOfNums (hexL ((bytesOf t).take (i + 1)))) ((i + 1 : Nat) : Int) k p t v) (fun q => ?_) (ih (i + 1) (by omega))
    have hz : ((⟨#[120, 39]⟩ : ByteArray) ++ strOfNums (hexL ((bytesOf t).take i))).size ≤ 2 + 2 * t.size := by
      rw [ByteArray.size_append, hz2, strOfNums_size, hexL_length, List.length_take]; omega
    have hz3 : (strOfNums [hexD (c / 16), hexD (c % 16)]).size = 2 := by rw [strOfNums_size]; rfl
    simp only [hindsightref19_text.l0]
    rw [hc, q1, q2, if_pos (by omega), if_pos (by omega), if_pos (by omega), if_pos (by omega), if_pos (by omega), if_pos (by omega), hexT_at (c / 16) (by omega) (by omega), hexT_at (c % 16) (by omega) (by omega), Option.bind_some, if_pos (by omega), w1, hx, strOfNums_appR, ByteArray.append_assoc]
theorem ev_text (k p : Int) (t : ByteArray) (v : Int) (h0 : -9223372036854775808 ≤ v) (h1 : v ≤ 9223372036854775807) (ht : t.size ≤ 5000) (hk : 1 ≤ k ∧ k ≤ 5) : Ev (fun q => hindsightref19_text.f q k p t v) (textZ k t v) := by
  unfold textZ
  by_cases k2 : k = 2
  · rw [if_neg (by omega), if_pos k2]
    obtain ⟨q, hq⟩ := rdig_f v h0 h1
    refine Ev.congr (fun q => by unfold hindsightref19_text.f; rw [if_pos k2]) (Ev.bind (Ev.of (PRb.hindsightref05_Digits.mono _) hq) (Ev.now _))
  by_cases k3 : k = 3
  · rw [if_neg (by omega), if_neg k2, if_pos k3]
    obtain ⟨q, hq⟩ := rquote_f t (by omega)
    refine Ev.congr (fun q => by unfold hindsightref19_text.f; rw [if_neg k2, if_pos k3]) (Ev.bind (Ev.of (PRb.hindsightref05_Quote.mono _) hq) (Ev.now _))
  by_cases k4 : k = 4
  · rw [if_neg (by omega), if_neg k2, if_neg k3, if_pos k4, hexQuote]
    refine Ev.congr (fun q => by unfold hindsightref19_text.f; rw [if_neg k2, if_neg k3, if_pos k4]) ?_
    have := ev_text0 k p t v (by omega) t.size 0 (by omega)
    have e : (⟨#[120, 39]⟩ : ByteArray) ++ strOfNums (hexL ((bytesOf t).take 0)) = ⟨#[120, 39]⟩ := by
      apply ByteArray.ext; apply Array.toList_inj.1
      rw [ByteArray.data_append, Array.toList_append, strOfNums_data]; rfl
    rw [e] at this
    exact this
  · rw [if_pos (by omega)]
    exact Ev.congr (f := fun _ => some t) (fun q => by unfold hindsightref19_text.f; rw [if_neg k2, if_neg k3, if_neg k4]) (Ev.now _)
theorem join_snoc (xs : List (List UInt8)) (y : List UInt8) : Lib.join (xs ++ [y]) [32] = if xs = [] then y else Lib.join xs [32] ++ [32] ++ y := by
  cases xs with
  | nil => simp [Lib.join]
  | cons x r =>
    rw [if_neg (by simp), List.cons_append, join_cons, join_cons]
    simp [joinTail]
theorem writeS_snoc (L : List S53) (t : S53) : writeS (L ++ [t]) = if keepK t.f0 then (if textsL L = [] then textZ t.f0 t.f2 t.f3 else writeS L ++ (⟨#[32]⟩ : ByteArray) ++ textZ t.f0 t.f2 t.f3) else writeS L := by
  unfold writeS writeL
  rw [textsL_snoc]
  cases h : keepK t.f0 with
  | false => rfl
  | true =>
    simp only [↓reduceIte]
    rw [List.map_append, List.map_cons, List.map_nil, join_snoc]
    by_cases hn : textsL L = []
    · rw [hn]; rfl
    · rw [if_neg hn, if_neg (by simpa using hn)]
      apply ByteArray.ext; apply Array.toList_inj.1
      rw [ByteArray.data_append, ByteArray.data_append, Array.toList_append, Array.toList_append]
theorem rd_map87w (L : List S53) (i : Int) (h0 : 0 ≤ i) (h1 : i < L.length) : rd_T87 (L.map fun x => (⟨x.f0, x.f1, x.f2, x.f3⟩ : S87)) i = ⟨(rd_T53 L i).f0, (rd_T53 L i).f1, (rd_T53 L i).f2, (rd_T53 L i).f3⟩ := by
  have hl : i.toNat < L.length := by omega
  simp [rd_T87, rd_T53, List.getD_eq_getElem?_getD, hl]
abbrev m87 (L : List S53) : List S87 := L.map fun x => (⟨x.f0, x.f1, x.f2, x.f3⟩ : S87)
theorem writeS_size (L : List S53) (hF : ∀ t ∈ L, FitT t) (hL : L.length ≤ 5000) : (writeS L).size ≤ 100155000 := by
  have := join_le 20030 ((textsL L).map (·.data.toList)) (by
    intro x hx
    obtain ⟨y, hy, rfl⟩ := List.mem_map.1 hx
    unfold textsL at hy
    obtain ⟨t, ht, rfl⟩ := List.mem_map.1 hy
    obtain ⟨⟨f0, f1⟩, f2⟩ := hF t (List.mem_filter.1 ht).1
    have := textZ_size t.f0 t.f2 t.f3 f0 f1
    rw [data_length]; omega)
  rw [List.length_map] at this
  have hxl := textsL_length L
  have h2 : 20031 * (textsL L).length ≤ 20031 * 5000 := Nat.mul_le_mul_left _ (by omega)
  show (writeL L).toArray.size ≤ _
  rw [List.size_toArray]
  unfold writeL
  omega
theorem ev_write0 (L : List S53) (hF : ∀ t ∈ L, FitT t) (hL : L.length ≤ 5000) : ∀ (m i : Nat), i + m = L.length →
    Ev (fun q => hindsightref19_Write.l0 q (m87 L) (writeS (L.take i)) (decide (textsL (L.take i) ≠ [])) (i : Int)) (writeS L) := by
  intro m
  induction m with
  | zero =>
    intro i hi
    rw [List.take_of_length_le (by omega)]
    refine Ev.step (f := fun q => some (writeS L)) (fun q => ?_) (Ev.now _)
    simp only [hindsightref19_Write.l0]
    rw [if_neg (by rw [List.length_map]; omega)]
  | succ m ih =>
    intro i hi
    have w1 : wrap64 ((i : Int) + 1) = ((i + 1 : Nat) : Int) := by rw [wrap64_id (by omega) (by omega)]; omega
    have ht := take_rd53 L (i : Int) (by omega) (by omega)
    rw [show ((i : Int) + 1).toNat = i + 1 by omega, Int.toNat_natCast] at ht
    have hn := ih (i + 1) (by omega)
    rw [ht] at hn
    have hm := mem_rd53 L (i : Int) (by omega) (by omega)
    obtain ⟨⟨f0, f1⟩, f2⟩ := hF _ hm
    have hz := writeS_size (L.take i) (fun t h => hF t (List.mem_of_mem_take h)) (by rw [List.length_take]; omega)
    rw [writeS_snoc, textsL_snoc] at hn
    have hrd := rd_map87w L (i : Int) (by omega) (by omega)
    obtain ⟨t, htt⟩ : ∃ t, rd_T53 L (i : Int) = t := ⟨_, rfl⟩
    rw [htt] at hn f0 f1 f2 hrd
    have hzt := textZ_size t.f0 t.f2 t.f3 f0 f1
    have c1 : (i : Int) < ((m87 L).length : Int) := by rw [List.length_map]; omega
    have c0 : (0 : Int) ≤ (i : Int) := by omega
    have hl0 : ∀ q, hindsightref19_Write.l0 (q + 1) (m87 L) (writeS (L.take i)) (decide (textsL (L.take i) ≠ [])) (i : Int) = hindsightref19_Write.j1 q (m87 L) (writeS (L.take i)) (decide (textsL (L.take i) ≠ [])) (i : Int) (!keepK t.f0) := by
      intro q
      simp only [hindsightref19_Write.l0]
      rw [if_pos c1, if_pos c0, hrd]
      simp only
      unfold keepK
      by_cases k1 : t.f0 < 1
      · rw [if_pos k1, show decide (1 ≤ t.f0) = false from decide_eq_false (by omega)]; rfl
      · rw [if_neg k1, show decide (1 ≤ t.f0) = true from decide_eq_true (by omega)]
        by_cases k5 : t.f0 > 5
        · rw [show decide (t.f0 > 5) = true from decide_eq_true k5, show decide (t.f0 ≤ 5) = false from decide_eq_false (by omega)]; rfl
        · rw [show decide (t.f0 > 5) = false from decide_eq_false k5, show decide (t.f0 ≤ 5) = true from decide_eq_true (by omega)]; rfl
    refine Ev.step hl0 ?_
    cases hk : keepK t.f0 with
    | false =>
      rw [hk] at hn
      simp only [Bool.false_eq_true, ↓reduceIte] at hn
      refine Ev.step (f := fun q => hindsightref19_Write.l0 q (m87 L) (writeS (L.take i)) (decide (textsL (L.take i) ≠ [])) ((i + 1 : Nat) : Int)) (fun q => ?_) hn
      simp only [hindsightref19_Write.j1, Bool.not_false, ↓reduceIte]
      rw [w1]
    | true =>
      rw [hk] at hn
      simp only [↓reduceIte] at hn
      have hkk : 1 ≤ t.f0 ∧ t.f0 ≤ 5 := by
        unfold keepK at hk
        simp only [Bool.and_eq_true, decide_eq_true_eq] at hk
        exact hk
      have hx := ev_text t.f0 t.f1 t.f2 t.f3 f0 f1 f2 hkk
      have hne : decide (textsL (L.take i) ++ [textZ t.f0 t.f2 t.f3] ≠ []) = true := by simp
      rw [hne] at hn
      have hz1 : (⟨#[32]⟩ : ByteArray).size = 1 := rfl
      have hz2 : (writeS (L.take i) ++ (⟨#[32]⟩ : ByteArray)).size = (writeS (L.take i)).size + 1 := by rw [ByteArray.size_append, hz1]
      by_cases he : textsL (L.take i) = []
      · rw [if_pos he] at hn
        have hw0 : writeS (L.take i) = ⟨#[]⟩ := by unfold writeS writeL; rw [he]; rfl
        rw [show decide (textsL (L.take i) ≠ []) = false by simp [he]]
        refine Ev.step (f := fun q => (hindsightref19_text.f q t.f0 t.f1 t.f2 t.f3).bind fun t203 => (if (writeS (L.take i)).size + t203.size ≤ 9223372036854775807 then (hindsightref19_Write.l0 q (m87 L) (writeS (L.take i) ++ t203) true ((i + 1 : Nat) : Int)) else none)) (fun q => ?_) (Ev.bind hx ?_)
        · simp only [hindsightref19_Write.j1, Bool.not_true, Bool.false_eq_true, ↓reduceIte]
          rw [if_pos c0, if_pos c1, hrd, w1]
        · refine Ev.congr (fun q => if_pos (by omega)) ?_
          have e : writeS (L.take i) ++ textZ t.f0 t.f2 t.f3 = textZ t.f0 t.f2 t.f3 := by
            rw [hw0]; apply ByteArray.ext; rw [ByteArray.data_append]; simp
          rw [e]
          exact hn
      · rw [if_neg he] at hn
        rw [show decide (textsL (L.take i) ≠ []) = true by simp [he]]
        refine Ev.step (f := fun q => (hindsightref19_text.f q t.f0 t.f1 t.f2 t.f3).bind fun t201 => (if (writeS (L.take i) ++ (⟨#[32]⟩ : ByteArray)).size + t201.size ≤ 9223372036854775807 then (hindsightref19_Write.l0 q (m87 L) ((writeS (L.take i) ++ (⟨#[32]⟩ : ByteArray)) ++ t201) true ((i + 1 : Nat) : Int)) else none)) (fun q => ?_) (Ev.bind hx ?_)
        · simp only [hindsightref19_Write.j1, Bool.not_true, Bool.false_eq_true, ↓reduceIte]
          rw [if_pos (by omega), if_pos c0, if_pos c1, hrd, w1]
        · refine Ev.congr (fun q => if_pos (by omega)) ?_
          exact hn
theorem rwrite_walk (L : List S53) (hF : ∀ t ∈ L, FitT t) (hL : L.length ≤ 5000) (A : Option Addr) (c : Nat) (w : World) (hC : Kd.C k87 w A L.length (m87 L)) (hc : L.length ≤ c) :
    Calls Tryd.prog 54 #[.slice A L.length c] w fun e w' => e = .returned (.string (writeS L)) ∧ Below w.heap.size w w' := by
  have h := ev_write0 L hF hL L.length 0 (by omega)
  obtain ⟨k, hk⟩ := (Ev.congr (fun k => by unfold hindsightref19_Write.f; rfl) h : Ev (fun k => hindsightref19_Write.f k (m87 L)) (writeS L)).rounds
  have e : (m87 L).length = L.length := List.length_map ..
  have := hindsightref19_Write.calls k A c (m87 L) (writeS L) w (by rw [e]; exact hC) (by rw [e]; exact hc) hk
  rw [e] at this
  exact this
/-- The law's own turning of tokens. -/
theorem ev_as0 (L : List S53) (hL : L.length ≤ 5000) : ∀ (m i : Nat), i + m = L.length → Ev (fun q => hindsightlaw19_as.l0 q L (m87 (L.take i)) (i : Int)) (m87 L) := by
  intro m
  induction m with
  | zero =>
    intro i hi
    rw [List.take_of_length_le (by omega)]
    refine Ev.step (f := fun q => some (m87 L)) (fun q => ?_) (Ev.now _)
    simp only [hindsightlaw19_as.l0]
    rw [if_neg (by omega)]
  | succ m ih =>
    intro i hi
    have w1 : wrap64 ((i : Int) + 1) = ((i + 1 : Nat) : Int) := by rw [wrap64_id (by omega) (by omega)]; omega
    have ht := take_rd53 L (i : Int) (by omega) (by omega)
    rw [show ((i : Int) + 1).toNat = i + 1 by omega, Int.toNat_natCast] at ht
    refine Ev.step (f := fun q => hindsightlaw19_as.l0 q L (m87 (L.take (i + 1))) ((i + 1 : Nat) : Int)) (fun q => ?_) (ih (i + 1) (by omega))
    simp only [hindsightlaw19_as.l0]
    rw [if_pos (by omega), if_pos (by omega), if_pos (by rw [List.length_map, List.length_take]; omega), w1, ht]
    simp [m87]
theorem as_walk (L : List S53) (hL : L.length ≤ 5000) (A : Option Addr) (c : Nat) (w : World) (hC : Kd.C k53 w A L.length L) (hc : L.length ≤ c) :
    Calls Tryd.prog 55 #[.slice A L.length c] w fun e w' => ∃ (A' : Option Addr) (q : Nat), e = .returned (.slice A' L.length q) ∧ L.length ≤ q ∧ Kd.C k87 w' A' L.length (m87 L) ∧ Below w.heap.size w w' := by
  obtain ⟨k, hk⟩ := (Ev.congr (fun k => by unfold hindsightlaw19_as.f; rfl) (ev_as0 L hL L.length 0 (by omega)) : Ev (fun k => hindsightlaw19_as.f k L) (m87 L)).rounds
  refine (hindsightlaw19_as.calls k A c L (m87 L) w hC hc hk).mono ?_
  rintro e w' ⟨v, rfl, hR, hb⟩
  obtain ⟨A', q, rfl, hq, hC'⟩ := Kd.R_reads hR
  rw [List.length_map] at hq hC' ⊢
  exact ⟨A', q, rfl, hq, hC', hb⟩
def greatB (L : List S53) : Bool := L.any fun t => decide (200 < L.length) || decide (300 < t.f2.size)
theorem ev_great0 (L : List S53) (hl : L.length ≤ 9223372036854775807) : ∀ (m i : Nat), i + m = L.length → Ev (fun q => hindsightlaw19_Great.l0 q L (i : Int)) ((L.drop i).any fun t => decide (200 < L.length) || decide (300 < t.f2.size)) := by
  intro m
  induction m with
  | zero =>
    intro i hi
    rw [List.drop_eq_nil_of_le (by omega)]
    refine Ev.step (f := fun q => some false) (fun q => ?_) (Ev.now _)
    simp only [hindsightlaw19_Great.l0]
    rw [if_neg (by omega)]
  | succ m ih =>
    intro i hi
    have w1 : wrap64 ((i : Int) + 1) = ((i + 1 : Nat) : Int) := by rw [wrap64_id (by omega) (by omega)]; omega
    have hlt : i < L.length := by omega
    have hd : L.drop i = rd_T53 L (i : Int) :: L.drop (i + 1) := by
      rw [List.drop_eq_getElem_cons hlt]; simp [rd_T53, List.getD_eq_getElem?_getD, hlt]
    rw [hd, List.any_cons]
    by_cases h2 : 200 < L.length
    · rw [show decide (200 < L.length) = true from decide_eq_true h2, Bool.true_or, Bool.true_or]
      refine Ev.step (f := fun q => some true) (fun q => ?_) (Ev.now _)
      simp only [hindsightlaw19_Great.l0]
      rw [if_pos (by omega), if_pos (by omega)]
    · rw [show decide (200 < L.length) = false from decide_eq_false h2, Bool.false_or]
      by_cases h3 : 300 < (rd_T53 L (i : Int)).f2.size
      · rw [show decide (300 < (rd_T53 L (i : Int)).f2.size) = true from decide_eq_true h3, Bool.true_or]
        refine Ev.step (f := fun q => some true) (fun q => ?_) (Ev.now _)
        simp only [hindsightlaw19_Great.l0]
        rw [if_pos (by omega), if_neg (by omega), if_pos (by omega), if_pos (by omega)]
      · rw [show decide (300 < (rd_T53 L (i : Int)).f2.size) = false from decide_eq_false h3, Bool.false_or]
        have := ih (i + 1) (by omega)
        rw [show decide (200 < L.length) = false from decide_eq_false h2] at this
        refine Ev.step (f := fun q => hindsightlaw19_Great.l0 q L ((i + 1 : Nat) : Int)) (fun q => ?_) this
        simp only [hindsightlaw19_Great.l0]
        rw [if_pos (by omega), if_neg (by omega), if_pos (by omega), if_neg (by omega), w1]
theorem great_walk (L : List S53) (hl : L.length ≤ 9223372036854775807) (A : Option Addr) (c : Nat) (w : World) (hC : Kd.C k53 w A L.length L) (hc : L.length ≤ c) :
    Calls Tryd.prog 52 #[.slice A L.length c] w fun e w' => e = .returned (.bool (greatB L)) ∧ Below w.heap.size w w' := by
  obtain ⟨k, hk⟩ := (Ev.congr (fun k => by unfold hindsightlaw19_Great.f; rfl) (ev_great0 L hl L.length 0 (by omega)) : Ev (fun k => hindsightlaw19_Great.f k L) _).rounds
  refine (hindsightlaw19_Great.calls k A c L _ w hC hc hk).mono ?_
  rintro e w' ⟨rfl, ⟨nd, rfl⟩⟩
  exact ⟨rfl, pw_below_drewN (Below.refl _ _) nd⟩
end Go.Proofs.YtoclbmepgeelmaaDoor.Utf
