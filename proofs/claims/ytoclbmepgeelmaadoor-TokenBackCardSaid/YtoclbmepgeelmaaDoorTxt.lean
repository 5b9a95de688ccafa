import Derived.Test.YtoclbmepgeelmaaDoorTk1
import Derived.Test.YtoclbmepgeelmaaDoorWby
namespace Go.Proofs.YtoclbmepgeelmaaDoor.Utf
set_option linter.unusedVariables false
set_option linter.unusedSimpArgs false
open Go.RowKit Go.Lib Go.Proofs.YtoclbmepgeelmaaDoorW.PrintWords Go.Proofs.YtoclbmepgeelmaaDoorW.PrintLast Go.Proofs.YtoclbmepgeelmaaDoorW.PrintMore Go.Proofs.YtoclbmepgeelmaaDoor.PRe

/-! ### A token as it is written -/
def hexD (x : Int) : Int := if x < 10 then 48 + x else 87 + x
def hexL (l : List Int) : List Int := l.flatMap fun c => [hexD (c / 16), hexD (c % 16)]
def textZ (k : Int) (t : ByteArray) (v : Int) : ByteArray :=
  if k = 1 ∨ k = 5 then t else if k = 2 then ⟨(itoa v).toArray⟩ else if k = 3 then quoteS t
  else if k = 4 then (⟨#[120]⟩ : ByteArray) ++ quoteS (strOfNums (hexL (bytesOf t))) else ⟨#[]⟩
theorem hexL_length (l : List Int) : (hexL l).length = 2 * l.length := by
  unfold hexL
  induction l with
  | nil => rfl
  | cons c t ih => rw [List.flatMap_cons, List.length_append, ih]; simp; omega
theorem hexL_take (t : ByteArray) (i : Nat) (h : i < t.size) : hexL ((bytesOf t).take (i + 1)) = hexL ((bytesOf t).take i) ++ [hexD (bt t (i : Int) / 16), hexD (bt t (i : Int) % 16)] := by
  have hl : i < (bytesOf t).length := by rw [bytesOf_length]; exact h
  rw [List.take_succ_eq_append_getElem hl]
  unfold hexL
  rw [List.flatMap_append]
  have : (bytesOf t)[i] = bt t (i : Int) := by
    rw [← rd_bytesOf]; simp [rd, List.getD_eq_getElem?_getD, hl]
  rw [this]; simp
/-- The bytes of numbers as cells. -/
def numCells (l : List Int) : List Value := l.map fun x => Value.int .u8 x
theorem numCells_str (l : List Int) (h : ∀ x ∈ l, 0 ≤ x ∧ x ≤ 255) : numCells l = byteCells (strOfNums l).data.toList := by
  unfold numCells byteCells
  rw [strOfNums_data, List.map_map]
  apply List.map_congr_left
  intro x hx
  have := h x hx
  simp only [Function.comp]
  rw [UInt8.toNat_ofNat']
  congr 1; omega
theorem hexL_range (l : List Int) (h : ∀ x ∈ l, 0 ≤ x ∧ x ≤ 255) : ∀ x ∈ hexL l, 0 ≤ x ∧ x ≤ 255 := by
  intro x hx
  unfold hexL at hx
  obtain ⟨c, hc, hx⟩ := List.mem_flatMap.1 hx
  have := h c hc
  simp only [List.mem_cons, List.not_mem_nil, or_false] at hx
  rcases hx with rfl | rfl
  · unfold hexD; split <;> omega
  · unfold hexD; split <;> omega
abbrev hexT : ByteArray := ⟨#[48, 49, 50, 51, 52, 53, 54, 55, 56, 57, 97, 98, 99, 100, 101, 102]⟩
theorem hexT_fin : ∀ n : Fin 16, bt hexT (n.val : Int) = hexD (n.val : Int) := by decide +kernel
theorem hexT_at (x : Int) (h0 : 0 ≤ x) (h1 : x ≤ 15) : bt hexT x = hexD x := by
  have := hexT_fin ⟨x.toNat, by omega⟩
  simpa [Int.toNat_of_nonneg h0] using this
theorem and_fin : ∀ n : Fin 256, bits BinOp.and IntKind.u8 (n.val : Int) 15 = (n.val : Int) % 16 := by decide +kernel
theorem and_at (x : Int) (h0 : 0 ≤ x) (h1 : x ≤ 255) : bits BinOp.and IntKind.u8 x 15 = x % 16 := by
  have := and_fin ⟨x.toNat, by omega⟩
  simpa [Int.toNat_of_nonneg h0] using this
set_option maxHeartbeats 1000000 in
set_option maxRecDepth 100000 in
theorem textB_walk (k p : Int) (t : ByteArray) (v : Int) (w : World) (hk : k = 4) (ht : t.size ≤ 100000) (hT : Tabs5 w) :
    Calls Tryd.prog 69 #[.agg #[.int .i64 k, .int .i64 p, .string t, .int .i64 v]] w fun e w' => e = .returned (.string ((⟨#[120]⟩ : ByteArray) ++ quoteS (strOfNums (hexL (bytesOf t))))) ∧ Below w.heap.size w w' := by
  have b1 : (k == 1) = false := by rw [hk]; rfl
  have b5 : (k == 5) = false := by rw [hk]; rfl
  have b2 : (k == 2) = false := by rw [hk]; rfl
  have b3 : (k == 3) = false := by rw [hk]; rfl
  have b4 : (k == 4) = true := by rw [hk]; rfl
  have HT := Aside0.mk hT
  clear hk hT
  go_enter Tryd.func69, Tryd.ntmps69
  go_wp2_with fail
  have hal : (w.alloc (.cells #[.int .i64 k, .int .i64 p, .string t, .int .i64 v] 53 (0, 0))).heap.size = w.heap.size + 1 := Array.size_push ..
  have hf := IsBuilderF.of (fresh_isBuilder 95 5 (w.alloc (.cells #[.int .i64 k, .int .i64 p, .string t, .int .i64 v] 53 (0, 0))))
  rw [hal] at hf
  have HF := Aside0.mk hf
  have HCE := Aside0.mk ((blk_cell (blk_alloc (blk_new w (.cells #[.int .i64 k, .int .i64 p, .string t, .int .i64 v] 53 (0, 0))) (.cells #[.pointer none, .slice none 0 0] 95 (0, 0))) 2).trans (show _ = some (.string t) from rfl))
  clear hf hal
  go_loopg [27] (t.size + 1) (fun gk v27 wx => ∃ j : Int, v27 = .int .i64 j ∧ Aside0 (IsBuilderF 95 5 (w.heap.size + 1) (w.heap.size + 1) (numCells (hexL ((bytesOf t).take j.toNat))) wx) ∧ Aside0 (wx.cell? ⟨w.heap.size, 2, none⟩ = some (.string t)) ∧ Aside0 (Below w.heap.size w wx) ∧ Aside0 (w.heap.size + 2 ≤ wx.heap.size) ∧ 0 ≤ j ∧ j ≤ t.size ∧ t.size - j.toNat < gk)
  case atStart => exact ⟨0, by go_num, HF, HCE, ⟨below_alloc (below_alloc (Below.refl _ _) _) _⟩, ⟨Nat.le_of_eq ((Array.size_push ..).trans (congrArg (· + 1) (Array.size_push ..))).symm⟩, by omega, by omega, by omega⟩
  case round =>
    clear HF HCE
    obtain ⟨j, rfl, HI, HC, HB, HSZ, hj0, hj1, hg⟩ := hrel
    cases gk with
    | zero => omega
    | succ kk =>
      by_cases cj : j < (t.size : Int)
      · have dj := decide_eq_true (p := j < (t.size : Int)) cj
        have xj := bt_at t j
        have hr := bt_range t j
        have hx := hexL_take t j.toNat (by omega)
        rw [Int.toNat_of_nonneg hj0] at hx
        obtain ⟨c, hc⟩ : ∃ c, bt t j = c := ⟨_, rfl⟩
        rw [hc] at xj hr hx
        have hlen : ((numCells (hexL ((bytesOf t).take j.toNat)))).length ≤ 200000 := by
          unfold numCells
          rw [List.length_map, hexL_length, List.length_take]
          omega
        have hC := HC.out
        have ha := and_at c hr.1 hr.2
        have x1 := bt_at hexT (c / 16)
        rw [hexT_at (c / 16) (by omega) (by omega)] at x1
        have x2 := bt_at hexT (c % 16)
        rw [hexT_at (c % 16) (by omega) (by omega)] at x2
        obtain ⟨bs, hbs⟩ : ∃ bs, numCells (hexL ((bytesOf t).take j.toNat)) = bs := ⟨_, rfl⟩
        have hx2 : bs ++ [.int .u8 (hexD (c / 16))] ++ [.int .u8 (hexD (c % 16))] = numCells (hexL ((bytesOf t).take (j + 1).toNat)) := by
          rw [show (j + 1).toNat = j.toNat + 1 by omega, hx, ← hbs]; simp [numCells]
        rw [hbs] at HI hlen
        have HX2 := Aside0.mk hx2
        obtain ⟨a1, ha1⟩ : ∃ a, hexD (c / 16) = a := ⟨_, rfl⟩
        obtain ⟨a2, ha2⟩ : ∃ a, hexD (c % 16) = a := ⟨_, rfl⟩
        rw [ha1, ha2] at HX2
        rw [ha1] at x1
        rw [ha2] at x2
        clear hc hbs hx hx2 ha1 ha2
        go_wp2_with fail
        refine (Tryd.Builder_WriteByte_k (w.heap.size + 1) (w.heap.size + 1) bs a1 _ HI.out (by omega) (by have := HSZ.out; omega)).mono ?_
        rintro e w1 ⟨rfl, hi, hb, hk⟩
        have HI2 := Aside0.mk hi
        have hC2 : w1.cell? ⟨w.heap.size, 2, none⟩ = some (.string t) := (hb.cell (p := ⟨w.heap.size, 2, none⟩) (Nat.lt_succ_self _)).trans hC
        have HB2 := Aside0.mk (HB.out.trans (hb.mono (Nat.le_succ _)))
        have HSZ2 := Aside0.mk (Nat.le_trans HSZ.out hb.size)
        have HC2 := Aside0.mk hC2
        clear hC HC HI HB HSZ hb hi hk
        go_wp2_with fail
        refine (Tryd.Builder_WriteByte_k (w.heap.size + 1) (w.heap.size + 1) _ a2 _ (.inr HI2.out) (by simp; omega) (by have := HSZ2.out; omega)).mono ?_
        rintro e w2 ⟨rfl, hi, hb, hk⟩
        rw [HX2.out] at hi
        have HI3 := Aside0.mk hi
        have HC3 := Aside0.mk ((hb.cell (p := ⟨w.heap.size, 2, none⟩) (Nat.lt_succ_self _)).trans HC2.out)
        have HB3 := Aside0.mk (HB2.out.trans (hb.mono (Nat.le_succ _)))
        have HSZ3 := Aside0.mk (Nat.le_trans HSZ2.out hb.size)
        clear hC2 hb hi hk
        go_wp2_with fail
        go_roundg kk
        case measure => omega
        case rel => exact ⟨j + 1, by go_num, ⟨.inr HI3.out⟩, HC3, HB3, HSZ3, by omega, by omega, by omega⟩
      · have dj := decide_eq_false (p := j < (t.size : Int)) cj
        have hI := HI.out
        rw [List.take_of_length_le (by rw [bytesOf_length]; omega), numCells_str _ (hexL_range _ (bytesOf_range t))] at hI
        have hsz : (strOfNums (hexL (bytesOf t))).size ≤ 200000 := by rw [strOfNums_size, hexL_length, bytesOf_length]; omega
        have hqs := quoteS_size (strOfNums (hexL (bytesOf t)))
        have KQ := Aside0.mk (fun W h => quote_walk (strOfNums (hexL (bytesOf t))) W (by omega) h)
        obtain ⟨X, hX⟩ : ∃ X, strOfNums (hexL (bytesOf t)) = X := ⟨_, rfl⟩
        rw [hX] at hI hsz hqs KQ
        have HR := Aside0.mk hX
        obtain ⟨Q, hQ⟩ : ∃ Q, quoteS X = Q := ⟨_, rfl⟩
        rw [hQ] at hqs KQ
        have HQ := Aside0.mk hQ
        have HI2 := Aside0.mk hI
        have bq : 1 + Q.size ≤ 9223372036854775807 := by omega
        clear hI hX hQ HI HC
        go_wp2_with fail
        refine (Tryd.Builder_String_any_k (w.heap.size + 1) (w.heap.size + 1) X.data.toList _ HI2.out (by have := HSZ.out; omega)).mono ?_
        rintro e w2 ⟨rfl, hi, hb, hk⟩
        have HB2 := Aside0.mk (HB.out.trans (hb.mono (Nat.le_succ _)))
        clear hb hi hk
        go_wp2_with fail
        refine (KQ.out _ (HT.out.below HB2.out)).mono ?_
        rintro e w3 ⟨rfl, hb⟩
        have HB3 := Aside0.mk (below_step HB2.out hb)
        clear hb
        go_wp2_with fail
        go_ret
        exact ⟨by rw [HR.out, HQ.out]; rfl, HB3.out⟩
set_option maxHeartbeats 1000000 in
set_option maxRecDepth 100000 in
theorem text_walk (k p : Int) (t : ByteArray) (v : Int) (w : World) (hv0 : -9223372036854775808 ≤ v) (hv1 : v ≤ 9223372036854775807) (ht : t.size ≤ 100000) (hT : Tabs5 w) :
    Calls Tryd.prog 69 #[.agg #[.int .i64 k, .int .i64 p, .string t, .int .i64 v]] w fun e w' => e = .returned (.string (textZ k t v)) ∧ Below w.heap.size w w' := by
  by_cases k4 : k = 4
  · have e : textZ k t v = (⟨#[120]⟩ : ByteArray) ++ quoteS (strOfNums (hexL (bytesOf t))) := by
      unfold textZ
      rw [if_neg (by omega), if_neg (by omega), if_neg (by omega), if_pos k4]
    rw [e]
    exact textB_walk k p t v w k4 ht hT
  have b4 : (k == 4) = false := by simpa using k4
  by_cases k1 : k = 1
  · have e : textZ k t v = t := by unfold textZ; rw [if_pos (.inl k1)]
    rw [e]
    have b1 : (k == 1) = true := by simpa using k1
    clear k1 e hT
    go_enter Tryd.func69, Tryd.ntmps69
    go_wp2_with fail
    go_ret
    exact ⟨rfl, below_alloc (Below.refl _ _) _⟩
  have b1 : (k == 1) = false := by simpa using k1
  by_cases k5 : k = 5
  · have e : textZ k t v = t := by unfold textZ; rw [if_pos (.inr k5)]
    rw [e]
    have b5 : (k == 5) = true := by simpa using k5
    clear k5 e hT
    go_enter Tryd.func69, Tryd.ntmps69
    go_wp2_with fail
    go_ret
    exact ⟨rfl, below_alloc (Below.refl _ _) _⟩
  have b5 : (k == 5) = false := by simpa using k5
  by_cases k2 : k = 2
  · have e : textZ k t v = ⟨(itoa v).toArray⟩ := by unfold textZ; rw [if_neg (by omega), if_pos k2]
    rw [e]
    have b2 : (k == 2) = true := by simpa using k2
    have KD := Aside0.mk (fun W h => digits_at v ⟨(itoa v).toArray⟩ hv0 hv1 rfl W h)
    have HT := Aside0.mk hT
    clear k2 e hT
    go_enter Tryd.func69, Tryd.ntmps69
    go_wp2_with fail
    refine (KD.out _ (HT.out.below (below_alloc (Below.refl _ _) _))).mono ?_
    rintro e w1 ⟨rfl, hb⟩
    go_wp2_with fail
    go_ret
    exact ⟨rfl, below_step (below_alloc (Below.refl _ _) _) hb⟩
  have b2 : (k == 2) = false := by simpa using k2
  by_cases k3 : k = 3
  · have e : textZ k t v = quoteS t := by unfold textZ; rw [if_neg (by omega), if_neg k2, if_pos k3]
    rw [e]
    have b3 : (k == 3) = true := by simpa using k3
    have KD := Aside0.mk (fun W h => quote_walk t W (by omega) h)
    have HT := Aside0.mk hT
    clear k3 e hT
    go_enter Tryd.func69, Tryd.ntmps69
    go_wp2_with fail
    refine (KD.out _ (HT.out.below (below_alloc (Below.refl _ _) _))).mono ?_
    rintro e w1 ⟨rfl, hb⟩
    go_wp2_with fail
    go_ret
    exact ⟨rfl, below_step (below_alloc (Below.refl _ _) _) hb⟩
  have b3 : (k == 3) = false := by simpa using k3
  have e : textZ k t v = ⟨#[]⟩ := by unfold textZ; rw [if_neg (by omega), if_neg k2, if_neg k3, if_neg k4]
  rw [e]
  clear e hT
  go_enter Tryd.func69, Tryd.ntmps69
  go_wp2_with fail
  go_ret
  exact ⟨rfl, below_alloc (Below.refl _ _) _⟩
end Go.Proofs.YtoclbmepgeelmaaDoor.Utf
