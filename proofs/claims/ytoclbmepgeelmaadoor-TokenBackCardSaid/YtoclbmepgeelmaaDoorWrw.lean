import Derived.Test.YtoclbmepgeelmaaDoorTxt
import Derived.Test.YtoclbmepgeelmaaDoorShi
import Derived.Lib.ItoaLen
namespace Go.Proofs.YtoclbmepgeelmaaDoor.Utf
set_option linter.unusedVariables false
set_option linter.unusedSimpArgs false
open Go.RowKit Go.Lib Go.Proofs.YtoclbmepgeelmaaDoorW.PrintWords Go.Proofs.YtoclbmepgeelmaaDoorW.PrintLast Go.Proofs.YtoclbmepgeelmaaDoorW.PrintMore Go.Proofs.YtoclbmepgeelmaaDoor.PRe

/-! ### Tokens as they are written -/
def keepK (k : Int) : Bool := decide (1 ≤ k) && decide (k ≤ 5)
def textsL (L : List S53) : List ByteArray := (L.filter fun t => keepK t.f0).map fun t => textZ t.f0 t.f2 t.f3
def writeL (L : List S53) : List UInt8 := Lib.join ((textsL L).map (·.data.toList)) [32]
def writeS (L : List S53) : ByteArray := ⟨(writeL L).toArray⟩
def FitT (t : S53) : Prop := (-9223372036854775808 ≤ t.f3 ∧ t.f3 ≤ 9223372036854775807) ∧ t.f2.size ≤ 5000
theorem textZ_size (k : Int) (t : ByteArray) (v : Int) (h0 : -9223372036854775808 ≤ v) (h1 : v ≤ 9223372036854775807) : (textZ k t v).size ≤ 4 * t.size + 30 := by
  unfold textZ
  split
  · omega
  · split
    · have := itoa_length_le v h0 h1
      show (itoa v).toArray.size ≤ _
      rw [List.size_toArray]; omega
    · split
      · have := quoteS_size t
        omega
      · split
        · have := quoteS_size (strOfNums (hexL (bytesOf t)))
          rw [strOfNums_size, hexL_length, bytesOf_length] at this
          rw [ByteArray.size_append]
          have : (⟨#[120]⟩ : ByteArray).size = 1 := rfl
          omega
        · show 0 ≤ _
          omega
theorem textsL_snoc (L : List S53) (t : S53) : textsL (L ++ [t]) = if keepK t.f0 then textsL L ++ [textZ t.f0 t.f2 t.f3] else textsL L := by
  unfold textsL
  rw [List.filter_append, List.map_append]
  cases h : keepK t.f0 <;> simp [h]
theorem textsL_length (L : List S53) : (textsL L).length ≤ L.length := by
  unfold textsL; rw [List.length_map]; exact List.length_filter_le _ _
theorem join_le (b : Nat) : ∀ xs : List (List UInt8), (∀ x ∈ xs, x.length ≤ b) → (Lib.join xs [32]).length ≤ (b + 1) * xs.length
  | [], _ => by simp [Lib.join]
  | [x], h => by
    have := h x (by simp)
    simp [Lib.join]; omega
  | x :: y :: t, h => by
    have h1 := h x (by simp)
    have h2 := join_le b (y :: t) (fun z hz => h z (by simp [hz]))
    have e : (Lib.join (x :: y :: t) [32]).length = x.length + 1 + (Lib.join (y :: t) [32]).length := by simp [Lib.join]; omega
    rw [e]
    simp only [List.length_cons] at h2 ⊢
    have : (b + 1) * (t.length + 1 + 1) = (b + 1) * (t.length + 1) + (b + 1) := by rw [Nat.mul_add]; simp
    omega
theorem strs_row {w : World} {base : Nat} {ok : Nat → Prop} {v : Value} {xs : List ByteArray} (h : Kd.string.R 9 w base ok v xs) :
    (v = .slice none 0 0 ∧ xs = []) ∨ ∃ g c, v = .slice (some ⟨g, 0, none⟩) xs.length c ∧ xs.length ≤ c ∧ g < w.heap.size ∧ ∀ (j : Nat) x, xs[j]? = some x → w.cell? ⟨g, 0 + j, none⟩ = some (.string x) := by
  obtain ⟨A, c, he, hl, hC⟩ := Kd.R_reads h
  obtain ⟨_, inner, ho, hr⟩ := h
  rcases ho.2 with ⟨hv, hn⟩ | ⟨g, cap, cur, hv, hb, hg, _⟩
  · left
    exact ⟨hv, List.eq_nil_of_length_eq_zero hn⟩
  · right
    rw [hv] at he
    injection he with e1 e2 e3
    subst e1
    refine ⟨g, cap, hv, by omega, (Array.getElem?_eq_some_iff.1 hg).1, fun j x hx => ?_⟩
    have hj : j < xs.length := (List.getElem?_eq_some_iff.1 hx).1
    obtain ⟨ad, e, hc⟩ := Kd.at_string hC (j : Int) (by omega) (by omega)
    obtain rfl := Option.some.inj e
    rw [Int.toNat_natCast] at hc
    have : rdOf ByteArray.empty xs (j : Int) = x := by
      unfold rdOf; rw [Int.toNat_natCast, List.getD_eq_getElem?_getD, hx]; rfl
    rw [this] at hc
    have ea : (⟨g, 0, none⟩ : Addr).add j = ⟨g, 0 + j, none⟩ := by by_cases h : j = 0 <;> simp [Addr.add, h]
    rw [ea] at hc
    exact hc
theorem info9 : (Tryd.prog.info? 9).map (fun i => (i.zero, i.size, i.bytes)) = some (some (.string ⟨#[]⟩), 1, 16) := by kernel_rfl
theorem mem_rd53 (L : List S53) (i : Int) (h0 : 0 ≤ i) (h1 : i < L.length) : rd_T53 L i ∈ L := by
  have hl : i.toNat < L.length := by omega
  have : rd_T53 L i = L[i.toNat] := by simp [rd_T53, List.getD_eq_getElem?_getD, hl]
  rw [this]; exact List.getElem_mem _
theorem take_rd53 (L : List S53) (i : Int) (h0 : 0 ≤ i) (h1 : i < L.length) : L.take (i + 1).toNat = L.take i.toNat ++ [rd_T53 L i] := by
  have hl : i.toNat < L.length := by omega
  rw [show (i + 1).toNat = i.toNat + 1 by omega, List.take_succ_eq_append_getElem hl]
  simp [rd_T53, List.getD_eq_getElem?_getD, hl]

set_option maxHeartbeats 1000000 in
set_option maxRecDepth 100000 in
theorem write_walk (L : List S53) (A : Option Addr) (c : Nat) (w : World) (hF : ∀ t ∈ L, FitT t) (hL : L.length ≤ 5000) (hc : L.length ≤ c) (hC : Kd.C k53 w A L.length L) (hT : Tabs5 w) :
    Calls Tryd.prog 53 #[.slice A L.length c] w fun e w' => e = .returned (.string (writeS L)) ∧ Below w.heap.size w w' := by
  have HF := Aside0.mk hF
  have HC := Aside0.mk hC
  have HT := Aside0.mk hT
  obtain ⟨X, hX⟩ : ∃ X, writeS L = X := ⟨_, rfl⟩
  rw [hX]
  have HX := Aside0.mk hX
  clear hF hC hT hX
  go_enter Tryd.func53, Tryd.ntmps53
  go_wp2_with fail
  go_loopg [3, 8] (L.length + 1) (fun gk v3 v8 wx => ∃ j : Int, v8 = .int .i64 j ∧ Aside0 (Kd.string.R 9 wx w.heap.size (fun _ => True) v3 (textsL (L.take j.toNat))) ∧ Aside0 (Below w.heap.size w wx) ∧ 0 ≤ j ∧ j ≤ L.length ∧ L.length - j.toNat < gk)
  case atStart => exact ⟨0, by go_num, ⟨Kd.R_nil _ _ _ _ _⟩, ⟨Below.refl _ _⟩, by omega, by omega, by omega⟩
  case round =>
    obtain ⟨j, rfl, HR, HB, hj0, hj1, hg⟩ := hrel
    cases gk with
    | zero => omega
    | succ kk =>
      by_cases cj : j < (L.length : Int)
      · have dj := decide_eq_true (p := j < (L.length : Int)) cj
        obtain ⟨ad, e0, x0, x1, x2, x3⟩ := at_T53 (Kd.C_below HC.out HB.out) j (by omega) (by omega)
        subst e0
        obtain ⟨⟨f0, f1⟩, f2⟩ := HF.out _ (mem_rd53 L j hj0 cj)
        have ht := textsL_snoc (L.take j.toNat) (rd_T53 L j)
        rw [← take_rd53 L j hj0 cj] at ht
        have hxl := textsL_length (L.take j.toNat)
        rw [List.length_take] at hxl
        have kt := fun W h => text_walk (rd_T53 L j).f0 (rd_T53 L j).f1 (rd_T53 L j).f2 (rd_T53 L j).f3 W f0 f1 (by omega) h
        obtain ⟨xs, hxs⟩ : ∃ xs, textsL (L.take j.toNat) = xs := ⟨_, rfl⟩
        obtain ⟨Z, hZ⟩ : ∃ Z, textZ (rd_T53 L j).f0 (rd_T53 L j).f2 (rd_T53 L j).f3 = Z := ⟨_, rfl⟩
        obtain ⟨k, hk⟩ : ∃ k, (rd_T53 L j).f0 = k := ⟨_, rfl⟩
        obtain ⟨p, hp⟩ : ∃ p, (rd_T53 L j).f1 = p := ⟨_, rfl⟩
        obtain ⟨t, htt⟩ : ∃ t, (rd_T53 L j).f2 = t := ⟨_, rfl⟩
        obtain ⟨v, hv⟩ : ∃ v, (rd_T53 L j).f3 = v := ⟨_, rfl⟩
        rw [hZ, hk, hp, htt, hv] at kt
        rw [hZ, hk, hxs] at ht
        rw [hk] at x0
        rw [hp] at x1
        rw [htt] at x2
        rw [hv] at x3
        rw [hxs] at HR hxl
        have KT := Aside0.mk kt
        have hxl2 : xs.length ≤ 5000 := by omega
        clear kt hxs hZ hk hp htt hv f0 f1 f2 hxl
        by_cases k1 : 1 ≤ k
        · have d1 := decide_eq_true (p := 1 ≤ k) k1
          by_cases k5 : k ≤ 5
          · have d5 := decide_eq_true (p := k ≤ 5) k5
            rw [show keepK k = true by unfold keepK; rw [d1, d5]; rfl] at ht
            simp only [↓reduceIte] at ht
            have H2 := Aside0.mk ht
            clear ht
            go_wp2_with fail
            refine (KT.out _ (HT.out.below (below_alloc HB.out _))).mono ?_
            rintro e w1 ⟨rfl, hb⟩
            have HB1 := Aside0.mk (below_step (below_alloc HB.out _) hb)
            have HR1 := Aside0.mk (Kd.R_below (Kd.R_alloc HR.out _) hb)
            clear hb HR HB
            go_wp2_with (at_builtin; go_must (refine Kd.R_append Kd.string (w0 := w) w.heap.size rfl (.tmp 20) (.tmp 23) 101 9 (.string ⟨#[]⟩) 16 rfl Tryd.underlying101 info9 rfl (by decide) (by omega) u3 xs Z [.string Z] (fun _ => True) (fun _ => False) rfl rfl ?aP (fun _ hk => hk.elim) ?aF ?aO ?aB ?aS ?aL ?_; (case aP => exact rfl); (case aB => exact HB1.out); (case aF => exact fun _ _ => trivial); (case aO => exact HR1.out); (case aS => exact below_size HB1.out); (case aL => omega); intro v1 w2 ho hb hg2 hat))
            go_roundg kk
            case measure => omega
            case rel => exact ⟨j + 1, by go_num, ⟨by rw [H2.out]; exact ho⟩, ⟨hb⟩, by omega, by omega, by omega⟩
          · have d5 := decide_eq_false (p := k ≤ 5) k5
            rw [show keepK k = false by unfold keepK; rw [d1, d5]; rfl] at ht
            simp only [Bool.false_eq_true, ↓reduceIte] at ht
            have H2 := Aside0.mk ht
            clear ht
            go_wp2_with fail
            go_roundg kk
            case measure => omega
            case rel => exact ⟨j + 1, by go_num, ⟨by rw [H2.out]; exact Kd.R_alloc HR.out _⟩, ⟨below_alloc HB.out _⟩, by omega, by omega, by omega⟩
        · have d1 := decide_eq_false (p := 1 ≤ k) k1
          rw [show keepK k = false by unfold keepK; rw [d1]; rfl] at ht
          simp only [Bool.false_eq_true, ↓reduceIte] at ht
          have H2 := Aside0.mk ht
          clear ht
          go_wp2_with fail
          go_roundg kk
          case measure => omega
          case rel => exact ⟨j + 1, by go_num, ⟨by rw [H2.out]; exact Kd.R_alloc HR.out _⟩, ⟨below_alloc HB.out _⟩, by omega, by omega, by omega⟩
      · have dj := decide_eq_false (p := j < (L.length : Int)) cj
        have hR := HR.out
        rw [List.take_of_length_le (by omega)] at hR
        have hxl := textsL_length L
        have hjl : (Lib.join ((textsL L).map (·.data.toList)) [32]).length ≤ 140737488355328 := by
          have := join_le 20030 ((textsL L).map (·.data.toList)) (by
            intro x hx
            obtain ⟨y, hy, rfl⟩ := List.mem_map.1 hx
            unfold textsL at hy
            obtain ⟨t, ht, rfl⟩ := List.mem_map.1 hy
            obtain ⟨⟨f0, f1⟩, f2⟩ := HF.out t (List.mem_filter.1 ht).1
            have := textZ_size t.f0 t.f2 t.f3 f0 f1
            rw [data_length]; omega)
          rw [List.length_map] at this
          have h2 : 20031 * (textsL L).length ≤ 20031 * 5000 := Nat.mul_le_mul_left _ (by omega)
          omega
        have hXe : X = ⟨(Lib.join ((textsL L).map (·.data.toList)) [32]).toArray⟩ := HX.out.symm
        rcases strs_row hR with ⟨rfl, hn⟩ | ⟨g, cap, rfl, hcap, hgl, hcells⟩
        · rw [hn] at hXe
          have hX2 : X = ⟨#[]⟩ := by rw [hXe]; rfl
          subst hX2
          clear hXe hn hR HR HX hjl hxl
          go_wp2_with fail
          refine (Tryd.strings_Join_none none 0 ⟨#[32]⟩ _).mono ?_
          rintro e w1 ⟨rfl, hw⟩
          subst hw
          go_wp2_with fail
          go_ret
          exact ⟨rfl, HB.out⟩
        · have KJ := Aside0.mk (Tryd.strings_Join g 0 cap (textsL L) ⟨#[32]⟩ wr hcells hgl (by omega) hcap hjl)
          obtain ⟨n, hn⟩ : ∃ n, (textsL L).length = n := ⟨_, rfl⟩
          rw [hn] at KJ ⊢
          have HXE := Aside0.mk hXe
          clear hXe hR HR HX hcells hjl hxl hn hcap hgl
          go_wp2_with fail
          refine KJ.out.mono ?_
          rintro e w1 ⟨rfl, hb⟩
          go_wp2_with fail
          go_ret
          exact ⟨by rw [HXE.out]; rfl, below_step HB.out hb⟩
end Go.Proofs.YtoclbmepgeelmaaDoor.Utf
