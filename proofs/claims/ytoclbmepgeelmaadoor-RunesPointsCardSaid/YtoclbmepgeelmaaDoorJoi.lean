import Derived.Test.YtoclbmepgeelmaaDoorWrt
import Derived.Test.YtoclbmepgeelmaaDoorSplit
import Derived.Test.YtoclbmepgeelmaaDoorEnc
namespace Go.Proofs.YtoclbmepgeelmaaDoor.Utf
set_option linter.unusedVariables false
set_option linter.unusedSimpArgs false
open Go.RowKit Go.Lib Go.Proofs.YtoclbmepgeelmaaDoorW.PrintWords Go.Proofs.YtoclbmepgeelmaaDoorW.PrintLast Go.Proofs.YtoclbmepgeelmaaDoorW.PrintMore

/-- The bytes of points, and what Join gives. -/
def encZ (xs : List Int) : List UInt8 := xs.flatMap encodeRune
def joinOk (xs : List Int) : Bool := xs.all validRune
def joinE (xs : List Int) : Int := if joinOk xs then 0 else 3
def joinR (xs : List Int) : ByteArray := if joinOk xs then ⟨(encZ xs).toArray⟩ else ⟨#[]⟩
theorem encodeRune_le (r : Int) : (encodeRune r).length ≤ 4 := by
  have := runeCells_le r
  rw [runeCells_length] at this
  exact this.2
theorem encZ_le : ∀ xs : List Int, (encZ xs).length ≤ 4 * xs.length
  | [] => by simp [encZ]
  | x :: t => by
    have h : encZ (x :: t) = encodeRune x ++ encZ t := by simp [encZ]
    have := encZ_le t
    have := encodeRune_le x
    rw [h, List.length_append, List.length_cons]; omega
theorem take_rdJ (xs : List Int) (j : Int) (h0 : 0 ≤ j) (h1 : j < xs.length) : xs.take (j + 1).toNat = xs.take j.toNat ++ [rd xs j] := by
  have hl : j.toNat < xs.length := by omega
  rw [show (j + 1).toNat = j.toNat + 1 by omega, List.take_succ_eq_append_getElem hl]
  simp [rd, List.getD_eq_getElem?_getD, hl]
theorem mem_rdJ (xs : List Int) (j : Int) (h0 : 0 ≤ j) (h1 : j < xs.length) : rd xs j ∈ xs := by
  have hl : j.toNat < xs.length := by omega
  have : rd xs j = xs[j.toNat] := by simp [rd, List.getD_eq_getElem?_getD, hl]
  rw [this]; exact List.getElem_mem _
theorem valid_at (x : Int) (b : Bool) (h : validRune x = b) (W : World) : Calls Tryd.prog 66 #[.int .i32 x] W fun e w' => e = .returned (.bool b) ∧ W = w' := by
  rw [← h]
  exact (Tryd.utf8_ValidRune x W).mono fun e w' h => ⟨h.1, h.2.symm⟩

set_option maxHeartbeats 4000000 in
set_option maxRecDepth 100000 in
theorem join_walk (A : Option Addr) (c : Nat) (xs : List Int) (w : World) (hx : ∀ x ∈ xs, -2147483648 ≤ x ∧ x ≤ 2147483647) (hl : xs.length ≤ 1000000) (hc : xs.length ≤ c) (hC : (Kd.int .i32).C w A xs.length xs) :
    Calls Tryd.prog 51 #[.slice A xs.length c] w fun e w' => e = .returned (.tuple #[.string (joinR xs), .int .i64 (joinE xs)]) ∧ Below w.heap.size w w' := by
  have HC := Aside0.mk hC
  have HX := Aside0.mk hx
  clear hC hx
  obtain ⟨ok, hok⟩ : ∃ b, joinOk xs = b := ⟨_, rfl⟩
  have eE : joinE xs = if ok then 0 else 3 := by rw [joinE, hok]
  have eR : joinR xs = if ok then ⟨(encZ xs).toArray⟩ else ⟨#[]⟩ := by rw [joinR, hok]
  rw [eE, eR]
  have HOK := Aside0.mk hok
  clear hok eE eR
  go_enter Tryd.func51, Tryd.ntmps51
  go_wp2
  go_loopg [9] (xs.length + 1) (fun gk v9 wx => ∃ j : Int, v9 = .int .i64 j ∧ Aside0 (IsBuilderF 95 5 w.heap.size w.heap.size (byteCells (encZ (xs.take j.toNat))) wx) ∧ Aside0 (Below w.heap.size w wx) ∧ Aside0 (joinOk (xs.take j.toNat) = true) ∧ 0 ≤ j ∧ j ≤ xs.length ∧ xs.length - j.toNat < gk)
  case atStart =>
    exact ⟨0, by go_num, ⟨by simpa [encZ, byteCells] using IsBuilderF.of (fresh_isBuilder 95 5 w)⟩, ⟨below_alloc (Below.refl _ _) _⟩, ⟨by simp [joinOk]⟩, by omega, by omega, by omega⟩
  case round =>
    obtain ⟨j, rfl, HI, HB, HO, hj0, hj1, hg⟩ := hrel
    cases gk with
    | zero => omega
    | succ k1 =>
      by_cases cj : j < (xs.length : Int)
      · obtain ⟨ad, e1, cl⟩ := Kd.at_int (Kd.C_below HC.out HB.out) j (by omega) (by omega)
        subst e1
        have ht := take_rdJ xs j hj0 cj
        have hr := HX.out _ (mem_rdJ xs j hj0 cj)
        have hmem := mem_rdJ xs j hj0 cj
        obtain ⟨x, hx⟩ : ∃ x, rd xs j = x := ⟨_, rfl⟩
        rw [hx] at cl ht hr hmem
        have dj := decide_eq_true (p := j < (xs.length : Int)) cj
        by_cases cv : validRune x = true
        · have kv := fun W => valid_at x true cv W
          have KV := Aside0.mk kv
          have hO2 := Aside0.mk (show joinOk (xs.take (j + 1).toNat) = true by
            rw [ht]; have := HO.out; simp only [joinOk, List.all_append, List.all_cons, List.all_nil] at this ⊢; rw [this, cv]; rfl)
          have hE2 : byteCells (encZ (xs.take j.toNat)) ++ runeCells x = byteCells (encZ (xs.take (j + 1).toNat)) := by
            rw [ht, ← byteCells_encodeRune, ← byteCells_append]; simp [encZ]
          have hlen : (byteCells (encZ (xs.take j.toNat))).length + 4 ≤ 140737488355328 := by
            rw [byteCells_length]
            have h1 := encZ_le (xs.take j.toNat)
            rw [List.length_take] at h1
            omega
          have kw := fun W h1 h2 => Tryd.Builder_WriteRune_k w.heap.size w.heap.size (byteCells (encZ (xs.take j.toNat))) x hr.1 hr.2 W h1 hlen h2
          rw [hE2] at kw
          have KW := Aside0.mk kw
          clear kv kw hE2 hlen ht hr hmem hx cv HO
          go_wp2_with fail
          refine (KV.out _).mono ?_
          rintro e w1 ⟨rfl, rfl⟩
          go_wp2_with fail
          refine (KW.out _ (by first | exact HI.out | exact HI.out.drew) (by first | exact HB.out.size | exact (below_drew HB.out).size)).mono ?_
          rintro e w2 ⟨rfl, hi, hb, hk⟩
          have HI2 := Aside0.mk hi
          have HB2 := Aside0.mk hb
          clear hi hb hk
          go_wp2
          go_roundg k1
          case measure => omega
          case rel => exact ⟨j + 1, by go_num, ⟨.inr HI2.out⟩, ⟨HB.out.trans HB2.out⟩, hO2, by omega, by omega, by omega⟩
        · have cv' : validRune x = false := by simpa using cv
          have KV := Aside0.mk (fun W => valid_at x false cv' W)
          have hN : joinOk xs = false := by
            unfold joinOk
            rw [List.all_eq_false]
            exact ⟨x, hmem, cv⟩
          obtain rfl : false = ok := hN.symm.trans HOK.out
          clear ht hr hmem hx cv cv' hN HO
          go_wp2_with fail
          refine (KV.out _).mono ?_
          rintro e w1 ⟨rfl, rfl⟩
          go_wp2_with fail
          go_ret2
          exact ⟨rfl, by first | exact HB.out | exact below_drew HB.out⟩
      · have dj := decide_eq_false (p := j < (xs.length : Int)) cj
        have hfull : xs.take j.toNat = xs := List.take_of_length_le (by omega)
        have hO := HO.out
        have hI := HI.out
        rw [hfull] at hO hI
        obtain rfl : true = ok := hO.symm.trans HOK.out
        have HI2 := Aside0.mk hI
        clear hfull hO hI HO HI
        go_wp2_with fail
        refine (Tryd.Builder_String_any_k w.heap.size w.heap.size (encZ xs) _ (by first | exact HI2.out | exact HI2.out.drew) (by first | exact HB.out.size | exact (below_drew HB.out).size)).mono ?_
        rintro e w2 ⟨rfl, hi, hb, hk⟩
        have HB2 := Aside0.mk (HB.out.trans hb)
        clear hi hb hk
        go_wp2_with fail
        go_ret2
        exact ⟨rfl, HB2.out⟩
end Go.Proofs.YtoclbmepgeelmaaDoor.Utf
