import Derived.Test.YtepjcgcobaaphaaRf1
import Derived.Test.YtepjcgcobaaphaaPl6
import Derived.Test.YtepjcgcobaaphaaPPax4
import Derived.Test.YtepjcgcobaaphaaRf2
import Derived.Test.YtepjcgcobaaphaaPl5
import Derived.Test.YtepjcgcobaaphaaPl8
namespace Go.Proofs.Ytepjcgcobaaphaa.Rf
set_option linter.unusedVariables false
set_option linter.unusedSimpArgs false
open Go.RowKit Go.Lib Go.Proofs.YtepjcgcobaaphaaW.PrintWords Go.Proofs.YtepjcgcobaaphaaW.PrintLast Go.Proofs.YtepjcgcobaaphaaW.PrintMore Go.Proofs.Ytepjcgcobaaphaa.PPa

/-! ### The reference's Safe -/
abbrev OPS : List ByteArray := [(⟨#[110, 111, 116]⟩ : ByteArray), (⟨#[111, 114]⟩ : ByteArray), (⟨#[97, 110, 100]⟩ : ByteArray), (⟨#[61]⟩ : ByteArray), (⟨#[60, 62]⟩ : ByteArray), (⟨#[60]⟩ : ByteArray), (⟨#[60, 61]⟩ : ByteArray), (⟨#[62]⟩ : ByteArray), (⟨#[62, 61]⟩ : ByteArray)]
abbrev sF (k : Nat) (x : S38) : Option Bool := hindsightref24_Safe.f k x.f0 x.f1 x.f2.f0 x.f2.f1 x.f2.f2 x.f3 x.f4 x.f5
abbrev sL (k : Nat) (x : S38) (b : Bool) (i : Int) : Option Bool := hindsightref24_Safe.l1 k b i x.f0 x.f1 x.f2.f0 x.f2.f1 x.f2.f2 x.f3 x.f4 x.f5
abbrev sO (k : Nat) (x : S38) (b : Bool) (i : Int) : Option Bool := hindsightref24_Safe.l0 k OPS b i x.f0 x.f1 x.f2.f0 x.f2.f1 x.f2.f2 x.f3 x.f4 x.f5
theorem s_mono (k : Nat) : (∀ x r, sF k x = some r → sF (k + 1) x = some r) ∧ (∀ x b i r, sL k x b i = some r → sL (k + 1) x b i = some r) := by
  refine ⟨fun x r h => ?_, fun x b i r h => ?_⟩
  · exact hindsightref24_Safe.mono _ _ _ _ _ _ _ _ _ _ h
  · first
      | exact (hindsightref24_Safe.mono_l k).2.2.2 _ _ _ _ _ _ _ _ _ _ _ h
      | exact (hindsightref24_Safe.mono_l k).2.2.1 _ _ _ _ _ _ _ _ _ _ _ h
      | exact (hindsightref24_Safe.mono_l k).2.1 _ _ _ _ _ _ _ _ _ _ _ h
      | exact (hindsightref24_Safe.mono_l k).1 _ _ _ _ _ _ _ _ _ _ _ h
theorem sF_up {k : Nat} {x : S38} {r : Bool} (h : sF k x = some r) (d : Nat) : sF (k + d) x = some r := by
  induction d with
  | zero => exact h
  | succ d ih => exact (s_mono (k + d)).1 _ _ ih
theorem sL_up {k : Nat} {x : S38} {b : Bool} {i : Int} {r : Bool} (h : sL k x b i = some r) (d : Nat) : sL (k + d) x b i = some r := by
  induction d with
  | zero => exact h
  | succ d ih => exact (s_mono (k + d)).2 _ _ _ _ ih
theorem args_loop (x : S38) (IH : ∀ y ∈ x.f5, ∃ k, sF k y = some (safeP y)) (hl : x.f5.length < 9223372036854775807) (d : Nat) :
    ∀ (i : Nat) (b : Bool), x.f5.length - i ≤ d → i ≤ x.f5.length → ∃ k, sL k x b i = some (b && (x.f5.drop i).all safeP) := by
  induction d with
  | zero =>
    intro i b hd hi
    have : i = x.f5.length := by omega
    subst this
    refine ⟨1, ?_⟩
    unfold sL hindsightref24_Safe.l1
    rw [if_neg (by omega), List.drop_length]; simp
  | succ d ih =>
    intro i b hd hi
    by_cases hlt : i < x.f5.length
    · cases b with
      | false =>
        obtain ⟨k2, e2⟩ := ih (i + 1) false (by omega) (by omega)
        refine ⟨k2 + 1, ?_⟩
        unfold sL hindsightref24_Safe.l1
        rw [if_pos (by omega), if_neg (by decide), w64 _ (by omega) (by omega)]
        rw [Bool.false_and] at e2 ⊢
        exact e2
      | true =>
        obtain ⟨k1, e1⟩ := IH (rd_T38 x.f5 i) (rd36_mem x.f5 i hlt)
        obtain ⟨k2, e2⟩ := ih (i + 1) (safeP (rd_T38 x.f5 i)) (by omega) (by omega)
        refine ⟨k1 + k2 + 1, ?_⟩
        unfold sL hindsightref24_Safe.l1
        have e1' := sF_up e1 k2
        have e2' := sL_up e2 k1
        unfold sF at e1'
        rw [if_pos (by omega), if_pos rfl, if_pos (by omega), e1', Option.bind_some, w64 _ (by omega) (by omega), drop38 _ _ hlt, List.all_cons, Bool.true_and, show k1 + k2 = k2 + k1 by omega]
        exact e2'
    · have : i = x.f5.length := by omega
      subst this
      refine ⟨1, ?_⟩
      unfold sL hindsightref24_Safe.l1
      rw [if_neg (by omega), List.drop_length]; simp
theorem ops_loop (x : S38) (r : Bool → Bool) (HL : ∀ b, ∃ k, sL k x b 0 = some (r b)) (d : Nat) :
    ∀ (i : Nat) (b : Bool), OPS.length - i ≤ d → i ≤ OPS.length → ∃ k, sO k x b i = some (r (b || (OPS.drop i).any fun s => x.f1.toList == s.toList)) := by
  induction d with
  | zero =>
    intro i b hd hi
    have : i = OPS.length := by omega
    subst this
    obtain ⟨k, e⟩ := HL b
    refine ⟨k + 1, ?_⟩
    unfold sO hindsightref24_Safe.l0
    rw [if_neg (by omega), List.drop_length, List.any_nil, Bool.or_false]
    exact e
  | succ d ih =>
    intro i b hd hi
    by_cases hlt : i < OPS.length
    · have h9 : OPS.length = 9 := rfl
      have hd' : OPS.drop i = rdOf ByteArray.empty OPS (i : Int) :: OPS.drop (i + 1) := by
        rw [List.drop_eq_getElem_cons hlt]
        congr 1
        unfold rdOf
        rw [Int.toNat_natCast, List.getD_eq_getElem?_getD, List.getElem?_eq_getElem hlt]
        rfl
      cases b with
      | true =>
        obtain ⟨k, e⟩ := ih (i + 1) true (by omega) (by omega)
        refine ⟨k + 1, ?_⟩
        unfold sO hindsightref24_Safe.l0
        rw [if_pos (by omega), if_pos rfl, w64 _ (by omega) (by omega)]
        rw [Bool.true_or] at e ⊢
        exact e
      | false =>
        obtain ⟨k, e⟩ := ih (i + 1) (x.f1.toList == (rdOf ByteArray.empty OPS (i : Int)).toList) (by omega) (by omega)
        refine ⟨k + 1, ?_⟩
        unfold sO hindsightref24_Safe.l0
        rw [if_pos (by omega), if_neg (by decide), if_pos (by omega), w64 _ (by omega) (by omega), hd', List.any_cons, Bool.false_or]
        exact e
    · have : i = OPS.length := by omega
      subst this
      obtain ⟨k, e⟩ := HL b
      refine ⟨k + 1, ?_⟩
      unfold sO hindsightref24_Safe.l0
      rw [if_neg (by omega), List.drop_length, List.any_nil, Bool.or_false]
      exact e
theorem ops_eq (o : ByteArray) : (OPS.any fun s => o.toList == s.toList) = opsSafe.any fun s => o.toList == s := by
  have t : ∀ l : Array UInt8, (⟨l⟩ : ByteArray).toList = l.toList := fun l => ByteArray.toList_eq _
  generalize o.toList = q
  simp only [OPS, opsSafe, List.any_cons, List.any_nil, t]
theorem safe_ex (m : Nat) : ∀ (x : S38), cnt x ≤ m → cnt x ≤ 1000000000000 → ∃ k, sF k x = some (safeP x) := by
  induction m with
  | zero => intro x h; have := cnt_eq x; omega
  | succ m ih =>
    intro x hx hx2
    have HL : ∀ b, ∃ k, sL k x b 0 = some (b && x.f5.all safeP) := fun b => by
      obtain ⟨k, e⟩ := args_loop x (fun y hy => ih y (by have := cnt_mem hy; omega) (by have := cnt_mem hy; omega)) (by have := len_cntL x.f5; have := cnt_eq x; omega) x.f5.length 0 b (by omega) (by omega)
      exact ⟨k, e⟩
    have HO : ∀ b, ∃ k, sO k x b 0 = some ((b || OPS.any fun s => x.f1.toList == s.toList) && x.f5.all safeP) := fun b => by
      obtain ⟨k, e⟩ := ops_loop x (fun b => b && x.f5.all safeP) HL 9 0 b (by decide) (by decide)
      exact ⟨k, e⟩
    rw [safeP_eq]
    unfold baseSafe
    rw [← ops_eq]
    by_cases h1 : x.f0 = 1
    · obtain ⟨k, e⟩ := HO true
      refine ⟨k + 2, ?_⟩
      unfold sF hindsightref24_Safe.f hindsightref24_Safe.j0
      rw [Option.bind_some, if_pos h1]
      rw [show (x.f0 == 1) = true from beq_iff_eq.mpr h1]
      exact e
    · by_cases h2 : x.f0 = 2
      · obtain ⟨k, e⟩ := HO true
        refine ⟨k + 2, ?_⟩
        unfold sF hindsightref24_Safe.f hindsightref24_Safe.j0
        rw [Option.bind_some, if_neg h1, if_pos h2]
        rw [show (x.f0 == 2) = true from beq_iff_eq.mpr h2, Bool.or_true]
        exact e
      · obtain ⟨k, e⟩ := HO (x.f0 == 5)
        refine ⟨k + 2, ?_⟩
        unfold sF hindsightref24_Safe.f hindsightref24_Safe.j0
        rw [Option.bind_some, if_neg h1, if_neg h2]
        rw [show (x.f0 == 1) = false from beq_eq_false_iff_ne.mpr h1, show (x.f0 == 2) = false from beq_eq_false_iff_ne.mpr h2, Bool.false_or, Bool.false_or]
        exact e
theorem safe_walk (x : S38) (A : Option Addr) (c : Nat) (w : World) (hx : cnt x ≤ 1000000000000) (hc : x.f5.length ≤ c) (hC : Kd.C k38 w A x.f5.length x.f5) :
    Calls Try.prog 19 #[V38 x A c] w fun e w' => e = .returned (.bool (safeP x)) ∧ Below w.heap.size w w' := by
  obtain ⟨k, e⟩ := safe_ex (cnt x) x (Nat.le_refl _) hx
  exact hindsightref24_Safe.calls k _ _ _ _ _ _ _ A c x.f5 (safeP x) w hC hc e
end Go.Proofs.Ytepjcgcobaaphaa.Rf
namespace Go.Proofs.Ytepjcgcobaaphaa.Nd
set_option linter.unusedVariables false
set_option linter.unusedSimpArgs false
open Go.RowKit Go.Lib Go.Proofs.YtepjcgcobaaphaaW.PrintWords Go.Proofs.YtepjcgcobaaphaaW.PrintLast Go.Proofs.YtepjcgcobaaphaaW.PrintMore Go.Proofs.Ytepjcgcobaaphaa.PPa
open Go.Proofs.Ytepjcgcobaaphaa.Rf (w64 drop38)

/-! ### A node as the document's -/
mutual
def nodeR : S36 → S38
  | ⟨a, b, c, d, e, l⟩ => ⟨a, b, c, d, e, nodeRL l⟩
def nodeRL : List S36 → List S38
  | [] => []
  | a :: t => nodeR a :: nodeRL t
end
theorem nodeRL_map (l : List S36) : nodeRL l = l.map nodeR := by
  induction l with
  | nil => rfl
  | cons a t ih => rw [nodeRL, ih]; rfl
theorem nodeR_eq (x : S36) : nodeR x = ⟨x.f0, x.f1, x.f2, x.f3, x.f4, x.f5.map nodeR⟩ := by cases x; rw [nodeR, nodeRL_map]
abbrev tup (y : S38) : Int × ByteArray × Int × Int × ByteArray × Int × Int × List S38 := (y.f0, y.f1, y.f2.f0, y.f2.f1, y.f2.f2, y.f3, y.f4, y.f5)
abbrev nF (k : Nat) (x : S36) := hindsightlaw22_Node.f k x.f0 x.f1 x.f2.f0 x.f2.f1 x.f2.f2 x.f3 x.f4 x.f5
abbrev nL (k : Nat) (i : Int) (x : S36) (acc : List S38) := hindsightlaw22_Node.l0 k i x.f0 x.f1 x.f2.f0 x.f2.f1 x.f2.f2 x.f3 x.f4 x.f5 x.f0 x.f1 x.f2.f0 x.f2.f1 x.f2.f2 x.f3 x.f4 acc
theorem nF_up {k : Nat} {x : S36} {r} (h : nF k x = some r) (d : Nat) : nF (k + d) x = some r := by
  induction d with
  | zero => exact h
  | succ d ih => exact (hindsightlaw22_Node.mono_l (k + d)).1 _ _ _ _ _ _ _ _ _ ih
theorem nL_up {k : Nat} {i : Int} {x : S36} {acc : List S38} {r} (h : nL k i x acc = some r) (d : Nat) : nL (k + d) i x acc = some r := by
  induction d with
  | zero => exact h
  | succ d ih => exact (hindsightlaw22_Node.mono_l (k + d)).2 _ _ _ _ _ _ _ _ _ _ _ _ _ _ _ _ _ _ ih
theorem drop36 (L : List S36) (i : Nat) (h : i < L.length) : L.drop i = rd_T36 L (i : Int) :: L.drop (i + 1) := by
  rw [List.drop_eq_getElem_cons h]
  congr 1
  unfold rd_T36
  rw [Int.toNat_natCast, List.getD_eq_getElem?_getD, List.getElem?_eq_getElem h]
  rfl
theorem mk_eta (y : S38) : (⟨y.f0, y.f1, ⟨y.f2.f0, y.f2.f1, y.f2.f2⟩, y.f3, y.f4, y.f5⟩ : S38) = y := by cases y; rfl
theorem node_loop (x : S36) (IH : ∀ y ∈ x.f5, ∃ k, nF k y = some (tup (nodeR y))) (hl : x.f5.length < 1000000000000) (d : Nat) :
    ∀ (i : Nat) (acc : List S38), x.f5.length - i ≤ d → i ≤ x.f5.length → acc.length = i → ∃ k, nL k i x acc = some (x.f0, x.f1, x.f2.f0, x.f2.f1, x.f2.f2, x.f3, x.f4, acc ++ (x.f5.drop i).map nodeR) := by
  induction d with
  | zero =>
    intro i acc hd hi ha
    have : i = x.f5.length := by omega
    subst this
    refine ⟨1, ?_⟩
    unfold nL hindsightlaw22_Node.l0
    rw [if_neg (by omega), List.drop_length]; simp
  | succ d ih =>
    intro i acc hd hi ha
    by_cases hlt : i < x.f5.length
    · obtain ⟨k1, e1⟩ := IH (rd_T36 x.f5 i) (Pl.rd36_mem x.f5 i hlt)
      obtain ⟨k2, e2⟩ := ih (i + 1) (acc ++ [nodeR (rd_T36 x.f5 i)]) (by omega) (by omega) (by simp [ha])
      refine ⟨k1 + k2 + 1, ?_⟩
      have e1' := nF_up e1 k2
      have e2' := nL_up e2 k1
      unfold nF at e1'
      unfold nL hindsightlaw22_Node.l0
      rw [if_pos (by omega), if_pos (by omega), e1', Option.bind_some, if_pos (by omega), w64 _ (by omega) (by omega), drop36 _ _ hlt, List.map_cons]
      rw [List.append_assoc] at e2'
      rw [show k1 + k2 = k2 + k1 by omega]
      simp only [tup, mk_eta]
      exact e2'
    · have : i = x.f5.length := by omega
      subst this
      refine ⟨1, ?_⟩
      unfold nL hindsightlaw22_Node.l0
      rw [if_neg (by omega), List.drop_length]; simp
theorem node_ex (m : Nat) : ∀ x : S36, Pl.cnt x ≤ m → Pl.cnt x ≤ 100000000000 → ∃ k, nF k x = some (tup (nodeR x)) := by
  induction m with
  | zero => intro x h; have := Pl.cnt_eq x; omega
  | succ m ih =>
    intro x hx hx2
    obtain ⟨k, e⟩ := node_loop x (fun y hy => ih y (by have := Pl.cnt_mem hy; omega) (by have := Pl.cnt_mem hy; omega)) (by have := Pl.len_cntL x.f5; have := Pl.cnt_eq x; omega) x.f5.length 0 [] (by omega) (by omega) rfl
    refine ⟨k + 1, ?_⟩
    unfold nF hindsightlaw22_Node.f
    rw [nodeR_eq]
    rw [List.drop_zero, List.nil_append] at e
    exact e
/-- hindsightlaw22.Node at a tree that is small. -/
theorem node_walk (x : S36) (A : Option Addr) (c : Nat) (w : World) (hx : Pl.cnt x ≤ 100000000000) (hc : x.f5.length ≤ c) (hC : Kd.C k36 w A x.f5.length x.f5) :
    Calls Try.prog 8 #[Pl.V36 x A c] w fun e w' => ∃ v : Value, e = .returned (.agg #[.int .i64 x.f0, .string x.f1, .int .u8 x.f2.f0, .int .i64 x.f2.f1, .string x.f2.f2, .int .i64 x.f3, .int .u8 x.f4, v]) ∧ Kd.R k38 38 w' w.heap.size (fun _ => True) v (nodeR x).f5 ∧ Below w.heap.size w w' := by
  obtain ⟨k, e⟩ := node_ex (Pl.cnt x) x (Nat.le_refl _) hx
  have h := hindsightlaw22_Node.calls k x.f0 x.f1 x.f2.f0 x.f2.f1 x.f2.f2 x.f3 x.f4 A c x.f5 _ _ _ _ _ _ _ _ w hC hc e
  rw [nodeR_eq] at h ⊢
  exact h
end Go.Proofs.Ytepjcgcobaaphaa.Nd
namespace Go.Proofs.Ytepjcgcobaaphaa.Nd
set_option linter.unusedVariables false
set_option linter.unusedSimpArgs false
open Go.RowKit Go.Lib Go.Proofs.YtepjcgcobaaphaaW.PrintWords Go.Proofs.YtepjcgcobaaphaaW.PrintLast Go.Proofs.YtepjcgcobaaphaaW.PrintMore Go.Proofs.Ytepjcgcobaaphaa.PPa
open Go.Proofs.Ytepjcgcobaaphaa.Rf (w64 drop38)

mutual
theorem cnt_nodeR : ∀ x : S36, Rf.cnt (nodeR x) = Pl.cnt x
  | ⟨a, b, c, d, e, l⟩ => by rw [nodeR, Rf.cnt, Pl.cnt, cntL_nodeRL l]
theorem cntL_nodeRL : ∀ l : List S36, Rf.cntL (nodeRL l) = Pl.cntL l
  | [] => rfl
  | a :: t => by rw [nodeRL, Rf.cntL, Pl.cntL, cnt_nodeR a, cntL_nodeRL t]
end
abbrev mF (k : Nat) (x y : S38) := hindsightref22_Same.f k x.f0 x.f1 x.f2.f0 x.f2.f1 x.f2.f2 x.f3 x.f4 x.f5 y.f0 y.f1 y.f2.f0 y.f2.f1 y.f2.f2 y.f3 y.f4 y.f5
abbrev mL (k : Nat) (i : Int) (x y : S38) := hindsightref22_Same.l0 k i x.f0 x.f1 x.f2.f0 x.f2.f1 x.f2.f2 x.f3 x.f4 x.f5 y.f0 y.f1 y.f2.f0 y.f2.f1 y.f2.f2 y.f3 y.f4 y.f5
theorem mF_up {k : Nat} {x y : S38} {r} (h : mF k x y = some r) (d : Nat) : mF (k + d) x y = some r := by
  induction d with
  | zero => exact h
  | succ d ih => exact (hindsightref22_Same.mono_l (k + d)).1 _ _ _ _ _ _ _ _ _ _ _ _ _ _ _ _ _ ih
theorem mL_up {k : Nat} {i : Int} {x y : S38} {r} (h : mL k i x y = some r) (d : Nat) : mL (k + d) i x y = some r := by
  induction d with
  | zero => exact h
  | succ d ih => exact (hindsightref22_Same.mono_l (k + d)).2.2 _ _ _ _ _ _ _ _ _ _ _ _ _ _ _ _ _ _ ih
theorem same_loop (x : S38) (IH : ∀ y ∈ x.f5, ∃ k, mF k y y = some true) (hl : x.f5.length < 1000000000000) (d : Nat) :
    ∀ i : Nat, x.f5.length - i ≤ d → i ≤ x.f5.length → ∃ k, mL k i x x = some true := by
  induction d with
  | zero =>
    intro i hd hi
    refine ⟨1, ?_⟩
    unfold mL hindsightref22_Same.l0
    rw [if_neg (by omega)]
  | succ d ih =>
    intro i hd hi
    by_cases hlt : i < x.f5.length
    · obtain ⟨k1, e1⟩ := IH (rd_T38 x.f5 i) (Rf.rd36_mem x.f5 i hlt)
      obtain ⟨k2, e2⟩ := ih (i + 1) (by omega) (by omega)
      refine ⟨k1 + k2 + 1, ?_⟩
      have e1' := mF_up e1 k2
      have e2' := mL_up e2 k1
      unfold mF at e1'
      unfold mL hindsightref22_Same.l0
      rw [if_pos (by omega), if_pos (by omega), if_pos (by omega), e1', Option.bind_some, if_pos rfl, w64 _ (by omega) (by omega), show k1 + k2 = k2 + k1 by omega]
      exact e2'
    · refine ⟨1, ?_⟩
      unfold mL hindsightref22_Same.l0
      rw [if_neg (by omega)]
theorem same_ex (m : Nat) : ∀ x : S38, Rf.cnt x ≤ m → Rf.cnt x ≤ 100000000000 → ∃ k, mF k x x = some true := by
  induction m with
  | zero => intro x h; have := Rf.cnt_eq x; omega
  | succ m ih =>
    intro x hx hx2
    obtain ⟨k, e⟩ := same_loop x (fun y hy => ih y (by have := Rf.cnt_mem hy; omega) (by have := Rf.cnt_mem hy; omega)) (by have := Rf.len_cntL x.f5; have := Rf.cnt_eq x; omega) x.f5.length 0 (by omega) (by omega)
    refine ⟨k + 2, ?_⟩
    unfold mF hindsightref22_Same.f hindsightref22_Same.j0
    rw [if_pos rfl, if_pos rfl, if_neg (by simp), if_pos rfl, if_pos rfl, if_neg (by simp)]
    exact e
abbrev oF (k : Nat) (l : List S36) (i : Int) := hindsightlaw24_nodes.l0 k l (l.map nodeR) i
theorem oF_up {k : Nat} {l : List S36} {i : Int} {r} (h : oF k l i = some r) (d : Nat) : oF (k + d) l i = some r := by
  induction d with
  | zero => exact h
  | succ d ih => exact hindsightlaw24_nodes.mono_l (k + d) _ _ _ _ ih
theorem rd_map (l : List S36) (i : Nat) (h : i < l.length) : rd_T38 (l.map nodeR) (i : Int) = nodeR (rd_T36 l (i : Int)) := by
  unfold rd_T38 rd_T36
  simp [List.getD_eq_getElem?_getD, h]
theorem nodes_loop (l : List S36) (hc : ∀ x ∈ l, Pl.cnt x ≤ 100000000000) (hl : l.length < 1000000000000) (d : Nat) :
    ∀ i : Nat, l.length - i ≤ d → i ≤ l.length → ∃ k, oF k l i = some true := by
  induction d with
  | zero =>
    intro i hd hi
    refine ⟨1, ?_⟩
    unfold oF hindsightlaw24_nodes.l0
    rw [if_neg (by omega)]
  | succ d ih =>
    intro i hd hi
    by_cases hlt : i < l.length
    · have hx := hc _ (Pl.rd36_mem l i hlt)
      obtain ⟨k1, e1⟩ := node_ex _ (rd_T36 l i) (Nat.le_refl _) hx
      obtain ⟨k2, e2⟩ := ih (i + 1) (by omega) (by omega)
      obtain ⟨k3, e3⟩ := same_ex _ (nodeR (rd_T36 l i)) (Nat.le_refl _) (by rw [cnt_nodeR]; exact hx)
      refine ⟨k1 + k2 + k3 + 1, ?_⟩
      have e1' := nF_up e1 (k2 + k3)
      have e2' := oF_up e2 (k1 + k3)
      have e3' := mF_up e3 (k1 + k2)
      rw [show k1 + (k2 + k3) = k1 + k2 + k3 by omega] at e1'
      rw [show k2 + (k1 + k3) = k1 + k2 + k3 by omega] at e2'
      rw [show k3 + (k1 + k2) = k1 + k2 + k3 by omega] at e3'
      unfold nF at e1'
      unfold mF at e3'
      unfold oF hindsightlaw24_nodes.l0
      rw [if_pos (by omega), if_pos (by omega), e1', Option.bind_some, if_pos (by rw [List.length_map]; omega), rd_map l i hlt, e3', Option.bind_some, if_pos rfl, w64 _ (by omega) (by omega)]
      exact e2'
    · refine ⟨1, ?_⟩
      unfold oF hindsightlaw24_nodes.l0
      rw [if_neg (by omega)]
/-- nodes at a list and its conversion: true. -/
theorem nodes_walk (l : List S36) (A0 : Option Addr) (c0 : Nat) (A1 : Option Addr) (c1 : Nat) (w : World) (hc : ∀ x ∈ l, Pl.cnt x ≤ 100000000000) (hl : l.length < 1000000000000) (h0 : Kd.C k36 w A0 l.length l) (l0 : l.length ≤ c0) (h1 : Kd.C k38 w A1 (l.map nodeR).length (l.map nodeR)) (l1 : (l.map nodeR).length ≤ c1) :
    Calls Try.prog 11 #[.slice A0 l.length c0, .slice A1 (l.map nodeR).length c1] w fun e w' => e = .returned (.bool true) ∧ Below w.heap.size w w' := by
  obtain ⟨k, e⟩ := nodes_loop l hc hl l.length 0 (by omega) (by omega)
  refine hindsightlaw24_nodes.calls k A0 c0 l A1 c1 (l.map nodeR) true w h0 l0 h1 l1 ?_
  unfold hindsightlaw24_nodes.f
  rw [if_pos (by simp)]
  exact e
end Go.Proofs.Ytepjcgcobaaphaa.Nd
namespace Go.Proofs.Ytepjcgcobaaphaa.Nd
set_option linter.unusedVariables false
set_option linter.unusedSimpArgs false
open Go.RowKit Go.Lib Go.Proofs.YtepjcgcobaaphaaW.PrintWords Go.Proofs.YtepjcgcobaaphaaW.PrintLast Go.Proofs.YtepjcgcobaaphaaW.PrintMore Go.Proofs.Ytepjcgcobaaphaa.PPa

/-! ### The reference at converted nodes answers as plan does -/
mutual
theorem safe_nodeR : ∀ x : S36, Rf.safeP (nodeR x) = Pl.safeP x
  | ⟨a, b, c, d, e, l⟩ => by rw [nodeR, Rf.safeP, Pl.safeP, safeL_nodeRL l]; rfl
theorem safeL_nodeRL : ∀ l : List S36, Rf.safeL (nodeRL l) = Pl.safeL l
  | [] => rfl
  | a :: t => by rw [nodeRL, Rf.safeL, Pl.safeL, safe_nodeR a, safeL_nodeRL t]
end
mutual
theorem cols_nodeR : ∀ x : S36, Rf.cols (nodeR x) = Pl.cols x
  | ⟨a, b, c, d, e, l⟩ => by rw [nodeR, Rf.cols, Pl.cols, colsL_nodeRL l]
theorem colsL_nodeRL : ∀ l : List S36, Rf.colsL (nodeRL l) = Pl.colsL l
  | [] => rfl
  | a :: t => by rw [nodeRL, Rf.colsL, Pl.colsL, cols_nodeR a, colsL_nodeRL t]
end
theorem map_append_nodeRL (a b : List S36) : nodeRL a ++ nodeRL b = nodeRL (a ++ b) := by
  rw [nodeRL_map, nodeRL_map, nodeRL_map, List.map_append]
mutual
theorem parts_nodeR : ∀ x : S36, Rf.partsP (nodeR x) = nodeRL (Pl.partsP x)
  | ⟨a, b, c, d, e, l⟩ => by
    rw [nodeR, Rf.partsP, Pl.partsP]
    by_cases h : Pl.isAnd a b = true
    · rw [if_pos h, if_pos (show Rf.isAnd a b = true from h), partsL_nodeRL l]
    · rw [if_neg h, if_neg (show ¬ Rf.isAnd a b = true from h), nodeRL, nodeRL, nodeR]
theorem partsL_nodeRL : ∀ l : List S36, Rf.partsL (nodeRL l) = nodeRL (Pl.partsL l)
  | [] => rfl
  | a :: t => by rw [nodeRL, Rf.partsL, Pl.partsL, parts_nodeR a, partsL_nodeRL t, map_append_nodeRL]
end
theorem low_nodeR (x : S36) (first : Int) : Rf.lowP (nodeR x) first = Pl.belowP x first := by
  unfold Rf.lowP Pl.belowP
  rw [cols_nodeR]
theorem isEq_nodeR (x : S36) : Rf.isEq (nodeR x) = Pl.isEq x := by
  rw [nodeR_eq]
  unfold Rf.isEq Pl.isEq
  simp
theorem isSlot_nodeR (x : S36) (slot : Int) : Rf.isSlotP (nodeR x) slot = Pl.isSlotP x slot := by
  rw [nodeR_eq]; rfl
theorem eqOne_nodeR (slot first : Int) (x : S36) : Rf.eqOne slot first (nodeR x) = (Pl.eqOne slot first x).map nodeR := by
  unfold Rf.eqOne Pl.eqOne
  rw [isEq_nodeR]
  by_cases h : Pl.isEq x = true
  · have hl : x.f5.length = 2 := by
      unfold Pl.isEq at h
      simp at h
      exact h.2.2
    have e0 : rd_T38 (nodeR x).f5 0 = nodeR (rd_T36 x.f5 0) := by
      rw [nodeR_eq]; exact rd_map x.f5 0 (by omega)
    have e1 : rd_T38 (nodeR x).f5 1 = nodeR (rd_T36 x.f5 1) := by
      rw [nodeR_eq]; exact rd_map x.f5 1 (by omega)
    rw [if_pos h, if_pos h, e0, e1, isSlot_nodeR, isSlot_nodeR, low_nodeR, low_nodeR]
    split
    · rfl
    · split <;> rfl
  · rw [if_neg h, if_neg h]; rfl
theorem equal_nodeR (L : List S36) (slot first : Int) : Rf.equalP (L.map nodeR) slot first = (Pl.equalP L slot first).map nodeR := by
  unfold Rf.equalP Pl.equalP
  induction L with
  | nil => rfl
  | cons a t ih =>
    rw [List.map_cons, List.findSome?_cons, List.findSome?_cons, eqOne_nodeR]
    cases Pl.eqOne slot first a with
    | none => exact ih
    | some n => rfl
end Go.Proofs.Ytepjcgcobaaphaa.Nd
namespace Go.Proofs.Ytepjcgcobaaphaa.Nd
set_option linter.unusedVariables false
set_option linter.unusedSimpArgs false
open Go.RowKit Go.Lib Go.Proofs.YtepjcgcobaaphaaW.PrintWords Go.Proofs.YtepjcgcobaaphaaW.PrintLast Go.Proofs.YtepjcgcobaaphaaW.PrintMore Go.Proofs.Ytepjcgcobaaphaa.PPa

/-! ### The reference's step, its steps -/
def keyR (L : List S38) (first : Int) (ks : List Int) : List S38 := ks.map fun k => (Rf.equalP L (first + k) first).getD z38
def allR (L : List S38) (first : Int) (ks : List Int) : Bool := ks.all fun k => (Rf.equalP L (first + k) first).isSome
def oneR (L : List S38) (first : Int) (k : Int) : Option (Int × S38) := (Rf.equalP L (first + k) first).map fun n => (k, n)
def stepR (T : Pl.S29) (L : List S38) : Int × Int × List S38 :=
  if Pl.refuse T = true then (0, 0, []) else
    if allR L T.f0 T.f2 = true then (1, 0, keyR L T.f0 T.f2) else
      match T.f3.findSome? (oneR L T.f0) with
      | some (k, n) => (2, k, [n])
      | none => (0, 0, [])
def conv (s : Int × Int × List S36) : Int × Int × List S38 := (s.1, s.2.1, s.2.2.map nodeR)
theorem keys_le (L : List S36) (first : Int) (ks : List Int) : (Pl.keyNodes L first ks).length ≤ ks.length := by
  unfold Pl.keyNodes; exact List.length_filterMap_le _ _
theorem keys_eq (L : List S36) (first : Int) (ks : List Int) :
    (allR (L.map nodeR) first ks = true ↔ (Pl.keyNodes L first ks).length = ks.length) ∧ (allR (L.map nodeR) first ks = true → keyR (L.map nodeR) first ks = (Pl.keyNodes L first ks).map nodeR) := by
  induction ks with
  | nil => exact ⟨by simp [allR, Pl.keyNodes], fun _ => rfl⟩
  | cons k t ih =>
    have hle := keys_le L first t
    have e1 : allR (L.map nodeR) first (k :: t) = ((Pl.equalP L (first + k) first).isSome && allR (L.map nodeR) first t) := by
      unfold allR
      rw [List.all_cons, equal_nodeR, Option.isSome_map]
    have e2 : keyR (L.map nodeR) first (k :: t) = ((Pl.equalP L (first + k) first).map nodeR).getD z38 :: keyR (L.map nodeR) first t := by
      unfold keyR
      rw [List.map_cons, equal_nodeR]
    have e3 : Pl.keyNodes L first (k :: t) = (Pl.equalP L (first + k) first).toList ++ Pl.keyNodes L first t := by
      unfold Pl.keyNodes
      cases h : Pl.equalP L (first + k) first <;> simp [List.filterMap_cons, h]
    cases h : Pl.equalP L (first + k) first with
    | none =>
      rw [h] at e1 e2 e3
      refine ⟨⟨fun ha => ?_, fun hl => ?_⟩, fun ha => ?_⟩
      · rw [e1] at ha; simp at ha
      · rw [e3] at hl
        simp at hl
        omega
      · rw [e1] at ha; simp at ha
    | some n =>
      rw [h] at e1 e2 e3
      refine ⟨⟨fun ha => ?_, fun hl => ?_⟩, fun ha => ?_⟩
      · rw [e1] at ha
        have := ih.1.1 (by simpa using ha)
        rw [e3]; simp; omega
      · rw [e1]
        rw [e3] at hl
        simp at hl
        have := ih.1.2 (by omega)
        simp [this]
      · rw [e1] at ha
        have := ih.2 (by simpa using ha)
        rw [e2, e3, this]; rfl
theorem step_conv (T : Pl.S29) (L : List S36) : stepR T (L.map nodeR) = conv (Pl.stepP T L) := by
  unfold stepR Pl.stepP
  by_cases hr : Pl.refuse T = true
  · rw [if_pos hr, if_pos hr]; rfl
  · rw [if_neg hr, if_neg hr]
    have hk := keys_eq L T.f0 T.f2
    by_cases ha : allR (L.map nodeR) T.f0 T.f2 = true
    · rw [if_pos ha, if_pos (hk.1.1 ha), hk.2 ha]; rfl
    · rw [if_neg ha, if_neg (fun h => ha (hk.1.2 h))]
      have e : T.f3.findSome? (oneR (L.map nodeR) T.f0) = (T.f3.findSome? (Pl.oneIndex L T.f0)).map fun p => (p.1, nodeR p.2) := by
        generalize T.f3 = is
        induction is with
        | nil => rfl
        | cons k t ih =>
          rw [List.findSome?_cons, List.findSome?_cons]
          unfold oneR Pl.oneIndex
          rw [equal_nodeR]
          cases Pl.equalP L (T.f0 + k) T.f0 with
          | none => exact ih
          | some n => rfl
      rw [e]
      cases T.f3.findSome? (Pl.oneIndex L T.f0) with
      | none => rfl
      | some p => rfl
def allPartsR (C : List S38) : List S38 := C.flatMap fun x => if x.f0 = 0 then [] else Rf.partsP x
def allSafeR (C : List S38) : Bool := C.all fun x => x.f0 == 0 || Rf.safeP x
def stepsR (T : List Pl.S29) (C : List S38) : List (Int × Int × List S38) := T.map fun t => if allSafeR C = true then stepR t (allPartsR C) else (0, 0, [])
theorem f0_nodeR (x : S36) : (nodeR x).f0 = x.f0 := by rw [nodeR_eq]
theorem steps_conv (T : List Pl.S29) (C : List S36) : stepsR T (C.map nodeR) = (Pl.stepsP T C).map conv := by
  have h1 : allSafeR (C.map nodeR) = Pl.allSafe C := by
    unfold allSafeR Pl.allSafe
    rw [List.all_map]
    congr 1
    funext x
    simp only [Function.comp, f0_nodeR, safe_nodeR]
  have h2 : allPartsR (C.map nodeR) = (Pl.allParts C).map nodeR := by
    unfold allPartsR Pl.allParts
    rw [List.flatMap_map, List.map_flatMap]
    congr 1
    funext x
    rw [f0_nodeR]
    split
    · rfl
    · rw [parts_nodeR, nodeRL_map]
  unfold stepsR Pl.stepsP
  rw [List.map_map]
  apply List.map_congr_left
  intro t _
  rw [h1, h2]
  simp only [Function.comp]
  split
  · exact step_conv t (Pl.allParts C)
  · rfl
end Go.Proofs.Ytepjcgcobaaphaa.Nd
namespace Go.Proofs.Ytepjcgcobaaphaa.Nd
set_option linter.unusedVariables false
set_option linter.unusedSimpArgs false
open Go.RowKit Go.Lib Go.Proofs.YtepjcgcobaaphaaW.PrintWords Go.Proofs.YtepjcgcobaaphaaW.PrintLast Go.Proofs.YtepjcgcobaaphaaW.PrintMore Go.Proofs.Ytepjcgcobaaphaa.PPa
open Go.Proofs.Ytepjcgcobaaphaa.Rf (RN lit_R V38 bcell cnt cntL at36 rd36_mem cntL_mem len_cntL cntL_append partsP_cnt)
open Go.Proofs.Ytepjcgcobaaphaa.Pl (S29 k29 rd29 rd29_mem at29 okT)

def kS (w0 : World) : Kd (Int × Int × List S38) := Kd.pair (Kd.int .i64) (Kd.pair (Kd.int .i64) (Kd.slice 38 (Kd.fixed k38 w0)))
theorem kS_mkM {w0 w : World} {base : Nat} {ok : Nat → Prop} {x : Int × Int × List S38} {v : Value} (h : Kd.R (Kd.fixed k38 w0) 38 w base ok v x.2.2) : (kS w0).M w base ok x [.int .i64 x.1, .int .i64 x.2.1, v] :=
  ⟨[.int .i64 x.1], [.int .i64 x.2.1, v], rfl, rfl, ⟨[.int .i64 x.2.1], [v], rfl, rfl, ⟨v, rfl, h⟩⟩⟩
theorem info47 : (Try.prog.info? 47).map (fun i => (i.zero, i.size, i.bytes)) = some (some (.agg #[(.int .i64 0), (.int .i64 0), (.slice none 0 0)]), 3, 40) := by kernel_rfl
theorem info38y : (Try.prog.info? 38).map (fun i => (i.zero, i.size, i.bytes)) = some (some (.agg #[(.int .i64 0), (.string ⟨#[]⟩), (.int .u8 0), (.int .i64 0), (.string ⟨#[]⟩), (.int .i64 0), (.int .u8 0), (.slice none 0 0)]), 8, 96) := by kernel_rfl
theorem allPartsR_take (C : List S38) (i : Nat) (h : i < C.length) : allPartsR (C.take (i + 1)) = allPartsR (C.take i) ++ (if (rd_T38 C (i : Int)).f0 = 0 then [] else Rf.partsP (rd_T38 C (i : Int))) := by
  unfold allPartsR; rw [Rf.take_succ36 C i h, List.flatMap_append]; simp
theorem allSafeR_take (C : List S38) (i : Nat) (h : i < C.length) : allSafeR (C.take (i + 1)) = (allSafeR (C.take i) && ((rd_T38 C (i : Int)).f0 == 0 || Rf.safeP (rd_T38 C (i : Int)))) := by
  unfold allSafeR; rw [Rf.take_succ36 C i h, List.all_append]; simp
theorem allPartsR_cnt (C : List S38) : cntL (allPartsR C) ≤ cntL C := by
  unfold allPartsR
  induction C with
  | nil => simp [Rf.cntL]
  | cons a t ih =>
    rw [List.flatMap_cons, cntL_append, Rf.cntL]
    have := partsP_cnt a
    split <;> simp [Rf.cntL] <;> omega
theorem stepsR_take (T : List S29) (C : List S38) (i : Nat) (h : i < T.length) : stepsR (T.take (i + 1)) C = stepsR (T.take i) C ++ [if allSafeR C = true then stepR (rd29 T (i : Int)) (allPartsR C) else (0, 0, [])] := by
  unfold stepsR
  have : T.take (i + 1) = T.take i ++ [rd29 T (i : Int)] := by
    rw [List.take_succ_eq_append_getElem h]
    unfold rd29
    rw [Int.toNat_natCast, List.getD_eq_getElem?_getD, List.getElem?_eq_getElem h]
    rfl
  rw [this, List.map_append]; rfl
theorem stepsR_len (T : List S29) (C : List S38) : (stepsR T C).length = T.length := by unfold stepsR; simp
theorem at29L {w0 w : World} {A : Option Addr} {n : Nat} {xs : List S29} (h : Kd.C k29 w0 A n xs) (hb : Below w0.heap.size w0 w) (i : Int) (h0 : 0 ≤ i) (h1 : i < n) :
    ∃ ad A2 c2 A3 c3, A = some ad ∧ w.cell? (ad.add (i.toNat * 5)) = some (.int .i64 (rd29 xs i).f0) ∧ w.cell? ⟨(ad.add (i.toNat * 5)).block, (ad.add (i.toNat * 5)).off + 1, none⟩ = some (.int .i64 (rd29 xs i).f1) ∧ w.cell? ⟨(ad.add (i.toNat * 5)).block, (ad.add (i.toNat * 5)).off + 2, none⟩ = some (.slice A2 (rd29 xs i).f2.length c2) ∧ w.cell? ⟨(ad.add (i.toNat * 5)).block, (ad.add (i.toNat * 5)).off + 3, none⟩ = some (.slice A3 (rd29 xs i).f3.length c3) ∧ w.cell? ⟨(ad.add (i.toNat * 5)).block, (ad.add (i.toNat * 5)).off + 4, none⟩ = some (.bool (rd29 xs i).f4) ∧
      Kd.C (Kd.int .i64) w0 A2 (rd29 xs i).f2.length (rd29 xs i).f2 ∧ Kd.C (Kd.int .i64) w0 A3 (rd29 xs i).f3.length (rd29 xs i).f3 ∧ (rd29 xs i).f2.length ≤ c2 ∧ (rd29 xs i).f3.length ≤ c3 := by
  obtain ⟨ad, c, e, _, hK, hc0⟩ := Kd.C_get h Pl.z29 i h0 h1
  have hc : ∀ j u, c[j]? = some u → w0.cell? (ad.add (i.toNat * 5 + j)) = some u := hc0
  obtain ⟨A2, c2, A3, c3, rfl, g2, g3, l2, l3⟩ := Pl.k29_open hK
  exact ⟨ad, A2, c2, A3, c3, e, bcell hb (hc 0 _ rfl), by rw [← add_field _ _ 1 (by omega)]; exact bcell hb (hc 1 _ rfl), by rw [← add_field _ _ 2 (by omega)]; exact bcell hb (hc 2 _ rfl), by rw [← add_field _ _ 3 (by omega)]; exact bcell hb (hc 3 _ rfl), by rw [← add_field _ _ 4 (by omega)]; exact bcell hb (hc 4 _ rfl), g2, g3, l2, l3⟩
/-- What is asked of the reference's step. -/
def StepRC (w : World) (T : List S29) (L : List S38) : Prop := ∀ (vA : Option Addr) (vc : Nat) (t : S29) (A2 : Option Addr) (c2 : Nat) (A3 : Option Addr) (c3 : Nat) (V : World), L.length ≤ vc → Below w.heap.size w V → Kd.C (Kd.fixed k38 w) V vA L.length L → t ∈ T → Kd.C (Kd.int .i64) w A2 t.f2.length t.f2 → Kd.C (Kd.int .i64) w A3 t.f3.length t.f3 → t.f2.length ≤ c2 → t.f3.length ≤ c3 →
    Calls Try.prog 21 #[.agg #[.int .i64 t.f0, .int .i64 t.f1, .slice A2 t.f2.length c2, .slice A3 t.f3.length c3, .bool t.f4], .slice vA L.length vc] V fun e w' => ∃ v : Value, e = .returned (.agg #[.int .i64 (stepR t L).1, .int .i64 (stepR t L).2.1, v]) ∧ RN w w' V.heap.size v (stepR t L).2.2 ∧ Below V.heap.size V w'
set_option maxHeartbeats 8000000 in
set_option maxRecDepth 100000 in
theorem stepsR_walk (T : List S29) (AT : Option Addr) (cT : Nat) (C : List S38) (AC : Option Addr) (cC : Nat) (w : World) (HSt : StepRC w T (allPartsR C)) (hT : Kd.C k29 w AT T.length T) (hC : Kd.C k38 w AC C.length C) (lT : T.length ≤ 1000) (lC : C.length ≤ 1000) (okC : cntL C ≤ 1000000000) :
    Calls Try.prog 10 #[.slice AT T.length cT, .slice AC C.length cC] w fun e w' => ∃ v, e = .returned v ∧ Kd.R (kS w) 47 w' w.heap.size (fun _ => True) v (stepsR T C) ∧ Below w.heap.size w w' := by
  have HS0 := Aside0.mk HSt
  have HT := Aside0.mk hT
  have HC := Aside0.mk hC
  have HOC := Aside0.mk okC
  clear HSt hT hC okC
  go_enter Try.func10, Try.ntmps10
  go_wp2
  go_loopg [5, 6, 7] C.length (fun gg s5 s6 s7 wr => ∃ (kk : Nat) (vv : Value), kk ≤ C.length ∧ C.length - kk ≤ gg ∧ s5 = vv ∧ s6 = .bool (allSafeR (C.take kk)) ∧ s7 = .int .i64 kk ∧ Aside0 (Below w.heap.size w wr) ∧ Aside0 (RN w wr w.heap.size vv (allPartsR (C.take kk))))
  case atStart => exact ⟨0, .slice none 0 0, Nat.zero_le _, by omega, rfl, rfl, rfl, ⟨Below.refl _ _⟩, ⟨Kd.R_nil _ _ _ _ _⟩⟩
  case round =>
    obtain ⟨kk, vv, hkk, hg, rfl, rfl, rfl, HB, HR⟩ := hrel
    by_cases hlt : kk < C.length
    · have hltz : (kk : Int) < (C.length : Int) := by omega
      obtain ⟨ad, A7, c7, hA, h0, h1, h2, h3, h4, h5, h6, h7, hl7, hC7⟩ := at36 HC.out HB.out (kk : Int) (by omega) hltz
      rw [Int.toNat_natCast] at h0 h1 h2 h3 h4 h5 h6 h7
      subst hA
      have hmem := rd36_mem C kk hlt
      have hpt := allPartsR_take C kk hlt
      have hst := allSafeR_take C kk hlt
      have hcx : cnt (rd_T38 C kk) ≤ 1000000000 := Nat.le_trans (cntL_mem hmem) HOC.out
      have hplen : (allPartsR (C.take (kk + 1))).length ≤ 1000000000 := by
        have q1 := len_cntL (allPartsR (C.take (kk + 1)))
        have q2 := allPartsR_cnt (C.take (kk + 1))
        have q3 := cntL_append (C.take (kk + 1)) (C.drop (kk + 1))
        rw [List.take_append_drop] at q3
        have := HOC.out
        omega
      have hS := fun (V : World) (hV : Below wr.heap.size wr V) => Rf.safe_walk (rd_T38 C kk) A7 c7 V (by omega) hl7 (Kd.C_below hC7 (below_then HB.out HB.out.size hV))
      have hP := fun (V : World) (hV : Below wr.heap.size wr V) => Rf.parts_walk (cnt (rd_T38 C kk)) (rd_T38 C kk) A7 c7 V w (Nat.le_refl _) (by omega) hl7 hC7 (below_then HB.out HB.out.size hV)
      obtain ⟨x, hx⟩ : ∃ x, x = rd_T38 C kk := ⟨_, rfl⟩
      rw [← hx] at h0 h1 h2 h3 h4 h5 h6 h7 hpt hst hS hP
      have HX := Aside0.mk hg
      have HLT := Aside0.mk hlt
      have HST := Aside0.mk hst
      have HPL := Aside0.mk hplen
      have HBS := Aside0.mk HB.out.size
      clear hx hmem hcx hplen hlt hg hkk hC7 hl7 hst
      obtain ⟨sf, hsf⟩ : ∃ b, allSafeR (C.take kk) = b := ⟨_, rfl⟩
      rw [hsf] at HST ⊢
      clear hsf
      by_cases hz : x.f0 = 0
      · rw [hz] at HST
        have HPT := Aside0.mk (hpt.trans (by rw [if_pos hz]))
        have hz2 : (x.f0 != 0) = false := by rw [hz]; rfl
        have hz3 : (x.f0 == 0) = true := by rw [hz]; rfl
        clear hpt hS hP
        go_wp2_with fail
        go_roundg (C.length - (kk + 1))
        case measure => have := HX.out; have := HLT.out; omega
        case rel => exact ⟨kk + 1, _, HLT.out, by omega, rfl, by rw [HST.out]; simp, by go_num, HB, ⟨by rw [HPT.out, List.append_nil]; exact HR.out⟩⟩
      · have HPT := Aside0.mk (hpt.trans (by rw [if_neg hz]))
        have hz2 : (x.f0 != 0) = true := by simpa using hz
        have hz3 : (x.f0 == 0) = false := by simpa using hz
        rw [hz3, Bool.false_or] at HST
        have HS := Aside0.mk hS
        have HP := Aside0.mk hP
        clear hpt hS hP
        cases sf with
        | true =>
          rw [Bool.true_and] at HST
          go_wp2_with fail
          refine (HS.out _ (Below.refl _ _)).mono ?_
          rintro e V1 ⟨rfl, hb⟩
          have g0 := bcell hb h0
          have g1 := bcell hb h1
          have g2 := bcell hb h2
          have g3 := bcell hb h3
          have g4 := bcell hb h4
          have g5 := bcell hb h5
          have g6 := bcell hb h6
          have g7 := bcell hb h7
          have HBa := Aside0.mk hb
          clear hb h0 h1 h2 h3 h4 h5 h6 h7
          go_wp2_with fail
          refine (HP.out _ HBa.out).mono ?_
          rintro e V2 ⟨v2, rfl, hr2, hb2⟩
          obtain ⟨A2, c2, rfl, hl2, hC2⟩ := Kd.R_reads hr2
          have HB2 := Aside0.mk (below_then (below_then HB.out HB.out.size HBa.out) (Nat.le_trans HB.out.size HBa.out.size) hb2 : Below w.heap.size w V2)
          have HR2 := Aside0.mk (Kd.R_below (Kd.R_below HR.out HBa.out) hb2)
          have HC3 := Aside0.mk hC2
          clear hr2 hb2 hC2 hl2 g0 g1 g2 g3 g4 g5 g6 g7
          go_wp2_with (at_builtin; refine Kd.R_append_rows (Kd.fixed k38 w) (Rr := fun x cs => k38.K w x cs) (w0 := w) w.heap.size ?a1 (.tmp 30) (.tmp 35) 26 38 (.agg #[(.int .i64 0), (.string ⟨#[]⟩), (.int .u8 0), (.int .i64 0), (.string ⟨#[]⟩), (.int .i64 0), (.int .u8 0), (.slice none 0 0)]) 96 ?a2 Try.underlying26 info38y ?a3 ?a4 ?a5 _ (allPartsR (C.take kk)) (Rf.partsP x) A2 (Rf.partsP x).length c2 (fun _ => True) (fun _ => False) ?a6 ?a7 HR2.out ?aR (fun _ _ h => h) (fun _ hk => hk.elim) (fun _ _ => trivial) HB2.out HB2.out.size ?aL ?_; (case a1 => rfl); (case a2 => rfl); (case a3 => rfl); (case a4 => show 0 < 8; omega); (case a5 => omega); (case a6 => rfl); (case a7 => rfl); (case aR => exact HC3.out); (case aL => have q1 := HPL.out; rw [HPT.out, List.length_append] at q1; omega); intro v1 w1 ho hb1 hg1 hat1; obtain ⟨A1, c1, rfl⟩ := Kd.R_slice ho; have HO := Aside0.mk ho; have HB1 := Aside0.mk hb1; clear ho; clear hb1; clear hat1; clear hg1)
          go_roundg (C.length - (kk + 1))
          case measure => have := HX.out; have := HLT.out; omega
          case rel => exact ⟨kk + 1, _, HLT.out, by omega, rfl, by rw [HST.out]; try rfl, by go_num, HB1, ⟨by rw [HPT.out]; have := HO.out; rw [List.length_append] at this; exact this⟩⟩
        | false =>
          rw [Bool.false_and] at HST
          have HBa := Aside0.mk (Below.refl wr.heap.size wr)
          go_wp2_with fail
          refine (HP.out _ HBa.out).mono ?_
          rintro e V2 ⟨v2, rfl, hr2, hb2⟩
          obtain ⟨A2, c2, rfl, hl2, hC2⟩ := Kd.R_reads hr2
          have HB2 := Aside0.mk (below_then (below_then HB.out HB.out.size HBa.out) (Nat.le_trans HB.out.size HBa.out.size) hb2 : Below w.heap.size w V2)
          have HR2 := Aside0.mk (Kd.R_below (Kd.R_below HR.out HBa.out) hb2)
          have HC3 := Aside0.mk hC2
          clear hr2 hb2 hC2 hl2 h0 h1 h2 h3 h4 h5 h6 h7
          go_wp2_with (at_builtin; refine Kd.R_append_rows (Kd.fixed k38 w) (Rr := fun x cs => k38.K w x cs) (w0 := w) w.heap.size ?a1 (.tmp 30) (.tmp 35) 26 38 (.agg #[(.int .i64 0), (.string ⟨#[]⟩), (.int .u8 0), (.int .i64 0), (.string ⟨#[]⟩), (.int .i64 0), (.int .u8 0), (.slice none 0 0)]) 96 ?a2 Try.underlying26 info38y ?a3 ?a4 ?a5 _ (allPartsR (C.take kk)) (Rf.partsP x) A2 (Rf.partsP x).length c2 (fun _ => True) (fun _ => False) ?a6 ?a7 HR2.out ?aR (fun _ _ h => h) (fun _ hk => hk.elim) (fun _ _ => trivial) HB2.out HB2.out.size ?aL ?_; (case a1 => rfl); (case a2 => rfl); (case a3 => rfl); (case a4 => show 0 < 8; omega); (case a5 => omega); (case a6 => rfl); (case a7 => rfl); (case aR => exact HC3.out); (case aL => have q1 := HPL.out; rw [HPT.out, List.length_append] at q1; omega); intro v1 w1 ho hb1 hg1 hat1; obtain ⟨A1, c1, rfl⟩ := Kd.R_slice ho; have HO := Aside0.mk ho; have HB1 := Aside0.mk hb1; clear ho; clear hb1; clear hat1; clear hg1)
          go_roundg (C.length - (kk + 1))
          case measure => have := HX.out; have := HLT.out; omega
          case rel => exact ⟨kk + 1, _, HLT.out, by omega, rfl, by rw [HST.out]; try rfl, by go_num, HB1, ⟨by rw [HPT.out]; have := HO.out; rw [List.length_append] at this; exact this⟩⟩
    · have hltz : ¬ (kk : Int) < (C.length : Int) := by omega
      have hkl : kk = C.length := by omega
      subst hkl
      obtain ⟨vA, vc, rfl, hvl, hvC⟩ := Kd.R_reads HR.out
      rw [List.take_length] at *
      have hst := fun (t : S29) (A2 : Option Addr) (c2 : Nat) (A3 : Option Addr) (c3 : Nat) (V : World) (hV : Below wr.heap.size wr V) (ht : t ∈ T) g2 g3 q2 q3 => HS0.out vA vc t A2 c2 A3 c3 V hvl (below_then HB.out HB.out.size hV) (Kd.C_below hvC hV) ht g2 g3 q2 q3
      have HST := Aside0.mk hst
      obtain ⟨sf, hsf⟩ : ∃ b, allSafeR C = b := ⟨_, rfl⟩
      have HSF := Aside0.mk hsf
      rw [hsf]
      clear hst hvC hvl hsf HR
      obtain ⟨W1, hW1⟩ : ∃ W, W = wr := ⟨_, rfl⟩
      subst hW1
      go_wp2
      go_loopg [8, 9] T.length (fun gg s8 s9 wq => ∃ (kk : Nat) (vv : Value), kk ≤ T.length ∧ T.length - kk ≤ gg ∧ s8 = vv ∧ s9 = .int .i64 kk ∧ Aside0 (Below W1.heap.size W1 wq) ∧ Aside0 (Kd.R (kS w) 47 wq W1.heap.size (fun _ => True) vv (stepsR (T.take kk) C)))
      case atStart => exact ⟨0, .slice none 0 0, Nat.zero_le _, by omega, rfl, rfl, ⟨Below.refl _ _⟩, ⟨Kd.R_nil _ _ _ _ _⟩⟩
      case round =>
        obtain ⟨kk, vv, hkk, hg, rfl, rfl, HBR, HR⟩ := hrel
        by_cases hlt : kk < T.length
        · have hltz2 : (kk : Int) < (T.length : Int) := by omega
          obtain ⟨ad, A2, c2, A3, c3, hA, h0, h1, h2, h3, h4, g2, g3, q2, q3⟩ := at29L HT.out (below_then HB.out HB.out.size HBR.out) (kk : Int) (by omega) hltz2
          rw [Int.toNat_natCast] at h0 h1 h2 h3 h4
          subst hA
          have hS := HST.out (rd29 T kk) A2 c2 A3 c3 wr HBR.out (rd29_mem T kk hlt) g2 g3 q2 q3
          have htk := stepsR_take T C kk hlt
          rw [HSF.out] at htk
          have hln : (stepsR (T.take kk) C).length ≤ 1000 := by rw [stepsR_len, List.length_take]; omega
          obtain ⟨x, hx⟩ : ∃ x, x = rd29 T kk := ⟨_, rfl⟩
          rw [← hx] at h0 h1 h2 h3 h4 hS htk
          have HX := Aside0.mk hg
          have HLT := Aside0.mk hlt
          have HLN := Aside0.mk hln
          have HTK := Aside0.mk htk
          have HS := Aside0.mk hS
          clear hx hlt hg hkk g2 g3 q2 q3 htk hln hS
          cases sf with
          | true =>
            go_wp2_with fail
            refine HS.out.mono ?_
            rintro e V1 ⟨v, rfl, hrn, hb⟩
            obtain ⟨inn, hown⟩ := Kd.R_own HR.out
            have hnew := Kd.R_new hrn hown
            obtain ⟨vA2, vc2, rfl⟩ := Kd.R_slice hrn
            have HVB := Aside0.mk (below_then HBR.out HBR.out.size hb : Below W1.heap.size W1 V1)
            have HR1 := Aside0.mk (Kd.R_below HR.out hb)
            have HPm := Aside0.mk (kS_mkM (Kd.R_lower hnew HBR.out.size))
            clear hrn hb hown hnew h0 h1 h2 h3 h4
            generalize stepR x (allPartsR C) = sp at *
            go_wp2_with (at_builtin; refine Kd.R_append (kS w) (w0 := W1) W1.heap.size ?a1 (.tmp 44) (.tmp 51) 42 47 (.agg #[(.int .i64 0), (.int .i64 0), (.slice none 0 0)]) 40 ?a2 Try.underlying42 info47 ?a3 ?a4 ?a5 _ (stepsR (T.take kk) C) sp [.int .i64 sp.1, .int .i64 sp.2.1, .slice vA2 sp.2.2.length vc2] (fun _ => True) _ ?a6 ?a7 HPm.out (fun k hk => hk) (fun _ _ => trivial) HR1.out HVB.out HVB.out.size ?aL ?_; (case a1 => rfl); (case a2 => rfl); (case a3 => rfl); (case a4 => show 0 < 3; omega); (case a5 => omega); (case a6 => rfl); (case a7 => rfl); (case aL => have := HLN.out; omega); intro v1 w1 ho hb1 hg1 hat1; obtain ⟨A1, c1, rfl⟩ := Kd.R_slice ho; have HO := Aside0.mk ho; have HB1 := Aside0.mk hb1; clear ho; clear hb1; clear hat1; clear hg1)
            go_roundg (T.length - (kk + 1))
            case measure => have := HX.out; have := HLT.out; omega
            case rel => exact ⟨kk + 1, _, HLT.out, by omega, rfl, by go_num, HB1, ⟨by rw [HTK.out, if_pos trivial]; have := HO.out; rw [List.length_append] at this; exact this⟩⟩
          | false =>
            have HPm : Aside0 ((kS w).M wr W1.heap.size (fun _ => False) ((0, 0, []) : Int × Int × List S38) [.int .i64 0, .int .i64 0, .slice none 0 0]) := ⟨kS_mkM (x := ((0, 0, []) : Int × Int × List S38)) (Kd.R_nil _ _ _ _ _)⟩
            go_wp2_with (at_builtin; refine Kd.R_append (kS w) (w0 := W1) W1.heap.size ?a1 (.tmp 53) (.tmp 55) 42 47 (.agg #[(.int .i64 0), (.int .i64 0), (.slice none 0 0)]) 40 ?a2 Try.underlying42 info47 ?a3 ?a4 ?a5 _ (stepsR (T.take kk) C) ((0, 0, []) : Int × Int × List S38) [.int .i64 0, .int .i64 0, .slice none 0 0] (fun _ => True) _ ?a6 ?a7 HPm.out (fun k hk => hk.elim) (fun _ _ => trivial) HR.out HBR.out HBR.out.size ?aL ?_; (case a1 => rfl); (case a2 => rfl); (case a3 => rfl); (case a4 => show 0 < 3; omega); (case a5 => omega); (case a6 => rfl); (case a7 => rfl); (case aL => have := HLN.out; omega); intro v1 w1 ho hb1 hg1 hat1; obtain ⟨A1, c1, rfl⟩ := Kd.R_slice ho; have HO := Aside0.mk ho; have HB1 := Aside0.mk hb1; clear ho; clear hb1; clear hat1; clear hg1)
            go_roundg (T.length - (kk + 1))
            case measure => have := HX.out; have := HLT.out; omega
            case rel => exact ⟨kk + 1, _, HLT.out, by omega, rfl, by go_num, HB1, ⟨by rw [HTK.out, if_neg (by decide)]; have := HO.out; rw [List.length_append] at this; exact this⟩⟩
        · have hltz2 : ¬ (kk : Int) < (T.length : Int) := by omega
          have hkl : kk = T.length := by omega
          subst hkl
          obtain ⟨rA, rc, rfl⟩ := Kd.R_slice HR.out
          rw [List.take_length] at *
          go_wp2
          go_ret
          exact ⟨_, rfl, Kd.R_lower HR.out HB.out.size, below_then HB.out HB.out.size HBR.out⟩
end Go.Proofs.Ytepjcgcobaaphaa.Nd
namespace Go.Proofs.Ytepjcgcobaaphaa.Nd
set_option linter.unusedVariables false
set_option linter.unusedSimpArgs false
open Go.RowKit Go.Lib Go.Proofs.YtepjcgcobaaphaaW.PrintWords Go.Proofs.Ytepjcgcobaaphaa.PPa
/-- The reference's may, at a table of any lists: no column is wrong. -/
theorem may_walk (a b : Int) (l2 l3 : List Int) (q : Bool) (A2 : Option Addr) (c2 : Nat) (A3 : Option Addr) (c3 : Nat) (ks : List Int) (A : Option Addr) (c : Nat) (w : World)
    (g2 : Kd.C (Kd.int .i64) w A2 l2.length l2) (h2 : l2.length ≤ c2) (g3 : Kd.C (Kd.int .i64) w A3 l3.length l3) (h3 : l3.length ≤ c3) (g : Kd.C (Kd.int .i64) w A ks.length ks) (h : ks.length ≤ c) (hl : ks.length < 9223372036854775807) :
    Calls Try.prog 32 #[.agg #[.int .i64 a, .int .i64 b, .slice A2 l2.length c2, .slice A3 l3.length c3, .bool q], .slice A ks.length c] w fun e w' => e = .returned (.bool (!(ks.any (Pl.wrongP b)))) ∧ Below w.heap.size w w' := by
  obtain ⟨k, e⟩ := Rf.may_loop a b l2 l3 q ks hl ks.length 0 (by omega) (by omega)
  rw [List.drop_zero] at e
  exact hindsightref24_may.calls k a b A2 c2 l2 A3 c3 l3 q A c ks _ w g2 h2 g3 h3 g h e
end Go.Proofs.Ytepjcgcobaaphaa.Nd
