import Derived.Test.YtoclbmepgeelmaaDoorFnt
import Derived.Test.YtoclbmepgeelmaaDoorPRax2
namespace Go.Proofs.YtoclbmepgeelmaaDoor.Utf
set_option linter.unusedVariables false
set_option linter.unusedSimpArgs false
open Go.RowKit Go.Lib Go.Proofs.YtoclbmepgeelmaaDoorW.PrintWords Go.Proofs.YtoclbmepgeelmaaDoorW.PrintLast Go.Proofs.YtoclbmepgeelmaaDoorW.PrintMore Go.Proofs.YtoclbmepgeelmaaDoor.PRa
/-- The document's Write. -/
theorem write_f (r : Nat) (hr : Scalar r) : ∃ ns, hindsightref05_Write.f 1 (r : Int) = some ns ∧ strOfNums ns = Utf8.encode (r : Int) := by
  unfold Scalar at hr
  have hv : Utf8.valid (r : Int) = true := by unfold Utf8.valid; simp; omega
  have ht : ∀ d : Nat, Int.tdiv (r : Int) (d : Int) = ((r / d : Nat) : Int) := fun d => by rw [Int.tdiv_eq_ediv_of_nonneg (by omega)]; omega
  have hm : ∀ (x d : Nat), Int.tmod (x : Int) (d : Int) = ((x % d : Nat) : Int) := fun x d => by rw [Int.tmod_eq_emod_of_nonneg (by omega)]; omega
  have t64 : Int.tdiv (r : Int) 64 = ((r / 64 : Nat) : Int) := ht 64
  have t4096 : Int.tdiv (r : Int) 4096 = ((r / 4096 : Nat) : Int) := ht 4096
  have t26 : Int.tdiv (r : Int) 262144 = ((r / 262144 : Nat) : Int) := ht 262144
  have m64 : ∀ x : Nat, Int.tmod (x : Int) 64 = ((x % 64 : Nat) : Int) := fun x => hm x 64
  have E : hindsightref05_Write.f 1 (r : Int) = hindsightref05_Write.j0 1 (r : Int) false := by
    unfold hindsightref05_Write.f
    rw [if_neg (by omega), if_neg (by omega)]
    by_cases h : (r : Int) ≥ 55296
    · rw [if_pos h, decide_eq_false (by omega)]
    · rw [if_neg h]
  rw [E]
  simp only [hindsightref05_Write.j0]
  rw [if_neg (by simp)]
  unfold Utf8.encode
  simp only [hv, if_true, Int.toNat_natCast]
  have w1 : ∀ x : Nat, x ≤ 1114111 → wrap64 (x : Int) = (x : Int) := fun x hx => wrap64_id (by omega) (by omega)
  by_cases c1 : r < 128
  · rw [if_pos (by omega)]
    refine ⟨_, rfl, ?_⟩
    rw [if_pos c1]
    simp only [strOfNums, List.map_cons, List.map_nil]
    rw [show ((r : Int) % 256).toNat = r by omega]
  rw [if_neg (by omega), if_neg c1]
  by_cases c2 : r < 2048
  · rw [if_pos (by omega)]
    refine ⟨_, rfl, ?_⟩
    rw [if_pos c2, t64, m64, w1 _ (by omega), wrap64_id (n := 192 + ((r / 64 : Nat) : Int)) (by omega) (by omega), wrap64_id (n := 128 + ((r % 64 : Nat) : Int)) (by omega) (by omega)]
    simp only [strOfNums, List.map_cons, List.map_nil]
    rw [show ((192 + ((r / 64 : Nat) : Int)) % 256).toNat = 192 + r / 64 by omega, show ((128 + ((r % 64 : Nat) : Int)) % 256).toNat = 128 + r % 64 by omega]
  rw [if_neg (by omega), if_neg c2]
  by_cases c3 : r < 65536
  · rw [if_pos (by omega)]
    refine ⟨_, rfl, ?_⟩
    rw [if_pos c3, t64, t4096, w1 _ (by omega), w1 _ (by omega), m64, m64, wrap64_id (n := 224 + ((r / 4096 : Nat) : Int)) (by omega) (by omega), wrap64_id (n := 128 + ((r / 64 % 64 : Nat) : Int)) (by omega) (by omega), wrap64_id (n := 128 + ((r % 64 : Nat) : Int)) (by omega) (by omega)]
    simp only [strOfNums, List.map_cons, List.map_nil]
    rw [show ((224 + ((r / 4096 : Nat) : Int)) % 256).toNat = 224 + r / 4096 by omega, show ((128 + ((r / 64 % 64 : Nat) : Int)) % 256).toNat = 128 + r / 64 % 64 by omega, show ((128 + ((r % 64 : Nat) : Int)) % 256).toNat = 128 + r % 64 by omega]
  rw [if_neg (by omega), if_neg c3]
  refine ⟨_, rfl, ?_⟩
  rw [t64, t4096, t26, w1 _ (by omega), w1 _ (by omega), w1 _ (by omega), m64, m64, m64, wrap64_id (n := 240 + ((r / 262144 : Nat) : Int)) (by omega) (by omega), wrap64_id (n := 128 + ((r / 4096 % 64 : Nat) : Int)) (by omega) (by omega), wrap64_id (n := 128 + ((r / 64 % 64 : Nat) : Int)) (by omega) (by omega), wrap64_id (n := 128 + ((r % 64 : Nat) : Int)) (by omega) (by omega)]
  simp only [strOfNums, List.map_cons, List.map_nil]
  rw [show ((240 + ((r / 262144 : Nat) : Int)) % 256).toNat = 240 + r / 262144 by omega, show ((128 + ((r / 4096 % 64 : Nat) : Int)) % 256).toNat = 128 + r / 4096 % 64 by omega, show ((128 + ((r / 64 % 64 : Nat) : Int)) % 256).toNat = 128 + r / 64 % 64 by omega, show ((128 + ((r % 64 : Nat) : Int)) % 256).toNat = 128 + r % 64 by omega]
theorem write_up (r : Nat) (hr : Scalar r) (k : Nat) (hk : 1 ≤ k) : ∃ ns, hindsightref05_Write.f k (r : Int) = some ns ∧ strOfNums ns = Utf8.encode (r : Int) := by
  obtain ⟨ns, h1, h2⟩ := write_f r hr
  exact ⟨ns, up (f := fun k => hindsightref05_Write.f k (r : Int)) (hindsightref05_Write.mono (r : Int)) hk h1, h2⟩

theorem foldl_bytes (ns : List Int) : ∀ s : ByteArray, ns.foldl (fun r n => r ++ Utf8.encode n) s = s ++ runesBytes ns := by
  induction ns with
  | nil => intro s; simp [runesBytes]
  | cons n ns ih =>
    intro s
    have h1 := ih (s ++ Utf8.encode n)
    have h2 := ih (ByteArray.empty ++ Utf8.encode n)
    have h3 : runesBytes (n :: ns) = Utf8.encode n ++ runesBytes ns := by
      have : runesBytes (n :: ns) = ns.foldl (fun r n => r ++ Utf8.encode n) (ByteArray.empty ++ Utf8.encode n) := rfl
      rw [this, h2]; simp
    rw [List.foldl_cons, h1, h3, ByteArray.append_assoc]
theorem runesBytes_cons (n : Int) (ns : List Int) : runesBytes (n :: ns) = Utf8.encode n ++ runesBytes ns := by
  have : runesBytes (n :: ns) = ns.foldl (fun r n => r ++ Utf8.encode n) (ByteArray.empty ++ Utf8.encode n) := rfl
  rw [this, foldl_bytes]; simp

set_option maxHeartbeats 1000000 in
theorem front_l0 (L : List Int) (hL : L.length ≤ 1000000) (hS : ∀ x ∈ L, ∃ r : Nat, x = (r : Int) ∧ Scalar r) : ∀ (m i : Nat), i + m = L.length →
    (∀ (acc : ByteArray) (n : Int), acc.size ≤ 4 * i → 0 ≤ n → n ≤ i → ∃ k, hindsightref06_Front.l0 k L acc n true (i : Int) = some (acc ++ runesBytes (frontL (L.drop i)), n + leastL (L.drop i))) ∧
    (∀ (acc : ByteArray) (n : Int), 0 ≤ n → n ≤ i → ∃ k, hindsightref06_Front.l0 k L acc n false (i : Int) = some (acc, n + leastL (L.drop i))) := by
  intro m
  induction m with
  | zero =>
    intro i hi
    rw [List.drop_eq_nil_of_le (by omega)]
    constructor
    · intro acc n _ _ _
      refine ⟨1, ?_⟩
      simp only [hindsightref06_Front.l0]
      rw [if_neg (by omega)]
      simp [frontL, leastL, runesBytes]
    · intro acc n _ _
      refine ⟨1, ?_⟩
      simp only [hindsightref06_Front.l0]
      rw [if_neg (by omega)]
      simp [leastL]
  | succ m ih =>
    intro i hi
    obtain ⟨ih1, ih2⟩ := ih (i + 1) (by omega)
    have hd := drop_step L (i : Int) (by omega) (by omega)
    rw [Int.toNat_natCast, show ((i : Int) + 1).toNat = i + 1 by omega] at hd
    obtain ⟨x, hx⟩ : ∃ x, rd L (i : Int) = x := ⟨_, rfl⟩
    obtain ⟨r, hr, hsc⟩ := hS x (by
      have hl : i < L.length := by omega
      rw [← hx]
      simp [rd, List.getD_eq_getElem?_getD, hl])
    rw [hx] at hd
    have wi : wrap64 ((i : Int) + 1) = ((i + 1 : Nat) : Int) := by rw [wrap64_id (by omega) (by omega)]; omega
    -- behind the first sign
    have two : ∀ (acc : ByteArray) (n : Int), 0 ≤ n → n ≤ i → ∃ k, hindsightref06_Front.j1 k L acc n false (i : Int) = some (acc, n + leastL (L.drop i)) := by
      intro acc n hn0 hn1
      by_cases h37 : x = 37
      · obtain ⟨k, hk⟩ := ih2 acc n hn0 (by omega)
        refine ⟨k + 1, ?_⟩
        simp only [hindsightref06_Front.j1]
        rw [if_neg (by simp), if_pos (by omega), if_pos (by omega), hx, if_pos h37, wi, hk, hd]
        simp [leastL, h37]
      · obtain ⟨k, hk⟩ := ih2 acc (n + 1) (by omega) (by omega)
        refine ⟨k + 1, ?_⟩
        simp only [hindsightref06_Front.j1]
        rw [if_neg (by simp), if_pos (by omega), if_pos (by omega), hx, if_neg h37, wi, wrap64_id (n := n + 1) (by omega) (by omega), hk, hd]
        have b : (x != 37) = true := by simpa using h37
        simp [leastL, b]; omega
    constructor
    · intro acc n hacc hn0 hn1
      by_cases h37 : x = 37
      · obtain ⟨k, hk⟩ := two acc n hn0 hn1
        refine ⟨k + 1, ?_⟩
        simp only [hindsightref06_Front.l0]
        rw [if_pos (by omega), if_pos trivial, if_pos (by omega), hx, if_pos h37, hk, hd]
        simp [frontL, h37, runesBytes]
      · by_cases h95 : x = 95
        · obtain ⟨k, hk⟩ := two acc n hn0 hn1
          refine ⟨k + 1, ?_⟩
          simp only [hindsightref06_Front.l0]
          rw [if_pos (by omega), if_pos trivial, if_pos (by omega), hx, if_neg h37, show (x != 95) = false by simpa using h95, hk, hd]
          simp [frontL, h95, runesBytes]
        · have hes := encode_size_le x
          obtain ⟨k, hk⟩ := ih1 (acc ++ Utf8.encode x) (n + 1) (by rw [ByteArray.size_append]; omega) (by omega) (by omega)
          have hk1 : hindsightref06_Front.l0 (k + 1) L (acc ++ Utf8.encode x) (n + 1) true ((i + 1 : Nat) : Int) = _ := (hindsightref06_Front.mono_l k).1 _ _ _ _ _ _ hk
          obtain ⟨ns, hw, hb⟩ := write_up r hsc (k + 1) (by omega)
          rw [← hr] at hw hb
          refine ⟨k + 3, ?_⟩
          simp only [hindsightref06_Front.l0]
          rw [if_pos (by omega), if_pos trivial, if_pos (by omega), hx, if_neg h37, show (x != 95) = true by simpa using h95]
          simp only [hindsightref06_Front.j1]
          rw [if_pos trivial, if_pos (by omega), if_pos (by omega), hx, hw, Option.bind_some, hb, if_pos (by omega), if_neg h37, wi, wrap64_id (n := n + 1) (by omega) (by omega), hk1, hd]
          have b37 : (x != 37) = true := by simpa using h37
          have b95 : (x != 95) = true := by simpa using h95
          simp [frontL, leastL, b37, b95, runesBytes_cons, ByteArray.append_assoc]; omega
    · intro acc n hn0 hn1
      obtain ⟨k, hk⟩ := two acc n hn0 hn1
      refine ⟨k + 1, ?_⟩
      simp only [hindsightref06_Front.l0]
      rw [if_pos (by omega), if_neg (by simp), hk]
theorem front_f (L : List Int) (hL : L.length ≤ 1000000) (hS : ∀ x ∈ L, ∃ r : Nat, x = (r : Int) ∧ Scalar r) : ∃ k, hindsightref06_Front.f k L = some (runesBytes (frontL L), leastL L) := by
  obtain ⟨k, hk⟩ := (front_l0 L hL hS L.length 0 (by omega)).1 ⟨#[]⟩ 0 (by simp [ByteArray.size]) (by omega) (by omega)
  refine ⟨k, ?_⟩
  unfold hindsightref06_Front.f
  have e : (⟨#[]⟩ : ByteArray) ++ runesBytes (frontL L) = runesBytes (frontL L) := by
    show ByteArray.empty ++ _ = _
    simp
  rw [List.drop_zero, e, Int.zero_add] at hk
  exact hk
end Go.Proofs.YtoclbmepgeelmaaDoor.Utf
