import Derived.Test.YtepjcgcobaaphaaPl3
import Derived.Test.YtepjcgcobaaphaaPPax5
namespace Go.Proofs.Ytepjcgcobaaphaa.Pl
set_option linter.unusedVariables false
set_option linter.unusedSimpArgs false
open Go.RowKit Go.Lib Go.Proofs.YtepjcgcobaaphaaW.PrintWords Go.Proofs.YtepjcgcobaaphaaW.PrintLast Go.Proofs.YtepjcgcobaaphaaW.PrintMore Go.Proofs.Ytepjcgcobaaphaa.PPa

theorem rd_memI (L : List Int) (i : Nat) (h : i < L.length) : rd L (i : Int) ∈ L := by
  unfold rd
  rw [Int.toNat_natCast, List.getD_eq_getElem?_getD, List.getElem?_eq_getElem h]
  exact List.getElem_mem h
theorem any_takeI (p : Int → Bool) (L : List Int) (i : Nat) (h : i < L.length) : (L.take (i + 1)).any p = ((L.take i).any p || p (rd L (i : Int))) := by
  rw [List.take_succ_eq_append_getElem h, List.any_append]
  unfold rd
  rw [Int.toNat_natCast, List.getD_eq_getElem?_getD, List.getElem?_eq_getElem h]
  simp
abbrev FC (g B : Nat) : Value := .func (.func g) #[] #[.pointer (some ⟨B, 0, none⟩)]
set_option maxHeartbeats 2000000 in
set_option maxRecDepth 100000 in
theorem indexI52 (B : Nat) (L : List Int) (A : Option Addr) (c : Nat) (w : World) (p : Int → Bool) (hC : Kd.C (Kd.int .i64) w A L.length L) (hm : L.length < 9223372036854775808)
    (hp : ∀ x ∈ L, ∀ (w' : World), Below w.heap.size w w' → Calls Try.prog 52 #[.int .i64 x, .pointer (some ⟨B, 0, none⟩)] w' fun e w'' => e = .returned (.bool (p x)) ∧ Below w'.heap.size w' w'') :
    Calls Try.prog 37 #[.slice A L.length c, FC 52 B] w fun e w' => ∃ r : Int, e = .returned (.int .i64 r) ∧ (decide (0 ≤ r)) = L.any p ∧ Below w.heap.size w w' := by
  have HC := Aside0.mk hC
  have HP := Aside0.mk hp
  clear hC hp
  go_enter Try.func37, Try.ntmps37
  go_wp2
  go_loopg [5, 8] L.length (fun gg _ s8 wr => ∃ kk : Nat, kk ≤ L.length ∧ L.length - kk ≤ gg ∧ s8 = .int .i64 kk ∧ Aside0 (Below w.heap.size w wr) ∧ Aside0 ((L.take kk).any p = false))
  case atStart => exact ⟨0, Nat.zero_le _, by omega, rfl, ⟨Below.refl _ _⟩, ⟨by simp⟩⟩
  case round =>
    obtain ⟨kk, hkk, hg, rfl, HB, HA⟩ := hrel
    by_cases hlt : kk < L.length
    · have hltz : (kk : Int) < (L.length : Int) := by omega
      obtain ⟨ad, hA, h0⟩ := Kd.at_int (Kd.C_below HC.out HB.out) (kk : Int) (by omega) hltz
      rw [Int.toNat_natCast] at h0
      subst hA
      have hcall := HP.out (rd L kk) (rd_memI L kk hlt) wr HB.out
      have HT := Aside0.mk (any_takeI p L kk hlt)
      obtain ⟨x, hx⟩ : ∃ x, x = rd L kk := ⟨_, rfl⟩
      rw [← hx] at h0 HT hcall
      clear hx
      have HG := Aside0.mk hg
      have HL := Aside0.mk hlt
      cases hq : p x with
      | true =>
        rw [hq] at hcall
        have HQ := Aside0.mk hq
        have HK := Aside0.mk hcall
        clear hcall hlt hg hkk hq
        go_wp2_with fail
        refine HK.out.mono ?_
        rintro e w' ⟨rfl, hb⟩
        go_wp2
        go_ret
        refine ⟨_, rfl, ?_, below_step HB.out hb⟩
        rw [← List.take_append_drop (kk + 1) L, List.any_append, HT.out, HQ.out]
        simp
      | false =>
        rw [hq] at hcall
        have HQ := Aside0.mk hq
        have HK := Aside0.mk hcall
        clear hcall hlt hg hkk hq
        go_wp2_with fail
        refine HK.out.mono ?_
        rintro e w' ⟨rfl, hb⟩
        go_wp2
        go_roundg (L.length - (kk + 1))
        case measure => have := HG.out; have := HL.out; omega
        case rel => exact ⟨kk + 1, HL.out, by omega, by go_num, ⟨below_step HB.out hb⟩, ⟨by rw [HT.out, HA.out, HQ.out]; rfl⟩⟩
    · have hltz : ¬ (kk : Int) < (L.length : Int) := by omega
      have : kk = L.length := by omega
      subst this
      go_wp2
      go_ret
      refine ⟨_, rfl, ?_, HB.out⟩
      have := HA.out
      rw [List.take_length] at this
      rw [this]; decide
set_option maxHeartbeats 2000000 in
set_option maxRecDepth 100000 in
theorem containsI52 (B : Nat) (L : List Int) (A : Option Addr) (c : Nat) (w : World) (p : Int → Bool) (hC : Kd.C (Kd.int .i64) w A L.length L) (hm : L.length < 9223372036854775808)
    (hp : ∀ x ∈ L, ∀ (w' : World), Below w.heap.size w w' → Calls Try.prog 52 #[.int .i64 x, .pointer (some ⟨B, 0, none⟩)] w' fun e w'' => e = .returned (.bool (p x)) ∧ Below w'.heap.size w' w'') :
    Calls Try.prog 30 #[.slice A L.length c, FC 52 B] w fun e w' => e = .returned (.bool (L.any p)) ∧ Below w.heap.size w w' := by
  have HK := Aside0.mk (indexI52 B L A c w p hC hm hp)
  clear hC hp hm
  go_enter Try.func30, Try.ntmps30
  go_wp2_with fail
  refine HK.out.mono ?_
  rintro e w' ⟨r, rfl, hr, hb⟩
  have HR := Aside0.mk hr
  have HB := Aside0.mk hb
  clear hb hr
  go_wp2
  go_ret
  exact ⟨by rw [HR.out]; rfl, HB.out⟩
set_option maxHeartbeats 2000000 in
set_option maxRecDepth 100000 in
theorem indexI29 (B : Nat) (L : List Int) (A : Option Addr) (c : Nat) (w : World) (p : Int → Bool) (hC : Kd.C (Kd.int .i64) w A L.length L) (hm : L.length < 9223372036854775808)
    (hp : ∀ x ∈ L, ∀ (w' : World), Below w.heap.size w w' → Calls Try.prog 29 #[.int .i64 x, .pointer (some ⟨B, 0, none⟩)] w' fun e w'' => e = .returned (.bool (p x)) ∧ Below w'.heap.size w' w'') :
    Calls Try.prog 37 #[.slice A L.length c, FC 29 B] w fun e w' => ∃ r : Int, e = .returned (.int .i64 r) ∧ (decide (0 ≤ r)) = L.any p ∧ Below w.heap.size w w' := by
  have HC := Aside0.mk hC
  have HP := Aside0.mk hp
  clear hC hp
  go_enter Try.func37, Try.ntmps37
  go_wp2
  go_loopg [5, 8] L.length (fun gg _ s8 wr => ∃ kk : Nat, kk ≤ L.length ∧ L.length - kk ≤ gg ∧ s8 = .int .i64 kk ∧ Aside0 (Below w.heap.size w wr) ∧ Aside0 ((L.take kk).any p = false))
  case atStart => exact ⟨0, Nat.zero_le _, by omega, rfl, ⟨Below.refl _ _⟩, ⟨by simp⟩⟩
  case round =>
    obtain ⟨kk, hkk, hg, rfl, HB, HA⟩ := hrel
    by_cases hlt : kk < L.length
    · have hltz : (kk : Int) < (L.length : Int) := by omega
      obtain ⟨ad, hA, h0⟩ := Kd.at_int (Kd.C_below HC.out HB.out) (kk : Int) (by omega) hltz
      rw [Int.toNat_natCast] at h0
      subst hA
      have hcall := HP.out (rd L kk) (rd_memI L kk hlt) wr HB.out
      have HT := Aside0.mk (any_takeI p L kk hlt)
      obtain ⟨x, hx⟩ : ∃ x, x = rd L kk := ⟨_, rfl⟩
      rw [← hx] at h0 HT hcall
      clear hx
      have HG := Aside0.mk hg
      have HL := Aside0.mk hlt
      cases hq : p x with
      | true =>
        rw [hq] at hcall
        have HQ := Aside0.mk hq
        have HK := Aside0.mk hcall
        clear hcall hlt hg hkk hq
        go_wp2_with fail
        refine HK.out.mono ?_
        rintro e w' ⟨rfl, hb⟩
        go_wp2
        go_ret
        refine ⟨_, rfl, ?_, below_step HB.out hb⟩
        rw [← List.take_append_drop (kk + 1) L, List.any_append, HT.out, HQ.out]
        simp
      | false =>
        rw [hq] at hcall
        have HQ := Aside0.mk hq
        have HK := Aside0.mk hcall
        clear hcall hlt hg hkk hq
        go_wp2_with fail
        refine HK.out.mono ?_
        rintro e w' ⟨rfl, hb⟩
        go_wp2
        go_roundg (L.length - (kk + 1))
        case measure => have := HG.out; have := HL.out; omega
        case rel => exact ⟨kk + 1, HL.out, by omega, by go_num, ⟨below_step HB.out hb⟩, ⟨by rw [HT.out, HA.out, HQ.out]; rfl⟩⟩
    · have hltz : ¬ (kk : Int) < (L.length : Int) := by omega
      have : kk = L.length := by omega
      subst this
      go_wp2
      go_ret
      refine ⟨_, rfl, ?_, HB.out⟩
      have := HA.out
      rw [List.take_length] at this
      rw [this]; decide
set_option maxHeartbeats 2000000 in
set_option maxRecDepth 100000 in
theorem containsI29 (B : Nat) (L : List Int) (A : Option Addr) (c : Nat) (w : World) (p : Int → Bool) (hC : Kd.C (Kd.int .i64) w A L.length L) (hm : L.length < 9223372036854775808)
    (hp : ∀ x ∈ L, ∀ (w' : World), Below w.heap.size w w' → Calls Try.prog 29 #[.int .i64 x, .pointer (some ⟨B, 0, none⟩)] w' fun e w'' => e = .returned (.bool (p x)) ∧ Below w'.heap.size w' w'') :
    Calls Try.prog 30 #[.slice A L.length c, FC 29 B] w fun e w' => e = .returned (.bool (L.any p)) ∧ Below w.heap.size w w' := by
  have HK := Aside0.mk (indexI29 B L A c w p hC hm hp)
  clear hC hp hm
  go_enter Try.func30, Try.ntmps30
  go_wp2_with fail
  refine HK.out.mono ?_
  rintro e w' ⟨r, rfl, hr, hb⟩
  have HR := Aside0.mk hr
  have HB := Aside0.mk hb
  clear hb hr
  go_wp2
  go_ret
  exact ⟨by rw [HR.out]; rfl, HB.out⟩
/-- What below says: every slot of the node lies below first. -/
def belowP (x : S36) (first : Int) : Bool := !((cols x).any fun s => decide (first ≤ s))
set_option maxHeartbeats 2000000 in
set_option maxRecDepth 100000 in
theorem below1_walk (B : Nat) (first s : Int) (w : World) (hc : w.cell? ⟨B, 0, none⟩ = some (.int .i64 first)) :
    Calls Try.prog 52 #[.int .i64 s, .pointer (some ⟨B, 0, none⟩)] w fun e w' => e = .returned (.bool (decide (first ≤ s))) ∧ Below w.heap.size w w' := by
  go_enter Try.func52, Try.ntmps52
  go_wp2
  go_ret
  exact ⟨rfl, Below.refl _ _⟩
set_option maxHeartbeats 2000000 in
set_option maxRecDepth 100000 in
theorem below_walk (hS : SortC) (hS0 : SortN) (hK : CompactC) (hK0 : CompactN) (x : S36) (A : Option Addr) (c : Nat) (first : Int) (w : World) (hx : cnt x ≤ 100000000000) (hc : x.f5.length ≤ c) (hC : Kd.C k36 w A x.f5.length x.f5) :
    Calls Try.prog 39 #[V36 x A c, .int .i64 first] w fun e w' => e = .returned (.bool (belowP x first)) ∧ Below w.heap.size w w' := by
  have HU := Aside0.mk fun w2 (hb2 : Below w.heap.size w w2) => used_walk hS hS0 hK hK0 x A c w2 hx hc (Kd.C_below hC hb2)
  have hmf : ∀ (fn : Fn) (first cap : Array Value) (w : World), (Instr.makeFunc fn first cap).run Try.prog w = .ok (.func fn first cap) w := fun _ _ _ _ => rfl
  clear hS hS0 hK hK0 hC hc hx
  have hbp : belowP x first = !((cols x).any fun s => decide (first ≤ s)) := rfl
  generalize belowP x first = r at *
  generalize cols x = l at *
  have HR := Aside0.mk hbp
  clear hbp
  obtain ⟨f0, f1, f2, f3, f4, L⟩ := x
  try simp only at *
  go_enter Try.func39, Try.ntmps39
  go_wp2_with fail
  refine (HU.out _ (below_alloc (below_alloc (Below.refl _ _) _) _)).mono ?_
  rintro e w3 ⟨A', c', us, rfl, hlc, hul, hC3, hmem, hb3⟩
  have hN : w3.cell? ⟨w.heap.size + 1, 0, none⟩ = some (.int .i64 first) := by
    have := blk_new (w.alloc (.cells #[.int .i64 f0, .string f1, .int .u8 f2.f0, .int .i64 f2.f1, .string f2.f2, .int .i64 f3, .int .u8 f4, .slice A L.length c] 36)) (.cells #[.int .i64 first] 3)
    rw [World.size_alloc] at this
    have h2 := (hb3.block (w.heap.size + 1) (by rw [World.size_alloc, World.size_alloc]; omega)).trans this
    rw [blk_cell h2]; rfl
  have hcon := containsI52 (w.heap.size + 1) us A' c' w3 (fun s => decide (first ≤ s)) hC3 (by omega) (fun s _ w' hb => below1_walk _ first s w' (bcell hb hN))
  have hany : us.any (fun s => decide (first ≤ s)) = l.any (fun s => decide (first ≤ s)) := by
    rw [Bool.eq_iff_iff, List.any_eq_true, List.any_eq_true]
    constructor
    · rintro ⟨s, hs, h⟩; exact ⟨s, (hmem s).1 hs, h⟩
    · rintro ⟨s, hs, h⟩; exact ⟨s, (hmem s).2 hs, h⟩
  rw [hany] at hcon
  have HCC := Aside0.mk hcon
  have HB3 := Aside0.mk ((below_alloc (below_alloc (Below.refl _ _) _) _).trans (hb3.mono (by rw [World.size_alloc, World.size_alloc]; omega)) : Below w.heap.size w w3)
  clear hcon hany hN hb3 hmem hC3 hul hlc
  generalize l.any (fun s => decide (first ≤ s)) = q at *
  go_wp2_with fail
  refine HCC.out.mono ?_
  rintro e w4 ⟨rfl, hb4⟩
  have HB4 := Aside0.mk hb4
  clear hb4
  go_wp2
  go_ret
  exact ⟨by rw [HR.out]; rfl, below_step HB3.out HB4.out⟩
end Go.Proofs.Ytepjcgcobaaphaa.Pl
