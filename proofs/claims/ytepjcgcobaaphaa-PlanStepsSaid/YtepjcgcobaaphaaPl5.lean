import Derived.Test.YtepjcgcobaaphaaPl4
namespace Go.Proofs.Ytepjcgcobaaphaa.Pl
set_option linter.unusedVariables false
set_option linter.unusedSimpArgs false
open Go.RowKit Go.Lib Go.Proofs.YtepjcgcobaaphaaW.PrintWords Go.Proofs.YtepjcgcobaaphaaW.PrintLast Go.Proofs.YtepjcgcobaaphaaW.PrintMore Go.Proofs.Ytepjcgcobaaphaa.PPa

def isSlotP (x : S36) (slot : Int) : Bool := x.f0 == 2 && x.f3 == slot
theorem isSlot_walk (x : S36) (A : Option Addr) (c : Nat) (slot : Int) (w : World) (hc : x.f5.length ≤ c) (hC : Kd.C k36 w A x.f5.length x.f5) :
    Calls Try.prog 38 #[V36 x A c, .int .i64 slot] w fun e w' => e = .returned (.bool (isSlotP x slot)) ∧ Below w.heap.size w w' := by
  refine plan_isSlot.calls _ _ _ _ _ _ _ A c x.f5 slot (isSlotP x slot) w hC hc ?_
  unfold plan_isSlot.f isSlotP
  by_cases h : x.f0 = 2
  · simp [h]
  · simp [h]
def isEq (p : S36) : Bool := p.f0 == 4 && (p.f1.toList == [61] && p.f5.length == 2)
def eqOne (slot first : Int) (p : S36) : Option S36 :=
  if isEq p = true then
    (if (isSlotP (rd_T36 p.f5 0) slot && belowP (rd_T36 p.f5 1) first) = true then some (rd_T36 p.f5 1)
     else if (isSlotP (rd_T36 p.f5 1) slot && belowP (rd_T36 p.f5 0) first) = true then some (rd_T36 p.f5 0) else none)
  else none
def equalP (L : List S36) (slot first : Int) : Option S36 := L.findSome? (eqOne slot first)
theorem findSome_take (L : List S36) (slot first : Int) (i : Nat) (h : i < L.length) : (L.take (i + 1)).findSome? (eqOne slot first) = ((L.take i).findSome? (eqOne slot first)).or (eqOne slot first (rd_T36 L (i : Int))) := by
  rw [take_succ36 L i h, List.findSome?_append]
  simp [List.findSome?]
  cases eqOne slot first (rd_T36 L ↑i) <;> rfl
abbrev Z8 : Array Value := #[.int .i64 0, .string ⟨#[]⟩, .int .u8 0, .int .i64 0, .string ⟨#[]⟩, .int .i64 0, .int .u8 0, .slice none 0 0]
theorem cell_lt {w : World} {a : Addr} {v : Value} (h : w.cell? a = some v) : a.block < w.heap.size := by
  rcases Nat.lt_or_ge a.block w.heap.size with h' | h'
  · exact h'
  · unfold World.cell? at h
    rw [Array.getElem?_eq_none h'] at h
    split at h
    · rename_i q; cases q
    · cases h
theorem two_blk {U V : World} {o1 o2 o3 : Obj} (hb : Below ((((U.alloc o1).alloc o2).alloc o3).drew).heap.size ((((U.alloc o1).alloc o2).alloc o3).drew) V) :
    V.heap[U.heap.size + 1]? = some o2 ∧ V.heap[U.heap.size + 1 + 1]? = some o3 ∧ Below U.heap.size U V := by
  have e1 := blk_new (U.alloc o1) o2
  have e2 := blk_new ((U.alloc o1).alloc o2) o3
  rw [World.size_alloc] at e1
  rw [World.size_alloc, World.size_alloc] at e2
  have hs : ((((U.alloc o1).alloc o2).alloc o3).drew).heap.size = U.heap.size + 1 + 1 + 1 := by
    show (((U.alloc o1).alloc o2).alloc o3).heap.size = _
    rw [World.size_alloc, World.size_alloc, World.size_alloc]
  rw [hs] at hb
  have hd : Below U.heap.size U ((((U.alloc o1).alloc o2).alloc o3).drew) := below_drew1 (below_alloc (below_alloc (below_alloc (Below.refl _ _) _) _) _)
  refine ⟨(hb.block _ (by omega)).trans ?_, (hb.block _ (by omega)).trans e2, hd.trans (hb.mono (by omega))⟩
  show (((U.alloc o1).alloc o2).alloc o3).heap[U.heap.size + 1]? = _
  rw [blk_alloc e1]
theorem cells8 {w : World} {g : Nat} {t : TypeId} {v0 v1 v2 v3 v4 v5 v6 v7 : Value} (h : w.heap[g]? = some (.cells #[v0, v1, v2, v3, v4, v5, v6, v7] t (0, 0))) :
    w.cell? ⟨g, 0, none⟩ = some v0 ∧ w.cell? ⟨g, 1, none⟩ = some v1 ∧ w.cell? ⟨g, 2, none⟩ = some v2 ∧ w.cell? ⟨g, 3, none⟩ = some v3 ∧ w.cell? ⟨g, 4, none⟩ = some v4 ∧ w.cell? ⟨g, 5, none⟩ = some v5 ∧ w.cell? ⟨g, 6, none⟩ = some v6 ∧ w.cell? ⟨g, 7, none⟩ = some v7 :=
  ⟨(blk_cell h 0).trans rfl, (blk_cell h 1).trans rfl, (blk_cell h 2).trans rfl, (blk_cell h 3).trans rfl, (blk_cell h 4).trans rfl, (blk_cell h 5).trans rfl, (blk_cell h 6).trans rfl, (blk_cell h 7).trans rfl⟩
theorem put8 {w : World} {g : Nat} {t : TypeId} {u0 u1 u2 u3 u4 u5 u6 u7 : Value} (h : w.heap[g]? = some (.cells #[u0, u1, u2, u3, u4, u5, u6, u7] t (0, 0))) (v0 v1 v2 v3 v4 v5 v6 v7 : Value) :
    ((((((((w.setCell ⟨g, 0, none⟩ v0).setCell ⟨g, 1, none⟩ v1).setCell ⟨g, 2, none⟩ v2).setCell ⟨g, 3, none⟩ v3).setCell ⟨g, 4, none⟩ v4).setCell ⟨g, 5, none⟩ v5).setCell ⟨g, 6, none⟩ v6).setCell ⟨g, 7, none⟩ v7).heap[g]? = some (.cells #[v0, v1, v2, v3, v4, v5, v6, v7] t (0, 0)) := by
  have h0 := blk_put h 0 v0 (cs' := #[v0, u1, u2, u3, u4, u5, u6, u7]) rfl
  have h1 := blk_put h0 1 v1 (cs' := #[v0, v1, u2, u3, u4, u5, u6, u7]) rfl
  have h2 := blk_put h1 2 v2 (cs' := #[v0, v1, v2, u3, u4, u5, u6, u7]) rfl
  have h3 := blk_put h2 3 v3 (cs' := #[v0, v1, v2, v3, u4, u5, u6, u7]) rfl
  have h4 := blk_put h3 4 v4 (cs' := #[v0, v1, v2, v3, v4, u5, u6, u7]) rfl
  have h5 := blk_put h4 5 v5 (cs' := #[v0, v1, v2, v3, v4, v5, u6, u7]) rfl
  have h6 := blk_put h5 6 v6 (cs' := #[v0, v1, v2, v3, v4, v5, v6, u7]) rfl
  exact blk_put h6 7 v7 (cs' := #[v0, v1, v2, v3, v4, v5, v6, v7]) rfl
theorem set8 {w0 w : World} {g : Nat} (h : Below w0.heap.size w0 w) (hg : w0.heap.size ≤ g) (v0 v1 v2 v3 v4 v5 v6 v7 : Value) :
    Below w0.heap.size w0 ((((((((w.setCell ⟨g, 0, none⟩ v0).setCell ⟨g, 1, none⟩ v1).setCell ⟨g, 2, none⟩ v2).setCell ⟨g, 3, none⟩ v3).setCell ⟨g, 4, none⟩ v4).setCell ⟨g, 5, none⟩ v5).setCell ⟨g, 6, none⟩ v6).setCell ⟨g, 7, none⟩ v7) :=
  below_set (below_set (below_set (below_set (below_set (below_set (below_set (below_set h hg) hg) hg) hg) hg) hg) hg) hg
theorem below_after {w0 w : World} {g : Nat} (h : Below w0.heap.size w0 w) (hg : g < w0.heap.size) (v0 v1 v2 v3 v4 v5 v6 v7 : Value) : True := trivial
theorem atF36 {w0 w1 w : World} {A : Option Addr} {n : Nat} {xs : List S36} (h : Kd.C (Kd.fixed k36 w0) w1 A n xs) (hb : Below w1.heap.size w1 w) (i : Int) (h0 : 0 ≤ i) (h1 : i < n) : ∃ ad A7 c7, A = some ad ∧ w.cell? (ad.add (i.toNat * 8)) = some (.int .i64 (rd_T36 xs i).f0) ∧ w.cell? ⟨(ad.add (i.toNat * 8)).block, (ad.add (i.toNat * 8)).off + 1, none⟩ = some (.string (rd_T36 xs i).f1) ∧ w.cell? ⟨(ad.add (i.toNat * 8)).block, (ad.add (i.toNat * 8)).off + 2, none⟩ = some (.int .u8 (rd_T36 xs i).f2.f0) ∧ w.cell? ⟨(ad.add (i.toNat * 8)).block, (ad.add (i.toNat * 8)).off + 3, none⟩ = some (.int .i64 (rd_T36 xs i).f2.f1) ∧ w.cell? ⟨(ad.add (i.toNat * 8)).block, (ad.add (i.toNat * 8)).off + 4, none⟩ = some (.string (rd_T36 xs i).f2.f2) ∧ w.cell? ⟨(ad.add (i.toNat * 8)).block, (ad.add (i.toNat * 8)).off + 5, none⟩ = some (.int .i64 (rd_T36 xs i).f3) ∧ w.cell? ⟨(ad.add (i.toNat * 8)).block, (ad.add (i.toNat * 8)).off + 6, none⟩ = some (.int .u8 (rd_T36 xs i).f4) ∧ w.cell? ⟨(ad.add (i.toNat * 8)).block, (ad.add (i.toNat * 8)).off + 7, none⟩ = some (.slice A7 (rd_T36 xs i).f5.length c7) ∧ (rd_T36 xs i).f5.length ≤ c7 ∧ k36.C w0 A7 (rd_T36 xs i).f5.length (rd_T36 xs i).f5 := by
  obtain ⟨ad, c, e, _, hK, hc0⟩ := Kd.C_get (Kd.C_below h hb) z36 i h0 h1
  have hc : ∀ j u, c[j]? = some u → w.cell? (ad.add (i.toNat * 8 + j)) = some u := hc0
  obtain ⟨A7, c7, rfl, l7, g7⟩ := k36_open hK
  exact ⟨ad, A7, c7, e, hc 0 _ rfl, by rw [← add_field _ _ 1 (by omega)]; exact hc 1 _ rfl, by rw [← add_field _ _ 2 (by omega)]; exact hc 2 _ rfl, by rw [← add_field _ _ 3 (by omega)]; exact hc 3 _ rfl, by rw [← add_field _ _ 4 (by omega)]; exact hc 4 _ rfl, by rw [← add_field _ _ 5 (by omega)]; exact hc 5 _ rfl, by rw [← add_field _ _ 6 (by omega)]; exact hc 6 _ rfl, by rw [← add_field _ _ 7 (by omega)]; exact hc 7 _ rfl, l7, g7⟩
theorem fz36 {w : World} {g : Nat} {t : TypeId} {cs : Array Value} (h : w.heap[g]? = some (.cells cs t (0, 0))) (j : Nat) : w.frozen? ⟨g, j, none⟩ = false := by simp [World.frozen?, h]
set_option maxHeartbeats 4000000 in
set_option maxRecDepth 100000 in
theorem equal_walk (hS : SortC) (hS0 : SortN) (hK : CompactC) (hK0 : CompactN) (L : List S36) (A : Option Addr) (c : Nat) (slot first : Int) (w0 w : World) (hw0 : Below w0.heap.size w0 w) (hx : ∀ x ∈ L, cnt x ≤ 100000000000) (hm : L.length < 9223372036854775808) (hc : L.length ≤ c) (hC : Kd.C (Kd.fixed k36 w0) w A L.length L) :
    Calls Try.prog 31 #[.slice A L.length c, .int .i64 slot, .int .i64 first] w fun e w' => ∃ (n : S36) (A' : Option Addr) (c' : Nat), e = .returned (.tuple #[V36 n A' c', .bool (equalP L slot first).isSome]) ∧ n = (equalP L slot first).getD z36 ∧ n.f5.length ≤ c' ∧ Kd.C k36 w0 A' n.f5.length n.f5 ∧ Below w.heap.size w w' := by
  have HBL := Aside0.mk fun (x : S36) (hx : cnt x ≤ 100000000000) (A : Option Addr) (c : Nat) (w2 : World) (hc : x.f5.length ≤ c) (hC : Kd.C k36 w2 A x.f5.length x.f5) => below_walk hS hS0 hK hK0 x A c first w2 hx hc hC
  have HC := Aside0.mk hC
  have HX := Aside0.mk hx
  have HW0 := Aside0.mk hw0
  clear hS hS0 hK hK0 hC hc hx hw0
  go_enter Try.func31, Try.ntmps31
  go_wp2_with (with_reducible refine gate_dst (N := 6) rfl ?_; refine box_event ?hg (N := 6) ?hd (cs := Z8) (t := 36) ?hr ?_; (case hd => rfl); (case hg => rfl); (case hr => first | (go_simp; done) | (go_simp; rfl)); intro gb hg w3 hbox hb)
  have HGB := Aside0.mk hg
  have HBK := Aside0.mk hbox
  have HB3 := Aside0.mk hb
  clear hg hbox hb
  go_step3
  go_wp2
  go_step3
  go_wp2_with fail
  go_loopg [14] L.length (fun gg s14 wr => ∃ kk : Nat, kk ≤ L.length ∧ L.length - kk ≤ gg ∧ s14 = .int .i64 kk ∧ Aside0 (Below w.heap.size w wr) ∧ Aside0 (wr.heap[gb]? = some (.cells Z8 36 (0, 0))) ∧ Aside0 ((L.take kk).findSome? (eqOne slot first) = none))
  case atStart => exact ⟨0, Nat.zero_le _, by omega, rfl, HB3, HBK, ⟨rfl⟩⟩
  case round =>
    clear HB3 HBK
    obtain ⟨kk, hkk, hg, rfl, HB, HBK, HA⟩ := hrel
    by_cases hlt : kk < L.length
    · have hltz : (kk : Int) < (L.length : Int) := by omega
      obtain ⟨ad, A7, c7, hA, h0, h1, h2, h3, h4, h5, h6, h7, hl7, hC7⟩ := atF36 HC.out HB.out (kk : Int) (by omega) hltz
      rw [Int.toNat_natCast] at h0 h1 h2 h3 h4 h5 h6 h7
      subst hA
      have HT := Aside0.mk (findSome_take L slot first kk hlt)
      have HM := Aside0.mk (HX.out _ (rd36_mem L kk hlt))
      obtain ⟨x, hx⟩ : ∃ x, x = rd_T36 L kk := ⟨_, rfl⟩
      rw [← hx] at h0 h1 h2 h3 h4 h5 h6 h7 hl7 hC7 HT HM
      clear hx
      have HG := Aside0.mk hg
      have HL := Aside0.mk hlt
      have HC7 := Aside0.mk hC7
      have HL7 := Aside0.mk hl7
      clear hg hlt hkk hC7 hl7
      by_cases hq : isEq x = true
      · have hq' := hq
        unfold isEq at hq'
        obtain ⟨e1, hq2⟩ := Bool.and_eq_true_iff.1 hq'
        obtain ⟨e2, e3⟩ := Bool.and_eq_true_iff.1 hq2
        clear hq' hq2
        replace e1 : x.f0 = 4 := by simpa using e1
        replace e2 : x.f1.toList = [61] := by simpa using e2
        have hl2 : x.f5.length = 2 := by simpa using e3
        clear e3
        have HQ := Aside0.mk hq
        clear hq
        obtain ⟨ad2, A8, c8, hA2, a0, a1, a2, a3, a4, a5, a6, a7, hl8, hC8⟩ := at36 HC7.out (below_then HW0.out HW0.out.size HB.out) 0 (by omega) (by omega)
        obtain ⟨ad2', A9, c9, hA2', b0, b1, b2, b3, b4, b5, b6, b7, hl9, hC9⟩ := at36 HC7.out (below_then HW0.out HW0.out.size HB.out) 1 (by omega) (by omega)
        rw [hA2] at hA2'
        obtain rfl := Option.some.inj hA2'
        clear hA2'
        subst hA2
        have HR := Aside0.mk (And.intro hl8 (And.intro hC8 (And.intro hl9 hC9)))
        have e3 := hl2
        clear hl8 hC8 hl9 hC9 hl2
        obtain ⟨ya, hya⟩ : ∃ y, y = rd_T36 x.f5 0 := ⟨_, rfl⟩
        obtain ⟨yb, hyb⟩ : ∃ y, y = rd_T36 x.f5 1 := ⟨_, rfl⟩
        rw [← hya] at a0 a1 a2 a3 a4 a5 a6 a7 HR
        rw [← hyb] at b0 b1 b2 b3 b4 b5 b6 b7 HR
        have HY := Aside0.mk (And.intro hya hyb)
        clear hya hyb
        simp only [Int.toNat_zero, Int.toNat_one, Nat.zero_mul, Nat.one_mul] at a0 a1 a2 a3 a4 a5 a6 a7 b0 b1 b2 b3 b4 b5 b6 b7
        have ea : ad2.add 0 = ad2 := by simp [Addr.add]
        have eb : ad2.add 8 = ⟨ad2.block, ad2.off + 8, none⟩ := by simp [Addr.add]
        rw [ea] at a0 a1 a2 a3 a4 a5 a6 a7
        rw [eb] at b0 b1 b2 b3 b4 b5 b6 b7
        clear ea eb
        have hbl := cell_lt a0
        have hbl1 : ad2.block < wr.heap.size + 1 := by omega
        have hbl2 : ad2.block < wr.heap.size + 1 + 1 := by omega
        have hone : eqOne slot first x = if (isSlotP ya slot && belowP yb first) = true then some yb else if (isSlotP yb slot && belowP ya first) = true then some ya else none := by
          unfold eqOne; rw [if_pos HQ.out, ← HY.out.1, ← HY.out.2]
        have hca : cnt ya ≤ 100000000000 := by
          have := cnt_mem (show ya ∈ x.f5 by rw [HY.out.1]; exact rd36_mem x.f5 0 (by omega)); have := HM.out; omega
        have hcb : cnt yb ≤ 100000000000 := by
          have := cnt_mem (show yb ∈ x.f5 by rw [HY.out.2]; exact rd36_mem x.f5 1 (by omega)); have := HM.out; omega
        have KSa := fun (V : World) (hV : Below wr.heap.size wr V) => isSlot_walk ya A8 c8 slot V HR.out.1 (Kd.C_below HR.out.2.1 (below_then HW0.out HW0.out.size (below_then HB.out HB.out.size hV)))
        have KSb := fun (V : World) (hV : Below wr.heap.size wr V) => isSlot_walk yb A9 c9 slot V HR.out.2.2.1 (Kd.C_below HR.out.2.2.2 (below_then HW0.out HW0.out.size (below_then HB.out HB.out.size hV)))
        have KBa := fun (V : World) (hV : Below wr.heap.size wr V) => HBL.out ya hca A8 c8 V HR.out.1 (Kd.C_below HR.out.2.1 (below_then HW0.out HW0.out.size (below_then HB.out HB.out.size hV)))
        have KBb := fun (V : World) (hV : Below wr.heap.size wr V) => HBL.out yb hcb A9 c9 V HR.out.2.2.1 (Kd.C_below HR.out.2.2.2 (below_then HW0.out HW0.out.size (below_then HB.out HB.out.size hV)))
        obtain ⟨s1, hs1⟩ : ∃ s, isSlotP ya slot = s := ⟨_, rfl⟩
        obtain ⟨s2, hs2⟩ : ∃ s, isSlotP yb slot = s := ⟨_, rfl⟩
        obtain ⟨t1, ht1⟩ : ∃ s, belowP ya first = s := ⟨_, rfl⟩
        obtain ⟨t2, ht2⟩ : ∃ s, belowP yb first = s := ⟨_, rfl⟩
        rw [hs1, ht2, hs2, ht1] at hone
        simp only [hs1] at KSa
        simp only [hs2] at KSb
        simp only [ht1] at KBa
        simp only [ht2] at KBb
        have HSa := Aside0.mk KSa
        have HSb := Aside0.mk KSb
        have HBa := Aside0.mk KBa
        have HBb := Aside0.mk KBb
        have HO := Aside0.mk hone
        clear KSa KSb KBa KBb hone hs1 hs2 ht1 ht2 hca hcb
        go_wp2_with fail
        go_region
        all_goals
          clear h0 h1 h2 h3 h4 h5 h6 h7 a0 a1 a2 a3 a4 a5 a6 a7 b0 b1 b2 b3 b4 b5 b6 b7 hbl hbl1 hbl2 e1 e2
          go_wp2_with fail
          refine (HSa.out _ (below_drew1 (below_alloc (below_alloc (below_alloc (Below.refl _ _) _) _) _))).mono ?_
          rintro e V1 ⟨rfl, hb⟩
          obtain ⟨q2, q3, qb⟩ := two_blk hb
          have Q2 := Aside0.mk q2
          have Q3 := Aside0.mk q3
          have QB := Aside0.mk qb
          obtain ⟨a0, a1, a2, a3, a4, a5, a6, a7⟩ := cells8 q2
          obtain ⟨b0, b1, b2, b3, b4, b5, b6, b7⟩ := cells8 q3
          clear hb q2 q3 qb
          cases s1 with
          | false =>
            go_wp2_with fail
            refine (HSb.out _ QB.out).mono ?_
            rintro e V2 ⟨rfl, hb⟩
            have q2 := blk_below Q2.out hb
            have q3 := blk_below Q3.out hb
            have qb := below_step QB.out hb
            clear a0 a1 a2 a3 a4 a5 a6 a7 b0 b1 b2 b3 b4 b5 b6 b7 Q2 Q3 QB
            have Q2 := Aside0.mk q2
            have Q3 := Aside0.mk q3
            have QB := Aside0.mk qb
            obtain ⟨a0, a1, a2, a3, a4, a5, a6, a7⟩ := cells8 q2
            obtain ⟨b0, b1, b2, b3, b4, b5, b6, b7⟩ := cells8 q3
            clear hb q2 q3 qb
            cases s2 with
            | false =>
              go_wp2_with fail
              go_roundg (L.length - (kk + 1))
              case measure => have := HG.out; have := HL.out; omega
              case rel => exact ⟨kk + 1, HL.out, by omega, by go_num, ⟨below_then HB.out HB.out.size QB.out⟩, ⟨(QB.out.block _ (blk_lt HBK.out)).trans HBK.out⟩, ⟨by rw [HT.out, HA.out, HO.out]; rfl⟩⟩
            | true =>
              go_wp2_with fail
              refine (HBa.out _ QB.out).mono ?_
              rintro e V3 ⟨rfl, hb⟩
              have q2 := blk_below Q2.out hb
              have q3 := blk_below Q3.out hb
              have qb := below_step QB.out hb
              clear a0 a1 a2 a3 a4 a5 a6 a7 b0 b1 b2 b3 b4 b5 b6 b7 Q2 Q3 QB
              have Q2 := Aside0.mk q2
              have Q3 := Aside0.mk q3
              have QB := Aside0.mk qb
              obtain ⟨a0, a1, a2, a3, a4, a5, a6, a7⟩ := cells8 q2
              obtain ⟨b0, b1, b2, b3, b4, b5, b6, b7⟩ := cells8 q3
              clear hb q2 q3 qb
              cases t1 with
              | false =>
                go_wp2_with fail
                go_roundg (L.length - (kk + 1))
                case measure => have := HG.out; have := HL.out; omega
                case rel => exact ⟨kk + 1, HL.out, by omega, by go_num, ⟨below_then HB.out HB.out.size QB.out⟩, ⟨(QB.out.block _ (blk_lt HBK.out)).trans HBK.out⟩, ⟨by rw [HT.out, HA.out, HO.out]; rfl⟩⟩
              | true =>
                have hbk := HBK.out
                rw [HGB.out] at hbk
                have hbk2 := (QB.out.block _ (blk_lt hbk)).trans hbk
                obtain ⟨z0, z1, z2, z3, z4, z5, z6, z7⟩ := cells8 hbk2
                have zf := fz36 hbk2
                have HZ := Aside0.mk hbk2
                clear hbk hbk2
                go_wp2_with fail
                try simp only [Exit.noGoto_ret]
                refine bodyPost_ret (results_ct rfl _ _ w.heap.size 36 #[.int .i64 ya.f0, .string ya.f1, .int .u8 ya.f2.f0, .int .i64 ya.f2.f1, .string ya.f2.f2, .int .i64 ya.f3, .int .u8 ya.f4, .slice A8 ya.f5.length c8] (0, 0) _ rfl (put8 HZ.out _ _ _ _ _ _ _ _) Try.underlying36 rfl (by kernel_rfl)) rfl ?_
                have heq : equalP L slot first = some ya := by
                  unfold equalP
                  rw [← List.take_append_drop (kk + 1) L, List.findSome?_append, HT.out, HA.out, HO.out]
                  rfl
                have hbw := below_then HB.out (HB.out.size) QB.out
                refine ⟨ya, A8, c8, by rw [heq]; rfl, by rw [heq]; rfl, HR.out.1, HR.out.2.1, set8 hbw (Nat.le_refl _) _ _ _ _ _ _ _ _⟩
          | true =>
            go_wp2_with fail
            refine (HBb.out _ QB.out).mono ?_
            rintro e V4 ⟨rfl, hb⟩
            have q2 := blk_below Q2.out hb
            have q3 := blk_below Q3.out hb
            have qb := below_step QB.out hb
            clear a0 a1 a2 a3 a4 a5 a6 a7 b0 b1 b2 b3 b4 b5 b6 b7 Q2 Q3 QB
            have Q2 := Aside0.mk q2
            have Q3 := Aside0.mk q3
            have QB := Aside0.mk qb
            obtain ⟨a0, a1, a2, a3, a4, a5, a6, a7⟩ := cells8 q2
            obtain ⟨b0, b1, b2, b3, b4, b5, b6, b7⟩ := cells8 q3
            clear hb q2 q3 qb
            cases t2 with
            | false =>
              go_wp2_with fail
              refine (HSb.out _ QB.out).mono ?_
              rintro e V5 ⟨rfl, hb⟩
              have q2 := blk_below Q2.out hb
              have q3 := blk_below Q3.out hb
              have qb := below_step QB.out hb
              clear a0 a1 a2 a3 a4 a5 a6 a7 b0 b1 b2 b3 b4 b5 b6 b7 Q2 Q3 QB
              have Q2 := Aside0.mk q2
              have Q3 := Aside0.mk q3
              have QB := Aside0.mk qb
              obtain ⟨a0, a1, a2, a3, a4, a5, a6, a7⟩ := cells8 q2
              obtain ⟨b0, b1, b2, b3, b4, b5, b6, b7⟩ := cells8 q3
              clear hb q2 q3 qb
              cases s2 with
              | false =>
                go_wp2_with fail
                go_roundg (L.length - (kk + 1))
                case measure => have := HG.out; have := HL.out; omega
                case rel => exact ⟨kk + 1, HL.out, by omega, by go_num, ⟨below_then HB.out HB.out.size QB.out⟩, ⟨(QB.out.block _ (blk_lt HBK.out)).trans HBK.out⟩, ⟨by rw [HT.out, HA.out, HO.out]; rfl⟩⟩
              | true =>
                go_wp2_with fail
                refine (HBa.out _ QB.out).mono ?_
                rintro e V6 ⟨rfl, hb⟩
                have q2 := blk_below Q2.out hb
                have q3 := blk_below Q3.out hb
                have qb := below_step QB.out hb
                clear a0 a1 a2 a3 a4 a5 a6 a7 b0 b1 b2 b3 b4 b5 b6 b7 Q2 Q3 QB
                have Q2 := Aside0.mk q2
                have Q3 := Aside0.mk q3
                have QB := Aside0.mk qb
                obtain ⟨a0, a1, a2, a3, a4, a5, a6, a7⟩ := cells8 q2
                obtain ⟨b0, b1, b2, b3, b4, b5, b6, b7⟩ := cells8 q3
                clear hb q2 q3 qb
                cases t1 with
                | false =>
                  go_wp2_with fail
                  go_roundg (L.length - (kk + 1))
                  case measure => have := HG.out; have := HL.out; omega
                  case rel => exact ⟨kk + 1, HL.out, by omega, by go_num, ⟨below_then HB.out HB.out.size QB.out⟩, ⟨(QB.out.block _ (blk_lt HBK.out)).trans HBK.out⟩, ⟨by rw [HT.out, HA.out, HO.out]; rfl⟩⟩
                | true =>
                  have hbk := HBK.out
                  rw [HGB.out] at hbk
                  have hbk2 := (QB.out.block _ (blk_lt hbk)).trans hbk
                  obtain ⟨z0, z1, z2, z3, z4, z5, z6, z7⟩ := cells8 hbk2
                  have zf := fz36 hbk2
                  have HZ := Aside0.mk hbk2
                  clear hbk hbk2
                  go_wp2_with fail
                  try simp only [Exit.noGoto_ret]
                  refine bodyPost_ret (results_ct rfl _ _ w.heap.size 36 #[.int .i64 ya.f0, .string ya.f1, .int .u8 ya.f2.f0, .int .i64 ya.f2.f1, .string ya.f2.f2, .int .i64 ya.f3, .int .u8 ya.f4, .slice A8 ya.f5.length c8] (0, 0) _ rfl (put8 HZ.out _ _ _ _ _ _ _ _) Try.underlying36 rfl (by kernel_rfl)) rfl ?_
                  have heq : equalP L slot first = some ya := by
                    unfold equalP
                    rw [← List.take_append_drop (kk + 1) L, List.findSome?_append, HT.out, HA.out, HO.out]
                    rfl
                  have hbw := below_then HB.out (HB.out.size) QB.out
                  refine ⟨ya, A8, c8, by rw [heq]; rfl, by rw [heq]; rfl, HR.out.1, HR.out.2.1, set8 hbw (Nat.le_refl _) _ _ _ _ _ _ _ _⟩
            | true =>
              have hbk := HBK.out
              rw [HGB.out] at hbk
              have hbk2 := (QB.out.block _ (blk_lt hbk)).trans hbk
              obtain ⟨z0, z1, z2, z3, z4, z5, z6, z7⟩ := cells8 hbk2
              have zf := fz36 hbk2
              have HZ := Aside0.mk hbk2
              clear hbk hbk2
              go_wp2_with fail
              try simp only [Exit.noGoto_ret]
              refine bodyPost_ret (results_ct rfl _ _ w.heap.size 36 #[.int .i64 yb.f0, .string yb.f1, .int .u8 yb.f2.f0, .int .i64 yb.f2.f1, .string yb.f2.f2, .int .i64 yb.f3, .int .u8 yb.f4, .slice A9 yb.f5.length c9] (0, 0) _ rfl (put8 HZ.out _ _ _ _ _ _ _ _) Try.underlying36 rfl (by kernel_rfl)) rfl ?_
              have heq : equalP L slot first = some yb := by
                unfold equalP
                rw [← List.take_append_drop (kk + 1) L, List.findSome?_append, HT.out, HA.out, HO.out]
                rfl
              have hbw := below_then HB.out (HB.out.size) QB.out
              refine ⟨yb, A9, c9, by rw [heq]; rfl, by rw [heq]; rfl, HR.out.2.2.1, HR.out.2.2.2, set8 hbw (Nat.le_refl _) _ _ _ _ _ _ _ _⟩
      · have hone : eqOne slot first x = none := by unfold eqOne; rw [if_neg hq]
        have HO := Aside0.mk hone
        clear hone
        have hcase : ¬ x.f0 = 4 ∨ x.f0 = 4 ∧ ¬ x.f1.toList = [61] ∨ x.f0 = 4 ∧ x.f1.toList = [61] ∧ ¬ x.f5.length = 2 := by
          unfold isEq at hq
          by_cases h1 : x.f0 = 4
          · by_cases h2 : x.f1.toList = [61]
            · refine .inr (.inr ⟨h1, h2, fun h3 => hq ?_⟩)
              rw [h1, h2, h3]; rfl
            · exact .inr (.inl ⟨h1, h2⟩)
          · exact .inl h1
        clear hq
        rcases hcase with e1 | ⟨e1, e2⟩ | ⟨e1, e2, e3⟩
        all_goals
          go_wp2_with fail
          go_roundg (L.length - (kk + 1))
          case measure => have := HG.out; have := HL.out; omega
          case rel => exact ⟨kk + 1, HL.out, by omega, by go_num, ⟨below_alloc HB.out _⟩, ⟨blk_alloc HBK.out _⟩, ⟨by rw [HT.out, HA.out, HO.out]; rfl⟩⟩
    · have hltz : ¬ (kk : Int) < (L.length : Int) := by omega
      have : kk = L.length := by omega
      subst this
      have hgb := HGB.out
      have hbk := HBK.out
      rw [hgb] at hbk
      obtain ⟨c0, c1, c2, c3, c4, c5, c6, c7⟩ := cells8 hbk
      have z0 := fz36 hbk
      have HBK2 := Aside0.mk hbk
      clear hgb hbk
      go_wp2
      try simp only [Exit.noGoto_ret]
      refine bodyPost_ret (results_ct rfl _ _ w.heap.size 36 Z8 (0, 0) _ rfl (put8 HBK2.out _ _ _ _ _ _ _ _) Try.underlying36 rfl (by kernel_rfl)) rfl ?_
      have heq : equalP L slot first = none := by
        unfold equalP
        have := HA.out
        rwa [List.take_length] at this
      exact ⟨z36, none, 0, by rw [heq]; rfl, by rw [heq]; rfl, Nat.le_refl _, Kd.C_nil _ _, set8 HB.out (Nat.le_refl _) _ _ _ _ _ _ _ _⟩
end Go.Proofs.Ytepjcgcobaaphaa.Pl
