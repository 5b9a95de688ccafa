import Derived.Test.YtepjcgcobaaphaaRf1
import Derived.Test.YtepjcgcobaaphaaPl5
namespace Go.Proofs.Ytepjcgcobaaphaa.Rf
set_option linter.unusedVariables false
set_option linter.unusedSimpArgs false
open Go.RowKit Go.Lib Go.Proofs.YtepjcgcobaaphaaW.PrintWords Go.Proofs.YtepjcgcobaaphaaW.PrintLast Go.Proofs.YtepjcgcobaaphaaW.PrintMore Go.Proofs.Ytepjcgcobaaphaa.PPa
open Go.Proofs.Ytepjcgcobaaphaa.Pl (Z8 cells8 fz36 put8 set8 cell_lt)

def isSlotP (x : S38) (slot : Int) : Bool := x.f0 == 2 && x.f3 == slot
def isEq (p : S38) : Bool := p.f0 == 4 && (p.f1.toList == [61] && p.f5.length == 2)
def eqOne (slot first : Int) (p : S38) : Option S38 :=
  if isEq p = true then
    (if (isSlotP (rd_T38 p.f5 0) slot && lowP (rd_T38 p.f5 1) first) = true then some (rd_T38 p.f5 1)
     else if (isSlotP (rd_T38 p.f5 1) slot && lowP (rd_T38 p.f5 0) first) = true then some (rd_T38 p.f5 0) else none)
  else none
def equalP (L : List S38) (slot first : Int) : Option S38 := L.findSome? (eqOne slot first)
theorem findSome_take (L : List S38) (slot first : Int) (i : Nat) (h : i < L.length) : (L.take (i + 1)).findSome? (eqOne slot first) = ((L.take i).findSome? (eqOne slot first)).or (eqOne slot first (rd_T38 L (i : Int))) := by
  rw [take_succ36 L i h, List.findSome?_append]
  simp [List.findSome?]
  cases eqOne slot first (rd_T38 L ↑i) <;> rfl
theorem atF36 {w0 w1 w : World} {A : Option Addr} {n : Nat} {xs : List S38} (h : Kd.C (Kd.fixed k38 w0) w1 A n xs) (hb : Below w1.heap.size w1 w) (i : Int) (h0 : 0 ≤ i) (h1 : i < n) : ∃ ad A7 c7, A = some ad ∧ w.cell? (ad.add (i.toNat * 8)) = some (.int .i64 (rd_T38 xs i).f0) ∧ w.cell? ⟨(ad.add (i.toNat * 8)).block, (ad.add (i.toNat * 8)).off + 1, none⟩ = some (.string (rd_T38 xs i).f1) ∧ w.cell? ⟨(ad.add (i.toNat * 8)).block, (ad.add (i.toNat * 8)).off + 2, none⟩ = some (.int .u8 (rd_T38 xs i).f2.f0) ∧ w.cell? ⟨(ad.add (i.toNat * 8)).block, (ad.add (i.toNat * 8)).off + 3, none⟩ = some (.int .i64 (rd_T38 xs i).f2.f1) ∧ w.cell? ⟨(ad.add (i.toNat * 8)).block, (ad.add (i.toNat * 8)).off + 4, none⟩ = some (.string (rd_T38 xs i).f2.f2) ∧ w.cell? ⟨(ad.add (i.toNat * 8)).block, (ad.add (i.toNat * 8)).off + 5, none⟩ = some (.int .i64 (rd_T38 xs i).f3) ∧ w.cell? ⟨(ad.add (i.toNat * 8)).block, (ad.add (i.toNat * 8)).off + 6, none⟩ = some (.int .u8 (rd_T38 xs i).f4) ∧ w.cell? ⟨(ad.add (i.toNat * 8)).block, (ad.add (i.toNat * 8)).off + 7, none⟩ = some (.slice A7 (rd_T38 xs i).f5.length c7) ∧ (rd_T38 xs i).f5.length ≤ c7 ∧ k38.C w0 A7 (rd_T38 xs i).f5.length (rd_T38 xs i).f5 := by
  obtain ⟨ad, c, e, _, hK, hc0⟩ := Kd.C_get (Kd.C_below h hb) z38 i h0 h1
  have hc : ∀ j u, c[j]? = some u → w.cell? (ad.add (i.toNat * 8 + j)) = some u := hc0
  obtain ⟨A7, c7, rfl, l7, g7⟩ := k38_open hK
  exact ⟨ad, A7, c7, e, hc 0 _ rfl, by rw [← add_field _ _ 1 (by omega)]; exact hc 1 _ rfl, by rw [← add_field _ _ 2 (by omega)]; exact hc 2 _ rfl, by rw [← add_field _ _ 3 (by omega)]; exact hc 3 _ rfl, by rw [← add_field _ _ 4 (by omega)]; exact hc 4 _ rfl, by rw [← add_field _ _ 5 (by omega)]; exact hc 5 _ rfl, by rw [← add_field _ _ 6 (by omega)]; exact hc 6 _ rfl, by rw [← add_field _ _ 7 (by omega)]; exact hc 7 _ rfl, l7, g7⟩

theorem two_blk2 {U V : World} {o1 o2 : Obj} (hb : Below (((U.alloc o1).alloc o2).drew).heap.size (((U.alloc o1).alloc o2).drew) V) :
    V.heap[U.heap.size]? = some o1 ∧ V.heap[U.heap.size + 1]? = some o2 ∧ Below U.heap.size U V := by
  have e1 := blk_alloc (blk_new U o1) o2
  have e2 := blk_new (U.alloc o1) o2
  rw [World.size_alloc] at e2
  have hs : (((U.alloc o1).alloc o2).drew).heap.size = U.heap.size + 1 + 1 := by
    show ((U.alloc o1).alloc o2).heap.size = _
    rw [World.size_alloc, World.size_alloc]
  rw [hs] at hb
  have hd : Below U.heap.size U (((U.alloc o1).alloc o2).drew) := below_drew1 (below_alloc (below_alloc (Below.refl _ _) _) _)
  exact ⟨(hb.block _ (by omega)).trans e1, (hb.block _ (by omega)).trans e2, hd.trans (hb.mono (by omega))⟩
set_option maxHeartbeats 8000000 in
set_option maxRecDepth 100000 in
theorem equal_walk (L : List S38) (A : Option Addr) (c : Nat) (slot first : Int) (w0 w : World) (hw0 : Below w0.heap.size w0 w) (hx : ∀ x ∈ L, cnt x ≤ 100000000000) (hm : L.length < 9223372036854775808) (hc : L.length ≤ c) (hC : Kd.C (Kd.fixed k38 w0) w A L.length L) :
    Calls Try.prog 33 #[.slice A L.length c, .int .i64 slot, .int .i64 first] w fun e w' => ∃ (n : S38) (A' : Option Addr) (c' : Nat), e = .returned (.tuple #[V38 n A' c', .bool (equalP L slot first).isSome]) ∧ n = (equalP L slot first).getD z38 ∧ n.f5.length ≤ c' ∧ Kd.C k38 w0 A' n.f5.length n.f5 ∧ Below w.heap.size w w' := by
  have HC := Aside0.mk hC
  have HX := Aside0.mk hx
  have HW0 := Aside0.mk hw0
  clear hC hc hx hw0
  go_enter Try.func33, Try.ntmps33
  go_wp2_with (with_reducible refine gate_dst (N := 6) rfl ?_; refine box_event ?hg (N := 6) ?hd (cs := Z8) (t := 38) ?hr ?_; (case hd => rfl); (case hg => rfl); (case hr => first | (go_simp; done) | (go_simp; rfl)); intro gb hg w3 hbox hb)
  subst hg
  have HBK := Aside0.mk hbox
  have HB3 := Aside0.mk hb
  clear hbox hb
  go_wp2
  go_loopg [8] L.length (fun gg s8 wr => ∃ kk : Nat, kk ≤ L.length ∧ L.length - kk ≤ gg ∧ s8 = .int .i64 kk ∧ Aside0 (Below w.heap.size w wr) ∧ Aside0 (wr.heap[w.heap.size]? = some (.cells Z8 38 (0, 0))) ∧ Aside0 ((L.take kk).findSome? (eqOne slot first) = none))
  case atStart => exact ⟨0, Nat.zero_le _, by omega, rfl, HB3, HBK, ⟨rfl⟩⟩
  case round =>
    clear HB3 HBK
    obtain ⟨kk, hkk, hg, rfl, HB, HBK, HA⟩ := hrel
    by_cases hlt : kk < L.length
    · have hltz : (kk : Int) < (L.length : Int) := by omega
      obtain ⟨ad, A7, c7, hA, h0, h1, h2, h3, h4, h5, h6, h7, hl7, hC7⟩ := atF36 HC.out HB.out (kk : Int) (by omega) hltz
      rw [Int.toNat_natCast] at h0 h1 h2 h3 h4 h5 h6 h7
      subst hA
      have HT := Aside0.mk (findSome_take L slot first kk hlt)
      have HM := Aside0.mk (HX.out _ (rd36_mem L kk hlt))
      obtain ⟨x, hx⟩ : ∃ x, x = rd_T38 L kk := ⟨_, rfl⟩
      rw [← hx] at h0 h1 h2 h3 h4 h5 h6 h7 hl7 hC7 HT HM
      clear hx
      have HG := Aside0.mk hg
      have HL := Aside0.mk hlt
      have HC7 := Aside0.mk hC7
      have HL7 := Aside0.mk hl7
      clear hg hlt hkk hC7 hl7
      by_cases hq : isEq x = true
      · have hq' := hq
        unfold isEq at hq'
        obtain ⟨e1, hq2⟩ := Bool.and_eq_true_iff.1 hq'
        obtain ⟨e2, e3⟩ := Bool.and_eq_true_iff.1 hq2
        clear hq' hq2
        replace e1 : x.f0 = 4 := by simpa using e1
        replace e2 : x.f1.toList = [61] := by simpa using e2
        have hl2 : x.f5.length = 2 := by simpa using e3
        clear e3
        have HQ := Aside0.mk hq
        clear hq
        obtain ⟨ad2, A8, c8, hA2, a0, a1, a2, a3, a4, a5, a6, a7, hl8, hC8⟩ := at36 HC7.out (below_then HW0.out HW0.out.size HB.out) 0 (by omega) (by omega)
        obtain ⟨ad2', A9, c9, hA2', b0, b1, b2, b3, b4, b5, b6, b7, hl9, hC9⟩ := at36 HC7.out (below_then HW0.out HW0.out.size HB.out) 1 (by omega) (by omega)
        rw [hA2] at hA2'
        obtain rfl := Option.some.inj hA2'
        clear hA2'
        subst hA2
        have HR := Aside0.mk (And.intro hl8 (And.intro hC8 (And.intro hl9 hC9)))
        have e3 := hl2
        clear hl8 hC8 hl9 hC9 hl2
        obtain ⟨ya, hya⟩ : ∃ y, y = rd_T38 x.f5 0 := ⟨_, rfl⟩
        obtain ⟨yb, hyb⟩ : ∃ y, y = rd_T38 x.f5 1 := ⟨_, rfl⟩
        rw [← hya] at a0 a1 a2 a3 a4 a5 a6 a7 HR
        rw [← hyb] at b0 b1 b2 b3 b4 b5 b6 b7 HR
        have HY := Aside0.mk (And.intro hya hyb)
        clear hya hyb
        simp only [Int.toNat_zero, Int.toNat_one, Nat.zero_mul, Nat.one_mul] at a0 a1 a2 a3 a4 a5 a6 a7 b0 b1 b2 b3 b4 b5 b6 b7
        have ea : ad2.add 0 = ad2 := by simp [Addr.add]
        have eb : ad2.add 8 = ⟨ad2.block, ad2.off + 8, none⟩ := by simp [Addr.add]
        rw [ea] at a0 a1 a2 a3 a4 a5 a6 a7
        rw [eb] at b0 b1 b2 b3 b4 b5 b6 b7
        clear ea eb
        have hbl := Aside0.mk (cell_lt a0)
        have hone : eqOne slot first x = if (isSlotP ya slot && lowP yb first) = true then some yb else if (isSlotP yb slot && lowP ya first) = true then some ya else none := by
          unfold eqOne; rw [if_pos HQ.out, ← HY.out.1, ← HY.out.2]
        have hca : cnt ya ≤ 100000000000 := by
          have := cnt_mem (show ya ∈ x.f5 by rw [HY.out.1]; exact rd36_mem x.f5 0 (by omega)); have := HM.out; omega
        have hcb : cnt yb ≤ 100000000000 := by
          have := cnt_mem (show yb ∈ x.f5 by rw [HY.out.2]; exact rd36_mem x.f5 1 (by omega)); have := HM.out; omega
        have KBa := fun (V : World) (hV : Below wr.heap.size wr V) => low_walk ya A8 c8 first V (by omega) HR.out.1 (Kd.C_below HR.out.2.1 (below_then HW0.out HW0.out.size (below_then HB.out HB.out.size hV)))
        have KBb := fun (V : World) (hV : Below wr.heap.size wr V) => low_walk yb A9 c9 first V (by omega) HR.out.2.2.1 (Kd.C_below HR.out.2.2.2 (below_then HW0.out HW0.out.size (below_then HB.out HB.out.size hV)))
        have HBa := Aside0.mk KBa
        have HBb := Aside0.mk KBb
        have HO := Aside0.mk hone
        have HAA := Aside0.mk (And.intro a0 (And.intro a1 (And.intro a2 (And.intro a3 (And.intro a4 (And.intro a5 (And.intro a6 a7)))))))
        have HBB := Aside0.mk (And.intro b0 (And.intro b1 (And.intro b2 (And.intro b3 (And.intro b4 (And.intro b5 (And.intro b6 b7)))))))
        clear KBa KBb hone hca hcb a0 a1 a2 a3 a4 a5 a6 a7 b0 b1 b2 b3 b4 b5 b6 b7
        obtain ⟨W1, hW1⟩ : ∃ W, W = wr := ⟨_, rfl⟩
        subst hW1
        go_wp2_with fail
        have hbx := blk_new W1 (.cells #[.int .i64 4, .string x.f1, .int .u8 x.f2.f0, .int .i64 x.f2.f1, .string x.f2.f2, .int .i64 x.f3, .int .u8 x.f4, .slice (some ad2) 2 c7] 38)
        have HW1' := Aside0.mk (below_alloc (Below.refl W1.heap.size W1) (.cells #[.int .i64 4, .string x.f1, .int .u8 x.f2.f0, .int .i64 x.f2.f1, .string x.f2.f2, .int .i64 x.f3, .int .u8 x.f4, .slice (some ad2) 2 c7] 38))
        have HBXX := Aside0.mk hbx
        clear hbx h0 h1 h2 h3 h4 h5 h6 h7
        go_loopg [10] 3 (fun gg s10 wq => ∃ jj : Nat, jj ≤ 2 ∧ 3 - jj ≤ gg ∧ s10 = .int .i64 jj ∧ Aside0 (Below W1.heap.size W1 wq) ∧ Aside0 (wq.heap[W1.heap.size]? = some (.cells #[.int .i64 4, .string x.f1, .int .u8 x.f2.f0, .int .i64 x.f2.f1, .string x.f2.f2, .int .i64 x.f3, .int .u8 x.f4, .slice (some ad2) 2 c7] 38 (0, 0))) ∧ Aside0 (0 < jj → (isSlotP ya slot && lowP yb first) = false) ∧ Aside0 (1 < jj → (isSlotP yb slot && lowP ya first) = false))
        case atStart => exact ⟨0, by omega, by omega, rfl, HW1', HBXX, ⟨fun h => absurd h (by omega)⟩, ⟨fun h => absurd h (by omega)⟩⟩
        case round =>
          obtain ⟨jj, hjj, hg, rfl, HQ1, HBX, H0, H1⟩ := hrel
          obtain ⟨x0, x1, x2, x3, x4, x5, x6, x7⟩ := cells8 HBX.out
          have a0 := bcell HQ1.out HAA.out.1
          have a1 := bcell HQ1.out HAA.out.2.1
          have a2 := bcell HQ1.out HAA.out.2.2.1
          have a3 := bcell HQ1.out HAA.out.2.2.2.1
          have a4 := bcell HQ1.out HAA.out.2.2.2.2.1
          have a5 := bcell HQ1.out HAA.out.2.2.2.2.2.1
          have a6 := bcell HQ1.out HAA.out.2.2.2.2.2.2.1
          have a7 := bcell HQ1.out HAA.out.2.2.2.2.2.2.2
          have b0 := bcell HQ1.out HBB.out.1
          have b1 := bcell HQ1.out HBB.out.2.1
          have b2 := bcell HQ1.out HBB.out.2.2.1
          have b3 := bcell HQ1.out HBB.out.2.2.2.1
          have b4 := bcell HQ1.out HBB.out.2.2.2.2.1
          have b5 := bcell HQ1.out HBB.out.2.2.2.2.2.1
          have b6 := bcell HQ1.out HBB.out.2.2.2.2.2.2.1
          have b7 := bcell HQ1.out HBB.out.2.2.2.2.2.2.2
          have hbl0 := cell_lt a0
          have hbl1 : ad2.block < wr.heap.size + 1 := by omega
          have hgl0 := blk_lt HBX.out
          have hgl1 : W1.heap.size < wr.heap.size + 1 := by omega
          match jj, hjj with
          | 0, _ =>
            obtain ⟨s1, hs1⟩ : ∃ s, isSlotP ya slot = s := ⟨_, rfl⟩
            obtain ⟨t2, ht2⟩ : ∃ s, lowP yb first = s := ⟨_, rfl⟩
            have HS := Aside0.mk (And.intro hs1 ht2)
            have HLW0 := HBb.out
            simp only [ht2] at HLW0
            have HLW := Aside0.mk HLW0
            clear HLW0
            have hk0 : (s1 = true → ya.f0 = 2 ∧ ya.f3 = slot) ∧ (s1 = false → ¬ ya.f0 = 2 ∨ ya.f0 = 2 ∧ ¬ ya.f3 = slot) := by
              rw [← hs1]; unfold isSlotP
              by_cases u : ya.f0 = 2
              · by_cases v : ya.f3 = slot
                · simp [u, v]
                · simp [u, v]
              · simp [u]
            have HK0 := Aside0.mk hk0
            clear hs1 ht2 hk0
            go_wp2_with fail
            go_region
            all_goals
              clear a0 a1 a2 a3 a4 a5 a6 a7 b0 b1 b2 b3 b4 b5 b6 b7 x0 x1 x2 x3 x4 x5 x6 x7 hbl0 hbl1 hgl0 hgl1
              cases s1 with
              | false =>
                have H0n : Aside0 ((isSlotP ya slot && lowP yb first) = false) := ⟨by rw [HS.out.1]; rfl⟩
                rcases HK0.out.2 rfl with u1 | ⟨u1, u2⟩
                · go_wp2_with fail
                  go_roundg (3 - (0 + 1))
                  case measure => omega
                  case rel => exact ⟨1, by omega, by omega, by go_num, ⟨below_drew1 (below_alloc (below_alloc HQ1.out _) _)⟩, ⟨blk_drew (blk_alloc (blk_alloc HBX.out _) _)⟩, ⟨fun _ => H0n.out⟩, ⟨fun h => absurd h (by omega)⟩⟩
                · go_wp2_with fail
                  go_roundg (3 - (0 + 1))
                  case measure => omega
                  case rel => exact ⟨1, by omega, by omega, by go_num, ⟨below_drew1 (below_alloc (below_alloc HQ1.out _) _)⟩, ⟨blk_drew (blk_alloc (blk_alloc HBX.out _) _)⟩, ⟨fun _ => H0n.out⟩, ⟨fun h => absurd h (by omega)⟩⟩
              | true =>
                obtain ⟨u1, u2⟩ := HK0.out.1 rfl
                have HLK := Aside0.mk HLW.out
                clear HLW
                go_wp2_with fail
                refine (HLK.out _ (below_drew1 (below_alloc (below_alloc HQ1.out _) _))).mono ?_
                rintro e V ⟨rfl, hb⟩
                obtain ⟨q2, q3, qb⟩ := two_blk2 hb
                obtain ⟨a0, a1, a2, a3, a4, a5, a6, a7⟩ := cells8 q2
                obtain ⟨b0, b1, b2, b3, b4, b5, b6, b7⟩ := cells8 q3
                have HVB := Aside0.mk qb
                clear hb q2 q3 qb
                cases t2 with
                | false =>
                  have H0n : Aside0 ((isSlotP ya slot && lowP yb first) = false) := ⟨by rw [HS.out.1, HS.out.2]; rfl⟩
                  go_wp2_with fail
                  go_roundg (3 - (0 + 1))
                  case measure => omega
                  case rel => exact ⟨1, by omega, by omega, by go_num, ⟨below_then HQ1.out HQ1.out.size HVB.out⟩, ⟨blk_below HBX.out HVB.out⟩, ⟨fun _ => H0n.out⟩, ⟨fun h => absurd h (by omega)⟩⟩
                | true =>
                  have hbk := blk_below HBK.out (below_then HQ1.out HQ1.out.size HVB.out)
                  obtain ⟨z0, z1, z2, z3, z4, z5, z6, z7⟩ := cells8 hbk
                  have zf := fz36 hbk
                  have HZ := Aside0.mk hbk
                  clear hbk
                  go_wp2_with fail
                  try simp only [Exit.noGoto_ret]
                  refine bodyPost_ret (results_ct rfl _ _ w.heap.size 38 #[.int .i64 yb.f0, .string yb.f1, .int .u8 yb.f2.f0, .int .i64 yb.f2.f1, .string yb.f2.f2, .int .i64 yb.f3, .int .u8 yb.f4, .slice A9 yb.f5.length c9] (0, 0) _ rfl (put8 HZ.out _ _ _ _ _ _ _ _) Try.underlying38 rfl (by kernel_rfl)) rfl ?_
                  have heq : equalP L slot first = some yb := by
                    unfold equalP
                    rw [← List.take_append_drop (kk + 1) L, List.findSome?_append, HT.out, HA.out, HO.out, HS.out.1, HS.out.2]
                    rfl
                  have hbw := below_then HB.out HB.out.size (below_then HQ1.out HQ1.out.size HVB.out)
                  refine ⟨yb, A9, c9, by rw [heq]; rfl, by rw [heq]; rfl, HR.out.2.2.1, HR.out.2.2.2, set8 hbw (Nat.le_refl _) _ _ _ _ _ _ _ _⟩
          | 1, _ =>
            obtain ⟨s1, hs1⟩ : ∃ s, isSlotP yb slot = s := ⟨_, rfl⟩
            obtain ⟨t2, ht2⟩ : ∃ s, lowP ya first = s := ⟨_, rfl⟩
            have HS := Aside0.mk (And.intro hs1 ht2)
            have HLW0 := HBa.out
            simp only [ht2] at HLW0
            have HLW := Aside0.mk HLW0
            clear HLW0
            have hk0 : (s1 = true → yb.f0 = 2 ∧ yb.f3 = slot) ∧ (s1 = false → ¬ yb.f0 = 2 ∨ yb.f0 = 2 ∧ ¬ yb.f3 = slot) := by
              rw [← hs1]; unfold isSlotP
              by_cases u : yb.f0 = 2
              · by_cases v : yb.f3 = slot
                · simp [u, v]
                · simp [u, v]
              · simp [u]
            have HK0 := Aside0.mk hk0
            clear hs1 ht2 hk0
            go_wp2_with fail
            go_region
            all_goals
              clear a0 a1 a2 a3 a4 a5 a6 a7 b0 b1 b2 b3 b4 b5 b6 b7 x0 x1 x2 x3 x4 x5 x6 x7 hbl0 hbl1 hgl0 hgl1
              cases s1 with
              | false =>
                have H0n : Aside0 ((isSlotP yb slot && lowP ya first) = false) := ⟨by rw [HS.out.1]; rfl⟩
                rcases HK0.out.2 rfl with u1 | ⟨u1, u2⟩
                · go_wp2_with fail
                  go_roundg (3 - (1 + 1))
                  case measure => omega
                  case rel => exact ⟨2, by omega, by omega, by go_num, ⟨below_drew1 (below_alloc (below_alloc HQ1.out _) _)⟩, ⟨blk_drew (blk_alloc (blk_alloc HBX.out _) _)⟩, ⟨fun _ => H0.out (by omega)⟩, ⟨fun _ => H0n.out⟩⟩
                · go_wp2_with fail
                  go_roundg (3 - (1 + 1))
                  case measure => omega
                  case rel => exact ⟨2, by omega, by omega, by go_num, ⟨below_drew1 (below_alloc (below_alloc HQ1.out _) _)⟩, ⟨blk_drew (blk_alloc (blk_alloc HBX.out _) _)⟩, ⟨fun _ => H0.out (by omega)⟩, ⟨fun _ => H0n.out⟩⟩
              | true =>
                obtain ⟨u1, u2⟩ := HK0.out.1 rfl
                have HLK := Aside0.mk HLW.out
                clear HLW
                go_wp2_with fail
                refine (HLK.out _ (below_drew1 (below_alloc (below_alloc HQ1.out _) _))).mono ?_
                rintro e V ⟨rfl, hb⟩
                obtain ⟨q2, q3, qb⟩ := two_blk2 hb
                obtain ⟨a0, a1, a2, a3, a4, a5, a6, a7⟩ := cells8 q2
                obtain ⟨b0, b1, b2, b3, b4, b5, b6, b7⟩ := cells8 q3
                have HVB := Aside0.mk qb
                clear hb q2 q3 qb
                cases t2 with
                | false =>
                  have H0n : Aside0 ((isSlotP yb slot && lowP ya first) = false) := ⟨by rw [HS.out.1, HS.out.2]; rfl⟩
                  go_wp2_with fail
                  go_roundg (3 - (1 + 1))
                  case measure => omega
                  case rel => exact ⟨2, by omega, by omega, by go_num, ⟨below_then HQ1.out HQ1.out.size HVB.out⟩, ⟨blk_below HBX.out HVB.out⟩, ⟨fun _ => H0.out (by omega)⟩, ⟨fun _ => H0n.out⟩⟩
                | true =>
                  have hbk := blk_below HBK.out (below_then HQ1.out HQ1.out.size HVB.out)
                  obtain ⟨z0, z1, z2, z3, z4, z5, z6, z7⟩ := cells8 hbk
                  have zf := fz36 hbk
                  have HZ := Aside0.mk hbk
                  clear hbk
                  go_wp2_with fail
                  try simp only [Exit.noGoto_ret]
                  refine bodyPost_ret (results_ct rfl _ _ w.heap.size 38 #[.int .i64 ya.f0, .string ya.f1, .int .u8 ya.f2.f0, .int .i64 ya.f2.f1, .string ya.f2.f2, .int .i64 ya.f3, .int .u8 ya.f4, .slice A8 ya.f5.length c8] (0, 0) _ rfl (put8 HZ.out _ _ _ _ _ _ _ _) Try.underlying38 rfl (by kernel_rfl)) rfl ?_
                  have heq : equalP L slot first = some ya := by
                    unfold equalP
                    rw [← List.take_append_drop (kk + 1) L, List.findSome?_append, HT.out, HA.out, HO.out, H0.out (by omega), HS.out.1, HS.out.2]
                    rfl
                  have hbw := below_then HB.out HB.out.size (below_then HQ1.out HQ1.out.size HVB.out)
                  refine ⟨ya, A8, c8, by rw [heq]; rfl, by rw [heq]; rfl, HR.out.1, HR.out.2.1, set8 hbw (Nat.le_refl _) _ _ _ _ _ _ _ _⟩
          | 2, _ =>
            have hnone : Aside0 (eqOne slot first x = none) := ⟨by rw [HO.out, H0.out (by omega), H1.out (by omega)]; rfl⟩
            clear a0 a1 a2 a3 a4 a5 a6 a7 b0 b1 b2 b3 b4 b5 b6 b7 x0 x1 x2 x3 x4 x5 x6 x7 hbl0 hbl1 hgl0 hgl1
            go_wp2_with fail
            go_roundg (L.length - (kk + 1))
            case measure => have := HG.out; have := HL.out; omega
            case rel => exact ⟨kk + 1, HL.out, by omega, by go_num, ⟨below_then HB.out HB.out.size HQ1.out⟩, ⟨blk_below HBK.out HQ1.out⟩, ⟨by rw [HT.out, HA.out, hnone.out]; rfl⟩⟩
      · have hone : eqOne slot first x = none := by unfold eqOne; rw [if_neg hq]
        have HO := Aside0.mk hone
        clear hone
        have hcase : ¬ x.f0 = 4 ∨ x.f0 = 4 ∧ ¬ x.f1.toList = [61] ∨ x.f0 = 4 ∧ x.f1.toList = [61] ∧ ¬ x.f5.length = 2 := by
          unfold isEq at hq
          by_cases h1 : x.f0 = 4
          · by_cases h2 : x.f1.toList = [61]
            · refine .inr (.inr ⟨h1, h2, fun h3 => hq ?_⟩)
              rw [h1, h2, h3]; rfl
            · exact .inr (.inl ⟨h1, h2⟩)
          · exact .inl h1
        clear hq
        rcases hcase with e1 | ⟨e1, e2⟩ | ⟨e1, e2, e3⟩
        all_goals
          go_wp2_with fail
          go_roundg (L.length - (kk + 1))
          case measure => have := HG.out; have := HL.out; omega
          case rel => exact ⟨kk + 1, HL.out, by omega, by go_num, ⟨below_alloc HB.out _⟩, ⟨blk_alloc HBK.out _⟩, ⟨by rw [HT.out, HA.out, HO.out]; rfl⟩⟩
    · have hltz : ¬ (kk : Int) < (L.length : Int) := by omega
      have : kk = L.length := by omega
      subst this
      obtain ⟨c0, c1, c2, c3, c4, c5, c6, c7⟩ := cells8 HBK.out
      have z0 := fz36 HBK.out
      go_wp2
      refine bodyPost_ret (results_ct rfl _ _ w.heap.size 38 Z8 (0, 0) _ rfl (put8 HBK.out _ _ _ _ _ _ _ _) Try.underlying38 rfl (by kernel_rfl)) rfl ?_
      have heq : equalP L slot first = none := by
        unfold equalP
        have := HA.out
        rwa [List.take_length] at this
      exact ⟨z38, none, 0, by rw [heq]; rfl, by rw [heq]; rfl, Nat.le_refl _, Kd.C_nil _ _, set8 HB.out (Nat.le_refl _) _ _ _ _ _ _ _ _⟩
end Go.Proofs.Ytepjcgcobaaphaa.Rf
