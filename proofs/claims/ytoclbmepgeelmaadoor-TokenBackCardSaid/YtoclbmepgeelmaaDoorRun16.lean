import Derived.Test.YtoclbmepgeelmaaDoorBk6
namespace Go.Proofs.YtoclbmepgeelmaaDoor.Utf
set_option linter.unusedVariables false
set_option linter.unusedSimpArgs false
open Go.RowKit Go.Lib Go.Proofs.YtoclbmepgeelmaaDoorW.PrintWords Go.Proofs.YtoclbmepgeelmaaDoorW.PrintLast Go.Proofs.YtoclbmepgeelmaaDoorW.PrintMore Go.Proofs.YtoclbmepgeelmaaDoor.PRe

theorem write_same {L M : List S53} (hM : M.map strip = L.map strip) (hF : ∀ t ∈ L, Fit1 5000 t) (hL : L.length ≤ 5000) (A : Option Addr) (c : Nat) (w : World) (hc : M.length ≤ c) (hC : Kd.C k53 w A M.length M) (hT : Tabs5 w) :
    Calls Tryd.prog 53 #[.slice A M.length c] w fun e w' => e = .returned (.string (writeS L)) ∧ Below w.heap.size w w' := by
  have hl : M.length = L.length := by have := congrArg List.length hM; simpa using this
  rw [← write_of_strip hM]
  refine write_walk M A c w (fun t ht => ?_) (by omega) hc hC hT
  have : strip t ∈ L.map strip := by rw [← hM]; exact List.mem_map.2 ⟨t, ht, rfl⟩
  obtain ⟨u, hu, e⟩ := List.mem_map.1 this
  have h1 := hF u hu
  simp only [strip, Prod.mk.injEq] at e
  obtain ⟨_, e2, e3⟩ := e
  unfold Fit1 at h1
  rw [e2, e3] at h1
  exact ⟨⟨by omega, h1.2.1⟩, h1.2.2⟩

theorem writeS_sizeB (L : List S53) (hF : ∀ t ∈ L, FitT t) (hL : L.length ≤ 5000) : (writeS L).size ≤ 100155000 := by
  have := join_le 20030 ((textsL L).map (·.data.toList)) (by
    intro x hx
    obtain ⟨y, hy, rfl⟩ := List.mem_map.1 hx
    unfold textsL at hy
    obtain ⟨t, ht, rfl⟩ := List.mem_map.1 hy
    obtain ⟨⟨f0, f1⟩, f2⟩ := hF t (List.mem_filter.1 ht).1
    have := textZ_size t.f0 t.f2 t.f3 f0 f1
    rw [data_length]; omega)
  rw [List.length_map] at this
  have hxl := textsL_length L
  have h2 : 20031 * (textsL L).length ≤ 20031 * 5000 := Nat.mul_le_mul_left _ (by omega)
  show (writeL L).toArray.size ≤ _
  rw [List.size_toArray]
  unfold writeL
  omega

set_option maxHeartbeats 1200000 in
set_option maxRecDepth 100000 in
theorem read_long (s : ByteArray) (w : World) (h4 : 4096 < s.size) :
    Calls Tryd.prog 28 #[.string s] w fun e w' => ∃ (A : Option Addr) (q : Nat), e = .returned (.tuple #[.slice A 0 q, .agg #[.int .i64 0, .int .i64 2]]) ∧ Below w.heap.size w w' := by
  have d4 := decide_eq_true (p := (4096 : Int) < (s.size : Int)) (by omega)
  go_enter Tryd.func28, Tryd.ntmps28
  go_wp2_with ((with_reducible refine gate_dst (N := 3) rfl ?_); refine box_event ?hg (N := 3) ?hd (cs := #[.int .i64 0, .int .i64 0]) (t := 45) ?hr ?_; (case hd => rfl); (case hg => rfl); (case hr => first | (go_simp; done) | (go_simp; rfl)); intro gb hg w5 hbox hb; have HB := Aside0.mk hb; have BK := Aside0.mk hbox; have GE := Aside0.mk (show w.heap.size ≤ gb by rw [hg]; exact Nat.le_refl _); clear hb hbox hg; have hcz0 : w5.cell? ⟨gb, 0, none⟩ = some (.int .i64 0) := (blk_cell BK.out 0).trans rfl; have hcz1 : w5.cell? ⟨gb, 1, none⟩ = some (.int .i64 0) := (blk_cell BK.out 1).trans rfl; have hfz0 := blk_frozen BK.out 0; have hfz1 := blk_frozen BK.out 1)
  refine bodyPost_ret (results_tc rfl _ _ gb 45 #[.int .i64 0, .int .i64 2] (0, 0) _ rfl (by refine blk_put (cs := #[.int .i64 0, .int .i64 0]) ?_ 1 _ rfl; refine blk_put (cs := #[.int .i64 0, .int .i64 0]) ?_ 0 _ rfl; exact BK.out) Tryd.underlying45 rfl (by kernel_rfl)) rfl ?_
  exact ⟨none, 0, rfl, by repeat (first | (with_reducible first | exact HB.out | apply below_alloc | apply pw_below_drewN | apply below_drew1 | refine below_set ?_ GE.out) | exact HB.out)⟩

set_option maxHeartbeats 4000000 in
set_option maxRecDepth 100000 in
theorem tokenBack_walk (s : ByteArray) (w : World) (hT : Tabs5 w) :
    Calls Tryd.prog 16 #[.string s] w fun e w' => e = .returned (.bool true) ∧ Below w.heap.size w w' := by
  have fin : ∀ W : World, Below w.heap.size w W → Calls Tryd.prog 27 #[] W fun e w' => e = .returned (.bool true) ∧ Below W.heap.size W w' := fun W h => alive19 W (Tabs5.toT hT |>.below h)
  have FIN := Aside0.mk fin
  have HT := Aside0.mk hT
  clear fin hT
  by_cases h1 : 1000 < s.size
  · have d1 := decide_eq_true (p := (1000 : Int) < (s.size : Int)) (by omega)
    go_enter Tryd.func16, Tryd.ntmps16
    go_wp2_with fail
    refine (FIN.out _ (Below.refl _ _)).mono ?_
    rintro e w1 ⟨rfl, hb⟩
    go_wp2_with fail
    go_ret
    exact ⟨rfl, hb⟩
  have d1 := decide_eq_false (p := (1000 : Int) < (s.size : Int)) (by omega)
  have hsh := readT_shape s (by omega)
  have hfit := readT_fit s
  have hbk := back_law s
  have hll := readT_lenP s
  rcases hR : readT s with ⟨L, p, c⟩
  rw [hR] at hsh hfit hbk hll
  simp only at hsh hfit hbk hll
  have K1 := Aside0.mk (fun W h => read_at s L p c hR (by omega) W h)
  clear hR
  by_cases hc0 : c = 0
  · subst hc0
    have HF := Aside0.mk (show ∀ t ∈ L, Fit1 5000 t from fun t ht => by have := hfit t ht; exact ⟨this.1, this.2.1, by have := this.2.2; omega⟩)
    have hL5 : L.length ≤ 5000 := by omega
    have KW := Aside0.mk (fun (M : List S53) (hM : M.map strip = L.map strip) => write_same (L := L) hM HF.out hL5)
    have hsz : (writeS L).size ≤ 100155000 := writeS_sizeB L (fun t ht => by have := HF.out t ht; exact ⟨⟨by have := this.1; omega, this.2.1⟩, this.2.2⟩) hL5
    by_cases h4 : 4096 < (writeS L).size
    · have bc : ((0 : Int) != 0) = false := by decide
      have K2 := Aside0.mk (fun W => read_long (writeS L) W h4)
      have K3 := Aside0.mk (KW.out L rfl)
      clear hfit hbk hll KW
      have d4 := decide_eq_true (p := (4096 : Int) < ((writeS L).size : Int)) (by omega)
      obtain ⟨S, hS⟩ : ∃ S, writeS L = S := ⟨_, rfl⟩
      rw [hS] at K2 K3 d4 h4 hsz
      clear hS
      go_enter Tryd.func16, Tryd.ntmps16
      go_wp2_with fail
      refine (K1.out _ (Tabs5.toT HT.out)).mono ?_
      rintro e w1 ⟨A1, q1, rfl, hq1, hC1, hb⟩
      have HB := Aside0.mk (below_alloc hb (.cells #[.int .i64 p, .int .i64 0] 45 (0, 0)))
      have HC1 := Aside0.mk (Kd.C_below hC1 (below_alloc (Below.refl _ _) (.cells #[.int .i64 p, .int .i64 0] 45 (0, 0))))
      clear hb hC1
      go_wp2_with fail
      refine (K3.out A1 q1 _ hq1 HC1.out (HT.out.below HB.out)).mono ?_
      rintro e w2 ⟨rfl, hb⟩
      have HB2 := Aside0.mk (below_step HB.out hb)
      clear hb HB HC1
      go_wp2_with fail
      refine (K2.out _).mono ?_
      rintro e w3 ⟨A2, q2, rfl, hb⟩
      have HB3 := Aside0.mk (below_alloc (below_step HB2.out hb) (.cells #[.int .i64 0, .int .i64 2] 45 (0, 0)))
      clear hb HB2
      go_wp2_with fail
      refine (FIN.out _ HB3.out).mono ?_
      rintro e w4 ⟨rfl, hb⟩
      have HB4 := Aside0.mk (below_step HB3.out hb)
      clear hb
      go_wp2_with fail
      go_ret
      exact ⟨rfl, HB4.out⟩
    · obtain ⟨g1, g2⟩ := hbk rfl (by omega)
      rcases hR2 : readT (writeS L) with ⟨M, p2, c2⟩
      rw [hR2] at g1 g2
      simp only at g1 g2
      subst g1
      have hML : M.length = L.length := by have := congrArg List.length g2; simpa using this
      have K2 := Aside0.mk (fun W h => read_at (writeS L) M p2 0 hR2 (by omega) W h)
      have K3 := Aside0.mk (KW.out L rfl)
      have K4 := Aside0.mk (KW.out M g2)
      have HS := Aside0.mk (same_of_strip g2)
      clear hfit hbk hll KW hR2 g2 hsh
      have d4 := decide_eq_false (p := (4096 : Int) < ((writeS L).size : Int)) (by omega)
      have bw : ((writeS L).toList == (writeS L).toList) = true := by simp
      obtain ⟨S, hS⟩ : ∃ S, writeS L = S := ⟨_, rfl⟩
      rw [hS] at K2 K3 K4 d4 h4 hsz bw
      clear hS
      have bc : ((0 : Int) != 0) = false := by decide
      have bc2 : ((0 : Int) == 0) = true := by decide
      go_enter Tryd.func16, Tryd.ntmps16
      go_wp2_with fail
      refine (K1.out _ (Tabs5.toT HT.out)).mono ?_
      rintro e w1 ⟨A1, q1, rfl, hq1, hC1, hb⟩
      have HB := Aside0.mk (below_alloc hb (.cells #[.int .i64 p, .int .i64 0] 45 (0, 0)))
      have HC1 := Aside0.mk (Kd.C_below hC1 (below_alloc (Below.refl _ _) (.cells #[.int .i64 p, .int .i64 0] 45 (0, 0))))
      clear hb hC1
      go_wp2_with fail
      refine (K3.out A1 q1 _ hq1 HC1.out (HT.out.below HB.out)).mono ?_
      rintro e w2 ⟨rfl, hb⟩
      have HB2 := Aside0.mk (below_step HB.out hb)
      have HC2 := Aside0.mk (Kd.C_below HC1.out hb)
      clear hb HB HC1
      go_wp2_with fail
      refine (K2.out _ (Tabs5.toT (HT.out.below HB2.out))).mono ?_
      rintro e w3 ⟨A2, q2, rfl, hq2, hD, hb⟩
      have BK := Aside0.mk (blk_new w3 (.cells #[.int .i64 p2, .int .i64 0] 45 (0, 0)))
      have HC3 := Aside0.mk (Kd.C_below HC2.out (below_alloc hb (.cells #[.int .i64 p2, .int .i64 0] 45 (0, 0))))
      have HD := Aside0.mk (Kd.C_below hD (below_alloc (Below.refl _ _) (.cells #[.int .i64 p2, .int .i64 0] 45 (0, 0))))
      have HB3 := Aside0.mk (below_alloc (below_step HB2.out hb) (.cells #[.int .i64 p2, .int .i64 0] 45 (0, 0)))
      clear hb hD HB2 HC2
      go_wp2_with fail
      refine (FIN.out _ HB3.out).mono ?_
      rintro e w4 ⟨rfl, hb⟩
      have HB4 := Aside0.mk (below_step HB3.out hb)
      have HC4 := Aside0.mk (Kd.C_below HC3.out hb)
      have HD4 := Aside0.mk (Kd.C_below HD.out hb)
      have BK4 := Aside0.mk (blk_below BK.out hb)
      clear hb HB3 HC3 HD BK
      have f1 := (blk_cell BK4.out 1).trans (show _ = some (.int .i64 0) from rfl)
      go_wp2_with fail
      have HDL := Aside0.mk (show Kd.C k53 w4 A2 L.length M from hML ▸ HD4.out)
      have hq2' : L.length ≤ q2 := by omega
      refine (tsame_walk L M HS.out (by omega) A1 q1 A2 q2 _ HC4.out hq1 HDL.out hq2').mono ?_
      rintro e w5 ⟨rfl, hb⟩
      have HB5 := Aside0.mk (below_step HB4.out hb)
      have HD5 := Aside0.mk (Kd.C_below HD4.out hb)
      clear hb
      go_wp2_with fail
      have K5 := K4.out A2 q2 w5 (by omega) HD5.out (HT.out.below HB5.out)
      rw [hML] at K5
      refine K5.mono ?_
      clear K5
      rintro e w6 ⟨rfl, hb⟩
      have HB6 := Aside0.mk (below_step HB5.out hb)
      clear hb
      go_wp2_with fail
      go_ret
      exact ⟨by first | rfl | simp, HB6.out⟩
  · rcases hsh with ⟨h, _⟩ | ⟨_, hL⟩
    · exact absurd h hc0
    obtain ⟨rfl, _⟩ := hL
    have bc : (c != 0) = true := by simpa using hc0
    clear hfit hbk hll
    go_enter Tryd.func16, Tryd.ntmps16
    go_wp2_with fail
    refine (K1.out _ (Tabs5.toT HT.out)).mono ?_
    rintro e w1 ⟨A1, q1, rfl, hq1, hC1, hb⟩
    have HB := Aside0.mk (below_alloc hb (.cells #[.int .i64 p, .int .i64 c] 45 (0, 0)))
    clear hb hC1
    go_wp2_with fail
    refine (FIN.out _ HB.out).mono ?_
    rintro e w2 ⟨rfl, hb⟩
    have HB2 := Aside0.mk (below_step HB.out hb)
    clear hb
    go_wp2_with fail
    go_ret
    exact ⟨rfl, HB2.out⟩
end Go.Proofs.YtoclbmepgeelmaaDoor.Utf
