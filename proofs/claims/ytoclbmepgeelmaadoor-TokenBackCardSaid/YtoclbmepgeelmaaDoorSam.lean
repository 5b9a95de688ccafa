import Derived.Test.YtoclbmepgeelmaaDoorTk2
namespace Go.Proofs.YtoclbmepgeelmaaDoor.Utf
set_option linter.unusedVariables false
set_option linter.unusedSimpArgs false
open Go.RowKit Go.Lib Go.Proofs.YtoclbmepgeelmaaDoorW.PrintWords Go.Proofs.YtoclbmepgeelmaaDoorW.PrintLast Go.Proofs.YtoclbmepgeelmaaDoorW.PrintMore Go.Proofs.YtoclbmepgeelmaaDoor.PRe

/-- Tokens equal but for their places. -/
def SameBut (L M : List S53) : Prop := M.length = L.length ∧ ∀ i : Int, 0 ≤ i → i < L.length → (rd_T53 M i).f0 = (rd_T53 L i).f0 ∧ (rd_T53 M i).f2 = (rd_T53 L i).f2 ∧ (rd_T53 M i).f3 = (rd_T53 L i).f3

set_option maxHeartbeats 1000000 in
set_option maxRecDepth 100000 in
theorem tsame_walk (L M : List S53) (hS : SameBut L M) (hL : L.length ≤ 100000) (A0 : Option Addr) (c0 : Nat) (A1 : Option Addr) (c1 : Nat) (w : World) (h0 : Kd.C k53 w A0 L.length L) (hc0 : L.length ≤ c0) (h1 : Kd.C k53 w A1 L.length M) (hc1 : L.length ≤ c1) :
    Calls Tryd.prog 31 #[.slice A0 L.length c0, .slice A1 L.length c1] w fun e w' => e = .returned (.bool true) ∧ Below w.heap.size w w' := by
  have H0 := Aside0.mk h0
  have H1 := Aside0.mk h1
  have HS := Aside0.mk hS.2
  have bl : ((L.length : Int) != (L.length : Int)) = false := by simp
  clear h0 h1 hS
  go_enter Tryd.func31, Tryd.ntmps31
  go_wp2_with fail
  go_loopg [14] (L.length + 1) (fun gk v14 wx => ∃ i : Int, v14 = .int .i64 i ∧ Aside0 (Below w.heap.size w wx) ∧ 0 ≤ i ∧ i ≤ L.length ∧ L.length - i.toNat < gk)
  case atStart => exact ⟨0, by go_num, ⟨Below.refl _ _⟩, by omega, by omega, by omega⟩
  case round =>
    obtain ⟨i, rfl, HB, hi0, hi1, hg⟩ := hrel
    cases gk with
    | zero => omega
    | succ kk =>
      by_cases ci : i < (L.length : Int)
      · have di := decide_eq_true (p := i < (L.length : Int)) ci
        obtain ⟨g0, g2, g3⟩ := HS.out i hi0 ci
        have hbA := fun o => Kd.C_below H0.out (below_alloc HB.out o)
        have hbM := fun o => Kd.C_below H1.out (below_alloc HB.out o)
        obtain ⟨ad0, e0, x0, x1, x2, x3⟩ := at_T53 (Kd.C_below H0.out HB.out) i (by omega) (by omega)
        subst e0
        obtain ⟨ad1, e1, y0, y1, y2, y3⟩ := at_T53 (Kd.C_below H1.out HB.out) i (by omega) (by omega)
        subst e1
        rw [g0] at y0
        rw [g2] at y2
        rw [g3] at y3
        obtain ⟨k, hk⟩ : ∃ k, (rd_T53 L i).f0 = k := ⟨_, rfl⟩
        obtain ⟨p, hp⟩ : ∃ p, (rd_T53 L i).f1 = p := ⟨_, rfl⟩
        obtain ⟨t, ht⟩ : ∃ t, (rd_T53 L i).f2 = t := ⟨_, rfl⟩
        obtain ⟨v, hv⟩ : ∃ v, (rd_T53 L i).f3 = v := ⟨_, rfl⟩
        obtain ⟨q, hq⟩ : ∃ q, (rd_T53 M i).f1 = q := ⟨_, rfl⟩
        rw [hk] at x0 y0
        rw [hp] at x1
        rw [ht] at x2 y2
        rw [hv] at x3 y3
        rw [hq] at y1
        have lift : ∀ {a : Addr} {u : Value}, wr.cell? a = some u → ∀ o, (wr.alloc o).cell? a = some u := fun h o => pw_cell_below (below_alloc (Below.refl _ _) o) h
        have z0 := lift y0
        have z1 := lift y1
        have z2 := lift y2
        have z3 := lift y3
        have b0 : (k == k) = true := by simp
        have b1 : (q == q) = true := by simp
        have b2 : (t.toList == t.toList) = true := by simp
        have b3 : (v == v) = true := by simp
        clear lift hk hp ht hv hq g0 g2 g3 hbA hbM
        go_wp2_with fail
        go_quiet (fail)
        go_wp2
        go_roundg kk
        case measure => omega
        case rel => exact ⟨i + 1, by go_num, ⟨pw_below_drewN (below_alloc HB.out _) _⟩, by omega, by omega, by omega⟩
      · have di := decide_eq_false (p := i < (L.length : Int)) ci
        go_wp2_with fail
        go_ret
        exact ⟨rfl, HB.out⟩
end Go.Proofs.YtoclbmepgeelmaaDoor.Utf
