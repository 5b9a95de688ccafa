import Derived.Test.YtoclbmepgeelmaaDoorTk2
import Derived.Test.YtoclbmepgeelmaaDoorRwr
namespace Go.Proofs.YtoclbmepgeelmaaDoor.Utf
set_option linter.unusedVariables false
set_option linter.unusedSimpArgs false
open Go.RowKit Go.Lib Go.Proofs.YtoclbmepgeelmaaDoorW.PrintWords Go.Proofs.YtoclbmepgeelmaaDoorW.PrintLast Go.Proofs.YtoclbmepgeelmaaDoorW.PrintMore Go.Proofs.YtoclbmepgeelmaaDoor.PRe

/-! ### Are tokens equal but for their places -/
def eqT (a b : S53) : Bool := (a.f0 == b.f0) && ((a.f2.toList == b.f2.toList) && (a.f3 == b.f3))
def eqUp (L M : List S53) : Nat → Bool
  | 0 => true
  | i + 1 => eqUp L M i && eqT (rd_T53 L (i : Int)) (rd_T53 M (i : Int))
theorem eqUp_false (L M : List S53) : ∀ (n i : Nat), i ≤ n → eqUp L M i = false → eqUp L M n = false
  | 0, i, h, e => by
    obtain rfl : i = 0 := by omega
    exact e
  | n + 1, i, h, e => by
    by_cases hi : i = n + 1
    · rw [← hi]; exact e
    · simp only [eqUp]; rw [eqUp_false L M n i (by omega) e]; rfl
def sameG (L M : List S53) : Bool := decide (L.length = M.length) && eqUp L M L.length
theorem eqT_cases (a b : S53) : (a.f0 ≠ b.f0 ∧ eqT a b = false) ∨ (a.f0 = b.f0 ∧ a.f2.toList ≠ b.f2.toList ∧ eqT a b = false) ∨ (a.f0 = b.f0 ∧ a.f2.toList = b.f2.toList ∧ a.f3 ≠ b.f3 ∧ eqT a b = false) ∨ (a.f0 = b.f0 ∧ a.f2.toList = b.f2.toList ∧ a.f3 = b.f3 ∧ eqT a b = true) := by
  unfold eqT
  by_cases h0 : a.f0 = b.f0
  · by_cases h2 : a.f2.toList = b.f2.toList
    · by_cases h3 : a.f3 = b.f3
      · right; right; right; exact ⟨h0, h2, h3, by simp [h0, h2, h3]⟩
      · right; right; left; exact ⟨h0, h2, h3, by simp [h3]⟩
    · right; left; exact ⟨h0, h2, by simp [h2]⟩
  · left; exact ⟨h0, by simp [h0]⟩

set_option maxHeartbeats 1600000 in
set_option maxRecDepth 100000 in
theorem sameG_walk (L M : List S53) (hL : L.length ≤ 100000) (A0 : Option Addr) (c0 : Nat) (A1 : Option Addr) (c1 : Nat) (w : World) (h0 : Kd.C k53 w A0 L.length L) (hc0 : L.length ≤ c0) (h1 : Kd.C k53 w A1 M.length M) (hc1 : M.length ≤ c1) :
    Calls Tryd.prog 31 #[.slice A0 L.length c0, .slice A1 M.length c1] w fun e w' => e = .returned (.bool (sameG L M)) ∧ Below w.heap.size w w' := by
  by_cases hlen : L.length = M.length
  case neg =>
    have e : sameG L M = false := by unfold sameG; rw [decide_eq_false hlen]; rfl
    rw [e]
    have bl : ((L.length : Int) != (M.length : Int)) = true := by simp; omega
    have bl2 : (L.length != M.length) = true := by simpa using hlen
    clear h0 h1
    go_enter Tryd.func31, Tryd.ntmps31
    go_wp2_with fail
    go_ret
    exact ⟨rfl, Below.refl _ _⟩
  case pos =>
    have H0 := Aside0.mk h0
    have H1 := Aside0.mk h1
    obtain ⟨R, hR⟩ : ∃ R, sameG L M = R := ⟨_, rfl⟩
    rw [hR]
    have hR2 : R = eqUp L M L.length := by rw [← hR]; unfold sameG; rw [decide_eq_true hlen]; rfl
    have HR := Aside0.mk hR2
    obtain ⟨n, hn⟩ : ∃ n, M.length = n := ⟨_, rfl⟩
    have hLn : L.length = n := hlen.trans hn
    have HL := Aside0.mk hLn
    have HM := Aside0.mk hn
    rw [hLn] at hL hc0 H0 ⊢
    rw [hn] at hc1 H1 ⊢
    have bl : ((n : Int) != (n : Int)) = false := by simp
    have bl2 : (n != n) = false := by simp
    clear h0 h1 hR hR2 hlen hn hLn
    go_enter Tryd.func31, Tryd.ntmps31
    go_wp2_with fail
    go_loopg [14] (n + 1) (fun gk v14 wx => ∃ i : Int, v14 = .int .i64 i ∧ Aside0 (Below w.heap.size w wx) ∧ Aside0 (eqUp L M i.toNat = true) ∧ 0 ≤ i ∧ i ≤ n ∧ n - i.toNat < gk)
    case atStart => exact ⟨0, by go_num, ⟨Below.refl _ _⟩, ⟨rfl⟩, by omega, by omega, by omega⟩
    case round =>
      obtain ⟨i, rfl, HB, HE, hi0, hi1, hg⟩ := hrel
      cases gk with
      | zero => omega
      | succ kk =>
        by_cases ci : i < (n : Int)
        · have di := decide_eq_true (p := i < (n : Int)) ci
          obtain ⟨ad0, e0, x0, x1, x2, x3⟩ := at_T53 (Kd.C_below H0.out HB.out) i (by omega) (by omega)
          subst e0
          obtain ⟨ad1, e1, y0, y1, y2, y3⟩ := at_T53 (Kd.C_below H1.out HB.out) i (by omega) (by omega)
          subst e1
          have hst : eqUp L M (i.toNat + 1) = eqT (rd_T53 L i) (rd_T53 M i) := by
            simp only [eqUp]; rw [HE.out, Int.toNat_of_nonneg hi0]; rfl
          have hfin : eqT (rd_T53 L i) (rd_T53 M i) = false → R = false := by
            intro h
            rw [HR.out, HL.out]
            exact eqUp_false L M n (i.toNat + 1) (by omega) (hst.trans h)
          have hcs := eqT_cases (rd_T53 L i) (rd_T53 M i)
          obtain ⟨a, ha⟩ : ∃ a, rd_T53 L i = a := ⟨_, rfl⟩
          obtain ⟨b, hb⟩ : ∃ b, rd_T53 M i = b := ⟨_, rfl⟩
          rw [ha, hb] at hst hfin hcs
          rw [ha] at x0 x1 x2 x3
          rw [hb] at y0 y1 y2 y3
          obtain ⟨k, p, t, v⟩ := a
          obtain ⟨k', q, t', v'⟩ := b
          simp only at x0 x1 x2 x3 y0 y1 y2 y3 hcs
          have lift : ∀ {a : Addr} {u : Value}, wr.cell? a = some u → ∀ o, (wr.alloc o).cell? a = some u := fun h o => pw_cell_below (below_alloc (Below.refl _ _) o) h
          have z0 := lift y0
          have z1 := lift y1
          have z2 := lift y2
          have z3 := lift y3
          have b1 : (q == q) = true := by simp
          have HST := Aside0.mk hst
          have HFIN := Aside0.mk hfin
          clear lift ha hb hst hfin HE
          rcases hcs with ⟨g0, ge⟩ | ⟨g0, g2, ge⟩ | ⟨g0, g2, g3, ge⟩ | ⟨g0, g2, g3, ge⟩
          · obtain rfl := HFIN.out ge
            have b0 : (k == k') = false := by simpa using g0
            clear g0 ge
            go_wp2_with fail
            go_quiet (fail)
            go_wp2_with fail
            go_ret
            exact ⟨rfl, pw_below_drewN (below_alloc HB.out _) _⟩
          · obtain rfl := HFIN.out ge
            subst g0
            have b0 : (k == k) = true := by simp
            have b2 : (t.toList == t'.toList) = false := by simpa using g2
            clear g2 ge
            go_wp2_with fail
            go_quiet (fail)
            go_wp2_with fail
            go_ret
            exact ⟨rfl, pw_below_drewN (below_alloc HB.out _) _⟩
          · obtain rfl := HFIN.out ge
            subst g0
            have b0 : (k == k) = true := by simp
            have b2 : (t.toList == t'.toList) = true := by simpa using g2
            have b3 : (v == v') = false := by simpa using g3
            clear g2 g3 ge
            go_wp2_with fail
            go_quiet (fail)
            go_wp2_with fail
            go_ret
            exact ⟨rfl, pw_below_drewN (below_alloc HB.out _) _⟩
          · have hE2 := HST.out.trans ge
            have HE2 := Aside0.mk hE2
            subst g0
            have b0 : (k == k) = true := by simp
            have b2 : (t.toList == t'.toList) = true := by simpa using g2
            have b3 : (v == v') = true := by simpa using g3
            clear g2 g3 ge hE2
            go_wp2_with fail
            go_quiet (fail)
            go_wp2
            go_roundg kk
            case measure => omega
            case rel => exact ⟨i + 1, by go_num, ⟨pw_below_drewN (below_alloc HB.out _) _⟩, ⟨by rw [show (i + 1).toNat = i.toNat + 1 by omega]; exact HE2.out⟩, by omega, by omega, by omega⟩
        · have di := decide_eq_false (p := i < (n : Int)) ci
          have hRt : R = true := by
            rw [HR.out, HL.out, ← show i.toNat = n by omega]; exact HE.out
          subst hRt
          go_wp2_with fail
          go_ret
          exact ⟨rfl, HB.out⟩
end Go.Proofs.YtoclbmepgeelmaaDoor.Utf
