import Derived.Test.YtoclbmepgeelmaaDoorPat
import Derived.WalkMore
namespace Go.Proofs.YtoclbmepgeelmaaDoor.Utf
set_option linter.unusedVariables false
set_option linter.unusedSimpArgs false
open Go.RowKit Go.Lib Go.Proofs.YtoclbmepgeelmaaDoorW.PrintWords Go.Proofs.YtoclbmepgeelmaaDoor.PRa

/-- The program's way through points. -/
def mL : Nat → List Int → List Int → Int → Int → Int → Int → Option Bool
  | 0, _, _, _, _, _, _ => none
  | k + 1, p, l, a, back, frm, i =>
    if i < l.length then
      if a < p.length ∧ rd p a = 37 then mL k p l (a + 1) a i i
      else if a < p.length ∧ (rd p a = 95 ∨ rd p a = rd l i) then mL k p l (a + 1) back frm (i + 1)
      else if back < 0 then some false
      else mL k p l (back + 1) back (frm + 1) (frm + 1)
    else some ((p.drop a.toNat).all (fun x => x == 37))

theorem drop_rd (p : List Int) (i : Int) (h0 : 0 ≤ i) (h1 : i < p.length) : p.drop i.toNat = rd p i :: p.drop (i.toNat + 1) := by
  have hl : i.toNat < p.length := by omega
  rw [List.drop_eq_getElem_cons hl]
  simp [rd, List.getD_eq_getElem?_getD, hl]

set_option maxHeartbeats 8000000 in
set_option maxRecDepth 100000 in
theorem match_walk (K : Nat) (p l : List Int) (b : Nat) (A0 A1 : Option Addr) (c0 c1 : Nat) (r : Bool) (w : World) (hp0 : p.length ≤ 1000) (hl0 : l.length ≤ 1000000)
    (hb : w.cell? ⟨b, 1, none⟩ = some (.slice A0 p.length c0)) (hc0 : p.length ≤ c0) (hc1 : l.length ≤ c1) (hP : (Kd.int .i32).C w A0 p.length p) (hL : (Kd.int .i32).C w A1 l.length l) (h : mL K p l 0 (-1) 0 0 = some r) :
    Calls Tryd.prog 57 #[.pointer (some ⟨b, 0, none⟩), .slice A1 l.length c1] w fun e w' => e = .returned (.bool r) ∧ Below w.heap.size w w' := by
  have HP := Aside0.mk hP
  have HL := Aside0.mk hL
  have Hb := Aside0.mk hb
  have HH := Aside0.mk h
  clear hP hL hb h
  go_enter Tryd.func57, Tryd.ntmps57
  go_wp2
  go_step3
  go_wp2
  go_step3
  go_wp2
  go_loopg [5, 6, 7, 8] K (fun gk v5 v6 v7 v8 wx => ∃ a back frm i : Int, v5 = .int .i64 a ∧ v6 = .int .i64 back ∧ v7 = .int .i64 frm ∧ v8 = .int .i64 i ∧ Aside0 (mL gk p l a back frm i = some r) ∧ Aside0 (Below w.heap.size w wx) ∧ 0 ≤ a ∧ a ≤ p.length ∧ -1 ≤ back ∧ back < p.length ∧ 0 ≤ frm ∧ frm ≤ i ∧ i ≤ l.length)
  case atStart =>
    exact ⟨0, -1, 0, 0, rfl, rfl, rfl, rfl, HH, ⟨Below.refl _ _⟩, by omega, by omega, by omega, by omega, by omega, by omega, by omega⟩
  case round =>
    obtain ⟨a, back, frm, i, rfl, rfl, rfl, rfl, HM, HB, ha0, ha1, hk0, hk1, hf0, hf1, hi1⟩ := hrel
    cases gk with
    | zero => exact absurd HM.out (by simp [mL])
    | succ k1 =>
      have H := HM.out
      clear HM
      simp only [mL] at H
      have cb : wr.cell? ⟨b, 1, none⟩ = some (.slice A0 p.length c0) := below_cellT HB.out Hb.out
      by_cases ci : i < (l.length : Int)
      · rw [if_pos ci] at H
        obtain ⟨ad1, e1, cl⟩ := Kd.at_int (Kd.C_below HL.out HB.out) i (by omega) (by omega)
        subst e1
        have dci : decide (i < (l.length : Int)) = true := decide_eq_true (by omega)
        obtain ⟨y, hy⟩ : ∃ y, rd l i = y := ⟨_, rfl⟩
        rw [hy] at cl H
        by_cases ca : a < (p.length : Int)
        · obtain ⟨ad0, e0, cp⟩ := Kd.at_int (Kd.C_below HP.out HB.out) a (by omega) (by omega)
          subst e0
          have dca : decide (a < (p.length : Int)) = true := decide_eq_true (by omega)
          obtain ⟨x, hx⟩ : ∃ x, rd p a = x := ⟨_, rfl⟩
          rw [hx] at cp H
          by_cases x37 : x = 37
          · have b37 : (x == 37) = true := by simpa using x37
            rw [if_pos ⟨ca, x37⟩] at H
            have H' := Aside0.mk H
            clear H
            go_wp2
            go_roundg k1
            case measure => omega
            case rel => exact ⟨a + 1, a, i, i, by go_num, by go_num, by go_num, by go_num, H', ⟨by first | exact HB.out | exact below_drew HB.out⟩, by omega, by omega, by omega, by omega, by omega, by omega, by omega⟩
          · have b37 : (x == 37) = false := by simpa using x37
            rw [if_neg (fun h => x37 h.2)] at H
            by_cases x95 : x = 95
            · have b95 : (x == 95) = true := by simpa using x95
              rw [if_pos ⟨ca, .inl x95⟩] at H
              have H' := Aside0.mk H
              clear H
              go_wp2
              go_region
              go_wp2
              go_roundg k1
              case measure => omega
              case rel => exact ⟨a + 1, back, frm, i + 1, by go_num, by go_num, by go_num, by go_num, H', ⟨by first | exact HB.out | exact below_drew HB.out⟩, by omega, by omega, by omega, by omega, by omega, by omega, by omega⟩
            · have b95 : (x == 95) = false := by simpa using x95
              by_cases xy : x = y
              · have bxy : (x == y) = true := by simpa using xy
                rw [if_pos ⟨ca, .inr xy⟩] at H
                have H' := Aside0.mk H
                clear H
                clear xy
                go_wp2
                go_region
                go_wp2
                go_roundg k1
                case measure => omega
                case rel => exact ⟨a + 1, back, frm, i + 1, by go_num, by go_num, by go_num, by go_num, H', ⟨by first | exact HB.out | exact below_drew HB.out⟩, by omega, by omega, by omega, by omega, by omega, by omega, by omega⟩
              · have bxy : (x == y) = false := by simpa using xy
                rw [if_neg (fun h => h.2.elim x95 xy)] at H
                by_cases ck : back < 0
                · have dck : decide (back < 0) = true := decide_eq_true ck
                  rw [if_pos ck] at H
                  obtain rfl : false = r := Option.some.inj H
                  go_wp2
                  go_region
                  go_wp2
                  try rw [Exit.noGoto_ret]
                  go_ret
                  exact ⟨rfl, by first | exact HB.out | exact below_drew HB.out⟩
                · have dck : decide (back < 0) = false := decide_eq_false ck
                  rw [if_neg ck] at H
                  have H' := Aside0.mk H
                  clear H
                  go_wp2
                  go_region
                  go_wp2
                  go_roundg k1
                  case measure => omega
                  case rel => exact ⟨back + 1, back, frm + 1, frm + 1, by go_num, by go_num, by go_num, by go_num, H', ⟨by first | exact HB.out | exact below_drew HB.out⟩, by omega, by omega, by omega, by omega, by omega, by omega, by omega⟩
        · have dca : decide (a < (p.length : Int)) = false := decide_eq_false (by omega)
          rw [if_neg (fun h => ca h.1), if_neg (fun h => ca h.1)] at H
          by_cases ck : back < 0
          · have dck : decide (back < 0) = true := decide_eq_true ck
            rw [if_pos ck] at H
            obtain rfl : false = r := Option.some.inj H
            go_wp2
            go_region
            go_wp2
            try rw [Exit.noGoto_ret]
            go_ret
            exact ⟨rfl, by first | exact HB.out | exact below_drew HB.out⟩
          · have dck : decide (back < 0) = false := decide_eq_false ck
            rw [if_neg ck] at H
            have H' := Aside0.mk H
            clear H
            go_wp2
            go_region
            go_wp2
            go_roundg k1
            case measure => omega
            case rel => exact ⟨back + 1, back, frm + 1, frm + 1, by go_num, by go_num, by go_num, by go_num, H', ⟨by first | exact HB.out | exact below_drew HB.out⟩, by omega, by omega, by omega, by omega, by omega, by omega, by omega⟩
      · rw [if_neg ci] at H
        have dci : decide (i < (l.length : Int)) = false := decide_eq_false (by omega)
        have HE := Aside0.mk (Option.some.inj H)
        clear H
        by_cases ca : a < (p.length : Int)
        · obtain ⟨ad0, e0, cp⟩ := Kd.at_int (Kd.C_below HP.out HB.out) a (by omega) (by omega)
          subst e0
          clear cp
          have hne : ¬ c0 = a.toNat := by omega
          have dsl : (decide ((a.toNat : Int) ≤ (p.length : Int))) = true := decide_eq_true (by omega)
          go_wp2
          go_loopg [88] (p.length + 1) (fun gk v88 wx => ∃ j : Int, v88 = .int .i64 j ∧ wx = wr ∧ 0 ≤ j ∧ a + j ≤ p.length ∧ p.length - (a + j).toNat < gk ∧ Aside0 (((p.drop (a + j).toNat).all fun x => x == 37) = r))
          case atStart => exact ⟨0, by go_num, rfl, by omega, by omega, by omega, ⟨by simpa using HE.out⟩⟩
          case round =>
            obtain ⟨j, rfl, rfl, hj0, hj1, hjk, HJ⟩ := hrel
            cases gk with
            | zero => omega
            | succ k2 =>
              have em : (p.length : Int) - a = ((p.length - a.toNat : Nat) : Int) := by omega
              by_cases cj : a + j < p.length
              · obtain ⟨ad2, e2, cp⟩ := Kd.at_int (Kd.C_below HP.out HB.out) (a + j) (by omega) (by omega)
                obtain rfl := Option.some.inj e2
                rw [show (a + j).toNat = a.toNat + j.toNat by omega, ← Addr.add_add] at cp
                obtain ⟨x, hx⟩ : ∃ x, rd p (a + j) = x := ⟨_, rfl⟩
                rw [hx] at cp
                have dj : decide (j < ((p.length - a.toNat : Nat) : Int)) = true := decide_eq_true (by omega)
                have hst : ((p.drop (a + j).toNat).all fun x => x == 37) = ((x == 37) && ((p.drop (a + (j + 1)).toNat).all fun x => x == 37)) := by
                  rw [drop_rd p (a + j) (by omega) (by omega), List.all_cons, hx, show (a + (j + 1)).toNat = (a + j).toNat + 1 by omega]
                have hJ := HJ.out
                rw [hst] at hJ
                clear hst HJ HE
                by_cases x37 : x = 37
                · have b37 : (x == 37) = true := by simpa using x37
                  have n37 : (x != 37) = false := by simp [x37]
                  rw [b37, Bool.true_and] at hJ
                  have HJ := Aside0.mk hJ
                  clear hJ
                  go_wp2
                  go_roundg k2
                  case measure => omega
                  case rel => exact ⟨j + 1, by go_num, rfl, by omega, by omega, by omega, HJ⟩
                · have b37 : (x == 37) = false := by simpa using x37
                  have n37 : (x != 37) = true := by simpa using x37
                  rw [b37, Bool.false_and] at hJ
                  subst hJ
                  go_wp2
                  try rw [Exit.noGoto_ret]
                  go_ret
                  exact ⟨rfl, HB.out⟩
              · have dj : decide (j < ((p.length - a.toNat : Nat) : Int)) = false := decide_eq_false (by omega)
                have hJ := HJ.out
                rw [List.drop_eq_nil_of_le (by omega), List.all_nil] at hJ
                subst hJ
                clear HJ HE
                go_wp2
                try rw [Exit.noGoto_ret]
                go_ret
                exact ⟨rfl, HB.out⟩
        · have hE := HE.out
          rw [List.drop_eq_nil_of_le (by omega), List.all_nil] at hE
          subst hE
          clear HE
          have dsl : (decide ((a.toNat : Int) ≤ (p.length : Int))) = true := decide_eq_true (by omega)
          have d0 : decide ((0 : Int) < ((p.length - a.toNat : Nat) : Int)) = false := decide_eq_false (by omega)
          go_wp2
          all_goals
            go_loopg [88] 1 (fun gk v88 wx => v88 = .int .i64 0 ∧ wx = wr ∧ 0 < gk)
            case atStart => exact ⟨rfl, rfl, by omega⟩
            case round =>
              obtain ⟨rfl, rfl, hgk⟩ := hrel
              go_wp2
              try rw [Exit.noGoto_ret]
              go_ret
              exact ⟨rfl, HB.out⟩
end Go.Proofs.YtoclbmepgeelmaaDoor.Utf
