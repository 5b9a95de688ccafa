import Derived.Test.YtoclbmepgeelmaaDoorLikeA
import Derived.Test.YtoclbmepgeelmaaDoorEnc
import Derived.Laws.Cover4
namespace Go.Proofs.YtoclbmepgeelmaaDoor.Utf
set_option linter.unusedVariables false
set_option linter.unusedSimpArgs false
open Go.RowKit Go.Lib Go.Proofs.YtoclbmepgeelmaaDoorW.PrintWords Go.Proofs.YtoclbmepgeelmaaDoorW.PrintLast Go.Proofs.YtoclbmepgeelmaaDoorW.PrintMore Go.Proofs.YtoclbmepgeelmaaDoor.PRa

/-- The points ahead of the first sign, and how many points are no %. -/
def frontL (L : List Int) : List Int := L.takeWhile fun x => x != 37 && x != 95
def leastL (L : List Int) : Int := ((L.filter fun x => x != 37).length : Int)

set_option maxHeartbeats 4000000 in
set_option maxRecDepth 100000 in
theorem least_walk (b : Nat) (A : Option Addr) (c : Nat) (L : List Int) (w : World) (hL : L.length ≤ 1000000) (hc : L.length ≤ c) (h1 : w.cell? ⟨b, 1, none⟩ = some (.slice A L.length c)) (hC : (Kd.int .i32).C w A L.length L) :
    Calls Tryd.prog 26 #[.pointer (some ⟨b, 0, none⟩)] w fun e w' => e = .returned (.int .i64 (leastL L)) ∧ w' = w := by
  have HC := Aside0.mk hC
  clear hC
  go_enter Tryd.func26, Tryd.ntmps26
  go_wp2
  go_loopg [3, 13] (L.length + 1) (fun gk v3 v13 wx => ∃ n j : Int, v3 = .int .i64 n ∧ v13 = .int .i64 j ∧ wx = w ∧ 0 ≤ j ∧ j ≤ L.length ∧ 0 ≤ n ∧ n ≤ j ∧ L.length - j.toNat < gk ∧ Aside0 (leastL L = n + leastL (L.drop j.toNat)))
  case atStart => exact ⟨0, 0, by go_num, by go_num, rfl, by omega, by omega, by omega, by omega, by omega, ⟨by simp⟩⟩
  case round =>
    obtain ⟨n, j, rfl, rfl, rfl, hj0, hj1, hn0, hn1, hg, HN⟩ := hrel
    cases gk with
    | zero => omega
    | succ k1 =>
      by_cases cj : j < (L.length : Int)
      · obtain ⟨ad, e1, cl⟩ := Kd.at_int HC.out j (by omega) (by omega)
        subst e1
        have hd := drop_step L j hj0 cj
        obtain ⟨x, hx⟩ : ∃ x, rd L j = x := ⟨_, rfl⟩
        rw [hx] at cl hd
        have dj := decide_eq_true (p := j < (L.length : Int)) cj
        have hN := HN.out
        rw [hd] at hN
        by_cases x37 : x = 37
        · have b1 : (x != 37) = false := by simpa using x37
          have b2 : (x == 37) = true := by simpa using x37
          have hN' := Aside0.mk (show leastL L = n + leastL (L.drop (j + 1).toNat) by rw [hN]; simp [leastL, b1])
          clear hN HN hd
          go_wp2
          go_roundg k1
          case measure => omega
          case rel => exact ⟨n, j + 1, by go_num, by go_num, rfl, by omega, by omega, by omega, by omega, by omega, hN'⟩
        · have b1 : (x != 37) = true := by simpa using x37
          have b2 : (x == 37) = false := by simpa using x37
          have hN' := Aside0.mk (show leastL L = (n + 1) + leastL (L.drop (j + 1).toNat) by rw [hN]; simp [leastL, b1]; omega)
          clear hN HN hd
          go_wp2
          go_roundg k1
          case measure => omega
          case rel => exact ⟨n + 1, j + 1, by go_num, by go_num, rfl, by omega, by omega, by omega, by omega, by omega, hN'⟩
      · have dj := decide_eq_false (p := j < (L.length : Int)) cj
        have hN := HN.out
        rw [List.drop_eq_nil_of_le (by omega), show leastL [] = 0 from rfl, Int.add_zero] at hN
        clear HN
        go_wp2
        go_ret
        exact ⟨by first | rfl | rw [hN], rfl⟩
set_option maxHeartbeats 4000000 in
set_option maxRecDepth 100000 in
theorem least_nil (w : World) : Calls Tryd.prog 26 #[.pointer none] w fun e w' => e = .returned (.int .i64 0) ∧ w' = w := by
  go_enter Tryd.func26, Tryd.ntmps26
  go_wp2
  go_ret
  exact ⟨rfl, rfl⟩
set_option maxHeartbeats 4000000 in
set_option maxRecDepth 100000 in
theorem front_nil (w : World) : Calls Tryd.prog 25 #[.pointer none] w fun e w' => e = .returned (.string ⟨#[]⟩) ∧ w' = w := by
  go_enter Tryd.func25, Tryd.ntmps25
  go_wp2
  go_ret
  exact ⟨rfl, rfl⟩

set_option maxHeartbeats 4000000 in
set_option maxRecDepth 100000 in
theorem front_walk (b : Nat) (A : Option Addr) (c : Nat) (L : List Int) (w : World) (hL : L.length ≤ 1000000) (hc : L.length ≤ c) (h1 : w.cell? ⟨b, 1, none⟩ = some (.slice A L.length c)) (hC : (Kd.int .i32).C w A L.length L) :
    Calls Tryd.prog 25 #[.pointer (some ⟨b, 0, none⟩)] w fun e w' => e = .returned (.string (runesBytes (frontL L))) ∧ w' = w := by
  have HC := Aside0.mk hC
  clear hC
  have hcv : ∀ (ad : Addr) (n c2 : Nat), n ≤ L.length → A = some ad → (convert 38 9 (.slice (some ad) n c2)).run Tryd.prog w = .ok (.string (runesBytes (L.take n))) w := fun ad n c2 hn e => by
    refine run_convert_runes w 38 9 21 ad n c2 L hn Tryd.underlying38 Tryd.underlying21 Tryd.underlying9 fun j hj => ?_
    obtain ⟨ad', e', h⟩ := Kd.at_int HC.out (j : Int) (by omega) (by omega)
    rw [e] at e'
    obtain rfl := Option.some.inj e'
    simpa [rd] using h
  have HCV := Aside0.mk hcv
  clear hcv
  go_enter Tryd.func25, Tryd.ntmps25
  go_wp2
  go_loopg [12] (L.length + 1) (fun gk v12 wx => ∃ j : Int, v12 = .int .i64 j ∧ wx = w ∧ 0 ≤ j ∧ j ≤ L.length ∧ L.length - j.toNat < gk ∧ Aside0 (frontL L = L.take j.toNat ++ frontL (L.drop j.toNat)))
  case atStart => exact ⟨0, by go_num, rfl, by omega, by omega, by omega, ⟨by simp⟩⟩
  case round =>
    obtain ⟨j, rfl, rfl, hj0, hj1, hg, HN⟩ := hrel
    cases gk with
    | zero => omega
    | succ k1 =>
      by_cases cj : j < (L.length : Int)
      · obtain ⟨ad, e1, cl⟩ := Kd.at_int HC.out j (by omega) (by omega)
        subst e1
        have hd := drop_step L j hj0 cj
        have ht := take_rd L j.toNat (by omega)
        rw [Int.toNat_of_nonneg hj0] at ht
        obtain ⟨x, hx⟩ : ∃ x, rd L j = x := ⟨_, rfl⟩
        rw [hx] at cl hd ht
        have dj := decide_eq_true (p := j < (L.length : Int)) cj
        have hN := HN.out
        rw [hd] at hN
        by_cases x37 : x = 37
        · have b2 : (x == 37) = true := by simpa using x37
          have hN' := Aside0.mk (show frontL L = L.take j.toNat by rw [hN]; simp [frontL, x37])
          have cv := HCV.out ad j.toNat c (by omega) rfl
          rw [← hN'.out] at cv
          have djc : decide (j ≤ (c : Int)) = true := decide_eq_true (by omega)
          have djc2 : decide (j.toNat ≤ c) = true := decide_eq_true (by omega)
          clear hN HN hd ht
          go_wp2
          go_ret
          exact ⟨rfl, rfl⟩
        · have b2 : (x == 37) = false := by simpa using x37
          by_cases x95 : x = 95
          · have b3 : (x == 95) = true := by simpa using x95
            have hN' := Aside0.mk (show frontL L = L.take j.toNat by rw [hN]; simp [frontL, x95])
            have cv := HCV.out ad j.toNat c (by omega) rfl
            rw [← hN'.out] at cv
            have djc : decide (j ≤ (c : Int)) = true := decide_eq_true (by omega)
            clear hN HN hd ht
            go_wp2
            go_ret
            exact ⟨rfl, rfl⟩
          · have b3 : (x == 95) = false := by simpa using x95
            have hN' := Aside0.mk (show frontL L = L.take (j + 1).toNat ++ frontL (L.drop (j + 1).toNat) by
              rw [hN, show (j + 1).toNat = j.toNat + 1 by omega, ht]; simp [frontL, x37, x95])
            clear hN HN hd ht
            go_wp2
            go_roundg k1
            case measure => omega
            case rel => exact ⟨j + 1, by go_num, rfl, by omega, by omega, by omega, hN'⟩
      · have dj := decide_eq_false (p := j < (L.length : Int)) cj
        have hN := HN.out
        rw [List.drop_eq_nil_of_le (by omega), show frontL [] = [] from rfl, List.append_nil, List.take_of_length_le (by omega)] at hN
        clear HN
        by_cases h0 : L.length = 0
        · have : L = [] := List.eq_nil_of_length_eq_zero h0
          subst this
          cases A with
          | none =>
            have cv := run_convert_runes_nil (P := Tryd.prog) wr 38 9 21 0 c Tryd.underlying38 Tryd.underlying21 Tryd.underlying9
            go_wp2
            go_ret
            exact ⟨by first | rfl | (rw [hN]; rfl), rfl⟩
          | some ad =>
            have cv := HCV.out ad 0 c (by simp) rfl
            go_wp2
            go_ret
            exact ⟨by first | rfl | (rw [hN]; rfl), rfl⟩
        · obtain ⟨ad, e1, cl⟩ := Kd.at_int HC.out 0 (by omega) (by omega)
          subst e1
          have cv := HCV.out ad L.length c (by omega) rfl
          rw [List.take_length] at cv
          go_wp2
          go_ret
          exact ⟨by first | rfl | (rw [hN]; rfl), rfl⟩
end Go.Proofs.YtoclbmepgeelmaaDoor.Utf
