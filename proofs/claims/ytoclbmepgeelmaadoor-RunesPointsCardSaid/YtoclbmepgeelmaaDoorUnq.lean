import Derived.Test.YtoclbmepgeelmaaDoorQuo
import Derived.Laws.Strings2
namespace Go.Proofs.YtoclbmepgeelmaaDoor.Utf
set_option linter.unusedVariables false
set_option linter.unusedSimpArgs false
open Go.RowKit Go.Lib Go.Proofs.YtoclbmepgeelmaaDoorW.PrintWords Go.Proofs.YtoclbmepgeelmaaDoorW.PrintLast Go.Proofs.YtoclbmepgeelmaaDoorW.PrintMore

/-- What stands between quotes, taken back; none: a quote stands alone. -/
def unqL : List Int → Option (List Int)
  | [] => some []
  | c :: t => if c = 39 then (match t with
      | [] => none
      | d :: u => if d = 39 then (unqL u).map (39 :: ·) else none) else (unqL t).map (c :: ·)
theorem unqL_other {c : Int} (hc : c ≠ 39) (t : List Int) : unqL (c :: t) = (unqL t).map (c :: ·) := by
  cases t <;> simp [unqL, hc]
/-- What Unquote gives. -/
def unqO (s : ByteArray) : Option (List Int) :=
  if s.size < 2 then none else if bt s 0 ≠ 39 ∨ bt s ((s.size : Int) - 1) ≠ 39 then none else unqL (bytesOf (s.extract 1 (s.size - 1)))
def unqE (s : ByteArray) : Int := if (unqO s).isSome then 0 else 3
def unqR (s : ByteArray) : ByteArray := strOfNums ((unqO s).getD [])
theorem info5 : (Tryd.prog.info? 5).map (fun i => (i.zero, i.size, i.bytes)) = some (some (.int .u8 0), 1, 1) := by kernel_rfl

set_option maxHeartbeats 4000000 in
set_option maxRecDepth 100000 in
theorem unquote_walk (s : ByteArray) (w : World) (hs : s.size ≤ 1000000) :
    Calls Tryd.prog 39 #[.string s] w fun e w' => e = .returned (.tuple #[.string (unqR s), .int .i64 (unqE s)]) ∧ Below w.heap.size w w' := by
  by_cases h2 : s.size < 2
  · have e0 : unqO s = none := by simp [unqO, h2]
    have eE : unqE s = 3 := by simp [unqE, e0]
    have eR : unqR s = ⟨#[]⟩ := by simp [unqR, e0]; rfl
    rw [eE, eR]
    have d := decide_eq_true (p := (s.size : Int) < 2) (by omega)
    clear e0 eE eR
    go_enter Tryd.func39, Tryd.ntmps39
    go_wp2
    go_ret2
    exact ⟨rfl, Below.refl _ _⟩
  have d := decide_eq_false (p := (s.size : Int) < 2) (by omega)
  have x0 := bt_at s 0
  have x1 : ∀ h : s.size - 1 < s.size, ((s[s.size - 1]'h).toNat : Int) = bt s ((s.size : Int) - 1) := fun h => by
    unfold bt
    have e : ((s.size : Int) - 1).toNat = s.size - 1 := by omega
    rw [dif_pos (by rw [e]; exact h)]
    simp only [e]
  rw [show (0 : Int).toNat = 0 from rfl] at x0
  have p0 : (0 : Int) < (s.size : Int) := by omega
  have p1 : ((s.size : Int) - 1) < (s.size : Int) := by omega
  have p2 : 0 ≤ ((s.size : Int) - 1) := by omega
  have p3 : (1 : Int) ≤ ((s.size : Int) - 1) := by omega
  have wl : IntKind.i64.wrap ((s.size : Int) - 1) = (s.size : Int) - 1 := (i64_w _).trans (wrap64_id (by omega) (by omega))
  by_cases q0 : bt s 0 = 39
  · have b0 : (bt s 0 != 39) = false := by simpa using q0
    by_cases q1 : bt s ((s.size : Int) - 1) = 39
    · have b1 : (bt s ((s.size : Int) - 1) != 39) = false := by simpa using q1
      have hsl := fun W : World => run_slice_string (P := Tryd.prog) (w := W) 9 s .i64 .i64 1 ((s.size : Int) - 1) Tryd.underlying9 (by omega) (by omega) (by omega)
      have hI : s.extract (Int.toNat 1) ((s.size : Int) - 1).toNat = s.extract 1 (s.size - 1) := by
        rw [show (1 : Int).toNat = 1 from rfl, show ((s.size : Int) - 1).toNat = s.size - 1 by omega]
      simp only [hI] at hsl
      have eO : unqO s = unqL (bytesOf (s.extract 1 (s.size - 1))) := by simp [unqO, h2, q0, q1]
      have hIs : (s.extract 1 (s.size - 1)).size ≤ s.size := by rw [ByteArray.size_extract]; omega
      obtain ⟨I, hII⟩ : ∃ I, s.extract 1 (s.size - 1) = I := ⟨_, rfl⟩
      rw [hII] at eO hIs
      simp only [hII] at hsl
      obtain ⟨O, hO⟩ : ∃ O, unqL (bytesOf I) = O := ⟨_, rfl⟩
      have eE : unqE s = if O.isSome then 0 else 3 := by rw [unqE, eO, hO]
      have eR : unqR s = strOfNums (O.getD []) := by rw [unqR, eO, hO]
      rw [eE, eR]
      have HO := Aside0.mk hO
      clear hII hI eO eE eR hO
      go_enter Tryd.func39, Tryd.ntmps39
      go_wp2
      clear x0 x1 b0 b1 q0 q1 wl p0 p1 p2 p3 hsl d
      go_loopg [5, 7] (I.size + 1) (fun gk v5 v7 wx => ∃ (j : Int) (acc : List Int), v7 = .int .i64 j ∧ Aside0 ((Kd.int .u8).R 5 wx w.heap.size (fun _ => True) v5 acc) ∧ Aside0 (Below w.heap.size w wx) ∧ Aside0 (O = (unqL ((bytesOf I).drop j.toNat)).map (acc ++ ·)) ∧ 0 ≤ j ∧ j ≤ I.size ∧ I.size - j.toNat < gk ∧ acc.length ≤ 1000000 ∧ acc.length ≤ j)
      case atStart =>
        refine ⟨0, [], by go_num, ⟨Kd.R_nil _ _ _ _ _⟩, ⟨Below.refl _ _⟩, ⟨?_⟩, by omega, by omega, by omega, by simp, by simp⟩
        rw [← HO.out]; simp
      case round =>
        clear HO
        obtain ⟨j, acc, rfl, HR, HB, HO, hj0, hj1, hg, ha, ha2⟩ := hrel
        cases gk with
        | zero => omega
        | succ k1 =>
          by_cases cj : j < (I.size : Int)
          · have dj := decide_eq_true (p := j < (I.size : Int)) cj
            have xj := bt_at I j
            have hO := HO.out
            rw [bytes_rd I j.toNat (by omega), Int.toNat_of_nonneg hj0] at hO
            have hb := bt_range I j
            obtain ⟨c, hc⟩ : ∃ c, bt I j = c := ⟨_, rfl⟩
            rw [hc] at hO xj hb
            clear hc HO
            by_cases c39 : c = 39
            · have b39 : (c == 39) = true := by simpa using c39
              subst c39
              by_cases ce : j + 1 < (I.size : Int)
              · have de : ((j + 1) == (I.size : Int)) = false := by
                  rw [beq_eq_false_iff_ne]; omega
                have pe : 0 ≤ j + 1 := by omega
                have xe := bt_at I (j + 1)
                rw [bytes_rd I (j.toNat + 1) (by omega), show ((j.toNat + 1 : Nat) : Int) = j + 1 by omega] at hO
                have hb2 := bt_range I (j + 1)
                obtain ⟨c, hc⟩ : ∃ c, bt I (j + 1) = c := ⟨_, rfl⟩
                rw [hc] at hO xe hb2
                clear hc
                by_cases d39 : c = 39
                · subst d39
                  have hO2 : O = (unqL ((bytesOf I).drop (j + 1 + 1).toNat)).map ((acc ++ [39]) ++ ·) := by
                    rw [hO, show (j + 1 + 1).toNat = j.toNat + 1 + 1 by omega]
                    simp only [unqL, ↓reduceIte, Option.map_map]
                    congr 1
                    funext x; simp
                  have HO2 := Aside0.mk hO2
                  clear hO hO2
                  go_wp2_with (at_builtin; go_must (refine Kd.R_append (Kd.int .u8) (w0 := w) w.heap.size rfl (.tmp 50) (.tmp 54) 70 5 (.int .u8 0) 1 rfl Tryd.underlying70 info5 rfl (by decide) (by omega) u5 acc 39 [.int .u8 39] (fun _ => True) (fun _ => False) rfl rfl ?aP (fun _ hk => hk.elim) ?aF ?aO ?aB ?aS ?aL ?_; (case aP => exact rfl); (case aB => exact HB.out); (case aF => exact fun _ _ => trivial); (case aO => exact HR.out); (case aS => exact below_size HB.out); (case aL => omega); intro v1 w2 ho hb hg2 hat))
                  go_roundg k1
                  case measure => omega
                  case rel => exact ⟨j + 1 + 1, acc ++ [39], by go_num, ⟨ho⟩, ⟨hb⟩, HO2, by omega, by omega, by omega, by simp; omega, by simp; omega⟩
                · have n39 : (c != 39) = true := by simpa using d39
                  have hN : O = none := by rw [hO]; simp [unqL, d39]
                  subst hN
                  clear hO
                  go_wp2
                  go_ret2
                  exact ⟨rfl, HB.out⟩
              · have de : ((j + 1) == (I.size : Int)) = true := by
                  rw [beq_iff_eq]; omega
                have hN : O = none := by
                  rw [hO, List.drop_eq_nil_of_le (by rw [bytesOf_length]; omega)]; simp [unqL]
                subst hN
                clear hO
                go_wp2
                go_ret2
                exact ⟨rfl, HB.out⟩
            · have b39 : (c == 39) = false := by simpa using c39
              have hO2 : O = (unqL ((bytesOf I).drop (j + 1).toNat)).map ((acc ++ [c]) ++ ·) := by
                rw [hO, show (j + 1).toNat = j.toNat + 1 by omega]
                rw [unqL_other c39, Option.map_map]
                congr 1
                funext x; simp
              have HO2 := Aside0.mk hO2
              clear hO hO2
              go_wp2_with (at_builtin; go_must (refine Kd.R_append (Kd.int .u8) (w0 := w) w.heap.size rfl (.tmp 50) (.tmp 54) 70 5 (.int .u8 0) 1 rfl Tryd.underlying70 info5 rfl (by decide) (by omega) u5 acc c [.int .u8 c] (fun _ => True) (fun _ => False) rfl rfl ?aP (fun _ hk => hk.elim) ?aF ?aO ?aB ?aS ?aL ?_; (case aP => exact rfl); (case aB => exact HB.out); (case aF => exact fun _ _ => trivial); (case aO => exact HR.out); (case aS => exact below_size HB.out); (case aL => omega); intro v1 w2 ho hb hg2 hat))
              go_roundg k1
              case measure => omega
              case rel => exact ⟨j + 1, acc ++ [c], by go_num, ⟨ho⟩, ⟨hb⟩, HO2, by omega, by omega, by omega, by simp; omega, by simp; omega⟩
          · have dj := decide_eq_false (p := j < (I.size : Int)) cj
            have hO := HO.out
            rw [List.drop_eq_nil_of_le (by rw [bytesOf_length]; omega)] at hO
            have hN : O = some acc := by rw [hO]; simp [unqL]
            subst hN
            obtain ⟨A, c, rfl, hc, hC⟩ := Kd.R_reads HR.out
            have cv := Kd.C_string (P := Tryd.prog) (c := c) (src := 70) (dst := 9) (e := 5) Tryd.underlying70 Tryd.underlying5 Tryd.underlying9 hC
            clear hO HO hC
            go_wp2
            go_ret2
            exact ⟨rfl, HB.out⟩
    · have b1 : (bt s ((s.size : Int) - 1) != 39) = true := by simpa using q1
      have e0 : unqO s = none := by simp [unqO, h2, q1]
      have eE : unqE s = 3 := by simp [unqE, e0]
      have eR : unqR s = ⟨#[]⟩ := by simp [unqR, e0]; rfl
      rw [eE, eR]
      clear e0 eE eR
      go_enter Tryd.func39, Tryd.ntmps39
      go_wp2
      go_ret2
      exact ⟨rfl, Below.refl _ _⟩
  · have b0 : (bt s 0 != 39) = true := by simpa using q0
    have e0 : unqO s = none := by simp [unqO, h2, q0]
    have eE : unqE s = 3 := by simp [unqE, e0]
    have eR : unqR s = ⟨#[]⟩ := by simp [unqR, e0]; rfl
    rw [eE, eR]
    clear e0 eE eR
    go_enter Tryd.func39, Tryd.ntmps39
    go_wp2
    go_ret2
    exact ⟨rfl, Below.refl _ _⟩
end Go.Proofs.YtoclbmepgeelmaaDoor.Utf
