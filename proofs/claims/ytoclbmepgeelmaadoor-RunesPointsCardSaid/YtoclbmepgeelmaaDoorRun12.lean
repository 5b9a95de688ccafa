import Derived.Test.YtoclbmepgeelmaaDoorAl5
namespace Go.Proofs.YtoclbmepgeelmaaDoor.Utf
set_option linter.unusedVariables false
set_option linter.unusedSimpArgs false
open Go.RowKit Go.Lib Go.Proofs.YtoclbmepgeelmaaDoorW.PrintWords Go.Proofs.YtoclbmepgeelmaaDoorW.PrintLast Go.Proofs.YtoclbmepgeelmaaDoorW.PrintMore

theorem bytesOf_str (xs : List Int) (h : ∀ x ∈ xs, 0 ≤ x ∧ x ≤ 255) : bytesOf (strOfNums xs) = xs := by
  unfold bytesOf
  rw [strOfNums_data, List.map_map]
  conv => rhs; rw [← List.map_id xs]
  apply List.map_congr_left
  intro x hx
  obtain ⟨h0, h1⟩ := h x hx
  show ((UInt8.ofNat x.toNat).toNat : Int) = x
  rw [UInt8.toNat_ofNat']
  omega
theorem bytesOf_range (s : ByteArray) : ∀ x ∈ bytesOf s, 0 ≤ x ∧ x ≤ 255 := by
  intro x hx
  obtain ⟨b, _, rfl⟩ := List.mem_map.1 hx
  have := b.toNat_lt
  omega
theorem foldZ_range {x : Int} (h : 0 ≤ x ∧ x ≤ 255) : 0 ≤ foldZ x ∧ foldZ x ≤ 255 := by unfold foldZ; split <;> omega
theorem foldZ_twice (x : Int) : foldZ (foldZ x) = foldZ x := by unfold foldZ; repeat' split; all_goals omega
theorem bytesOf_fold (s : ByteArray) : bytesOf (foldS s) = (bytesOf s).map foldZ := by
  refine bytesOf_str _ fun x hx => ?_
  obtain ⟨y, hy, rfl⟩ := List.mem_map.1 hx
  exact foldZ_range (bytesOf_range s y hy)
theorem foldS_size (s : ByteArray) : (foldS s).size = s.size := by
  rw [foldS, strOfNums_size, List.length_map, bytesOf_length]
theorem foldS_twice (s : ByteArray) : foldS (foldS s) = foldS s := by
  rw [foldS, bytesOf_fold, List.map_map, foldS]
  congr 1
  apply List.map_congr_left
  intro x _
  exact foldZ_twice x
theorem class_fold (c : Int) : classZ (foldZ c) = classZ c := by
  unfold foldZ
  split
  · rename_i h
    have e1 : classZ (c + 32) = 2 := by unfold classZ; rw [if_neg (by omega), if_pos (by omega)]
    have e2 : classZ c = 2 := by unfold classZ; rw [if_neg (by omega), if_pos (by omega)]
    rw [e1, e2]
  · rfl
theorem nameOk_fold : ∀ (l : List Int) (f : Bool), nameOk f (l.map foldZ) = nameOk f l
  | [], _ => rfl
  | c :: t, f => by
    simp only [List.map_cons, nameOk, class_fold, nameOk_fold t false]
theorem told_law (s : ByteArray) (h : nameE s = 0) : nameR s = foldS s ∧ nameE (foldS s) = 0 ∧ nameR (foldS s) = foldS s ∧ s.size ≤ 20 := by
  have h1 : nameR s = foldS s := by unfold nameR; rw [if_pos h]
  have h20 : s.size ≤ 20 := by
    unfold nameE at h
    split at h
    · simp at h
    · omega
  have h2 : nameE (foldS s) = 0 := by
    unfold nameE at h ⊢
    rw [foldS_size, bytesOf_fold, nameOk_fold]
    exact h
  refine ⟨h1, h2, ?_, h20⟩
  unfold nameR
  rw [if_pos h2, foldS_twice]

set_option maxHeartbeats 4000000 in
set_option maxRecDepth 100000 in
theorem runesTold_walk (s : ByteArray) (w : World) (hT : Tabs5 w) :
    Calls Tryd.prog 12 #[.string s] w fun e w' => e = .returned (.bool true) ∧ Below w.heap.size w w' := by
  have fin : ∀ W : World, Below w.heap.size w W → Calls Tryd.prog 32 #[] W fun e w' => e = .returned (.bool true) ∧ Below w.heap.size w w' := fun W h => (alive05 W (hT.below h)).mono fun e w' h' => ⟨h'.1, below_step h h'.2⟩
  have FIN := Aside0.mk fin
  clear fin hT
  by_cases hlen : 1000 < s.size
  · have d := decide_eq_true (p := (1000 : Int) < (s.size : Int)) (by omega)
    go_enter Tryd.func12, Tryd.ntmps12
    go_wp2_with fail
    refine (FIN.out _ (Below.refl _ _)).mono ?_
    rintro e w1 ⟨rfl, hb⟩
    go_wp2_with fail
    go_ret
    exact ⟨rfl, hb⟩
  have d := decide_eq_false (p := (1000 : Int) < (s.size : Int)) (by omega)
  have k1 := name_walk s w
  have k2 := fun W => fold_walk s W (by omega)
  have hfs := foldS_size s
  have k3 := fun W => fold_walk (foldS s) W (by omega)
  rw [foldS_twice] at k3
  obtain ⟨F, hF⟩ : ∃ F, foldS s = F := ⟨_, rfl⟩
  have bF : (F.toList == F.toList) = true := by simp
  have bF2 : (F.toList != F.toList) = false := by simp
  have bS : ((F.size : Int) == (s.size : Int)) = true := by rw [← hF, hfs]; simp
  have bS2 : ((F.size : Int) != (s.size : Int)) = false := by rw [← hF, hfs]; simp
  by_cases h0 : nameE s = 0
  · obtain ⟨l1, l2, l3, l4⟩ := told_law s h0
    have k4 := fun W => name_at (foldS s) (foldS s) 0 ⟨l3, l2⟩ W
    rw [l1, h0] at k1
    rw [hF] at k1 k4 hfs
    simp only [hF] at k2 k3
    have d20 := decide_eq_false (p := (20 : Int) < (F.size : Int)) (by omega)
    have K1 := Aside0.mk k1
    have K2 := Aside0.mk k2
    have K3 := Aside0.mk k3
    have K4 := Aside0.mk k4
    clear k1 k2 k3 k4 l1 l2 l3 h0 hF
    go_enter Tryd.func12, Tryd.ntmps12
    go_wp2_with fail
    refine K1.out.mono ?_
    rintro e w1 ⟨rfl, hb⟩
    have HB1 := Aside0.mk hb; clear hb
    go_wp2_with fail
    refine (K2.out _).mono ?_
    rintro e w2 ⟨rfl, hb⟩
    have HB2 := Aside0.mk (below_step HB1.out hb); clear hb
    go_wp2_with fail
    refine (K4.out _).mono ?_
    rintro e w3 ⟨rfl, hb⟩
    have HB3 := Aside0.mk (below_step HB2.out hb); clear hb
    go_wp2_with fail
    refine (FIN.out _ HB3.out).mono ?_
    rintro e w4 ⟨rfl, hb⟩
    have HB4 := Aside0.mk hb; clear hb
    go_wp2_with fail
    refine (K3.out _).mono ?_
    rintro e w5 ⟨rfl, hb⟩
    have HB5 := Aside0.mk (below_step HB4.out hb); clear hb
    go_wp2_with fail
    go_ret
    exact ⟨rfl, HB5.out⟩
  · have k1' := k1
    obtain ⟨E, hE⟩ : ∃ E, nameE s = E := ⟨_, rfl⟩
    obtain ⟨R, hR⟩ : ∃ R, nameR s = R := ⟨_, rfl⟩
    rw [hE, hR] at k1
    rw [hE] at h0
    have b0 : (E == 0) = false := by simpa using h0
    simp only [hF] at k2 k3
    have K1 := Aside0.mk k1
    have K2 := Aside0.mk k2
    have K3 := Aside0.mk k3
    clear k1 k1' k2 k3 h0 hE hR hF hfs
    go_enter Tryd.func12, Tryd.ntmps12
    go_wp2_with fail
    refine K1.out.mono ?_
    rintro e w1 ⟨rfl, hb⟩
    have HB1 := Aside0.mk hb; clear hb
    go_wp2_with fail
    refine (K2.out _).mono ?_
    rintro e w2 ⟨rfl, hb⟩
    have HB2 := Aside0.mk (below_step HB1.out hb); clear hb
    go_wp2_with fail
    refine (FIN.out _ HB2.out).mono ?_
    rintro e w4 ⟨rfl, hb⟩
    have HB4 := Aside0.mk hb; clear hb
    go_wp2_with fail
    refine (K3.out _).mono ?_
    rintro e w5 ⟨rfl, hb⟩
    have HB5 := Aside0.mk (below_step HB4.out hb); clear hb
    go_wp2_with fail
    go_ret
    exact ⟨rfl, HB5.out⟩
end Go.Proofs.YtoclbmepgeelmaaDoor.Utf
