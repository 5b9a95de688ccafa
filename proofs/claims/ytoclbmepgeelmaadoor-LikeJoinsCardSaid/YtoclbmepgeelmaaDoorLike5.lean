import Derived.Test.YtoclbmepgeelmaaDoorLikeA
import Derived.Test.YtoclbmepgeelmaaDoorEnc
namespace Go.Proofs.YtoclbmepgeelmaaDoor.Utf
set_option linter.unusedVariables false
set_option linter.unusedSimpArgs false
open Go.RowKit Go.Lib Go.Proofs.YtoclbmepgeelmaaDoorW.PrintWords Go.Proofs.YtoclbmepgeelmaaDoorW.PrintLast Go.Proofs.YtoclbmepgeelmaaDoorW.PrintMore Go.Proofs.YtoclbmepgeelmaaDoor.PRa

theorem full_true {p s : List UInt8} (h : fullR p s = true) : p.length ≤ 1000 ∧ validD p = true ∧ s.length ≤ 100000 ∧ validD s = true ∧ Lk (runesOf p) (runesOf s) := by
  unfold fullR at h
  split at h
  · rename_i hc
    unfold textR at h
    split at h
    · rename_i ht
      exact ⟨(compE_zero hc).1, (compE_zero hc).2, (textE_zero ht).1, (textE_zero ht).2, (like_iff _ _).1 h⟩
    · cases h
  · cases h
theorem compE_ok {p : List UInt8} (h1 : p.length ≤ 1000) (h2 : validD p = true) : compE p = 0 := by
  unfold compE splitE; rw [if_neg (by omega), if_pos h2]
theorem textE_ok {p : List UInt8} (h1 : p.length ≤ 100000) (h2 : validD p = true) : textE p = 0 := by
  unfold textE splitE; rw [if_neg (by omega), if_pos h2]
theorem full_ok {p s : List UInt8} (h1 : p.length ≤ 1000) (h2 : validD p = true) (h3 : s.length ≤ 100000) (h4 : validD s = true) : fullE p s = 0 ∧ (Lk (runesOf p) (runesOf s) → fullR p s = true) := by
  have e1 := compE_ok h1 h2
  have e2 := textE_ok h3 h4
  refine ⟨by unfold fullE; rw [if_pos e1, e2], fun h => ?_⟩
  unfold fullR textR
  rw [if_pos e1, if_pos e2]
  exact h.like
theorem joins_law {p q a b m : List UInt8} (h1 : fullR p a = true) (h2 : fullR q b = true) (hpq : p.length + q.length ≤ 300) (hab : a.length + b.length ≤ 300) (hm : m.length ≤ 50) :
    fullE (p ++ q) (a ++ b) = 0 ∧ fullR (p ++ q) (a ++ b) = true ∧ (fullE (p ++ [37] ++ q) (a ++ m ++ b) = 0 → fullR (p ++ [37] ++ q) (a ++ m ++ b) = true) := by
  obtain ⟨_, p2, _, a2, k1⟩ := full_true h1
  obtain ⟨_, q2, _, b2, k2⟩ := full_true h2
  have pq := valid_append (x := q) p2
  have ab := valid_append (x := b) a2
  obtain ⟨f1, f2⟩ := full_ok (p := p ++ q) (s := a ++ b) (by simp; omega) (pq.1.trans q2) (by simp; omega) (ab.1.trans b2)
  refine ⟨f1, f2 (by rw [pq.2, ab.2]; exact k1.append k2), fun h => ?_⟩
  have v37 : validD [37] = true := by decide
  have r37 : runesOf [37] = [37] := by decide
  have m1 := valid_append (x := q) v37
  have m2 := valid_append (x := [37] ++ q) p2
  have ec := compE_ok (p := p ++ [37] ++ q) (by simp; omega) (by rw [List.append_assoc, m2.1, m1.1, q2])
  have ht : textE (a ++ m ++ b) = 0 := by unfold fullE at h; rwa [if_pos ec] at h
  have hv := (textE_zero ht).2
  rw [List.append_assoc] at hv
  have n1 := valid_append (x := m ++ b) a2
  rw [n1.1] at hv
  have n2 := valid_split b2 hv
  unfold fullR textR
  rw [if_pos ec, if_pos ht, like_iff]
  rw [List.append_assoc, List.append_assoc, m2.2, m1.2, n1.2, n2.2, r37]
  exact k1.append ((Lk.all _).append k2)

set_option maxHeartbeats 8000000 in
set_option maxRecDepth 100000 in
theorem likeJoins_walk (p q a b m : ByteArray) (w : World) (hT : Tabs w) :
    Calls Tryd.prog 5 #[.string p, .string q, .string a, .string b, .string m] w fun e w' => e = .returned (.bool true) ∧ Below w.heap.size w w' := by
  have fin : ∀ W : World, Below w.heap.size w W → Calls Tryd.prog 17 #[] W fun e w' => e = .returned (.bool true) ∧ Below w.heap.size w w' := fun W h => (alive06 W (hT.below h)).mono fun e w' h' => ⟨h'.1, below_step h h'.2⟩
  have FIN := Aside0.mk fin
  have HT := Aside0.mk hT
  clear fin hT
  go_enter Tryd.func5, Tryd.ntmps5
  go_upto_region 1 with (fail)
  go_cut [37] (fun v37 wc => ∃ x : Bool, v37 = .bool x ∧ (x = false → ((m.size : Int) ≤ 50 ∧ IntKind.i64.wrap ((p.size : Int) + (q.size : Int)) ≤ 300 ∧ IntKind.i64.wrap ((a.size : Int) + (b.size : Int)) ≤ 300)) ∧ wc = w)
  case first =>
    have g1 : IntKind.i64.wrap ((p.size : Int) + (q.size : Int)) ≤ 300 ∨ 300 < IntKind.i64.wrap ((p.size : Int) + (q.size : Int)) := by omega
    have g2 : IntKind.i64.wrap ((a.size : Int) + (b.size : Int)) ≤ 300 ∨ 300 < IntKind.i64.wrap ((a.size : Int) + (b.size : Int)) := by omega
    have g3 : (m.size : Int) ≤ 50 ∨ 50 < (m.size : Int) := by omega
    obtain ⟨P, hP⟩ : ∃ P, IntKind.i64.wrap ((p.size : Int) + (q.size : Int)) = P := ⟨_, rfl⟩
    obtain ⟨A, hA⟩ : ∃ A, IntKind.i64.wrap ((a.size : Int) + (b.size : Int)) = A := ⟨_, rfl⟩
    rw [hP] at g1
    rw [hA] at g2
    rcases g1 with g1 | g1 <;> rcases g2 with g2 | g2 <;> rcases g3 with g3 | g3
    all_goals
      first | have f1 := decide_eq_true (p := (300 : Int) < P) (by omega) | have f1 := decide_eq_false (p := (300 : Int) < P) (by omega)
      first | have f2 := decide_eq_true (p := (300 : Int) < A) (by omega) | have f2 := decide_eq_false (p := (300 : Int) < A) (by omega)
      first | have f3 := decide_eq_true (p := (50 : Int) < (m.size : Int)) (by omega) | have f3 := decide_eq_false (p := (50 : Int) < (m.size : Int)) (by omega)
      go_wp2
      go_meet
      case rel => exact ⟨_, rfl, by simp <;> omega, rfl⟩
  case rest =>
    obtain ⟨x, rfl, hx, rfl⟩ := hcut
    cases x with
    | true =>
      clear hx
      go_wp2_with fail
      refine (FIN.out _ (Below.refl _ _)).mono ?_
      rintro e w1 ⟨rfl, hb⟩
      go_wp2_with fail
      go_ret
      exact ⟨rfl, hb⟩
    | false =>
      obtain ⟨hm, hpq, hab⟩ := hx rfl
      clear hx
      have c1 := lmatch_walk p a wc HT.out
      have c2 := fun W h => lmatch_walk q b W h
      have l1 : fullR p.data.toList a.data.toList = true → p.size ≤ 1000 ∧ a.size ≤ 100000 := fun h => by have := full_true h; simp at this; exact ⟨this.1, this.2.2.1⟩
      have l2 : fullR q.data.toList b.data.toList = true → q.size ≤ 1000 ∧ b.size ≤ 100000 := fun h => by have := full_true h; simp at this; exact ⟨this.1, this.2.2.1⟩
      have J : fullR p.data.toList a.data.toList = true → fullR q.data.toList b.data.toList = true → (p.size ≤ 1000 ∧ a.size ≤ 100000 ∧ q.size ≤ 1000 ∧ b.size ≤ 100000) ∧ fullE (p.data.toList ++ q.data.toList) (a.data.toList ++ b.data.toList) = 0 ∧ fullR (p.data.toList ++ q.data.toList) (a.data.toList ++ b.data.toList) = true ∧ (fullE (p.data.toList ++ [37] ++ q.data.toList) (a.data.toList ++ m.data.toList ++ b.data.toList) = 0 → fullR (p.data.toList ++ [37] ++ q.data.toList) (a.data.toList ++ m.data.toList ++ b.data.toList) = true) := fun h1 h2 => by
        obtain ⟨s1, s2⟩ := l1 h1
        obtain ⟨s3, s4⟩ := l2 h2
        refine ⟨⟨s1, s2, s3, s4⟩, ?_⟩
        have e1 : IntKind.i64.wrap ((p.size : Int) + (q.size : Int)) = (p.size : Int) + (q.size : Int) := (i64_w _).trans (wrap64_id (by omega) (by omega))
        have e2 : IntKind.i64.wrap ((a.size : Int) + (b.size : Int)) = (a.size : Int) + (b.size : Int) := (i64_w _).trans (wrap64_id (by omega) (by omega))
        rw [e1] at hpq
        rw [e2] at hab
        exact joins_law (m := m.data.toList) h1 h2 (by simp; omega) (by simp; omega) (by simp; omega)
      clear l1 l2 hpq hab
      have c3 := fun W h => lmatch_walk (p ++ q) (a ++ b) W h
      have c4 := fun W h => lmatch_walk (p ++ { data := #[37] } ++ q) (a ++ m ++ b) W h
      rw [show (p ++ q).data.toList = p.data.toList ++ q.data.toList by simp [ByteArray.data_append], show (a ++ b).data.toList = a.data.toList ++ b.data.toList by simp [ByteArray.data_append]] at c3
      rw [show (p ++ { data := #[37] } ++ q).data.toList = p.data.toList ++ [37] ++ q.data.toList by simp [ByteArray.data_append], show (a ++ m ++ b).data.toList = a.data.toList ++ m.data.toList ++ b.data.toList by simp [ByteArray.data_append]] at c4
      generalize fullR p.data.toList a.data.toList = X at c1 J
      generalize fullE p.data.toList a.data.toList = E at c1 J
      generalize fullR q.data.toList b.data.toList = Y at c2 J
      generalize fullE q.data.toList b.data.toList = F at c2 J
      generalize fullR (p.data.toList ++ q.data.toList) (a.data.toList ++ b.data.toList) = Z at c3 J
      generalize fullE (p.data.toList ++ q.data.toList) (a.data.toList ++ b.data.toList) = G at c3 J
      generalize fullR (p.data.toList ++ [37] ++ q.data.toList) (a.data.toList ++ m.data.toList ++ b.data.toList) = V at c4 J
      generalize fullE (p.data.toList ++ [37] ++ q.data.toList) (a.data.toList ++ m.data.toList ++ b.data.toList) = H at c4 J
      have C1 := Aside0.mk c1
      have C2 := Aside0.mk c2
      have C3 := Aside0.mk c3
      have C4 := Aside0.mk c4
      clear c1 c2 c3 c4
      have d : (E != 0) = true ∨ ((E != 0) = false ∧ (F != 0) = true) ∨ ((E != 0) = false ∧ (F != 0) = false ∧ X = false) ∨ ((E != 0) = false ∧ (F != 0) = false ∧ X = true ∧ Y = false) ∨ ((E != 0) = false ∧ (F != 0) = false ∧ X = true ∧ Y = true) := by
        cases (E != 0) <;> cases (F != 0) <;> cases X <;> cases Y <;> simp
      rcases d with hE | ⟨hE, hF⟩ | ⟨hE, hF, rfl⟩ | ⟨hE, hF, rfl, rfl⟩ | ⟨hE, hF, rfl, rfl⟩
      iterate 4
        · clear J hm C3 C4
          go_wp2_with fail
          refine C1.out.mono ?_
          rintro e w1 ⟨rfl, hb⟩
          have HB1 := Aside0.mk hb; clear hb
          go_wp2_with fail
          refine (C2.out _ (HT.out.below HB1.out)).mono ?_
          rintro e w2 ⟨rfl, hb⟩
          have HB2 := Aside0.mk (below_step HB1.out hb); clear hb
          go_wp2_with fail
          refine (FIN.out _ HB2.out).mono ?_
          rintro e w4 ⟨rfl, hb⟩
          go_wp2_with fail
          go_ret
          exact ⟨rfl, hb⟩
      · obtain ⟨⟨s1, s2, s3, s4⟩, rfl, rfl, jh⟩ := J rfl rfl
        clear J
        have d2 : (H != 0) = true ∨ ((H != 0) = false ∧ V = true) := by
          cases h : (H != 0) with
          | true => exact .inl rfl
          | false => exact .inr ⟨rfl, jh (by simpa using h)⟩
        clear jh
        have n1 : p.size + q.size ≤ 9223372036854775807 := by omega
        have n2 : a.size + b.size ≤ 9223372036854775807 := by omega
        have n3 : p.size + 1 ≤ 9223372036854775807 := by omega
        have n4 : p.size + 1 + q.size ≤ 9223372036854775807 := by omega
        have n5 : a.size + m.size ≤ 9223372036854775807 := by omega
        have n6 : a.size + m.size + b.size ≤ 9223372036854775807 := by omega
        go_wp2_with fail
        refine C1.out.mono ?_
        rintro e w1 ⟨rfl, hb⟩
        have HB1 := Aside0.mk hb; clear hb
        go_wp2_with fail
        refine (C2.out _ (HT.out.below HB1.out)).mono ?_
        rintro e w2 ⟨rfl, hb⟩
        have HB2 := Aside0.mk (below_step HB1.out hb); clear hb
        go_wp2_with fail
        refine (C3.out _ (HT.out.below HB2.out)).mono ?_
        rintro e w3 ⟨rfl, hb⟩
        have HB3 := Aside0.mk (below_step HB2.out hb); clear hb
        go_wp2_with fail
        refine (C4.out _ (HT.out.below HB3.out)).mono ?_
        rintro e w4 ⟨rfl, hb⟩
        have HB4 := Aside0.mk (below_step HB3.out hb); clear hb
        rcases d2 with hH | ⟨hH, rfl⟩
        all_goals
          go_wp2_with fail
          refine (FIN.out _ HB4.out).mono ?_
          rintro e w5 ⟨rfl, hb⟩
          go_wp2_with fail
          go_ret
          exact ⟨rfl, hb⟩
end Go.Proofs.YtoclbmepgeelmaaDoor.Utf
