import Derived.Test.YtoclbmepgeelmaaDoorMl
namespace Go.Proofs.YtoclbmepgeelmaaDoor.Utf
set_option linter.unusedVariables false
set_option linter.unusedSimpArgs false
open Go.RowKit Go.Lib Go.Proofs.YtoclbmepgeelmaaDoorW.PrintWords Go.Proofs.YtoclbmepgeelmaaDoor.PRa

def textE (l : List UInt8) : Int := if 100000 < l.length then 2 else splitE l
theorem textE_zero {l : List UInt8} (h : textE l = 0) : l.length ≤ 100000 ∧ validD l = true := by
  unfold textE splitE at h
  split at h
  · simp at h
  · split at h
    · exact ⟨by omega, by assumption⟩
    · simp at h
/-- What a made pattern's Match gives. -/
def textR (L : List Int) (l : List UInt8) : Bool := if textE l = 0 then like L (runesOf l) else false

set_option maxHeartbeats 4000000 in
set_option maxRecDepth 100000 in
theorem pmatch_walk (p : Value) (L : List Int) (s : ByteArray) (w : World) (hT : Tabs w) (hp : PatAt w p L) (hL : L.length ≤ 1000) :
    Calls Tryd.prog 21 #[p, .string s] w fun e w' => e = .returned (.tuple #[.bool (textR L s.data.toList), .int .i64 (textE s.data.toList)]) ∧ Below w.heap.size w w' := by
  obtain ⟨b, A, c, rfl, h0, h1, hc, hC⟩ := hp
  have hl : s.data.toList.length = s.size := by simp
  by_cases hlen : 100000 < s.size
  · have eE : textE s.data.toList = 2 := by simp [textE, hl, hlen]
    have eR : textR L s.data.toList = false := by simp [textR, eE]
    rw [eE, eR]
    have c1 : decide ((100000 : Int) < (s.size : Int)) = true := decide_eq_true (by omega)
    clear hT hl eE eR hC
    go_enter Tryd.func21, Tryd.ntmps21
    go_wp2
    go_ret2
    exact ⟨rfl, Below.refl _ _⟩
  · have cS := split_walk s w (by omega) hT
    have c1 : decide ((100000 : Int) < (s.size : Int)) = false := decide_eq_false (by omega)
    have eE : textE s.data.toList = splitE s.data.toList := by simp [textE, hl, hlen]
    by_cases hv : validD s.data.toList = true
    · have e0 : splitE s.data.toList = 0 := by simp [splitE, hv]
      have r0 : splitR s.data.toList = runesOf s.data.toList := by simp [splitR, hv]
      have eR : textR L s.data.toList = like L (runesOf s.data.toList) := by simp [textR, eE, e0]
      have hrl := runesOf_length s.data.toList
      rw [eE, eR, e0]
      rw [e0, r0] at cS
      obtain ⟨R, hR⟩ : ∃ R, runesOf s.data.toList = R := ⟨_, rfl⟩
      rw [hR] at cS hrl ⊢
      have HC := Aside0.mk hC
      have H1 := Aside0.mk h1
      clear hT eE e0 r0 hv hR eR hC
      obtain ⟨K, hK⟩ := mL_f L R
      have HK := Aside0.mk hK
      clear hK
      go_enter Tryd.func21, Tryd.ntmps21
      go_wp2_with (first
        | (go_at_call 47; refine cS.mono ?_; rintro e w1 ⟨v, rfl, hR, hb⟩; clear cS; obtain ⟨A1, c1', rfl, hc1, hC1⟩ := Kd.R_reads hR; have HC1 := Aside0.mk hC1; have HB := Aside0.mk hb; clear hR hb hC1)
        | (go_at_call 57; refine (match_walk K L R b A A1 c c1' _ _ hL (by omega) (below_cellT HB.out H1.out) hc hc1 (Kd.C_below HC.out HB.out) HC1.out HK.out).mono ?_; rintro e w2 ⟨rfl, hb2⟩; have HB2 := Aside0.mk hb2; clear hb2))
      go_ret2
      exact ⟨rfl, below_step HB.out HB2.out⟩
    · have e0 : splitE s.data.toList = 3 := by simp [splitE, hv]
      have eR : textR L s.data.toList = false := by simp [textR, eE, e0]
      rw [eE, eR, e0]
      rw [e0] at cS
      clear hT hl eE e0 hv eR hC
      go_enter Tryd.func21, Tryd.ntmps21
      go_wp2_with (go_at_call 47; refine cS.mono ?_; rintro e w1 ⟨v, rfl, hR, hb⟩; clear cS)
      go_ret2
      exact ⟨rfl, hb⟩

set_option maxHeartbeats 4000000 in
set_option maxRecDepth 100000 in
theorem pmatch_nil (s : ByteArray) (w : World) :
    Calls Tryd.prog 21 #[.pointer none, .string s] w fun e w' => e = .returned (.tuple #[.bool false, .int .i64 6]) ∧ Below w.heap.size w w' := by
  go_enter Tryd.func21, Tryd.ntmps21
  go_wp2
  go_ret2
  exact ⟨rfl, Below.refl _ _⟩
set_option maxHeartbeats 4000000 in
set_option maxRecDepth 100000 in
theorem pmatch_zero (b : Nat) (s : ByteArray) (w : World) (h0 : w.cell? ⟨b, 0, none⟩ = some (.bool false)) :
    Calls Tryd.prog 21 #[.pointer (some ⟨b, 0, none⟩), .string s] w fun e w' => e = .returned (.tuple #[.bool false, .int .i64 6]) ∧ Below w.heap.size w w' := by
  go_enter Tryd.func21, Tryd.ntmps21
  go_wp2
  go_ret2
  exact ⟨rfl, Below.refl _ _⟩

/-- What Match gives. -/
def fullE (p s : List UInt8) : Int := if compE p = 0 then textE s else compE p
def fullR (p s : List UInt8) : Bool := if compE p = 0 then textR (runesOf p) s else false

set_option maxHeartbeats 4000000 in
set_option maxRecDepth 100000 in
theorem lmatch_walk (p s : ByteArray) (w : World) (hT : Tabs w) :
    Calls Tryd.prog 18 #[.string p, .string s] w fun e w' => e = .returned (.tuple #[.bool (fullR p.data.toList s.data.toList), .int .i64 (fullE p.data.toList s.data.toList)]) ∧ Below w.heap.size w w' := by
  have cC := compile_walk p w hT
  by_cases h0 : compE p.data.toList = 0
  · have hrl := runesOf_length p.data.toList
    have hcz := compE_zero h0
    have eE : fullE p.data.toList s.data.toList = textE s.data.toList := by simp [fullE, h0]
    have eR : fullR p.data.toList s.data.toList = textR (runesOf p.data.toList) s.data.toList := by simp [fullR, h0]
    rw [eE, eR]
    unfold PatOr at cC
    rw [h0] at cC
    simp only [↓reduceIte] at cC
    have HT := Aside0.mk hT
    obtain ⟨L, hL⟩ : ∃ L, runesOf p.data.toList = L := ⟨_, rfl⟩
    rw [hL] at cC hrl ⊢
    obtain ⟨R, hR⟩ : ∃ R, textR L s.data.toList = R := ⟨_, rfl⟩
    obtain ⟨E, hE⟩ : ∃ E, textE s.data.toList = E := ⟨_, rfl⟩
    have hM : ∀ (pv : Value) (W : World), Tabs W → PatAt W pv L → Calls Tryd.prog 21 #[pv, .string s] W fun e w' => e = .returned (.tuple #[.bool R, .int .i64 E]) ∧ Below W.heap.size W w' := fun pv W h1 h2 => by
      rw [← hR, ← hE]; exact pmatch_walk pv L s W h1 h2 (by omega)
    rw [hR, hE]
    have HM := Aside0.mk hM
    clear hM hT h0 hcz eE eR hL hR hE hrl
    go_enter Tryd.func18, Tryd.ntmps18
    go_wp2_with (first
      | (go_at_call 20; refine cC.mono ?_; rintro e w1 ⟨pv, rfl, hP, hb⟩; clear cC; have HP := Aside0.mk hP; have HB := Aside0.mk hb; clear hP hb)
      | (go_at_call 21; refine (HM.out pv w1 (HT.out.below HB.out) HP.out).mono ?_; rintro e w2 ⟨rfl, hb2⟩; have HB2 := Aside0.mk hb2; clear hb2))
    go_ret2
    exact ⟨rfl, below_step HB.out HB2.out⟩
  · have eE : fullE p.data.toList s.data.toList = compE p.data.toList := by simp [fullE, h0]
    have eR : fullR p.data.toList s.data.toList = false := by simp [fullR, h0]
    rw [eE, eR]
    obtain ⟨E, hE⟩ : ∃ E, compE p.data.toList = E := ⟨_, rfl⟩
    unfold PatOr at cC
    rw [hE] at cC h0 ⊢
    have b0 : (E != 0) = true := by simpa using h0
    have b1 : (E == 0) = false := by simpa using h0
    clear hT eE eR hE h0
    go_enter Tryd.func18, Tryd.ntmps18
    go_wp2_with (go_at_call 20; refine cC.mono ?_; rintro e w1 ⟨pv, rfl, hP, hb⟩; clear cC; clear hP)
    go_ret2
    exact ⟨rfl, hb⟩

/-- The document's Split, called. -/
theorem rsplit_walk (s : ByteArray) (w : World) (hs : (s.size : Int) ≤ 17592186044415) :
    Calls Tryd.prog 23 #[.string s] w fun e w' => ∃ v0_ : Value, e = .returned (.tuple #[v0_, .bool (validD s.data.toList)]) ∧ (Kd.int .i64).R 3 w' w.heap.size (fun _ => True) v0_ (splitR s.data.toList) ∧ Below w.heap.size w w' := by
  refine hindsightref05_Split.calls (s.size + 21) s (splitR s.data.toList) (validD s.data.toList) w ?_
  rw [split_f s hs, splitR]
  split
  · rename_i h; rw [h]
  · rename_i h; rw [Bool.eq_false_iff.2 h]
theorem points_walk (p s : List Int) (A0 A1 : Option Addr) (c0 c1 : Nat) (w : World) (hp : p.length ≤ 1000000) (hs : s.length ≤ 1000000) (h0 : (Kd.int .i64).C w A0 p.length p) (hc0 : p.length ≤ c0) (h1 : (Kd.int .i64).C w A1 s.length s) (hc1 : s.length ≤ c1) :
    Calls Tryd.prog 56 #[.slice A0 p.length c0, .slice A1 s.length c1] w fun e w' => e = .returned (.bool (like p s)) ∧ Below w.heap.size w w' := by
  obtain ⟨k, hk⟩ := points_f p s hp hs
  exact hindsightref06_Points.calls k A0 c0 p A1 c1 s (like p s) w h0 hc0 h1 hc1 hk

set_option maxHeartbeats 4000000 in
set_option maxRecDepth 100000 in
theorem rmatch_walk (p s : ByteArray) (w : World) :
    Calls Tryd.prog 19 #[.string p, .string s] w fun e w' => e = .returned (.tuple #[.bool (fullR p.data.toList s.data.toList), .int .i64 (fullE p.data.toList s.data.toList)]) ∧ Below w.heap.size w w' := by
  have hlp : p.data.toList.length = p.size := by simp
  have hls : s.data.toList.length = s.size := by simp
  by_cases hlen : 1000 < p.size
  · have eE : fullE p.data.toList s.data.toList = 2 := by simp [fullE, compE, hlp, hlen]
    have eR : fullR p.data.toList s.data.toList = false := by simp [fullR, compE, hlp, hlen]
    rw [eE, eR]
    have c1 : decide ((1000 : Int) < (p.size : Int)) = true := decide_eq_true (by omega)
    clear hlp hls eE eR
    go_enter Tryd.func19, Tryd.ntmps19
    go_wp2
    go_ret2
    exact ⟨rfl, Below.refl _ _⟩
  have c1 : decide ((1000 : Int) < (p.size : Int)) = false := decide_eq_false (by omega)
  have cP := rsplit_walk p w (by omega)
  by_cases hv : validD p.data.toList = true
  · have ec : compE p.data.toList = 0 := by simp [compE, splitE, hlp, hlen, hv]
    have eE : fullE p.data.toList s.data.toList = textE s.data.toList := by simp [fullE, ec]
    have eR : fullR p.data.toList s.data.toList = textR (runesOf p.data.toList) s.data.toList := by simp [fullR, ec]
    have r0 : splitR p.data.toList = runesOf p.data.toList := by simp [splitR, hv]
    have hrl := runesOf_length p.data.toList
    rw [eE, eR]
    rw [r0, hv] at cP
    obtain ⟨L, hL⟩ : ∃ L, runesOf p.data.toList = L := ⟨_, rfl⟩
    rw [hL] at cP hrl ⊢
    clear ec eE eR r0 hv hL
    by_cases hlens : 100000 < s.size
    · have eE : textE s.data.toList = 2 := by simp [textE, hls, hlens]
      have eR : textR L s.data.toList = false := by simp [textR, eE]
      rw [eE, eR]
      have c2 : decide ((100000 : Int) < (s.size : Int)) = true := decide_eq_true (by omega)
      clear hlp hls eE eR
      go_enter Tryd.func19, Tryd.ntmps19
      go_wp2_with (go_at_call 23; refine cP.mono ?_; rintro e w1 ⟨v, rfl, hR, hb⟩; clear cP; clear hR)
      go_ret2
      exact ⟨rfl, hb⟩
    have c2 : decide ((100000 : Int) < (s.size : Int)) = false := decide_eq_false (by omega)
    have cS : ∀ W : World, _ := fun W => rsplit_walk s W (by omega)
    have eE : textE s.data.toList = splitE s.data.toList := by simp [textE, hls, hlens]
    by_cases hvs : validD s.data.toList = true
    · have e0 : splitE s.data.toList = 0 := by simp [splitE, hvs]
      have r0 : splitR s.data.toList = runesOf s.data.toList := by simp [splitR, hvs]
      have eR : textR L s.data.toList = like L (runesOf s.data.toList) := by simp [textR, eE, e0]
      have hrl2 := runesOf_length s.data.toList
      rw [eE, eR, e0]
      rw [r0, hvs] at cS
      obtain ⟨R, hR⟩ : ∃ R, runesOf s.data.toList = R := ⟨_, rfl⟩
      rw [hR] at cS hrl2 ⊢
      have CS := Aside0.mk cS
      clear eE e0 r0 hvs eR hR cS
      go_enter Tryd.func19, Tryd.ntmps19
      go_wp2_with (first
        | (go_at_call_of 23 (Value.string p); refine cP.mono ?_; rintro e w1 ⟨v, rfl, hR, hb⟩; clear cP; obtain ⟨A0, c0', rfl, hc0, hC0⟩ := Kd.R_reads hR; have HC0 := Aside0.mk hC0; have HB := Aside0.mk hb; clear hR hb hC0)
        | (go_at_call 23; refine (CS.out _).mono ?_; rintro e w2 ⟨v, rfl, hR, hb⟩; obtain ⟨A1, c1', rfl, hc1, hC1⟩ := Kd.R_reads hR; have HC1 := Aside0.mk hC1; have HB2 := Aside0.mk hb; clear hR hb hC1)
        | (go_at_call 56; refine (points_walk L R A0 A1 c0' c1' _ (by omega) (by omega) (Kd.C_below HC0.out HB2.out) hc0 HC1.out hc1).mono ?_; rintro e w3 ⟨rfl, hb3⟩; have HB3 := Aside0.mk hb3; clear hb3))
      go_ret2
      exact ⟨rfl, below_step (below_step HB.out HB2.out) HB3.out⟩
    · have hvs' : validD s.data.toList = false := Bool.eq_false_iff.2 hvs
      have e0 : splitE s.data.toList = 3 := by simp [splitE, hvs]
      have eR : textR L s.data.toList = false := by simp [textR, eE, e0]
      rw [eE, eR, e0]
      rw [hvs'] at cS
      have CS := Aside0.mk cS
      clear eE e0 hvs eR cS hvs'
      go_enter Tryd.func19, Tryd.ntmps19
      go_wp2_with (first
        | (go_at_call_of 23 (Value.string p); refine cP.mono ?_; rintro e w1 ⟨v, rfl, hR, hb⟩; clear cP; have HB := Aside0.mk hb; clear hR hb)
        | (go_at_call 23; refine (CS.out _).mono ?_; rintro e w2 ⟨v, rfl, hR, hb⟩; have HB2 := Aside0.mk hb; clear hR hb))
      go_ret2
      exact ⟨rfl, below_step HB.out HB2.out⟩
  · have hv' : validD p.data.toList = false := Bool.eq_false_iff.2 hv
    have ec : compE p.data.toList = 3 := by simp [compE, splitE, hlp, hlen, hv]
    have eE : fullE p.data.toList s.data.toList = 3 := by simp [fullE, ec]
    have eR : fullR p.data.toList s.data.toList = false := by simp [fullR, ec]
    rw [eE, eR]
    rw [hv'] at cP
    clear ec eE eR hv hv'
    go_enter Tryd.func19, Tryd.ntmps19
    go_wp2_with (go_at_call 23; refine cP.mono ?_; rintro e w1 ⟨v, rfl, hR, hb⟩; clear cP; clear hR)
    go_ret2
    exact ⟨rfl, hb⟩
end Go.Proofs.YtoclbmepgeelmaaDoor.Utf
