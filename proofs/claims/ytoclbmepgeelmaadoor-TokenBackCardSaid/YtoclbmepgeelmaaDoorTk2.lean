import Derived.Test.YtoclbmepgeelmaaDoorTk1
import Derived.Test.YtoclbmepgeelmaaDoorPRey1
import Derived.Test.YtoclbmepgeelmaaDoorShi
import Derived.Test.YtoclbmepgeelmaaDoorRn2
import Derived.Deep.QuietTactic
import Derived.BigQuiet
namespace Go.Proofs.YtoclbmepgeelmaaDoor.Utf
set_option linter.unusedVariables false
set_option linter.unusedSimpArgs false
open Go.RowKit Go.Lib Go.Proofs.YtoclbmepgeelmaaDoorW.PrintWords Go.Proofs.YtoclbmepgeelmaaDoorW.PrintLast Go.Proofs.YtoclbmepgeelmaaDoorW.PrintMore

def inC (cs : List Int) (c : Int) : Bool := cs.contains c
theorem inC_take (cs : List Int) (c : Int) (j : Int) (h0 : 0 ≤ j) (h1 : j < cs.length) : inC (cs.take (j + 1).toNat) c = (inC (cs.take j.toNat) c || c == rd cs j) := by
  rw [take_rdJ cs j h0 h1]
  unfold inC
  rw [List.contains_append, List.contains_cons, List.contains_nil, Bool.or_false]

set_option maxHeartbeats 4000000 in
set_option maxRecDepth 100000 in
/-- run: how many bytes at the front of a text are of some classes. -/
theorem run_walk (s : ByteArray) (A : Option Addr) (c : Nat) (cs : List Int) (w : World) (hs : s.size ≤ 1000000) (hn : cs.length ≤ 10) (hc : cs.length ≤ c) (h0 : inC cs 0 = false) (hC : (Kd.int .i64).C w A cs.length cs) :
    Calls Tryd.prog 59 #[.string s, .slice A cs.length c] w fun e w' => e = .returned (.int .i64 (runL (inC cs) (bytesOf s) : Int)) ∧ Below w.heap.size w w' := by
  have HC := Aside0.mk hC
  obtain ⟨N, hN⟩ : ∃ N, runL (inC cs) (bytesOf s) = N := ⟨_, rfl⟩
  rw [hN]
  have HN := Aside0.mk hN
  have HZ := Aside0.mk h0
  clear hN hC h0
  go_enter Tryd.func59, Tryd.ntmps59
  go_wp2_with fail
  go_loopg [] (s.size + 1) (fun gk wx => ∃ p : Nat, Aside0 (wx.heap[w.heap.size]? = some (.stringIter s p)) ∧ Aside0 (Below w.heap.size w wx) ∧ s.size - p < gk ∧ p ≤ s.size ∧ Aside0 (N = p + runL (inC cs) ((bytesOf s).drop p)))
  case atStart => exact ⟨0, ⟨World.iter_heap w s 0⟩, ⟨below_alloc (Below.refl _ _) _⟩, by omega, by omega, ⟨by rw [← HN.out]; simp⟩⟩
  case round =>
    obtain ⟨p, HI, HB, hg, hp0, HO⟩ := hrel
    cases gk with
    | zero => omega
    | succ k1 =>
      by_cases hp : p < s.size
      · have hnx : ∀ ty, (Instr.next (.pointer (some ⟨w.heap.size, 0, none⟩)) true ty).run Tryd.prog wr = _ := fun ty => Lib.run_next_any_at wr w.heap.size s p ty HI.out hp
        have hd := decode_cases s p hp
        have hst := HO.out
        rw [bytes_rd s p hp] at hst
        obtain ⟨⟨r, n⟩, hrn⟩ : ∃ d, Utf8.decode s p = d := ⟨_, rfl⟩
        simp only [hrn] at hnx hd
        have HI2 := Aside0.mk (Lib.iterAt_heap wr w.heap.size s p (p + n) HI.out)
        have HB2 := Aside0.mk (Lib.below_iterAt HB.out (k := w.heap.size) (by omega) s (p + n))
        obtain ⟨wi, hwi⟩ : ∃ wi, wr.iterAt w.heap.size s (p + n) = wi := ⟨_, rfl⟩
        rw [hwi] at hnx HI2 HB2
        clear hwi HI HB hrn HO
        have cc : classZ (r : Int) = classZ (bt s (p : Int)) := by
          rcases hd with ⟨h1, h2⟩ | ⟨h1, h2, h3⟩
          · simp only [Prod.mk.injEq] at h2
            have := bt_range s (p : Int)
            rw [show (r : Int) = bt s (p : Int) by omega]
          · rw [class_high _ (by omega), class_high _ (by omega)]
        have hn1 : classZ (bt s (p : Int)) ≠ 0 → n = 1 := fun h => by
          rcases hd with ⟨h1, h2⟩ | ⟨h1, h2, h3⟩
          · simp only [Prod.mk.injEq] at h2; exact h2.2
          · exact absurd (class_high _ (by omega)) h
        have cW := fun W => class_walk (r : Int) W
        have hst2 : N = p + (if inC cs (classZ (r : Int)) = true then runL (inC cs) ((bytesOf s).drop (p + 1)) + 1 else 0) := by
          rw [hst, cc]
          split
          · rename_i h; rw [runL_yes _ h]
          · rename_i h; rw [runL_no _ (by simpa using h)]
        rw [← cc] at hn1
        obtain ⟨k, hk⟩ : ∃ k, classZ (r : Int) = k := ⟨_, rfl⟩
        rw [hk] at hst2 hn1 cW
        have HS := Aside0.mk hst2
        have HN1 := Aside0.mk hn1
        have CW := Aside0.mk cW
        clear hst2 hn1 cW hd cc hk hst
        go_wp2_with fail
        clear hnx
        go_loopg [7, 18] (cs.length + 1) (fun gk v7 v18 wx => ∃ j : Int, v7 = .bool (inC (cs.take j.toNat) k) ∧ v18 = .int .i64 j ∧ Aside0 (wx.heap[w.heap.size]? = some (.stringIter s (p + n))) ∧ Aside0 (Below w.heap.size w wx) ∧ 0 ≤ j ∧ j ≤ cs.length ∧ cs.length - j.toNat < gk)
        case atStart => exact ⟨0, by simp [inC], by go_num, HI2, HB2, by omega, by omega, by omega⟩
        case round =>
          clear HI2 HB2
          obtain ⟨j, rfl, rfl, HI3, HB3, hj0, hj1, hg2⟩ := hrel
          cases gk with
          | zero => omega
          | succ k2 =>
            by_cases cj : j < (cs.length : Int)
            · have dj := decide_eq_true (p := j < (cs.length : Int)) cj
              obtain ⟨ad, e1, cl⟩ := Kd.at_int (Kd.C_below HC.out HB3.out) j (by omega) (by omega)
              subst e1
              have ht := inC_take cs k j hj0 cj
              obtain ⟨x, hx⟩ : ∃ x, rd cs j = x := ⟨_, rfl⟩
              rw [hx] at cl ht
              obtain ⟨b, hb⟩ : ∃ b, inC (cs.take j.toNat) k = b := ⟨_, rfl⟩
              rw [hb] at ht
              rw [hb]
              have HT := Aside0.mk ht
              clear hx hb ht
              cases b with
              | true =>
                go_wp2_with fail
                go_roundg k2
                case measure => omega
                case rel => exact ⟨j + 1, by rw [HT.out]; rfl, by go_num, HI3, HB3, by omega, by omega, by omega⟩
              | false =>
                go_wp2_with fail
                refine (CW.out _).mono ?_
                rintro e w2 ⟨rfl, ⟨nd, rfl⟩⟩
                go_wp2_with fail
                go_roundg k2
                case measure => omega
                case rel => exact ⟨j + 1, by rw [HT.out]; rfl, by go_num, HI3, ⟨pw_below_drewN HB3.out nd⟩, by omega, by omega, by omega⟩
            · have dj := decide_eq_false (p := j < (cs.length : Int)) cj
              rw [List.take_of_length_le (by omega)]
              have hS := HS.out
              obtain ⟨b, hb⟩ : ∃ b, inC cs k = b := ⟨_, rfl⟩
              have hk0 : b = true → k ≠ 0 := by
                intro h hk
                have := HZ.out
                rw [← hk, hb, h] at this
                cases this
              rw [hb] at hS ⊢
              clear hb HS
              cases b with
              | true =>
                simp only [↓reduceIte] at hS
                obtain rfl := HN1.out (hk0 rfl)
                have HS2 := Aside0.mk (show N = (p + 1) + runL (inC cs) ((bytesOf s).drop (p + 1)) by omega)
                clear hS hk0
                go_wp2_with fail
                go_roundg k1
                case measure => omega
                case rel => exact ⟨p + 1, HI3, HB3, by omega, by omega, HS2⟩
              | false =>
                simp only [Bool.false_eq_true, ↓reduceIte, Nat.add_zero] at hS
                subst hS
                clear hk0
                go_wp2_with fail
                go_ret
                exact ⟨rfl, HB3.out⟩
      · have hnx : ∀ ty, (Instr.next (.pointer (some ⟨w.heap.size, 0, none⟩)) true ty).run Tryd.prog wr = _ := fun ty => Lib.run_next_end_at wr w.heap.size s p ty HI.out hp
        have hO := HO.out
        rw [List.drop_eq_nil_of_le (by rw [bytesOf_length]; omega), runL_nil, Nat.add_zero] at hO
        obtain rfl : N = s.size := by omega
        clear HO hO HN
        go_wp2_with fail
        go_ret
        exact ⟨rfl, HB.out⟩
end Go.Proofs.YtoclbmepgeelmaaDoor.Utf

namespace Go.Proofs.YtoclbmepgeelmaaDoor.Utf
set_option linter.unusedVariables false
set_option linter.unusedSimpArgs false
open Go.RowKit Go.Lib Go.Proofs.YtoclbmepgeelmaaDoorW.PrintWords Go.Proofs.YtoclbmepgeelmaaDoorW.PrintLast Go.Proofs.YtoclbmepgeelmaaDoorW.PrintMore Go.Proofs.YtoclbmepgeelmaaDoor.PRa Go.Proofs.YtoclbmepgeelmaaDoor.PRe

def quoN (i : Nat) : Option Nat → Int
  | none => 0
  | some q => ((i + q + 1 : Nat) : Int)
theorem ev_quoted0 (s : ByteArray) (hs : s.size ≤ 100000) : ∀ (m i : Nat), s.size - i ≤ m → i ≤ s.size + 1 → Ev (fun k => token_quoted.l0 k s (i : Int)) (quoN i (closeL ((bytesOf s).drop i))) := by
  intro m
  induction m using Nat.strongRecOn with
  | _ m ih =>
  intro i hm hi
  have w1 : wrap64 ((i : Int) + 1) = ((i + 1 : Nat) : Int) := by rw [wrap64_id (by omega) (by omega)]; omega
  have w2 : wrap64 (((i + 1 : Nat) : Int) + 1) = ((i + 2 : Nat) : Int) := by rw [wrap64_id (by omega) (by omega)]; omega
  by_cases h : i < s.size
  · have hd := bytes_rd s i h
    by_cases c : bt s (i : Int) = 39
    · by_cases h1 : i + 1 < s.size
      · have hd1 := bytes_rd s (i + 1) h1
        by_cases c1 : bt s ((i + 1 : Nat) : Int) = 39
        · have e : closeL ((bytesOf s).drop i) = (closeL ((bytesOf s).drop (i + 2))).map (· + 2) := by
            rw [hd, hd1, c, c1]; simp [closeL]
          have hr : quoN i (closeL ((bytesOf s).drop i)) = quoN (i + 2) (closeL ((bytesOf s).drop (i + 2))) := by
            rw [e]; cases closeL ((bytesOf s).drop (i + 2)) <;> simp [quoN]; omega
          rw [hr]
          refine Ev.step (f := fun k => token_quoted.l0 k s ((i + 2 : Nat) : Int)) (fun k => ?_) (ih (m - 1) (by omega) (i + 2) (by omega) (by omega))
          simp only [token_quoted.l0]
          rw [w1, if_pos (by omega), if_pos (by omega), if_pos c, if_neg (by omega), if_pos (by omega), if_pos (by omega), if_pos c1, w2]
        · have e : closeL ((bytesOf s).drop i) = some 0 := by
            rw [hd, hd1, c]; simp only [closeL, ↓reduceIte]; rw [if_neg c1]
          rw [e]
          refine Ev.step (f := fun k => some ((i + 1 : Nat) : Int)) (fun k => ?_) (Ev.now _)
          simp only [token_quoted.l0]
          rw [w1, if_pos (by omega), if_pos (by omega), if_pos c, if_neg (by omega), if_pos (by omega), if_pos (by omega), if_neg c1]
      · have e : closeL ((bytesOf s).drop i) = some 0 := by
          rw [hd, c, List.drop_eq_nil_of_le (by rw [bytesOf_length]; omega)]; simp [closeL]
        rw [e]
        refine Ev.step (f := fun k => some ((i + 1 : Nat) : Int)) (fun k => ?_) (Ev.now _)
        simp only [token_quoted.l0]
        rw [w1, if_pos (by omega), if_pos (by omega), if_pos c, if_pos (by omega)]
    · have hr : quoN i (closeL ((bytesOf s).drop i)) = quoN (i + 1) (closeL ((bytesOf s).drop (i + 1))) := by
        rw [hd, closeL_other c]; cases closeL ((bytesOf s).drop (i + 1)) <;> simp [quoN]; omega
      rw [hr]
      refine Ev.step (f := fun k => token_quoted.l0 k s ((i + 1 : Nat) : Int)) (fun k => ?_) (ih (m - 1) (by omega) (i + 1) (by omega) (by omega))
      simp only [token_quoted.l0]
      rw [w1, if_pos (by omega), if_pos (by omega), if_neg c]
  · rw [List.drop_eq_nil_of_le (by rw [bytesOf_length]; omega)]
    refine Ev.step (f := fun k => some (0 : Int)) (fun k => ?_) (Ev.now _)
    simp only [token_quoted.l0]
    rw [if_neg (by omega)]
theorem quoted_walk (s : ByteArray) (w : World) (hs : s.size ≤ 100000) : Calls Tryd.prog 74 #[.string s] w fun e w' => e = .returned (.int .i64 (quoN 1 (closeL ((bytesOf s).drop 1)))) ∧ Drawn0 w w' := by
  obtain ⟨k, hk⟩ := (Ev.congr (fun k => by unfold token_quoted.f; rfl) (ev_quoted0 s hs _ 1 (Nat.le_refl _) (by omega)) : Ev (fun k => token_quoted.f k s) _).rounds
  exact token_quoted.calls k s _ w hk
theorem isB_f (s : ByteArray) : token_isBytes.f s = some (isB (bytesOf s)) := by
  unfold token_isBytes.f
  by_cases h : 1 < s.size
  · have e0 := bytes_rd s 0 (by omega)
    have e1 := bytes_rd s 1 (by omega)
    rw [List.drop_zero] at e0
    have h1 : (s.size : Int) > 1 := by omega
    have h2 : (0 : Int) < (s.size : Int) := by omega
    have h3 : (1 : Int) < (s.size : Int) := by omega
    rw [if_pos h1, if_pos h2, e0, show (0 + 1 : Nat) = 1 from rfl, e1, if_pos h3]
    simp only [isB]
    rw [show (((1 : Nat) : Int)) = 1 from rfl, show (((0 : Nat) : Int)) = 0 from rfl]
    by_cases c : bt s 0 = 120
    · rw [if_pos c, c]; rfl
    · rw [if_neg c]
      by_cases c2 : bt s 0 = 88
      · rw [if_pos c2, c2]; rfl
      · rw [if_neg c2, show (bt s 0 == 120) = false by simpa using c, show (bt s 0 == 88) = false by simpa using c2]; rfl
  · rw [if_neg (by omega)]
    by_cases h0 : s.size = 0
    · have : bytesOf s = [] := List.eq_nil_of_length_eq_zero (by rw [bytesOf_length]; exact h0)
      rw [this]; rfl
    · have e0 := bytes_rd s 0 (by omega)
      rw [List.drop_zero, List.drop_eq_nil_of_le (by rw [bytesOf_length]; omega)] at e0
      rw [e0]; rfl
theorem isB_walk (s : ByteArray) (w : World) : Calls Tryd.prog 72 #[.string s] w fun e w' => e = .returned (.bool (isB (bytesOf s))) ∧ Drawn0 w w' := token_isBytes.calls s _ w (isB_f s)

/-! ### Hexadecimal digits -/
abbrev hexS : ByteArray := ⟨#[48, 49, 50, 51, 52, 53, 54, 55, 56, 57, 97, 98, 99, 100, 101, 102]⟩
theorem hex_fin : ∀ n : Fin 256, indexByte hexS.data.toList ((foldZ (n.val : Int)).toNat.toUInt8) = hexZ (n.val : Int) := by decide +kernel
theorem indexByte_at (x : Int) (c : Int) (h0 : 0 ≤ c) (h1 : c ≤ 255) (hx : x = foldZ c) (w : World) : Calls Tryd.prog 90 #[.string hexS, .int .u8 x] w fun e w' => e = .returned (.int .i64 (hexZ c)) ∧ w' = w := by
  have := hex_fin ⟨c.toNat, by omega⟩
  simp only [Int.toNat_of_nonneg h0] at this
  rw [← this, hx]
  exact Tryd.strings_IndexByte hexS (foldZ c) w
theorem foldS_bt (s : ByteArray) (i : Int) (h0 : 0 ≤ i) (h1 : i < s.size) : bt (foldS s) i = foldZ (bt s i) := by
  have hf : bytesOf (foldS s) = (bytesOf s).map foldZ := by
    unfold foldS
    apply bytesOf_str
    intro x hx
    obtain ⟨c, hc, rfl⟩ := List.mem_map.1 hx
    have := bytesOf_range s c hc
    unfold foldZ; split <;> omega
  rw [← rd_bytesOf, ← rd_bytesOf, hf]
  have hl : i.toNat < (bytesOf s).length := by rw [bytesOf_length]; omega
  simp [rd, List.getD_eq_getElem?_getD, hl]
theorem or_fin : ∀ a b : Fin 16, bits BinOp.or IntKind.i64 ((a.val : Int) * 16) (b.val : Int) = 16 * (a.val : Int) + (b.val : Int) := by decide +kernel
theorem or_nib (a b : Int) (ha : 0 ≤ a) (ha2 : a ≤ 15) (hb : 0 ≤ b) (hb2 : b ≤ 15) : bits BinOp.or IntKind.i64 (a * 16) b = 16 * a + b := by
  have := or_fin ⟨a.toNat, by omega⟩ ⟨b.toNat, by omega⟩
  simpa [Int.toNat_of_nonneg ha, Int.toNat_of_nonneg hb] using this
def UnhexIs (O : Option (List Int)) (t : ByteArray) : Prop := ∀ o, O = some o → t = strOfNums o
set_option maxHeartbeats 4000000 in
set_option maxRecDepth 100000 in
theorem unhex_walk (s : ByteArray) (w : World) (hs : s.size ≤ 100000) :
    Calls Tryd.prog 88 #[.string s] w fun e w' => ∃ t, e = .returned (.tuple #[.string t, .bool (unhexL (bytesOf s)).isSome]) ∧ UnhexIs (unhexL (bytesOf s)) t ∧ Below w.heap.size w w' := by
  have kf := fold_walk s w (by omega)
  have hz := foldS_size s
  have hbt := foldS_bt s
  obtain ⟨F, hF⟩ : ∃ F, foldS s = F := ⟨_, rfl⟩
  rw [hF] at kf hz hbt
  obtain ⟨O, hO⟩ : ∃ O, unhexL (bytesOf s) = O := ⟨_, rfl⟩
  rw [hO]
  have HO := Aside0.mk hO
  have KF := Aside0.mk kf
  have HBT := Aside0.mk hbt
  have HZ := Aside0.mk hz
  have fz1 : F.size ≤ s.size := by omega
  have fz2 : s.size ≤ F.size := by omega
  clear hF hO kf hbt hz
  go_enter Tryd.func88, Tryd.ntmps88
  go_wp2_with fail
  refine KF.out.mono ?_
  rintro e w1 ⟨rfl, hb⟩
  have HB := Aside0.mk hb; clear hb
  go_wp2_with fail
  go_loopg [4, 5] (s.size + 1) (fun gk v4 v5 wx => ∃ (j : Int) (acc : List Int), v5 = .int .i64 j ∧ Aside0 ((Kd.int .u8).R 5 wx w.heap.size (fun _ => True) v4 acc) ∧ Aside0 (Below w.heap.size w wx) ∧ Aside0 (O = (unhexL ((bytesOf s).drop j.toNat)).map (acc ++ ·)) ∧ 0 ≤ j ∧ j ≤ s.size ∧ s.size - j.toNat < gk ∧ acc.length ≤ 1000000 ∧ acc.length ≤ j ∧ Aside0 (j % 2 = 0))
  case atStart =>
    refine ⟨0, [], by go_num, ⟨Kd.R_nil _ _ _ _ _⟩, HB, ⟨?_⟩, by omega, by omega, by omega, by simp, by simp, ⟨by omega⟩⟩
    rw [← HO.out]; simp
  case round =>
    clear HO
    obtain ⟨j, acc, rfl, HR, HBx, HO, hj0, hj1, hg, ha, ha2, HP⟩ := hrel
    cases gk with
    | zero => omega
    | succ k1 =>
      by_cases cj : j + 1 < (F.size : Int)
      · have dj := decide_eq_true (p := j + 1 < (F.size : Int)) cj
        have xj := bt_at F j
        have xj1 := bt_at F (j + 1)
        have hO := HO.out
        have e0 := bytes_rd s j.toNat (by omega)
        have e1 := bytes_rd s (j.toNat + 1) (by omega)
        rw [Int.toNat_of_nonneg hj0] at e0
        rw [show ((j.toNat + 1 : Nat) : Int) = j + 1 by omega] at e1
        have f0 := HBT.out j hj0 (by omega)
        have f1 := HBT.out (j + 1) (by omega) (by omega)
        have b0 := bt_range s j
        have b1 := bt_range s (j + 1)
        obtain ⟨x, hx⟩ : ∃ x, bt F j = x := ⟨_, rfl⟩
        obtain ⟨y, hy⟩ : ∃ y, bt F (j + 1) = y := ⟨_, rfl⟩
        rw [hx] at xj f0
        rw [hy] at xj1 f1
        rw [e0, e1] at hO
        have KA := Aside0.mk (fun W => indexByte_at x (bt s j) b0.1 b0.2 f0 W)
        have KB := Aside0.mk (fun W => indexByte_at y (bt s (j + 1)) b1.1 b1.2 f1 W)
        have ra := hexZ_le (bt s j)
        have rb := hexZ_le (bt s (j + 1))
        simp only [unhexL] at hO
        obtain ⟨a, ha'⟩ : ∃ a, hexZ (bt s j) = a := ⟨_, rfl⟩
        obtain ⟨b, hb'⟩ : ∃ b, hexZ (bt s (j + 1)) = b := ⟨_, rfl⟩
        rw [ha'] at KA ra hO
        rw [hb'] at KB rb hO
        have w1' : IntKind.i64.wrap (j + 1) = j + 1 := (i64_w _).trans (wrap64_id (by omega) (by omega))
        by_cases ca : a < 0
        · have da := decide_eq_true (p := a < 0) ca
          rw [if_pos ca, Option.map_none] at hO
          subst hO
          clear HO e0 e1 f0 f1 hx hy ha' hb' b0 b1
          go_wp2_with fail
          go_quiet ((go_at_call 90; first | exact Calls.quiet_of_same (KA.out _) | exact Calls.quiet_of_same (KB.out _)))
          go_wp2_with fail
          go_ret2
          exact ⟨_, rfl, fun o h => (by cases h), pw_below_drewN HBx.out _⟩
        · have da := decide_eq_false (p := a < 0) ca
          rw [if_neg ca] at hO
          by_cases cb : b < 0
          · have db := decide_eq_true (p := b < 0) cb
            rw [if_pos cb, Option.map_none] at hO
            subst hO
            clear HO e0 e1 f0 f1 hx hy ha' hb' b0 b1
            go_wp2_with fail
            go_quiet ((go_at_call 90; first | exact Calls.quiet_of_same (KA.out _) | exact Calls.quiet_of_same (KB.out _)))
            go_wp2_with fail
            go_ret2
            exact ⟨_, rfl, fun o h => (by cases h), pw_below_drewN HBx.out _⟩
          · have db := decide_eq_false (p := b < 0) cb
            have ca' : 0 ≤ a := by omega
            have cb' : 0 ≤ b := by omega
            rw [if_neg cb] at hO
            have HO2 := Aside0.mk hO
            clear HO hO e0 e1 f0 f1 hx hy ha' hb' b0 b1
            go_wp2_with fail
            go_quiet ((go_at_call 90; first | exact Calls.quiet_of_same (KA.out _) | exact Calls.quiet_of_same (KB.out _)))
            have hor := or_nib a b ca' ra.2 cb' rb.2
            have hmod : (16 * a + b) % 256 = 16 * a + b := by omega
            go_wp2_with (at_builtin; go_must (refine Kd.R_append (Kd.int .u8) (w0 := w) w.heap.size rfl (.tmp 32) (.tmp 38) 70 5 (.int .u8 0) 1 rfl Tryd.underlying70 info5 rfl (by decide) (by omega) u4 acc (16 * a + b) [.int .u8 (16 * a + b)] (fun _ => True) (fun _ => False) rfl rfl ?aP (fun _ hk => hk.elim) ?aF ?aO ?aB ?aS ?aL ?_; (case aP => exact rfl); (case aB => exact pw_below_drewN HBx.out _); (case aF => exact fun _ _ => trivial); (case aO => exact Kd.R_drewN HR.out _); (case aS => exact below_size (pw_below_drewN HBx.out _)); (case aL => omega); intro v1 w2 ho hb hg2 hat))
            go_roundg k1
            case measure => omega
            case rel =>
              refine ⟨j + 2, acc ++ [16 * a + b], by go_num, ⟨ho⟩, ⟨hb⟩, ⟨?_⟩, by omega, by omega, by omega, by simp; omega, by simp; omega, ⟨by have := HP.out; omega⟩⟩
              rw [HO2.out, Option.map_map, show (j + 2).toNat = j.toNat + 1 + 1 by omega]
              congr 1
              funext z; simp
      · have dj := decide_eq_false (p := j + 1 < (F.size : Int)) cj
        have w1' : IntKind.i64.wrap (j + 1) = j + 1 := (i64_w _).trans (wrap64_id (by omega) (by omega))
        obtain ⟨A, c, rfl, hc, hC⟩ := Kd.R_reads HR.out
        have cv := Kd.C_string (P := Tryd.prog) (c := c) (src := 70) (dst := 9) (e := 5) Tryd.underlying70 Tryd.underlying5 Tryd.underlying9 hC
        have hO := HO.out
        have hsz := HZ.out
        have hP := HP.out
        have hm : Int.tmod (F.size : Int) 2 = (F.size : Int) % 2 := Int.tmod_eq_emod_of_nonneg (by omega)
        by_cases hev : (F.size : Int) % 2 = 0
        · have d1 : ((F.size : Int) % 2 == 0) = true := by simpa using hev
          have d2 : (Int.tmod (F.size : Int) 2 == 0) = true := by rw [hm]; exact d1
          rw [List.drop_eq_nil_of_le (by rw [bytesOf_length]; omega)] at hO
          have hN : O = some acc := by rw [hO]; simp [unhexL]
          subst hN
          clear hO hm hP HP hev hsz HO hC
          go_wp2_with fail
          go_ret2
          exact ⟨_, rfl, fun o h => by rw [Option.some.inj h], HBx.out⟩
        · have d1 : ((F.size : Int) % 2 == 0) = false := by rw [beq_eq_false_iff_ne]; exact hev
          have d2 : (Int.tmod (F.size : Int) 2 == 0) = false := by rw [hm]; exact d1
          rw [bytes_rd s j.toNat (by omega), List.drop_eq_nil_of_le (by rw [bytesOf_length]; omega)] at hO
          have hN : O = none := by rw [hO]; simp [unhexL]
          subst hN
          clear hO hm hP HP hev hsz HO hC
          go_wp2_with fail
          go_ret2
          exact ⟨_, rfl, fun o h => (by cases h), HBx.out⟩
end Go.Proofs.YtoclbmepgeelmaaDoor.Utf

namespace Go.Proofs.YtoclbmepgeelmaaDoor.Utf
set_option linter.unusedVariables false
set_option linter.unusedSimpArgs false
open Go.RowKit Go.Lib Go.Proofs.YtoclbmepgeelmaaDoorW.PrintWords Go.Proofs.YtoclbmepgeelmaaDoorW.PrintLast Go.Proofs.YtoclbmepgeelmaaDoorW.PrintMore

/-- What the program's readers of one token hand back. -/
def tokV (r : Tk) : Value := .tuple #[.agg #[.int .i64 r.1, .int .i64 0, .string r.2.1, .int .i64 r.2.2.1], .int .i64 (r.2.2.2.1 : Int), .int .i64 r.2.2.2.2]
abbrev dblS : ByteArray := ⟨#[60, 61, 62, 61, 60, 62, 124, 124]⟩
theorem idx2_step (x y a b : UInt8) (l : List UInt8) (r : Int) (h : index (b :: l) [x, y] = r) : index (a :: b :: l) [x, y] = if x == a && y == b then 0 else if r = -1 then -1 else r + 1 := by
  have p : List.isPrefixOf [x, y] (a :: b :: l) = (x == a && y == b) := by simp [List.isPrefixOf]
  show (if List.isPrefixOf [x, y] (a :: b :: l) then (0 : Int) else if index (b :: l) [x, y] == -1 then -1 else index (b :: l) [x, y] + 1) = _
  rw [p, h]
  by_cases hr : r = -1
  · subst hr; rfl
  · have h2 : (r == -1) = false := by simpa using hr
    rw [if_neg hr, h2]; rfl
theorem index_two (x y : UInt8) : ∃ r : Int, index [60, 61, 62, 61, 60, 62, 124, 124] [x, y] = r ∧ (if x == 60 && y == 61 then r = 0 else if x == 61 && y == 62 then r = 1 else if x == 62 && y == 61 then r = 2 else if x == 61 && y == 60 then r = 3 else if x == 60 && y == 62 then r = 4 else if x == 62 && y == 124 then r = 5 else if x == 124 && y == 124 then r = 6 else r = -1) := by
  have z : index [124] [x, y] = -1 := by simp [index, List.isPrefixOf]
  have z6 := idx2_step x y 124 124 [] _ z
  have z5 := idx2_step x y 62 124 _ _ z6
  have z4 := idx2_step x y 60 62 _ _ z5
  have z3 := idx2_step x y 61 60 _ _ z4
  have z2 := idx2_step x y 62 61 _ _ z3
  have z1 := idx2_step x y 61 62 _ _ z2
  have z0 := idx2_step x y 60 61 _ _ z1
  refine ⟨_, z0, ?_⟩
  clear z z0 z1 z2 z3 z4 z5 z6
  generalize (x == 60 && y == 61) = c0
  generalize (x == 61 && y == 62) = c1
  generalize (x == 62 && y == 61) = c2
  generalize (x == 61 && y == 60) = c3
  generalize (x == 60 && y == 62) = c4
  generalize (x == 62 && y == 124) = c5
  generalize (x == 124 && y == 124) = c6
  revert c0 c1 c2 c3 c4 c5 c6
  decide +kernel
theorem ones_fin : ∀ n : Fin 256, oneL (n.val : Int) = decide (0 ≤ indexByte onesS.data.toList ((n.val : Int).toNat.toUInt8)) := by decide +kernel
theorem u8_at {a : Int} (h0 : 0 ≤ a) (h1 : a ≤ 255) (n : Nat) (hn : n ≤ 255) : (UInt8.ofNat a.toNat = UInt8.ofNat n) = (a = (n : Int)) := propext (u8_ofNat h0 h1 hn)
theorem two_idx (a b : Int) (a0 : 0 ≤ a) (a1 : a ≤ 255) (b0 : 0 ≤ b) (b1 : b ≤ 255) :
    (twoL a b = true → ∃ i : Int, index dblS.data.toList [UInt8.ofNat a.toNat, UInt8.ofNat b.toNat] = i ∧ 0 ≤ i ∧ i ≤ 7 ∧ i % 2 = 0) ∧ (twoL a b = false → ∃ i : Int, index dblS.data.toList [UInt8.ofNat a.toNat, UInt8.ofNat b.toNat] = i ∧ -1 ≤ i ∧ i ≤ 7 ∧ (i < 0 ∨ 0 ≤ i ∧ i % 2 = 1)) := by
  have e : ∀ n : Nat, n ≤ 255 → (UInt8.ofNat a.toNat == UInt8.ofNat n) = (a == (n : Int)) := fun n hn => by
    rw [Bool.eq_iff_iff, beq_iff_eq, beq_iff_eq]; exact u8_ofNat a0 a1 hn
  have f : ∀ n : Nat, n ≤ 255 → (UInt8.ofNat b.toNat == UInt8.ofNat n) = (b == (n : Int)) := fun n hn => by
    rw [Bool.eq_iff_iff, beq_iff_eq, beq_iff_eq]; exact u8_ofNat b0 b1 hn
  have e60 : (UInt8.ofNat a.toNat == 60) = (a == 60) := e 60 (by omega)
  have e61 : (UInt8.ofNat a.toNat == 61) = (a == 61) := e 61 (by omega)
  have e62 : (UInt8.ofNat a.toNat == 62) = (a == 62) := e 62 (by omega)
  have e124 : (UInt8.ofNat a.toNat == 124) = (a == 124) := e 124 (by omega)
  have f60 : (UInt8.ofNat b.toNat == 60) = (b == 60) := f 60 (by omega)
  have f61 : (UInt8.ofNat b.toNat == 61) = (b == 61) := f 61 (by omega)
  have f62 : (UInt8.ofNat b.toNat == 62) = (b == 62) := f 62 (by omega)
  have f124 : (UInt8.ofNat b.toNat == 124) = (b == 124) := f 124 (by omega)
  obtain ⟨r, hr, hc⟩ := index_two (UInt8.ofNat a.toNat) (UInt8.ofNat b.toNat)
  rw [e60, e61, e62, e124, f60, f61, f62, f124] at hc
  have hr' : index dblS.data.toList [UInt8.ofNat a.toNat, UInt8.ofNat b.toNat] = r := hr
  clear e f e60 e61 e62 e124 f60 f61 f62 f124 hr
  unfold twoL
  have x1 : (a == 61 && b == 62) = true → (a == 62 && b == 61) = false ∧ (a == 60 && b == 62) = false ∧ (a == 124 && b == 124) = false := by simp; omega
  have x3 : (a == 61 && b == 60) = true → (a == 60 && b == 62) = false ∧ (a == 124 && b == 124) = false := by simp; omega
  have x5 : (a == 62 && b == 124) = true → (a == 124 && b == 124) = false := by simp; omega
  generalize (a == 60 && b == 61) = c0 at *
  generalize (a == 61 && b == 62) = c1 at *
  generalize (a == 62 && b == 61) = c2 at *
  generalize (a == 61 && b == 60) = c3 at *
  generalize (a == 60 && b == 62) = c4 at *
  generalize (a == 62 && b == 124) = c5 at *
  generalize (a == 124 && b == 124) = c6 at *
  refine ⟨fun h => ⟨r, hr', ?_⟩, fun h => ⟨r, hr', ?_⟩⟩
  all_goals
    clear hr'
    revert h
    cases c0 <;> cases c1 <;> cases c2 <;> cases c3 <;> cases c4 <;> cases c5 <;> cases c6 <;> simp at * <;> omega
theorem index_at (T : ByteArray) (i : Int) (h : index dblS.data.toList T.data.toList = i) (w : World) (hT : TabsT w) : Calls Tryd.prog 89 #[.string dblS, .string T] w fun e w' => e = .returned (.int .i64 i) ∧ w = w' := by
  obtain ⟨_, _, m, hm⟩ := hT
  rw [← h]
  exact (Tryd.strings_Index dblS T m w (by decide) hm).mono fun e w' h => ⟨h.1, h.2.symm⟩
theorem one_at (c : Int) (i : Int) (h : indexByte onesS.data.toList c.toNat.toUInt8 = i) (w : World) : Calls Tryd.prog 90 #[.string onesS, .int .u8 c] w fun e w' => e = .returned (.int .i64 i) ∧ w = w' := by
  rw [← h]
  exact (Tryd.strings_IndexByte onesS c w).mono fun e w' h => ⟨h.1, h.2.symm⟩
theorem ext_data (s : ByteArray) (h : 1 < s.size) : (s.extract 0 2).data.toList = [UInt8.ofNat (bt s 0).toNat, UInt8.ofNat (bt s 1).toNat] := by
  have e0 := bytes_rd s 0 (by omega)
  have e1 := bytes_rd s 1 (by omega)
  rw [List.drop_zero] at e0
  rw [ext_nums, strOfNums_data, List.drop_zero, e0, show (0 + 1 : Nat) = 1 from rfl, e1]; rfl

theorem ones_at (c : Int) (h0 : 0 ≤ c) (h1 : c ≤ 255) : oneL c = decide (0 ≤ indexByte onesS.data.toList c.toNat.toUInt8) := by
  have e : ((c.toNat : Nat) : Int) = c := Int.toNat_of_nonneg h0
  have h : oneL ((c.toNat : Nat) : Int) = decide (0 ≤ indexByte onesS.data.toList (((c.toNat : Nat) : Int)).toNat.toUInt8) := ones_fin ⟨c.toNat, by omega⟩
  rwa [e] at h
theorem tokV_fail : tokV failT = .tuple #[.agg #[.int .i64 0, .int .i64 0, .string (⟨#[]⟩ : ByteArray), .int .i64 0], .int .i64 0, .int .i64 40] := rfl
set_option maxHeartbeats 4000000 in
set_option maxRecDepth 100000 in
/-- sign: where the first byte alone decides. -/
theorem sign_one (s T1 : ByteArray) (c : Int) (i : Int) (w : World) (h1 : 1 ≤ s.size) (hs : s.size ≤ 100000) (hc : bt s 0 = c) (hi : indexByte onesS.data.toList c.toNat.toUInt8 = i) (hi0 : -1 ≤ i) (hT1 : s.extract 0 1 = T1)
    (hT : TabsT w) (htw : 1 < s.size → ∃ j : Int, index dblS.data.toList (s.extract 0 2).data.toList = j ∧ -1 ≤ j ∧ j ≤ 7 ∧ (j < 0 ∨ 0 ≤ j ∧ j % 2 = 1)) :
    Calls Tryd.prog 75 #[.string s] w fun e w' => e = .returned (if i < 0 then tokV failT else tokV (5, T1, 0, 1, 0)) ∧ Below w.heap.size w w' := by
  have HT := Aside0.mk hT
  have x0 := bt_at s 0
  rw [hc, show (0 : Int).toNat = 0 from rfl] at x0
  have KO := Aside0.mk (fun W => one_at c i hi W)
  have p0 : (0 : Int) < (s.size : Int) := by omega
  have p1 : (1 : Int) ≤ (s.size : Int) := by omega
  have cT : s.extract 0 1 = T1 := hT1
  clear hT hc hi hT1
  by_cases hneg : i < 0
  · rw [if_pos hneg, tokV_fail]
    have dn := decide_eq_true (p := i < 0) hneg
    by_cases h2 : 1 < s.size
    · have d2 := decide_eq_true (p := (1 : Int) < (s.size : Int)) (by omega)
      obtain ⟨j, hj, j0, j7, jo⟩ := htw h2
      have p2 : (2 : Int) ≤ (s.size : Int) := by omega
      obtain ⟨T, hTT⟩ : ∃ T, s.extract 0 2 = T := ⟨_, rfl⟩
      rw [hTT] at hj
      have KI := Aside0.mk (fun W h => index_at T j hj W h)
      clear htw hj
      rcases jo with jo | ⟨jp, jo⟩
      · have dj := decide_eq_false (p := (0 : Int) ≤ j) (by omega)
        go_enter Tryd.func75, Tryd.ntmps75
        go_wp2_with ((with_reducible refine gate_dst (N := 2) rfl ?_); refine box_event ?hg (N := 2) ?hd (cs := #[.int .i64 0, .int .i64 0, .string (⟨#[]⟩ : ByteArray), .int .i64 0]) (t := 53) ?hr ?_; (case hd => rfl); (case hg => rfl); (case hr => first | (go_simp; done) | (go_simp; rfl)); intro gb hg w5 hbox hb; have HB := Aside0.mk hb; have BK := Aside0.mk hbox; have GE := Aside0.mk (show w.heap.size ≤ gb by rw [hg]; exact Nat.le_refl _); clear hb hbox hg)
        refine (KI.out _ (HT.out.below HB.out)).mono ?_
        rintro e w6 ⟨rfl, rfl⟩
        go_wp2_with fail
        refine (KO.out _).mono ?_
        rintro e w6 ⟨rfl, rfl⟩
        have hcz0 : w5.cell? ⟨gb, 0, none⟩ = some (.int .i64 0) := (blk_cell BK.out 0).trans rfl
        have hcz1 : w5.cell? ⟨gb, 1, none⟩ = some (.int .i64 0) := (blk_cell BK.out 1).trans rfl
        have hcz2 : w5.cell? ⟨gb, 2, none⟩ = some (.string (⟨#[]⟩ : ByteArray)) := (blk_cell BK.out 2).trans rfl
        have hcz3 : w5.cell? ⟨gb, 3, none⟩ = some (.int .i64 0) := (blk_cell BK.out 3).trans rfl
        have hfz0 := blk_frozen BK.out 0
        have hfz1 := blk_frozen BK.out 1
        have hfz2 := blk_frozen BK.out 2
        have hfz3 := blk_frozen BK.out 3
        go_wp2_with fail
        refine bodyPost_ret (results_ctt rfl _ _ gb 53 #[.int .i64 0, .int .i64 0, .string (⟨#[]⟩ : ByteArray), .int .i64 0] (0, 0) _ rfl (by refine blk_put (cs := #[.int .i64 0, .int .i64 0, .string (⟨#[]⟩ : ByteArray), .int .i64 0]) ?_ 3 _ rfl; refine blk_put (cs := #[.int .i64 0, .int .i64 0, .string (⟨#[]⟩ : ByteArray), .int .i64 0]) ?_ 2 _ rfl; refine blk_put (cs := #[.int .i64 0, .int .i64 0, .string (⟨#[]⟩ : ByteArray), .int .i64 0]) ?_ 1 _ rfl; refine blk_put (cs := #[.int .i64 0, .int .i64 0, .string (⟨#[]⟩ : ByteArray), .int .i64 0]) ?_ 0 _ rfl; exact BK.out) Tryd.underlying53 rfl (by kernel_rfl)) rfl ?_
        exact ⟨rfl, by repeat (first | (with_reducible first | exact HB.out | apply below_alloc | apply pw_below_drewN | apply below_drew1 | refine below_set ?_ GE.out) | exact HB.out)⟩
      · have dj := decide_eq_true (p := (0 : Int) ≤ j) (by omega)
        have dm : (j % 2 == 0) = false := by rw [beq_eq_false_iff_ne]; omega
        have dm2 : (Int.tmod j 2 == 0) = false := by rw [Int.tmod_eq_emod_of_nonneg (by omega)]; exact dm
        go_enter Tryd.func75, Tryd.ntmps75
        go_wp2_with ((with_reducible refine gate_dst (N := 2) rfl ?_); refine box_event ?hg (N := 2) ?hd (cs := #[.int .i64 0, .int .i64 0, .string (⟨#[]⟩ : ByteArray), .int .i64 0]) (t := 53) ?hr ?_; (case hd => rfl); (case hg => rfl); (case hr => first | (go_simp; done) | (go_simp; rfl)); intro gb hg w5 hbox hb; have HB := Aside0.mk hb; have BK := Aside0.mk hbox; have GE := Aside0.mk (show w.heap.size ≤ gb by rw [hg]; exact Nat.le_refl _); clear hb hbox hg)
        refine (KI.out _ (HT.out.below HB.out)).mono ?_
        rintro e w6 ⟨rfl, rfl⟩
        go_wp2_with fail
        refine (KO.out _).mono ?_
        rintro e w6 ⟨rfl, rfl⟩
        have hcz0 : w5.cell? ⟨gb, 0, none⟩ = some (.int .i64 0) := (blk_cell BK.out 0).trans rfl
        have hcz1 : w5.cell? ⟨gb, 1, none⟩ = some (.int .i64 0) := (blk_cell BK.out 1).trans rfl
        have hcz2 : w5.cell? ⟨gb, 2, none⟩ = some (.string (⟨#[]⟩ : ByteArray)) := (blk_cell BK.out 2).trans rfl
        have hcz3 : w5.cell? ⟨gb, 3, none⟩ = some (.int .i64 0) := (blk_cell BK.out 3).trans rfl
        have hfz0 := blk_frozen BK.out 0
        have hfz1 := blk_frozen BK.out 1
        have hfz2 := blk_frozen BK.out 2
        have hfz3 := blk_frozen BK.out 3
        go_wp2_with fail
        refine bodyPost_ret (results_ctt rfl _ _ gb 53 #[.int .i64 0, .int .i64 0, .string (⟨#[]⟩ : ByteArray), .int .i64 0] (0, 0) _ rfl (by refine blk_put (cs := #[.int .i64 0, .int .i64 0, .string (⟨#[]⟩ : ByteArray), .int .i64 0]) ?_ 3 _ rfl; refine blk_put (cs := #[.int .i64 0, .int .i64 0, .string (⟨#[]⟩ : ByteArray), .int .i64 0]) ?_ 2 _ rfl; refine blk_put (cs := #[.int .i64 0, .int .i64 0, .string (⟨#[]⟩ : ByteArray), .int .i64 0]) ?_ 1 _ rfl; refine blk_put (cs := #[.int .i64 0, .int .i64 0, .string (⟨#[]⟩ : ByteArray), .int .i64 0]) ?_ 0 _ rfl; exact BK.out) Tryd.underlying53 rfl (by kernel_rfl)) rfl ?_
        exact ⟨rfl, by repeat (first | (with_reducible first | exact HB.out | apply below_alloc | apply pw_below_drewN | apply below_drew1 | refine below_set ?_ GE.out) | exact HB.out)⟩
    · have d2 := decide_eq_false (p := (1 : Int) < (s.size : Int)) (by omega)
      clear htw
      go_enter Tryd.func75, Tryd.ntmps75
      go_wp2_with ((with_reducible refine gate_dst (N := 2) rfl ?_); refine box_event ?hg (N := 2) ?hd (cs := #[.int .i64 0, .int .i64 0, .string (⟨#[]⟩ : ByteArray), .int .i64 0]) (t := 53) ?hr ?_; (case hd => rfl); (case hg => rfl); (case hr => first | (go_simp; done) | (go_simp; rfl)); intro gb hg w5 hbox hb; have HB := Aside0.mk hb; have BK := Aside0.mk hbox; have GE := Aside0.mk (show w.heap.size ≤ gb by rw [hg]; exact Nat.le_refl _); clear hb hbox hg)
      refine (KO.out _).mono ?_
      rintro e w6 ⟨rfl, rfl⟩
      have hcz0 : w5.cell? ⟨gb, 0, none⟩ = some (.int .i64 0) := (blk_cell BK.out 0).trans rfl
      have hcz1 : w5.cell? ⟨gb, 1, none⟩ = some (.int .i64 0) := (blk_cell BK.out 1).trans rfl
      have hcz2 : w5.cell? ⟨gb, 2, none⟩ = some (.string (⟨#[]⟩ : ByteArray)) := (blk_cell BK.out 2).trans rfl
      have hcz3 : w5.cell? ⟨gb, 3, none⟩ = some (.int .i64 0) := (blk_cell BK.out 3).trans rfl
      have hfz0 := blk_frozen BK.out 0
      have hfz1 := blk_frozen BK.out 1
      have hfz2 := blk_frozen BK.out 2
      have hfz3 := blk_frozen BK.out 3
      go_wp2_with fail
      refine bodyPost_ret (results_ctt rfl _ _ gb 53 #[.int .i64 0, .int .i64 0, .string (⟨#[]⟩ : ByteArray), .int .i64 0] (0, 0) _ rfl (by refine blk_put (cs := #[.int .i64 0, .int .i64 0, .string (⟨#[]⟩ : ByteArray), .int .i64 0]) ?_ 3 _ rfl; refine blk_put (cs := #[.int .i64 0, .int .i64 0, .string (⟨#[]⟩ : ByteArray), .int .i64 0]) ?_ 2 _ rfl; refine blk_put (cs := #[.int .i64 0, .int .i64 0, .string (⟨#[]⟩ : ByteArray), .int .i64 0]) ?_ 1 _ rfl; refine blk_put (cs := #[.int .i64 0, .int .i64 0, .string (⟨#[]⟩ : ByteArray), .int .i64 0]) ?_ 0 _ rfl; exact BK.out) Tryd.underlying53 rfl (by kernel_rfl)) rfl ?_
      exact ⟨rfl, by repeat (first | (with_reducible first | exact HB.out | apply below_alloc | apply pw_below_drewN | apply below_drew1 | refine below_set ?_ GE.out) | exact HB.out)⟩
  · rw [if_neg hneg]
    show Calls Tryd.prog 75 #[.string s] w fun e w' => e = .returned (.tuple #[.agg #[.int .i64 5, .int .i64 0, .string T1, .int .i64 0], .int .i64 1, .int .i64 0]) ∧ Below w.heap.size w w'
    have dn := decide_eq_false (p := i < 0) hneg
    by_cases h2 : 1 < s.size
    · have d2 := decide_eq_true (p := (1 : Int) < (s.size : Int)) (by omega)
      obtain ⟨j, hj, j0, j7, jo⟩ := htw h2
      have p2 : (2 : Int) ≤ (s.size : Int) := by omega
      obtain ⟨T, hTT⟩ : ∃ T, s.extract 0 2 = T := ⟨_, rfl⟩
      rw [hTT] at hj
      have KI := Aside0.mk (fun W h => index_at T j hj W h)
      clear htw hj
      rcases jo with jo | ⟨jp, jo⟩
      · have dj := decide_eq_false (p := (0 : Int) ≤ j) (by omega)
        go_enter Tryd.func75, Tryd.ntmps75
        go_wp2_with ((with_reducible refine gate_dst (N := 2) rfl ?_); refine box_event ?hg (N := 2) ?hd (cs := #[.int .i64 0, .int .i64 0, .string (⟨#[]⟩ : ByteArray), .int .i64 0]) (t := 53) ?hr ?_; (case hd => rfl); (case hg => rfl); (case hr => first | (go_simp; done) | (go_simp; rfl)); intro gb hg w5 hbox hb; have HB := Aside0.mk hb; have BK := Aside0.mk hbox; have GE := Aside0.mk (show w.heap.size ≤ gb by rw [hg]; exact Nat.le_refl _); clear hb hbox hg)
        refine (KI.out _ (HT.out.below HB.out)).mono ?_
        rintro e w6 ⟨rfl, rfl⟩
        go_wp2_with fail
        refine (KO.out _).mono ?_
        rintro e w6 ⟨rfl, rfl⟩
        have hcz0 : w5.cell? ⟨gb, 0, none⟩ = some (.int .i64 0) := (blk_cell BK.out 0).trans rfl
        have hcz1 : w5.cell? ⟨gb, 1, none⟩ = some (.int .i64 0) := (blk_cell BK.out 1).trans rfl
        have hcz2 : w5.cell? ⟨gb, 2, none⟩ = some (.string (⟨#[]⟩ : ByteArray)) := (blk_cell BK.out 2).trans rfl
        have hcz3 : w5.cell? ⟨gb, 3, none⟩ = some (.int .i64 0) := (blk_cell BK.out 3).trans rfl
        have hfz0 := blk_frozen BK.out 0
        have hfz1 := blk_frozen BK.out 1
        have hfz2 := blk_frozen BK.out 2
        have hfz3 := blk_frozen BK.out 3
        go_wp2_with fail
        refine bodyPost_ret (results_ctt rfl _ _ gb 53 #[.int .i64 5, .int .i64 0, .string T1, .int .i64 0] (0, 0) _ rfl (by refine blk_put (cs := #[.int .i64 5, .int .i64 0, .string T1, .int .i64 0]) ?_ 3 _ rfl; refine blk_put (cs := #[.int .i64 5, .int .i64 0, .string (⟨#[]⟩ : ByteArray), .int .i64 0]) ?_ 2 _ rfl; refine blk_put (cs := #[.int .i64 5, .int .i64 0, .string (⟨#[]⟩ : ByteArray), .int .i64 0]) ?_ 1 _ rfl; refine blk_put (cs := #[.int .i64 0, .int .i64 0, .string (⟨#[]⟩ : ByteArray), .int .i64 0]) ?_ 0 _ rfl; exact BK.out) Tryd.underlying53 rfl (by kernel_rfl)) rfl ?_
        exact ⟨rfl, by repeat (first | (with_reducible first | exact HB.out | apply below_alloc | apply pw_below_drewN | apply below_drew1 | refine below_set ?_ GE.out) | exact HB.out)⟩
      · have dj := decide_eq_true (p := (0 : Int) ≤ j) (by omega)
        have dm : (j % 2 == 0) = false := by rw [beq_eq_false_iff_ne]; omega
        have dm2 : (Int.tmod j 2 == 0) = false := by rw [Int.tmod_eq_emod_of_nonneg (by omega)]; exact dm
        go_enter Tryd.func75, Tryd.ntmps75
        go_wp2_with ((with_reducible refine gate_dst (N := 2) rfl ?_); refine box_event ?hg (N := 2) ?hd (cs := #[.int .i64 0, .int .i64 0, .string (⟨#[]⟩ : ByteArray), .int .i64 0]) (t := 53) ?hr ?_; (case hd => rfl); (case hg => rfl); (case hr => first | (go_simp; done) | (go_simp; rfl)); intro gb hg w5 hbox hb; have HB := Aside0.mk hb; have BK := Aside0.mk hbox; have GE := Aside0.mk (show w.heap.size ≤ gb by rw [hg]; exact Nat.le_refl _); clear hb hbox hg)
        refine (KI.out _ (HT.out.below HB.out)).mono ?_
        rintro e w6 ⟨rfl, rfl⟩
        go_wp2_with fail
        refine (KO.out _).mono ?_
        rintro e w6 ⟨rfl, rfl⟩
        have hcz0 : w5.cell? ⟨gb, 0, none⟩ = some (.int .i64 0) := (blk_cell BK.out 0).trans rfl
        have hcz1 : w5.cell? ⟨gb, 1, none⟩ = some (.int .i64 0) := (blk_cell BK.out 1).trans rfl
        have hcz2 : w5.cell? ⟨gb, 2, none⟩ = some (.string (⟨#[]⟩ : ByteArray)) := (blk_cell BK.out 2).trans rfl
        have hcz3 : w5.cell? ⟨gb, 3, none⟩ = some (.int .i64 0) := (blk_cell BK.out 3).trans rfl
        have hfz0 := blk_frozen BK.out 0
        have hfz1 := blk_frozen BK.out 1
        have hfz2 := blk_frozen BK.out 2
        have hfz3 := blk_frozen BK.out 3
        go_wp2_with fail
        refine bodyPost_ret (results_ctt rfl _ _ gb 53 #[.int .i64 5, .int .i64 0, .string T1, .int .i64 0] (0, 0) _ rfl (by refine blk_put (cs := #[.int .i64 5, .int .i64 0, .string T1, .int .i64 0]) ?_ 3 _ rfl; refine blk_put (cs := #[.int .i64 5, .int .i64 0, .string (⟨#[]⟩ : ByteArray), .int .i64 0]) ?_ 2 _ rfl; refine blk_put (cs := #[.int .i64 5, .int .i64 0, .string (⟨#[]⟩ : ByteArray), .int .i64 0]) ?_ 1 _ rfl; refine blk_put (cs := #[.int .i64 0, .int .i64 0, .string (⟨#[]⟩ : ByteArray), .int .i64 0]) ?_ 0 _ rfl; exact BK.out) Tryd.underlying53 rfl (by kernel_rfl)) rfl ?_
        exact ⟨rfl, by repeat (first | (with_reducible first | exact HB.out | apply below_alloc | apply pw_below_drewN | apply below_drew1 | refine below_set ?_ GE.out) | exact HB.out)⟩
    · have d2 := decide_eq_false (p := (1 : Int) < (s.size : Int)) (by omega)
      clear htw
      go_enter Tryd.func75, Tryd.ntmps75
      go_wp2_with ((with_reducible refine gate_dst (N := 2) rfl ?_); refine box_event ?hg (N := 2) ?hd (cs := #[.int .i64 0, .int .i64 0, .string (⟨#[]⟩ : ByteArray), .int .i64 0]) (t := 53) ?hr ?_; (case hd => rfl); (case hg => rfl); (case hr => first | (go_simp; done) | (go_simp; rfl)); intro gb hg w5 hbox hb; have HB := Aside0.mk hb; have BK := Aside0.mk hbox; have GE := Aside0.mk (show w.heap.size ≤ gb by rw [hg]; exact Nat.le_refl _); clear hb hbox hg)
      refine (KO.out _).mono ?_
      rintro e w6 ⟨rfl, rfl⟩
      have hcz0 : w5.cell? ⟨gb, 0, none⟩ = some (.int .i64 0) := (blk_cell BK.out 0).trans rfl
      have hcz1 : w5.cell? ⟨gb, 1, none⟩ = some (.int .i64 0) := (blk_cell BK.out 1).trans rfl
      have hcz2 : w5.cell? ⟨gb, 2, none⟩ = some (.string (⟨#[]⟩ : ByteArray)) := (blk_cell BK.out 2).trans rfl
      have hcz3 : w5.cell? ⟨gb, 3, none⟩ = some (.int .i64 0) := (blk_cell BK.out 3).trans rfl
      have hfz0 := blk_frozen BK.out 0
      have hfz1 := blk_frozen BK.out 1
      have hfz2 := blk_frozen BK.out 2
      have hfz3 := blk_frozen BK.out 3
      go_wp2_with fail
      refine bodyPost_ret (results_ctt rfl _ _ gb 53 #[.int .i64 5, .int .i64 0, .string T1, .int .i64 0] (0, 0) _ rfl (by refine blk_put (cs := #[.int .i64 5, .int .i64 0, .string T1, .int .i64 0]) ?_ 3 _ rfl; refine blk_put (cs := #[.int .i64 5, .int .i64 0, .string (⟨#[]⟩ : ByteArray), .int .i64 0]) ?_ 2 _ rfl; refine blk_put (cs := #[.int .i64 5, .int .i64 0, .string (⟨#[]⟩ : ByteArray), .int .i64 0]) ?_ 1 _ rfl; refine blk_put (cs := #[.int .i64 0, .int .i64 0, .string (⟨#[]⟩ : ByteArray), .int .i64 0]) ?_ 0 _ rfl; exact BK.out) Tryd.underlying53 rfl (by kernel_rfl)) rfl ?_
      exact ⟨rfl, by repeat (first | (with_reducible first | exact HB.out | apply below_alloc | apply pw_below_drewN | apply below_drew1 | refine below_set ?_ GE.out) | exact HB.out)⟩
set_option maxHeartbeats 4000000 in
set_option maxRecDepth 100000 in
/-- sign: where two bytes are one. -/
theorem sign_two (s T : ByteArray) (i : Int) (w : World) (h1 : 1 < s.size) (hs : s.size ≤ 100000) (hTT : s.extract 0 2 = T) (hi : index dblS.data.toList T.data.toList = i) (i0 : 0 ≤ i) (i7 : i ≤ 7) (ie : i % 2 = 0) (hT : TabsT w) :
    Calls Tryd.prog 75 #[.string s] w fun e w' => e = .returned (tokV (5, T, 0, 2, 0)) ∧ Below w.heap.size w w' := by
  show Calls Tryd.prog 75 #[.string s] w fun e w' => e = .returned (.tuple #[.agg #[.int .i64 5, .int .i64 0, .string T, .int .i64 0], .int .i64 2, .int .i64 0]) ∧ Below w.heap.size w w'
  have HT := Aside0.mk hT
  have d2 := decide_eq_true (p := (1 : Int) < (s.size : Int)) (by omega)
  have p2 : (2 : Int) ≤ (s.size : Int) := by omega
  have KI := Aside0.mk (fun W h => index_at T i hi W h)
  have dj := decide_eq_true (p := (0 : Int) ≤ i) (by omega)
  have dm : (i % 2 == 0) = true := by rw [beq_iff_eq]; omega
  have dm2 : (Int.tmod i 2 == 0) = true := by rw [Int.tmod_eq_emod_of_nonneg (by omega)]; exact dm
  clear hT hi ie
  go_enter Tryd.func75, Tryd.ntmps75
  go_wp2_with ((with_reducible refine gate_dst (N := 2) rfl ?_); refine box_event ?hg (N := 2) ?hd (cs := #[.int .i64 0, .int .i64 0, .string (⟨#[]⟩ : ByteArray), .int .i64 0]) (t := 53) ?hr ?_; (case hd => rfl); (case hg => rfl); (case hr => first | (go_simp; done) | (go_simp; rfl)); intro gb hg w5 hbox hb; have HB := Aside0.mk hb; have BK := Aside0.mk hbox; have GE := Aside0.mk (show w.heap.size ≤ gb by rw [hg]; exact Nat.le_refl _); clear hb hbox hg)
  refine (KI.out _ (HT.out.below HB.out)).mono ?_
  rintro e w6 ⟨rfl, rfl⟩
  have hcz0 : w5.cell? ⟨gb, 0, none⟩ = some (.int .i64 0) := (blk_cell BK.out 0).trans rfl
  have hcz1 : w5.cell? ⟨gb, 1, none⟩ = some (.int .i64 0) := (blk_cell BK.out 1).trans rfl
  have hcz2 : w5.cell? ⟨gb, 2, none⟩ = some (.string (⟨#[]⟩ : ByteArray)) := (blk_cell BK.out 2).trans rfl
  have hcz3 : w5.cell? ⟨gb, 3, none⟩ = some (.int .i64 0) := (blk_cell BK.out 3).trans rfl
  have hfz0 := blk_frozen BK.out 0
  have hfz1 := blk_frozen BK.out 1
  have hfz2 := blk_frozen BK.out 2
  have hfz3 := blk_frozen BK.out 3
  go_wp2_with fail
  refine bodyPost_ret (results_ctt rfl _ _ gb 53 #[.int .i64 5, .int .i64 0, .string T, .int .i64 0] (0, 0) _ rfl (by refine blk_put (cs := #[.int .i64 5, .int .i64 0, .string T, .int .i64 0]) ?_ 3 _ rfl; refine blk_put (cs := #[.int .i64 5, .int .i64 0, .string (⟨#[]⟩ : ByteArray), .int .i64 0]) ?_ 2 _ rfl; refine blk_put (cs := #[.int .i64 5, .int .i64 0, .string (⟨#[]⟩ : ByteArray), .int .i64 0]) ?_ 1 _ rfl; refine blk_put (cs := #[.int .i64 0, .int .i64 0, .string (⟨#[]⟩ : ByteArray), .int .i64 0]) ?_ 0 _ rfl; exact BK.out) Tryd.underlying53 rfl (by kernel_rfl)) rfl ?_
  exact ⟨rfl, by repeat (first | (with_reducible first | exact HB.out | apply below_alloc | apply pw_below_drewN | apply below_drew1 | refine below_set ?_ GE.out) | exact HB.out)⟩
theorem sign_walk (s : ByteArray) (w : World) (h1 : 1 ≤ s.size) (hs : s.size ≤ 100000) (hT : TabsT w) :
    Calls Tryd.prog 75 #[.string s] w fun e w' => e = .returned (tokV (sgnP (bytesOf s))) ∧ Below w.heap.size w w' := by
  have b0 := bt_range s 0
  have b1 := bt_range s 1
  obtain ⟨t1, t2⟩ := two_idx (bt s 0) (bt s 1) b0.1 b0.2 b1.1 b1.2
  have e0 := bytes_rd s 0 (by omega)
  rw [List.drop_zero, show (0 + 1 : Nat) = 1 from rfl, show ((0 : Nat) : Int) = 0 from rfl] at e0
  have o0 := ones_at (bt s 0) b0.1 b0.2
  have T1 : s.extract 0 1 = strOfNums ((bytesOf s).take 1) := by rw [ext_nums, List.drop_zero]
  have k1 := fun h => sign_one s _ (bt s 0) _ w h1 hs rfl rfl (indexByte_ge _ _) T1 hT h
  have fin1 : sgnN (bytesOf s) = (if oneL (bt s 0) then 1 else 0) → tokV (sgnP (bytesOf s)) = if indexByte onesS.data.toList (bt s 0).toNat.toUInt8 < 0 then tokV failT else tokV (5, strOfNums ((bytesOf s).take 1), 0, 1, 0) := by
    intro h
    unfold sgnP
    rw [h, o0]
    by_cases hn : indexByte onesS.data.toList (bt s 0).toNat.toUInt8 < 0
    · rw [if_pos hn, decide_eq_false (by omega)]; rfl
    · rw [if_neg hn, decide_eq_true (by omega)]; rfl
  by_cases h2 : 1 < s.size
  · have e1 := bytes_rd s 1 (by omega)
    rw [show ((1 : Nat) : Int) = 1 from rfl] at e1
    have hN : sgnN (bytesOf s) = if twoL (bt s 0) (bt s 1) then 2 else if oneL (bt s 0) then 1 else 0 := by rw [e0, e1]; rfl
    rw [← ext_data s h2] at t1 t2
    cases htw : twoL (bt s 0) (bt s 1) with
    | true =>
      obtain ⟨i, hi, i0, i7, ie⟩ := t1 htw
      have hP : sgnP (bytesOf s) = (5, strOfNums ((bytesOf s).take 2), 0, 2, 0) := by
        unfold sgnP; rw [hN, htw]; rfl
      rw [hP]
      exact sign_two s _ i w h2 hs (by rw [ext_nums, List.drop_zero]) (by rw [show strOfNums ((bytesOf s).take 2) = s.extract 0 2 by rw [ext_nums, List.drop_zero]]; exact hi) i0 i7 ie hT
    | false =>
      rw [fin1 (by rw [hN, htw]; rfl)]
      exact k1 (fun _ => t2 htw)
  · have hN : sgnN (bytesOf s) = if oneL (bt s 0) then 1 else 0 := by
      rw [e0, List.drop_eq_nil_of_le (by rw [bytesOf_length]; omega)]; rfl
    rw [fin1 hN]
    exact k1 (fun h => absurd h h2)
end Go.Proofs.YtoclbmepgeelmaaDoor.Utf

namespace Go.Proofs.YtoclbmepgeelmaaDoor.Utf
set_option linter.unusedVariables false
set_option linter.unusedSimpArgs false
open Go.RowKit Go.Lib Go.Proofs.YtoclbmepgeelmaaDoorW.PrintWords Go.Proofs.YtoclbmepgeelmaaDoorW.PrintLast Go.Proofs.YtoclbmepgeelmaaDoorW.PrintMore

/-- A quoted text that ends: what stands in it is taken back. -/
theorem closeL_unq : ∀ (n : Nat) (r : List Int), r.length ≤ n → ∀ k, closeL r = some k → r.take (k + 1) = r.take k ++ [39] ∧ ∃ X, unqL (r.take k) = some X
  | _, [], _, k, h => by simp [closeL] at h
  | 0, c :: t, hn, _, _ => by simp at hn
  | n + 1, c :: t, hn, k, h => by
    simp only [List.length_cons] at hn
    by_cases hc : c = 39
    · subst hc
      cases t with
      | nil =>
        simp only [closeL, ↓reduceIte, Option.some.injEq] at h
        subst h; exact ⟨rfl, [], rfl⟩
      | cons d u =>
        by_cases hd : d = 39
        · subst hd
          simp only [closeL, ↓reduceIte, Option.map_eq_some_iff] at h
          obtain ⟨q, hq, rfl⟩ := h
          obtain ⟨i1, X, i2⟩ := closeL_unq n u (by simp at hn; omega) q hq
          refine ⟨?_, 39 :: X, ?_⟩
          · rw [show q + 2 + 1 = q + 1 + 1 + 1 by omega, List.take_succ_cons, List.take_succ_cons, i1]; rfl
          · rw [show q + 2 = q + 1 + 1 by omega, List.take_succ_cons, List.take_succ_cons]; simp [unqL, i2]
        · simp only [closeL, ↓reduceIte] at h
          rw [if_neg hd, Option.some.injEq] at h
          subst h; exact ⟨rfl, [], rfl⟩
    · rw [closeL_other hc, Option.map_eq_some_iff] at h
      obtain ⟨q, hq, rfl⟩ := h
      obtain ⟨i1, X, i2⟩ := closeL_unq n t (by omega) q hq
      refine ⟨?_, c :: X, ?_⟩
      · rw [List.take_succ_cons, i1]; rfl
      · rw [List.take_succ_cons, unqL_other hc, i2]; rfl
theorem hex39 : hexZ 39 = -1 := by decide
theorem unhexL_quote : ∀ (n : Nat) (l : List Int), l.length ≤ n → 39 ∈ l → unhexL l = none
  | _, [], _, h => by simp at h
  | _, [a], _, h => rfl
  | 0, a :: b :: t, hn, _ => by simp at hn
  | n + 1, a :: b :: t, hn, h => by
    simp only [List.length_cons] at hn
    simp only [unhexL]
    by_cases ha : a = 39
    · rw [ha, hex39]; simp
    by_cases hb : b = 39
    · rw [hb, hex39]; split <;> simp
    have ht : (39 : Int) ∈ t := by
      rcases List.mem_cons.1 h with h | h
      · exact absurd h.symm ha
      · rcases List.mem_cons.1 h with h | h
        · exact absurd h.symm hb
        · exact h
    rw [unhexL_quote n t (by omega) ht]
    split
    · rfl
    · split <;> rfl
theorem dblZ_mem (X : List Int) : 39 ∈ X → 39 ∈ dblZ X := by
  intro h
  unfold dblZ
  exact List.mem_flatMap.2 ⟨39, h, by simp⟩
theorem dblZ_not : ∀ X : List Int, 39 ∉ X → dblZ X = X
  | [], _ => rfl
  | c :: t, h => by
    have hc : c ≠ 39 := fun e => h (by rw [e]; simp)
    rw [dblZ_cons, if_neg hc, dblZ_not t (fun q => h (by simp [q]))]
theorem unhex_unq {M X : List Int} (h : unqL M = some X) : unhexL X = unhexL M := by
  have hd := dbl_unqL _ M X (Nat.le_refl _) h
  by_cases hq : 39 ∈ X
  · rw [unhexL_quote _ X (Nat.le_refl _) hq, unhexL_quote _ M (Nat.le_refl _) (by rw [← hd]; exact dblZ_mem X hq)]
  · rw [← hd, dblZ_not X hq]
theorem quoted_at (s : ByteArray) (n : Int) (h : quoN 1 (closeL ((bytesOf s).drop 1)) = n) (hs : s.size ≤ 100000) (w : World) : Calls Tryd.prog 74 #[.string s] w fun e w' => e = .returned (.int .i64 n) ∧ Below w.heap.size w w' := by
  rw [← h]
  refine (quoted_walk s w hs).mono ?_
  rintro e w' ⟨rfl, ⟨nd, rfl⟩⟩
  exact ⟨rfl, pw_below_drewN (Below.refl _ _) nd⟩
theorem unhex_at (s : ByteArray) (O : Option (List Int)) (h : unhexL (bytesOf s) = O) (hs : s.size ≤ 100000) (w : World) : Calls Tryd.prog 88 #[.string s] w fun e w' => ∃ t, e = .returned (.tuple #[.string t, .bool O.isSome]) ∧ UnhexIs O t ∧ Below w.heap.size w w' := by
  rw [← h]; exact unhex_walk s w hs
theorem bytes_tail (s : ByteArray) : bytesOf (s.extract 1 s.size) = (bytesOf s).drop 1 := by
  have : bytesOf (strOfNums (((bytesOf s).drop 1).take (s.size - 1))) = ((bytesOf s).drop 1).take (s.size - 1) := bytesOf_str _ fun x hx => bytesOf_range s x (List.mem_of_mem_drop (List.mem_of_mem_take hx))
  rw [ext_nums, this, List.take_of_length_le (by rw [List.length_drop, bytesOf_length]; omega)]
theorem isB_two {l : List Int} (h : isB l = true) : ∃ a t, l = a :: 39 :: t := by
  match l, h with
  | a :: b :: t, h =>
    simp only [isB, Bool.and_eq_true, beq_iff_eq] at h
    exact ⟨a, t, by rw [h.2]⟩

set_option maxHeartbeats 1600000 in
set_option maxRecDepth 100000 in
theorem bytes_walk (s : ByteArray) (w : World) (hb : isB (bytesOf s) = true) (hs : s.size ≤ 100000) :
    Calls Tryd.prog 73 #[.string s] w fun e w' => e = .returned (tokV (bytesP (bytesOf s))) ∧ Below w.heap.size w w' := by
  obtain ⟨a, t, hl⟩ := isB_two hb
  have hsz := congrArg List.length hl
  rw [bytesOf_length] at hsz
  simp only [List.length_cons] at hsz
  have hq1 : quoN 1 (closeL ((bytesOf (s.extract 1 s.size)).drop 1)) = quoN 1 (closeL t) := by rw [bytes_tail, hl]; rfl
  have hz1 : (s.extract 1 s.size).size ≤ 100000 := by rw [ByteArray.size_extract]; omega
  have p1 : (1 : Int) ≤ (s.size : Int) := by omega
  unfold bytesP
  rw [hl, show (a :: 39 :: t).drop 2 = t from rfl]
  cases hc : closeL t with
  | none =>
    rw [hc] at hq1
    have KQ := Aside0.mk (fun W => quoted_at _ 0 hq1 hz1 W)
    obtain ⟨T, hT⟩ : ∃ T, s.extract 1 s.size = T := ⟨_, rfl⟩
    rw [hT] at KQ
    rw [tokV_fail]
    clear hb hl hq1 hz1 hc hsz
    go_enter Tryd.func73, Tryd.ntmps73
    go_wp2_with ((with_reducible refine gate_dst (N := 2) rfl ?_); refine box_event ?hg (N := 2) ?hd (cs := #[.int .i64 0, .int .i64 0, .string (⟨#[]⟩ : ByteArray), .int .i64 0]) (t := 53) ?hr ?_; (case hd => rfl); (case hg => rfl); (case hr => first | (go_simp; done) | (go_simp; rfl)); intro gb hg w5 hbox hb; have HB := Aside0.mk hb; have BK := Aside0.mk hbox; have GE := Aside0.mk (show w.heap.size ≤ gb by rw [hg]; exact Nat.le_refl _); clear hb hbox hg)
    refine (KQ.out _).mono ?_
    rintro e w6 ⟨rfl, hb⟩
    have BKn := Aside0.mk (blk_below BK.out hb); have HBn := Aside0.mk (below_step HB.out hb); clear BK HB hb; have BK := BKn; have HB := HBn; clear BKn HBn
    have hcz0 : w6.cell? ⟨gb, 0, none⟩ = some (.int .i64 0) := (blk_cell BK.out 0).trans rfl
    have hcz1 : w6.cell? ⟨gb, 1, none⟩ = some (.int .i64 0) := (blk_cell BK.out 1).trans rfl
    have hcz2 : w6.cell? ⟨gb, 2, none⟩ = some (.string (⟨#[]⟩ : ByteArray)) := (blk_cell BK.out 2).trans rfl
    have hcz3 : w6.cell? ⟨gb, 3, none⟩ = some (.int .i64 0) := (blk_cell BK.out 3).trans rfl
    have hfz0 := blk_frozen BK.out 0
    have hfz1 := blk_frozen BK.out 1
    have hfz2 := blk_frozen BK.out 2
    have hfz3 := blk_frozen BK.out 3
    go_wp2_with fail
    refine bodyPost_ret (results_ctt rfl _ _ gb 53 #[.int .i64 0, .int .i64 0, .string (⟨#[]⟩ : ByteArray), .int .i64 0] (0, 0) _ rfl (by refine blk_put (cs := #[.int .i64 0, .int .i64 0, .string (⟨#[]⟩ : ByteArray), .int .i64 0]) ?_ 3 _ rfl; refine blk_put (cs := #[.int .i64 0, .int .i64 0, .string (⟨#[]⟩ : ByteArray), .int .i64 0]) ?_ 2 _ rfl; refine blk_put (cs := #[.int .i64 0, .int .i64 0, .string (⟨#[]⟩ : ByteArray), .int .i64 0]) ?_ 1 _ rfl; refine blk_put (cs := #[.int .i64 0, .int .i64 0, .string (⟨#[]⟩ : ByteArray), .int .i64 0]) ?_ 0 _ rfl; exact BK.out) Tryd.underlying53 rfl (by kernel_rfl)) rfl ?_
    exact ⟨rfl, by repeat (first | (with_reducible first | exact HB.out | apply below_alloc | apply pw_below_drewN | apply below_drew1 | refine below_set ?_ GE.out) | exact HB.out)⟩
  | some k =>
    rw [hc] at hq1
    obtain ⟨hk1, X, hX⟩ := closeL_unq _ t (Nat.le_refl _) k hc
    have hkl := closeL_lt _ t (Nat.le_refl _) k hc
    have hQ : s.extract 1 (k + 3) = strOfNums (39 :: (t.take k ++ [39])) := by
      rw [ext_nums, hl, show k + 3 - 1 = k + 2 by omega]
      show strOfNums ((39 :: t).take (k + 1 + 1)) = _
      rw [List.take_succ_cons, hk1]
    have hM : ∀ x ∈ t, 0 ≤ x ∧ x ≤ 255 := fun x hx => bytesOf_range s x (by rw [hl]; simp [hx])
    have hMk : ∀ x ∈ t.take k, 0 ≤ x ∧ x ≤ 255 := fun x hx => hM x (List.mem_of_mem_take hx)
    have hbQ : bytesOf (s.extract 1 (k + 3)) = 39 :: (t.take k ++ [39]) := by
      rw [hQ]
      apply bytesOf_str
      intro x hx
      rcases List.mem_cons.1 hx with rfl | hx
      · omega
      · rcases List.mem_append.1 hx with hx | hx
        · exact hMk x hx
        · simp at hx; omega
    have hO : unqO (s.extract 1 (k + 3)) = some X := by rw [unqO_ends hbQ, hX]
    have hXb : ∀ x ∈ X, 0 ≤ x ∧ x ≤ 255 := by
      have hd := dbl_unqL _ _ X (Nat.le_refl _) hX
      intro x hx
      apply hMk
      rw [← hd]
      unfold dblZ
      refine List.mem_flatMap.2 ⟨x, hx, ?_⟩
      split
      · rename_i h; rw [h]; simp
      · simp
    have hXl : X.length ≤ k := by
      have hd := congrArg List.length (dbl_unqL _ _ X (Nat.le_refl _) hX)
      rw [List.length_take] at hd
      have : ∀ Y : List Int, Y.length ≤ (dblZ Y).length := by
        intro Y
        induction Y with
        | nil => simp
        | cons c u ih => rw [dblZ_cons]; split <;> simp <;> omega
      have := this X
      omega
    have hH : unhexL (bytesOf (strOfNums X)) = unhexL (t.take k) := by rw [bytesOf_str X hXb, unhex_unq hX]
    have hzQ : (s.extract 1 (k + 3)).size ≤ 1000000 := by rw [ByteArray.size_extract]; omega
    have KQ := Aside0.mk (fun W => quoted_at _ ((k : Int) + 2) (hq1.trans (by simp only [quoN]; omega)) hz1 W)
    have KU := Aside0.mk (fun W => unquote_at (s.extract 1 (k + 3)) (strOfNums X) 0 hzQ ⟨by rw [unqR, hO]; rfl, by rw [unqE, hO]; rfl⟩ W)
    have KH := Aside0.mk (fun W => unhex_at (strOfNums X) _ hH (by rw [strOfNums_size]; omega) W)
    obtain ⟨T, hT⟩ : ∃ T, s.extract 1 s.size = T := ⟨_, rfl⟩
    obtain ⟨Q, hQQ⟩ : ∃ Q, s.extract 1 (k + 3) = Q := ⟨_, rfl⟩
    obtain ⟨I, hI⟩ : ∃ I, strOfNums X = I := ⟨_, rfl⟩
    obtain ⟨O, hOO⟩ : ∃ O, unhexL (t.take k) = O := ⟨_, rfl⟩
    have hsl := fun W : World => run_slice_string (P := Tryd.prog) (w := W) 9 s .i64 .i64 1 (1 + ((k : Int) + 2)) Tryd.underlying9 (by omega) (by omega) (by omega)
    have hIx : s.extract (Int.toNat 1) (1 + ((k : Int) + 2)).toNat = Q := by
      rw [← hQQ, show (1 : Int).toNat = 1 from rfl, show (1 + ((k : Int) + 2)).toNat = k + 3 by omega]
    simp only [hIx] at hsl
    rw [hT] at KQ
    rw [hQQ, hI] at KU
    rw [hI, hOO] at KH
    show Calls Tryd.prog 73 #[.string s] w fun e w' => e = .returned (tokV (match unhexL (t.take k) with | none => failT | some o => (4, strOfNums o, 0, k + 3, 0))) ∧ Below w.heap.size w w'
    rw [hOO]
    have wk : IntKind.i64.wrap (1 + ((k : Int) + 2)) = 1 + ((k : Int) + 2) := (i64_w _).trans (wrap64_id (by omega) (by omega))
    have bk : (((k : Int) + 2) == 0) = false := by rw [beq_eq_false_iff_ne]; omega
    have kle : (k : Int) ≤ 100000 := by omega
    have ksz : (k : Int) + 3 ≤ (s.size : Int) := by omega
    clear hsz hb hl hq1 hz1 hc hk1 hX hQ hM hMk hbQ hO hXb hXl hH hzQ hQQ hI hOO hIx hkl
    cases O with
    | none =>
      show Calls Tryd.prog 73 #[.string s] w fun e w' => e = .returned (tokV failT) ∧ Below w.heap.size w w'
      rw [tokV_fail]
      rw [show (none : Option (List Int)).isSome = false from rfl] at KH
      go_enter Tryd.func73, Tryd.ntmps73
      go_wp2_with ((with_reducible refine gate_dst (N := 2) rfl ?_); refine box_event ?hg (N := 2) ?hd (cs := #[.int .i64 0, .int .i64 0, .string (⟨#[]⟩ : ByteArray), .int .i64 0]) (t := 53) ?hr ?_; (case hd => rfl); (case hg => rfl); (case hr => first | (go_simp; done) | (go_simp; rfl)); intro gb hg w5 hbox hb; have HB := Aside0.mk hb; have BK := Aside0.mk hbox; have GE := Aside0.mk (show w.heap.size ≤ gb by rw [hg]; exact Nat.le_refl _); clear hb hbox hg)
      refine (KQ.out _).mono ?_
      rintro e w6 ⟨rfl, hb⟩
      have BKn := Aside0.mk (blk_below BK.out hb); have HBn := Aside0.mk (below_step HB.out hb); clear BK HB hb; have BK := BKn; have HB := HBn; clear BKn HBn
      go_wp2_with fail
      refine (KU.out _).mono ?_
      rintro e w7 ⟨rfl, hb⟩
      have BKn := Aside0.mk (blk_below BK.out hb); have HBn := Aside0.mk (below_step HB.out hb); clear BK HB hb; have BK := BKn; have HB := HBn; clear BKn HBn
      go_wp2_with fail
      refine (KH.out _).mono ?_
      rintro e w8 ⟨tt, rfl, hu, hb⟩
      have BKn := Aside0.mk (blk_below BK.out hb); have HBn := Aside0.mk (below_step HB.out hb); clear BK HB hb; have BK := BKn; have HB := HBn; clear BKn HBn
      have hcz0 : w8.cell? ⟨gb, 0, none⟩ = some (.int .i64 0) := (blk_cell BK.out 0).trans rfl
      have hcz1 : w8.cell? ⟨gb, 1, none⟩ = some (.int .i64 0) := (blk_cell BK.out 1).trans rfl
      have hcz2 : w8.cell? ⟨gb, 2, none⟩ = some (.string (⟨#[]⟩ : ByteArray)) := (blk_cell BK.out 2).trans rfl
      have hcz3 : w8.cell? ⟨gb, 3, none⟩ = some (.int .i64 0) := (blk_cell BK.out 3).trans rfl
      have hfz0 := blk_frozen BK.out 0
      have hfz1 := blk_frozen BK.out 1
      have hfz2 := blk_frozen BK.out 2
      have hfz3 := blk_frozen BK.out 3
      go_wp2_with fail
      refine bodyPost_ret (results_ctt rfl _ _ gb 53 #[.int .i64 0, .int .i64 0, .string (⟨#[]⟩ : ByteArray), .int .i64 0] (0, 0) _ rfl (by refine blk_put (cs := #[.int .i64 0, .int .i64 0, .string (⟨#[]⟩ : ByteArray), .int .i64 0]) ?_ 3 _ rfl; refine blk_put (cs := #[.int .i64 0, .int .i64 0, .string (⟨#[]⟩ : ByteArray), .int .i64 0]) ?_ 2 _ rfl; refine blk_put (cs := #[.int .i64 0, .int .i64 0, .string (⟨#[]⟩ : ByteArray), .int .i64 0]) ?_ 1 _ rfl; refine blk_put (cs := #[.int .i64 0, .int .i64 0, .string (⟨#[]⟩ : ByteArray), .int .i64 0]) ?_ 0 _ rfl; exact BK.out) Tryd.underlying53 rfl (by kernel_rfl)) rfl ?_
      exact ⟨rfl, by repeat (first | (with_reducible first | exact HB.out | apply below_alloc | apply pw_below_drewN | apply below_drew1 | refine below_set ?_ GE.out) | exact HB.out)⟩
    | some o =>
      show Calls Tryd.prog 73 #[.string s] w fun e w' => e = .returned (.tuple #[.agg #[.int .i64 4, .int .i64 0, .string (strOfNums o), .int .i64 0], .int .i64 ((k + 3 : Nat) : Int), .int .i64 0]) ∧ Below w.heap.size w w'
      obtain ⟨R, hR⟩ : ∃ R, strOfNums o = R := ⟨_, rfl⟩
      rw [show (some o : Option (List Int)).isSome = true from rfl] at KH
      rw [hR, show ((k + 3 : Nat) : Int) = 1 + ((k : Int) + 2) by omega]
      go_enter Tryd.func73, Tryd.ntmps73
      go_wp2_with ((with_reducible refine gate_dst (N := 2) rfl ?_); refine box_event ?hg (N := 2) ?hd (cs := #[.int .i64 0, .int .i64 0, .string (⟨#[]⟩ : ByteArray), .int .i64 0]) (t := 53) ?hr ?_; (case hd => rfl); (case hg => rfl); (case hr => first | (go_simp; done) | (go_simp; rfl)); intro gb hg w5 hbox hb; have HB := Aside0.mk hb; have BK := Aside0.mk hbox; have GE := Aside0.mk (show w.heap.size ≤ gb by rw [hg]; exact Nat.le_refl _); clear hb hbox hg)
      refine (KQ.out _).mono ?_
      rintro e w6 ⟨rfl, hb⟩
      have BKn := Aside0.mk (blk_below BK.out hb); have HBn := Aside0.mk (below_step HB.out hb); clear BK HB hb; have BK := BKn; have HB := HBn; clear BKn HBn
      go_wp2_with fail
      refine (KU.out _).mono ?_
      rintro e w7 ⟨rfl, hb⟩
      have BKn := Aside0.mk (blk_below BK.out hb); have HBn := Aside0.mk (below_step HB.out hb); clear BK HB hb; have BK := BKn; have HB := HBn; clear BKn HBn
      go_wp2_with fail
      refine (KH.out _).mono ?_
      rintro e w8 ⟨tt, rfl, hu, hb⟩
      obtain rfl : tt = R := (hu o rfl).trans hR
      have BKn := Aside0.mk (blk_below BK.out hb); have HBn := Aside0.mk (below_step HB.out hb); clear BK HB hb; have BK := BKn; have HB := HBn; clear BKn HBn
      have hcz0 : w8.cell? ⟨gb, 0, none⟩ = some (.int .i64 0) := (blk_cell BK.out 0).trans rfl
      have hcz1 : w8.cell? ⟨gb, 1, none⟩ = some (.int .i64 0) := (blk_cell BK.out 1).trans rfl
      have hcz2 : w8.cell? ⟨gb, 2, none⟩ = some (.string (⟨#[]⟩ : ByteArray)) := (blk_cell BK.out 2).trans rfl
      have hcz3 : w8.cell? ⟨gb, 3, none⟩ = some (.int .i64 0) := (blk_cell BK.out 3).trans rfl
      have hfz0 := blk_frozen BK.out 0
      have hfz1 := blk_frozen BK.out 1
      have hfz2 := blk_frozen BK.out 2
      have hfz3 := blk_frozen BK.out 3
      go_wp2_with fail
      refine bodyPost_ret (results_ctt rfl _ _ gb 53 #[.int .i64 4, .int .i64 0, .string tt, .int .i64 0] (0, 0) _ rfl (by refine blk_put (cs := #[.int .i64 4, .int .i64 0, .string tt, .int .i64 0]) ?_ 3 _ rfl; refine blk_put (cs := #[.int .i64 4, .int .i64 0, .string (⟨#[]⟩ : ByteArray), .int .i64 0]) ?_ 2 _ rfl; refine blk_put (cs := #[.int .i64 4, .int .i64 0, .string (⟨#[]⟩ : ByteArray), .int .i64 0]) ?_ 1 _ rfl; refine blk_put (cs := #[.int .i64 0, .int .i64 0, .string (⟨#[]⟩ : ByteArray), .int .i64 0]) ?_ 0 _ rfl; exact BK.out) Tryd.underlying53 rfl (by kernel_rfl)) rfl ?_
      exact ⟨rfl, by repeat (first | (with_reducible first | exact HB.out | apply below_alloc | apply pw_below_drewN | apply below_drew1 | refine below_set ?_ GE.out) | exact HB.out)⟩
end Go.Proofs.YtoclbmepgeelmaaDoor.Utf

namespace Go.Proofs.YtoclbmepgeelmaaDoor.Utf
set_option linter.unusedVariables false
set_option linter.unusedSimpArgs false
open Go.RowKit Go.Lib Go.Proofs.YtoclbmepgeelmaaDoorW.PrintWords Go.Proofs.YtoclbmepgeelmaaDoorW.PrintLast Go.Proofs.YtoclbmepgeelmaaDoorW.PrintMore

theorem class_at (v c : Int) (h : classZ v = c) (w : World) : Calls Tryd.prog 35 #[.int .i32 v] w fun e w' => e = .returned (.int .i64 c) ∧ Below w.heap.size w w' := by
  rw [← h]
  refine (class_walk v w).mono ?_
  rintro e w' ⟨rfl, ⟨nd, rfl⟩⟩
  exact ⟨rfl, pw_below_drewN (Below.refl _ _) nd⟩
theorem isB_at (s : ByteArray) (b : Bool) (h : isB (bytesOf s) = b) (w : World) : Calls Tryd.prog 72 #[.string s] w fun e w' => e = .returned (.bool b) ∧ Below w.heap.size w w' := by
  rw [← h]
  refine (isB_walk s w).mono ?_
  rintro e w' ⟨rfl, ⟨nd, rfl⟩⟩
  exact ⟨rfl, pw_below_drewN (Below.refl _ _) nd⟩
theorem runL_congr {p q : Int → Bool} (h : ∀ c, p c = q c) (l : List Int) : runL p l = runL q l := by
  unfold runL; congr 1; congr 1; funext c; exact h _
theorem C_new1 (x : Int) (W : World) : (Kd.int .i64).C (W.alloc (.cells #[.int .i64 x] 3)) (some ⟨W.heap.size, 0, none⟩) 1 [x] := by
  refine Kd.C_of_reads (d := (0 : Int)) (h1 := fun _ => rfl) ⟨rfl, by omega, fun _ => ⟨_, rfl, fun j hj => ?_⟩⟩
  obtain rfl : j = 0 := by omega
  rw [show (⟨W.heap.size, 0, none⟩ : Addr).add 0 = ⟨W.heap.size, 0, none⟩ from rfl]
  rw [blk_cell (blk_new W _) 0]; rfl
theorem C_new2 (x y : Int) (W : World) : (Kd.int .i64).C (W.alloc (.cells #[.int .i64 x, .int .i64 y] 3)) (some ⟨W.heap.size, 0, none⟩) 2 [x, y] := by
  refine Kd.C_of_reads (d := (0 : Int)) (h1 := fun _ => rfl) ⟨rfl, by omega, fun _ => ⟨_, rfl, fun j hj => ?_⟩⟩
  have : j = 0 ∨ j = 1 := by omega
  rcases this with rfl | rfl
  · rw [show (⟨W.heap.size, 0, none⟩ : Addr).add 0 = ⟨W.heap.size, 0, none⟩ from rfl, blk_cell (blk_new W _) 0]; rfl
  · rw [show (⟨W.heap.size, 0, none⟩ : Addr).add 1 = ⟨W.heap.size, 1, none⟩ from rfl, blk_cell (blk_new W _) 1]; rfl
theorem run1_at (s : ByteArray) (x : Int) (n : Nat) (p : Int → Bool) (hp : ∀ c, (c == x) = p c) (hx : x ≠ 0) (h : runL p (bytesOf s) = n) (hs : s.size ≤ 1000000) (W : World) :
    Calls Tryd.prog 59 #[.string s, .slice (some ⟨W.heap.size, 0, none⟩) 1 1] (W.alloc (.cells #[.int .i64 x] 3)) fun e w' => e = .returned (.int .i64 (n : Int)) ∧ Below W.heap.size W w' := by
  have hc : ∀ c, inC [x] c = p c := by
    intro c; rw [← hp c]; unfold inC; rw [List.contains_cons, List.contains_nil, Bool.or_false]
  rw [← h, ← runL_congr hc]
  refine (run_walk s _ 1 [x] _ hs (by simp) (Nat.le_refl _) (by rw [hc, ← hp]; simpa using hx.symm) (C_new1 x W)).mono ?_
  rintro e w' ⟨rfl, hb⟩
  exact ⟨rfl, below_step (below_alloc (Below.refl _ _) _) hb⟩
theorem run2_at (s : ByteArray) (n : Nat) (h : runL wordC (bytesOf s) = n) (hs : s.size ≤ 1000000) (W : World) :
    Calls Tryd.prog 59 #[.string s, .slice (some ⟨W.heap.size, 0, none⟩) 2 2] (W.alloc (.cells #[.int .i64 2, .int .i64 3] 3)) fun e w' => e = .returned (.int .i64 (n : Int)) ∧ Below W.heap.size W w' := by
  have hc : ∀ c, inC [2, 3] c = wordC c := by
    intro c; unfold inC wordC; rw [List.contains_cons, List.contains_cons, List.contains_nil, Bool.or_false, Bool.or_comm]
  rw [← h, ← runL_congr hc]
  refine (run_walk s _ 2 [2, 3] _ hs (by simp) (Nat.le_refl _) (by rw [hc]; rfl) (C_new2 2 3 W)).mono ?_
  rintro e w' ⟨rfl, hb⟩
  exact ⟨rfl, below_step (below_alloc (Below.refl _ _) _) hb⟩

set_option maxHeartbeats 3200000 in
set_option maxRecDepth 100000 in
theorem next_walk (s : ByteArray) (w : World) (h1 : 1 ≤ s.size) (hs : s.size ≤ 100000) (hT : TabsT w) :
    Calls Tryd.prog 60 #[.string s] w fun e w' => e = .returned (tokV (nextP (bytesOf s))) ∧ Below w.heap.size w w' := by
  have HT := Aside0.mk hT
  obtain ⟨R, hR⟩ : ∃ R, tokV (nextP (bytesOf s)) = R := ⟨_, rfl⟩
  rw [hR]
  have HR := Aside0.mk hR
  have e0 := bytes_rd s 0 (by omega)
  rw [List.drop_zero, show (0 + 1 : Nat) = 1 from rfl, show ((0 : Nat) : Int) = 0 from rfl] at e0
  have hcls : clsAt (bytesOf s) = classZ (bt s 0) := by rw [e0]; rfl
  obtain ⟨c, hc⟩ : ∃ c, clsAt (bytesOf s) = c := ⟨_, rfl⟩
  rw [hc] at hcls
  have HCL := Aside0.mk hcls
  have HC := Aside0.mk hc
  clear hT hR e0 hcls hc
  go_enter Tryd.func60, Tryd.ntmps60
  go_wp2_with ((with_reducible refine gate_dst (N := 2) rfl ?_); refine box_event ?hg (N := 2) ?hd (cs := #[.int .i64 0, .int .i64 0, .string (⟨#[]⟩ : ByteArray), .int .i64 0]) (t := 53) ?hr ?_; (case hd => rfl); (case hg => rfl); (case hr => first | (go_simp; done) | (go_simp; rfl)); intro gb hg w5 hbox hb; have HB := Aside0.mk hb; have BK := Aside0.mk hbox; have GE := Aside0.mk (show w.heap.size ≤ gb by rw [hg]; exact Nat.le_refl _); clear hb hbox hg)
  go_step3
  go_wp2
  go_step3
  go_wp2_with fail
  go_loopg [5] 2 (fun gk v5 wx => v5 = .int .i64 0 ∧ Aside0 (wx.heap[w5.heap.size]? = some (.stringIter s 0)) ∧ Aside0 (Below w5.heap.size w5 wx))
  case atStart => exact ⟨rfl, ⟨World.iter_heap w5 s 0⟩, ⟨below_alloc (Below.refl _ _) _⟩⟩
  case round =>
    obtain ⟨rfl, HI, HB5⟩ := hrel
    have hnx : ∀ ty, (Instr.next (.pointer (some ⟨w5.heap.size, 0, none⟩)) true ty).run Tryd.prog wr = _ := fun ty => Lib.run_next_any_at wr w5.heap.size s 0 ty HI.out (by omega)
    have hd := decode_cases s 0 (by omega)
    obtain ⟨⟨r, n⟩, hrn⟩ : ∃ d, Utf8.decode s 0 = d := ⟨_, rfl⟩
    simp only [hrn] at hnx hd
    have HB6 := Aside0.mk (Lib.below_iterAt HB5.out (k := w5.heap.size) (by omega) s (0 + n))
    obtain ⟨wi, hwi⟩ : ∃ wi, wr.iterAt w5.heap.size s (0 + n) = wi := ⟨_, rfl⟩
    rw [hwi] at hnx HB6
    have cc : classZ (r : Int) = c := by
      rw [HCL.out]
      rcases hd with ⟨h1, h2⟩ | ⟨h1, h2, h3⟩
      · simp only [Prod.mk.injEq] at h2
        have := bt_range s ((0 : Nat) : Int)
        rw [show (r : Int) = bt s ((0 : Nat) : Int) by omega]; rfl
      · rw [class_high _ (by omega)]
        exact (class_high (bt s 0) (show 127 ≤ bt s ((0 : Nat) : Int) by omega)).symm
    have KC := Aside0.mk (fun W => class_at (r : Int) c cc W)
    have BKn := Aside0.mk (blk_below BK.out HB6.out); have HBn := Aside0.mk (below_step HB.out HB6.out)
    clear BK HB hwi HI HB5 HB6 hrn hd cc
    have BK := BKn; have HB := HBn
    clear BKn HBn
    go_wp2_with fail
    refine (KC.out _).mono ?_
    rintro e w7 ⟨rfl, hb⟩
    have BKn := Aside0.mk (blk_below BK.out hb); have HBn := Aside0.mk (below_step HB.out hb); clear BK HB hb; have BK := BKn; have HB := HBn; clear BKn HBn
    clear hnx KC
    obtain ⟨b, hbb⟩ : ∃ b, isB (bytesOf s) = b := ⟨_, rfl⟩
    have KI := Aside0.mk (fun W => isB_at s b hbb W)
    have HBB := Aside0.mk hbb
    clear hbb
    go_wp2_with fail
    refine (KI.out _).mono ?_
    rintro e w8 ⟨rfl, hb⟩
    have BKn := Aside0.mk (blk_below BK.out hb); have HBn := Aside0.mk (below_step HB.out hb); clear BK HB hb; have BK := BKn; have HB := HBn; clear BKn HBn
    clear KI
    cases b with
    | true =>
      have hN : nextP (bytesOf s) = bytesP (bytesOf s) := by unfold nextP; rw [HBB.out]; rfl
      have KB := fun W => bytes_walk s W HBB.out hs
      rcases hP : bytesP (bytesOf s) with ⟨k, t, i, m, er⟩
      rw [hP] at KB
      have KB' := Aside0.mk (show ∀ W, Calls Tryd.prog 73 #[.string s] W fun e w' => e = .returned (.tuple #[.agg #[.int .i64 k, .int .i64 0, .string t, .int .i64 i], .int .i64 (m : Int), .int .i64 er]) ∧ Below W.heap.size W w' from KB)
      have HF := Aside0.mk (show R = .tuple #[.agg #[.int .i64 k, .int .i64 0, .string t, .int .i64 i], .int .i64 (m : Int), .int .i64 er] by rw [← HR.out, hN, hP]; rfl)
      clear KB hP hN
      go_wp2_with fail
      refine (KB'.out _).mono ?_
      rintro e w9 ⟨rfl, hb⟩
      have BKn := Aside0.mk (blk_below BK.out hb); have HBn := Aside0.mk (below_step HB.out hb); clear BK HB hb; have BK := BKn; have HB := HBn; clear BKn HBn
      have hcz0 : w9.cell? ⟨gb, 0, none⟩ = some (.int .i64 0) := (blk_cell BK.out 0).trans rfl
      have hcz1 : w9.cell? ⟨gb, 1, none⟩ = some (.int .i64 0) := (blk_cell BK.out 1).trans rfl
      have hcz2 : w9.cell? ⟨gb, 2, none⟩ = some (.string (⟨#[]⟩ : ByteArray)) := (blk_cell BK.out 2).trans rfl
      have hcz3 : w9.cell? ⟨gb, 3, none⟩ = some (.int .i64 0) := (blk_cell BK.out 3).trans rfl
      have hfz0 := blk_frozen BK.out 0
      have hfz1 := blk_frozen BK.out 1
      have hfz2 := blk_frozen BK.out 2
      have hfz3 := blk_frozen BK.out 3
      go_wp2_with fail
      try rw [Exit.noGoto_ret]
      refine bodyPost_ret (results_ctt rfl _ _ gb 53 #[.int .i64 k, .int .i64 0, .string t, .int .i64 i] (0, 0) _ rfl (by refine blk_put (cs := #[.int .i64 k, .int .i64 0, .string t, .int .i64 0]) ?_ 3 _ rfl; refine blk_put (cs := #[.int .i64 k, .int .i64 0, .string (⟨#[]⟩ : ByteArray), .int .i64 0]) ?_ 2 _ rfl; refine blk_put (cs := #[.int .i64 k, .int .i64 0, .string (⟨#[]⟩ : ByteArray), .int .i64 0]) ?_ 1 _ rfl; refine blk_put (cs := #[.int .i64 0, .int .i64 0, .string (⟨#[]⟩ : ByteArray), .int .i64 0]) ?_ 0 _ rfl; exact BK.out) Tryd.underlying53 rfl (by kernel_rfl)) rfl ?_
      exact ⟨congrArg Ending.returned HF.out.symm, by repeat (first | (with_reducible first | exact HB.out | apply below_alloc | apply pw_below_drewN | apply below_drew1 | refine below_set ?_ GE.out) | exact HB.out)⟩
    | false =>
      by_cases c2 : c = 2
      · subst c2
        have hN : nextP (bytesOf s) = wordP (bytesOf s) := by unfold nextP; rw [HBB.out, HC.out]; rfl
        obtain ⟨m, hm⟩ : ∃ m, runL wordC (bytesOf s) = m := ⟨_, rfl⟩
        have hml := runL_le wordC (bytesOf s)
        rw [bytesOf_length, hm] at hml
        have KRun := Aside0.mk (fun W => run2_at s m hm (by omega) W)
        have hX : s.extract 0 m = strOfNums ((bytesOf s).take m) := by rw [ext_nums, List.drop_zero, Nat.sub_zero]
        have hW : wordP (bytesOf s) = if nameE (s.extract 0 m) = 0 then (1, nameR (s.extract 0 m), 0, m, 0) else failT := by unfold wordP; rw [hm, hX]
        have KNm := Aside0.mk (fun W => name_walk (s.extract 0 m) W)
        obtain ⟨E, hE⟩ : ∃ E, nameE (s.extract 0 m) = E := ⟨_, rfl⟩
        obtain ⟨X, hXX⟩ : ∃ X, nameR (s.extract 0 m) = X := ⟨_, rfl⟩
        rw [hE, hXX] at KNm hW
        have pm : (m : Int) ≤ (s.size : Int) := by omega
        obtain ⟨N, hNN⟩ : ∃ N, s.extract 0 m = N := ⟨_, rfl⟩
        rw [hNN] at KNm
        clear hm hX hml hE hXX
        by_cases hE0 : E = 0
        · subst hE0
          rw [if_pos rfl] at hW
          have HF := Aside0.mk (show R = .tuple #[.agg #[.int .i64 1, .int .i64 0, .string X, .int .i64 0], .int .i64 (m : Int), .int .i64 0] by rw [← HR.out, hN, hW]; rfl)
          clear hN hW
          go_wp2_with fail
          refine (KRun.out _).mono ?_
          rintro e w9 ⟨rfl, hb⟩
          have BKn := Aside0.mk (blk_below BK.out hb); have HBn := Aside0.mk (below_step HB.out hb); clear BK HB hb; have BK := BKn; have HB := HBn; clear BKn HBn
          go_wp2_with fail
          refine (KNm.out _).mono ?_
          rintro e wA ⟨rfl, hb⟩
          have BKn := Aside0.mk (blk_below BK.out hb); have HBn := Aside0.mk (below_step HB.out hb); clear BK HB hb; have BK := BKn; have HB := HBn; clear BKn HBn
          have hcz0 : wA.cell? ⟨gb, 0, none⟩ = some (.int .i64 0) := (blk_cell BK.out 0).trans rfl
          have hcz1 : wA.cell? ⟨gb, 1, none⟩ = some (.int .i64 0) := (blk_cell BK.out 1).trans rfl
          have hcz2 : wA.cell? ⟨gb, 2, none⟩ = some (.string (⟨#[]⟩ : ByteArray)) := (blk_cell BK.out 2).trans rfl
          have hcz3 : wA.cell? ⟨gb, 3, none⟩ = some (.int .i64 0) := (blk_cell BK.out 3).trans rfl
          have hfz0 := blk_frozen BK.out 0
          have hfz1 := blk_frozen BK.out 1
          have hfz2 := blk_frozen BK.out 2
          have hfz3 := blk_frozen BK.out 3
          go_wp2_with fail
          try rw [Exit.noGoto_ret]
          refine bodyPost_ret (results_ctt rfl _ _ gb 53 #[.int .i64 1, .int .i64 0, .string X, .int .i64 0] (0, 0) _ rfl (by refine blk_put (cs := #[.int .i64 1, .int .i64 0, .string X, .int .i64 0]) ?_ 3 _ rfl; refine blk_put (cs := #[.int .i64 1, .int .i64 0, .string (⟨#[]⟩ : ByteArray), .int .i64 0]) ?_ 2 _ rfl; refine blk_put (cs := #[.int .i64 1, .int .i64 0, .string (⟨#[]⟩ : ByteArray), .int .i64 0]) ?_ 1 _ rfl; refine blk_put (cs := #[.int .i64 0, .int .i64 0, .string (⟨#[]⟩ : ByteArray), .int .i64 0]) ?_ 0 _ rfl; exact BK.out) Tryd.underlying53 rfl (by kernel_rfl)) rfl ?_
          exact ⟨congrArg Ending.returned HF.out.symm, by repeat (first | (with_reducible first | exact HB.out | apply below_alloc | apply pw_below_drewN | apply below_drew1 | refine below_set ?_ GE.out) | exact HB.out)⟩
        · rw [if_neg hE0] at hW
          have bE : (E != 0) = true := by simpa using hE0
          have hnx : nextP (bytesOf s) = failT := hN.trans hW
          have HF := Aside0.mk (show R = .tuple #[.agg #[.int .i64 0, .int .i64 0, .string (⟨#[]⟩ : ByteArray), .int .i64 0], .int .i64 0, .int .i64 40] by rw [← HR.out, hnx]; rfl)
          clear hN hW hE0 hnx
          go_wp2_with fail
          refine (KRun.out _).mono ?_
          rintro e w9 ⟨rfl, hb⟩
          have BKn := Aside0.mk (blk_below BK.out hb); have HBn := Aside0.mk (below_step HB.out hb); clear BK HB hb; have BK := BKn; have HB := HBn; clear BKn HBn
          go_wp2_with fail
          refine (KNm.out _).mono ?_
          rintro e wA ⟨rfl, hb⟩
          have BKn := Aside0.mk (blk_below BK.out hb); have HBn := Aside0.mk (below_step HB.out hb); clear BK HB hb; have BK := BKn; have HB := HBn; clear BKn HBn
          have hcz0 : wA.cell? ⟨gb, 0, none⟩ = some (.int .i64 0) := (blk_cell BK.out 0).trans rfl
          have hcz1 : wA.cell? ⟨gb, 1, none⟩ = some (.int .i64 0) := (blk_cell BK.out 1).trans rfl
          have hcz2 : wA.cell? ⟨gb, 2, none⟩ = some (.string (⟨#[]⟩ : ByteArray)) := (blk_cell BK.out 2).trans rfl
          have hcz3 : wA.cell? ⟨gb, 3, none⟩ = some (.int .i64 0) := (blk_cell BK.out 3).trans rfl
          have hfz0 := blk_frozen BK.out 0
          have hfz1 := blk_frozen BK.out 1
          have hfz2 := blk_frozen BK.out 2
          have hfz3 := blk_frozen BK.out 3
          go_wp2_with fail
          try rw [Exit.noGoto_ret]
          refine bodyPost_ret (results_ctt rfl _ _ gb 53 #[.int .i64 0, .int .i64 0, .string (⟨#[]⟩ : ByteArray), .int .i64 0] (0, 0) _ rfl (by refine blk_put (cs := #[.int .i64 0, .int .i64 0, .string (⟨#[]⟩ : ByteArray), .int .i64 0]) ?_ 3 _ rfl; refine blk_put (cs := #[.int .i64 0, .int .i64 0, .string (⟨#[]⟩ : ByteArray), .int .i64 0]) ?_ 2 _ rfl; refine blk_put (cs := #[.int .i64 0, .int .i64 0, .string (⟨#[]⟩ : ByteArray), .int .i64 0]) ?_ 1 _ rfl; refine blk_put (cs := #[.int .i64 0, .int .i64 0, .string (⟨#[]⟩ : ByteArray), .int .i64 0]) ?_ 0 _ rfl; exact BK.out) Tryd.underlying53 rfl (by kernel_rfl)) rfl ?_
          exact ⟨congrArg Ending.returned HF.out.symm, by repeat (first | (with_reducible first | exact HB.out | apply below_alloc | apply pw_below_drewN | apply below_drew1 | refine below_set ?_ GE.out) | exact HB.out)⟩
      have n2 : (c == 2) = false := by simpa using c2
      by_cases c3 : c = 3
      · subst c3
        have hN : nextP (bytesOf s) = numP (bytesOf s) := by unfold nextP; rw [HBB.out, HC.out]; rfl
        obtain ⟨m, hm⟩ : ∃ m, runL digC (bytesOf s) = m := ⟨_, rfl⟩
        have hml := runL_le digC (bytesOf s)
        rw [bytesOf_length, hm] at hml
        have KRun := Aside0.mk (fun W => run1_at s 3 m digC (fun c => rfl) (by omega) hm (by omega) W)
        have hX : s.extract 0 m = strOfNums ((bytesOf s).take m) := by rw [ext_nums, List.drop_zero, Nat.sub_zero]
        have hY : bytesOf (s.extract m s.size) = (bytesOf s).drop m := by
          rw [ext_nums]
          rw [bytesOf_str _ (fun x hx => bytesOf_range s x (List.mem_of_mem_drop (List.mem_of_mem_take hx)))]
          exact List.take_of_length_le (by rw [List.length_drop, bytesOf_length]; omega)
        have hW : numP (bytesOf s) = if clsAt ((bytesOf s).drop m) = 2 then failT else (2, ⟨#[]⟩, (numRE (s.extract 0 m)).1, m, (numRE (s.extract 0 m)).2) := by unfold numP; rw [hm, hX]
        obtain ⟨q, hq⟩ : ∃ q, runL (fun c => c == 2) ((bytesOf s).drop m) = q := ⟨_, rfl⟩
        have hzY : (s.extract m s.size).size ≤ 1000000 := by rw [ByteArray.size_extract]; omega
        have hzX : (s.extract 0 m).size ≤ 1000000 := by rw [ByteArray.size_extract]; omega
        have KRun2 := Aside0.mk (fun W => run1_at (s.extract m s.size) 2 q (fun c => c == 2) (fun c => rfl) (by omega) (by rw [hY]; exact hq) hzY W)
        have hq2 : (0 < q) ↔ clsAt ((bytesOf s).drop m) = 2 := by
          rw [← hq]
          cases (bytesOf s).drop m with
          | nil => simp [runL_nil, clsAt]
          | cons a u =>
            simp only [clsAt]
            by_cases h : classZ a = 2
            · rw [runL_yes u (by simpa using h)]; simp [h]
            · rw [runL_no u (by simpa using h)]; simp [h]
        have KNm := Aside0.mk (fun W => num_walk (s.extract 0 m) W hzX)
        obtain ⟨V, hV⟩ : ∃ V, (numRE (s.extract 0 m)).1 = V := ⟨_, rfl⟩
        obtain ⟨E, hE⟩ : ∃ E, (numRE (s.extract 0 m)).2 = E := ⟨_, rfl⟩
        rw [hV, hE] at KNm hW
        have pm : (m : Int) ≤ (s.size : Int) := by omega
        obtain ⟨N, hNN⟩ : ∃ N, s.extract 0 m = N := ⟨_, rfl⟩
        obtain ⟨Y, hYY⟩ : ∃ Y, s.extract m s.size = Y := ⟨_, rfl⟩
        rw [hNN] at KNm
        rw [hYY] at KRun2
        clear hm hX hml hV hE hY hq hzX hzY
        by_cases hq0 : 0 < q
        · rw [if_pos (hq2.1 hq0)] at hW
          have bq : decide ((0 : Int) < (q : Int)) = true := decide_eq_true (by omega)
          have bq2 : decide (0 < q) = true := decide_eq_true hq0
          have hnx : nextP (bytesOf s) = failT := hN.trans hW
          have HF := Aside0.mk (show R = .tuple #[.agg #[.int .i64 0, .int .i64 0, .string (⟨#[]⟩ : ByteArray), .int .i64 0], .int .i64 0, .int .i64 40] by rw [← HR.out, hnx]; rfl)
          clear hN hW hq2 hq0 hnx
          go_wp2_with fail
          refine (KRun.out _).mono ?_
          rintro e w9 ⟨rfl, hb⟩
          have BKn := Aside0.mk (blk_below BK.out hb); have HBn := Aside0.mk (below_step HB.out hb); clear BK HB hb; have BK := BKn; have HB := HBn; clear BKn HBn
          go_wp2_with fail
          refine (KRun2.out _).mono ?_
          rintro e wA ⟨rfl, hb⟩
          have BKn := Aside0.mk (blk_below BK.out hb); have HBn := Aside0.mk (below_step HB.out hb); clear BK HB hb; have BK := BKn; have HB := HBn; clear BKn HBn
          have hcz0 : wA.cell? ⟨gb, 0, none⟩ = some (.int .i64 0) := (blk_cell BK.out 0).trans rfl
          have hcz1 : wA.cell? ⟨gb, 1, none⟩ = some (.int .i64 0) := (blk_cell BK.out 1).trans rfl
          have hcz2 : wA.cell? ⟨gb, 2, none⟩ = some (.string (⟨#[]⟩ : ByteArray)) := (blk_cell BK.out 2).trans rfl
          have hcz3 : wA.cell? ⟨gb, 3, none⟩ = some (.int .i64 0) := (blk_cell BK.out 3).trans rfl
          have hfz0 := blk_frozen BK.out 0
          have hfz1 := blk_frozen BK.out 1
          have hfz2 := blk_frozen BK.out 2
          have hfz3 := blk_frozen BK.out 3
          go_wp2_with fail
          try rw [Exit.noGoto_ret]
          refine bodyPost_ret (results_ctt rfl _ _ gb 53 #[.int .i64 0, .int .i64 0, .string (⟨#[]⟩ : ByteArray), .int .i64 0] (0, 0) _ rfl (by refine blk_put (cs := #[.int .i64 0, .int .i64 0, .string (⟨#[]⟩ : ByteArray), .int .i64 0]) ?_ 3 _ rfl; refine blk_put (cs := #[.int .i64 0, .int .i64 0, .string (⟨#[]⟩ : ByteArray), .int .i64 0]) ?_ 2 _ rfl; refine blk_put (cs := #[.int .i64 0, .int .i64 0, .string (⟨#[]⟩ : ByteArray), .int .i64 0]) ?_ 1 _ rfl; refine blk_put (cs := #[.int .i64 0, .int .i64 0, .string (⟨#[]⟩ : ByteArray), .int .i64 0]) ?_ 0 _ rfl; exact BK.out) Tryd.underlying53 rfl (by kernel_rfl)) rfl ?_
          exact ⟨congrArg Ending.returned HF.out.symm, by repeat (first | (with_reducible first | exact HB.out | apply below_alloc | apply pw_below_drewN | apply below_drew1 | refine below_set ?_ GE.out) | exact HB.out)⟩
        · rw [if_neg (fun h => hq0 (hq2.2 h))] at hW
          have bq : decide ((0 : Int) < (q : Int)) = false := decide_eq_false (by omega)
          have bq2 : decide (0 < q) = false := decide_eq_false hq0
          have HF := Aside0.mk (show R = .tuple #[.agg #[.int .i64 2, .int .i64 0, .string (⟨#[]⟩ : ByteArray), .int .i64 V], .int .i64 (m : Int), .int .i64 E] by rw [← HR.out, hN, hW]; rfl)
          clear hN hW hq2 hq0
          go_wp2_with fail
          refine (KRun.out _).mono ?_
          rintro e w9 ⟨rfl, hb⟩
          have BKn := Aside0.mk (blk_below BK.out hb); have HBn := Aside0.mk (below_step HB.out hb); clear BK HB hb; have BK := BKn; have HB := HBn; clear BKn HBn
          go_wp2_with fail
          refine (KRun2.out _).mono ?_
          rintro e wA ⟨rfl, hb⟩
          have BKn := Aside0.mk (blk_below BK.out hb); have HBn := Aside0.mk (below_step HB.out hb); clear BK HB hb; have BK := BKn; have HB := HBn; clear BKn HBn
          go_wp2_with fail
          refine (KNm.out _).mono ?_
          rintro e wB ⟨rfl, hb⟩
          have BKn := Aside0.mk (blk_below BK.out hb); have HBn := Aside0.mk (below_step HB.out hb); clear BK HB hb; have BK := BKn; have HB := HBn; clear BKn HBn
          have hcz0 : wB.cell? ⟨gb, 0, none⟩ = some (.int .i64 0) := (blk_cell BK.out 0).trans rfl
          have hcz1 : wB.cell? ⟨gb, 1, none⟩ = some (.int .i64 0) := (blk_cell BK.out 1).trans rfl
          have hcz2 : wB.cell? ⟨gb, 2, none⟩ = some (.string (⟨#[]⟩ : ByteArray)) := (blk_cell BK.out 2).trans rfl
          have hcz3 : wB.cell? ⟨gb, 3, none⟩ = some (.int .i64 0) := (blk_cell BK.out 3).trans rfl
          have hfz0 := blk_frozen BK.out 0
          have hfz1 := blk_frozen BK.out 1
          have hfz2 := blk_frozen BK.out 2
          have hfz3 := blk_frozen BK.out 3
          go_wp2_with fail
          try rw [Exit.noGoto_ret]
          refine bodyPost_ret (results_ctt rfl _ _ gb 53 #[.int .i64 2, .int .i64 0, .string (⟨#[]⟩ : ByteArray), .int .i64 V] (0, 0) _ rfl (by refine blk_put (cs := #[.int .i64 2, .int .i64 0, .string (⟨#[]⟩ : ByteArray), .int .i64 0]) ?_ 3 _ rfl; refine blk_put (cs := #[.int .i64 2, .int .i64 0, .string (⟨#[]⟩ : ByteArray), .int .i64 0]) ?_ 2 _ rfl; refine blk_put (cs := #[.int .i64 2, .int .i64 0, .string (⟨#[]⟩ : ByteArray), .int .i64 0]) ?_ 1 _ rfl; refine blk_put (cs := #[.int .i64 0, .int .i64 0, .string (⟨#[]⟩ : ByteArray), .int .i64 0]) ?_ 0 _ rfl; exact BK.out) Tryd.underlying53 rfl (by kernel_rfl)) rfl ?_
          exact ⟨congrArg Ending.returned HF.out.symm, by repeat (first | (with_reducible first | exact HB.out | apply below_alloc | apply pw_below_drewN | apply below_drew1 | refine below_set ?_ GE.out) | exact HB.out)⟩
      have n3 : (c == 3) = false := by simpa using c3
      by_cases c4 : c = 4
      · subst c4
        have hN : nextP (bytesOf s) = quoP (bytesOf s) := by unfold nextP; rw [HBB.out, HC.out]; rfl
        cases hq : closeL ((bytesOf s).drop 1) with
        | none =>
          have KQ := Aside0.mk (fun W => quoted_at s 0 (by rw [hq]; rfl) hs W)
          have hnx : nextP (bytesOf s) = failT := by rw [hN]; unfold quoP; rw [hq]
          have HF := Aside0.mk (show R = .tuple #[.agg #[.int .i64 0, .int .i64 0, .string (⟨#[]⟩ : ByteArray), .int .i64 0], .int .i64 0, .int .i64 40] by rw [← HR.out, hnx]; rfl)
          clear hN hq hnx
          go_wp2_with fail
          refine (KQ.out _).mono ?_
          rintro e w9 ⟨rfl, hb⟩
          have BKn := Aside0.mk (blk_below BK.out hb); have HBn := Aside0.mk (below_step HB.out hb); clear BK HB hb; have BK := BKn; have HB := HBn; clear BKn HBn
          have hcz0 : w9.cell? ⟨gb, 0, none⟩ = some (.int .i64 0) := (blk_cell BK.out 0).trans rfl
          have hcz1 : w9.cell? ⟨gb, 1, none⟩ = some (.int .i64 0) := (blk_cell BK.out 1).trans rfl
          have hcz2 : w9.cell? ⟨gb, 2, none⟩ = some (.string (⟨#[]⟩ : ByteArray)) := (blk_cell BK.out 2).trans rfl
          have hcz3 : w9.cell? ⟨gb, 3, none⟩ = some (.int .i64 0) := (blk_cell BK.out 3).trans rfl
          have hfz0 := blk_frozen BK.out 0
          have hfz1 := blk_frozen BK.out 1
          have hfz2 := blk_frozen BK.out 2
          have hfz3 := blk_frozen BK.out 3
          go_wp2_with fail
          try rw [Exit.noGoto_ret]
          refine bodyPost_ret (results_ctt rfl _ _ gb 53 #[.int .i64 0, .int .i64 0, .string (⟨#[]⟩ : ByteArray), .int .i64 0] (0, 0) _ rfl (by refine blk_put (cs := #[.int .i64 0, .int .i64 0, .string (⟨#[]⟩ : ByteArray), .int .i64 0]) ?_ 3 _ rfl; refine blk_put (cs := #[.int .i64 0, .int .i64 0, .string (⟨#[]⟩ : ByteArray), .int .i64 0]) ?_ 2 _ rfl; refine blk_put (cs := #[.int .i64 0, .int .i64 0, .string (⟨#[]⟩ : ByteArray), .int .i64 0]) ?_ 1 _ rfl; refine blk_put (cs := #[.int .i64 0, .int .i64 0, .string (⟨#[]⟩ : ByteArray), .int .i64 0]) ?_ 0 _ rfl; exact BK.out) Tryd.underlying53 rfl (by kernel_rfl)) rfl ?_
          exact ⟨congrArg Ending.returned HF.out.symm, by repeat (first | (with_reducible first | exact HB.out | apply below_alloc | apply pw_below_drewN | apply below_drew1 | refine below_set ?_ GE.out) | exact HB.out)⟩
        | some q =>
          have hql := closeL_lt _ _ (Nat.le_refl _) q hq
          rw [List.length_drop, bytesOf_length] at hql
          have KQ := Aside0.mk (fun W => quoted_at s ((q + 2 : Nat) : Int) (by rw [hq]; simp only [quoN]; omega) hs W)
          have hX : s.extract 0 (q + 2) = strOfNums ((bytesOf s).take (q + 2)) := by rw [ext_nums, List.drop_zero, Nat.sub_zero]
          have hzX : (s.extract 0 (q + 2)).size ≤ 1000000 := by rw [ByteArray.size_extract]; omega
          have KU := Aside0.mk (fun W => unquote_walk (s.extract 0 (q + 2)) W hzX)
          have hW : quoP (bytesOf s) = (3, unqR (s.extract 0 (q + 2)), 0, q + 2, 0) := by unfold quoP; rw [hq, hX]
          obtain ⟨X, hXX⟩ : ∃ X, unqR (s.extract 0 (q + 2)) = X := ⟨_, rfl⟩
          obtain ⟨E, hE⟩ : ∃ E, unqE (s.extract 0 (q + 2)) = E := ⟨_, rfl⟩
          rw [hXX, hE] at KU
          rw [hXX] at hW
          obtain ⟨m, hm⟩ : ∃ m, q + 2 = m := ⟨_, rfl⟩
          rw [hm] at KQ hW
          simp only [hm] at KU
          have pm : (m : Int) ≤ (s.size : Int) := by omega
          have bq : ((m : Int) == 0) = false := by rw [beq_eq_false_iff_ne]; omega
          obtain ⟨N, hNN⟩ : ∃ N, s.extract 0 m = N := ⟨_, rfl⟩
          rw [hNN] at KU
          have HF := Aside0.mk (show R = .tuple #[.agg #[.int .i64 3, .int .i64 0, .string X, .int .i64 0], .int .i64 (m : Int), .int .i64 0] by rw [← HR.out, hN, hW]; rfl)
          clear hN hW hq hql hX hXX hE hm hzX
          go_wp2_with fail
          refine (KQ.out _).mono ?_
          rintro e w9 ⟨rfl, hb⟩
          have BKn := Aside0.mk (blk_below BK.out hb); have HBn := Aside0.mk (below_step HB.out hb); clear BK HB hb; have BK := BKn; have HB := HBn; clear BKn HBn
          go_wp2_with fail
          refine (KU.out _).mono ?_
          rintro e wA ⟨rfl, hb⟩
          have BKn := Aside0.mk (blk_below BK.out hb); have HBn := Aside0.mk (below_step HB.out hb); clear BK HB hb; have BK := BKn; have HB := HBn; clear BKn HBn
          have hcz0 : wA.cell? ⟨gb, 0, none⟩ = some (.int .i64 0) := (blk_cell BK.out 0).trans rfl
          have hcz1 : wA.cell? ⟨gb, 1, none⟩ = some (.int .i64 0) := (blk_cell BK.out 1).trans rfl
          have hcz2 : wA.cell? ⟨gb, 2, none⟩ = some (.string (⟨#[]⟩ : ByteArray)) := (blk_cell BK.out 2).trans rfl
          have hcz3 : wA.cell? ⟨gb, 3, none⟩ = some (.int .i64 0) := (blk_cell BK.out 3).trans rfl
          have hfz0 := blk_frozen BK.out 0
          have hfz1 := blk_frozen BK.out 1
          have hfz2 := blk_frozen BK.out 2
          have hfz3 := blk_frozen BK.out 3
          go_wp2_with fail
          try rw [Exit.noGoto_ret]
          refine bodyPost_ret (results_ctt rfl _ _ gb 53 #[.int .i64 3, .int .i64 0, .string X, .int .i64 0] (0, 0) _ rfl (by refine blk_put (cs := #[.int .i64 3, .int .i64 0, .string X, .int .i64 0]) ?_ 3 _ rfl; refine blk_put (cs := #[.int .i64 3, .int .i64 0, .string (⟨#[]⟩ : ByteArray), .int .i64 0]) ?_ 2 _ rfl; refine blk_put (cs := #[.int .i64 3, .int .i64 0, .string (⟨#[]⟩ : ByteArray), .int .i64 0]) ?_ 1 _ rfl; refine blk_put (cs := #[.int .i64 0, .int .i64 0, .string (⟨#[]⟩ : ByteArray), .int .i64 0]) ?_ 0 _ rfl; exact BK.out) Tryd.underlying53 rfl (by kernel_rfl)) rfl ?_
          exact ⟨congrArg Ending.returned HF.out.symm, by repeat (first | (with_reducible first | exact HB.out | apply below_alloc | apply pw_below_drewN | apply below_drew1 | refine below_set ?_ GE.out) | exact HB.out)⟩
      have n4 : (c == 4) = false := by simpa using c4
      have hN : nextP (bytesOf s) = sgnP (bytesOf s) := by
        unfold nextP; rw [HBB.out, HC.out, if_neg (by simp), if_neg c2, if_neg c3, if_neg c4]
      have KB := fun W h => sign_walk s W h1 hs h
      rcases hP : sgnP (bytesOf s) with ⟨k, t, i, m, er⟩
      rw [hP] at KB
      have KB' := Aside0.mk (show ∀ W, TabsT W → Calls Tryd.prog 75 #[.string s] W fun e w' => e = .returned (.tuple #[.agg #[.int .i64 k, .int .i64 0, .string t, .int .i64 i], .int .i64 (m : Int), .int .i64 er]) ∧ Below W.heap.size W w' from KB)
      have HF := Aside0.mk (show R = .tuple #[.agg #[.int .i64 k, .int .i64 0, .string t, .int .i64 i], .int .i64 (m : Int), .int .i64 er] by rw [← HR.out, hN, hP]; rfl)
      clear KB hP hN c2 c3 c4
      go_wp2_with fail
      refine (KB'.out _ (HT.out.below HB.out)).mono ?_
      rintro e w9 ⟨rfl, hb⟩
      have BKn := Aside0.mk (blk_below BK.out hb); have HBn := Aside0.mk (below_step HB.out hb); clear BK HB hb; have BK := BKn; have HB := HBn; clear BKn HBn
      have hcz0 : w9.cell? ⟨gb, 0, none⟩ = some (.int .i64 0) := (blk_cell BK.out 0).trans rfl
      have hcz1 : w9.cell? ⟨gb, 1, none⟩ = some (.int .i64 0) := (blk_cell BK.out 1).trans rfl
      have hcz2 : w9.cell? ⟨gb, 2, none⟩ = some (.string (⟨#[]⟩ : ByteArray)) := (blk_cell BK.out 2).trans rfl
      have hcz3 : w9.cell? ⟨gb, 3, none⟩ = some (.int .i64 0) := (blk_cell BK.out 3).trans rfl
      have hfz0 := blk_frozen BK.out 0
      have hfz1 := blk_frozen BK.out 1
      have hfz2 := blk_frozen BK.out 2
      have hfz3 := blk_frozen BK.out 3
      go_wp2_with fail
      try rw [Exit.noGoto_ret]
      refine bodyPost_ret (results_ctt rfl _ _ gb 53 #[.int .i64 k, .int .i64 0, .string t, .int .i64 i] (0, 0) _ rfl (by refine blk_put (cs := #[.int .i64 k, .int .i64 0, .string t, .int .i64 0]) ?_ 3 _ rfl; refine blk_put (cs := #[.int .i64 k, .int .i64 0, .string (⟨#[]⟩ : ByteArray), .int .i64 0]) ?_ 2 _ rfl; refine blk_put (cs := #[.int .i64 k, .int .i64 0, .string (⟨#[]⟩ : ByteArray), .int .i64 0]) ?_ 1 _ rfl; refine blk_put (cs := #[.int .i64 0, .int .i64 0, .string (⟨#[]⟩ : ByteArray), .int .i64 0]) ?_ 0 _ rfl; exact BK.out) Tryd.underlying53 rfl (by kernel_rfl)) rfl ?_
      exact ⟨congrArg Ending.returned HF.out.symm, by repeat (first | (with_reducible first | exact HB.out | apply below_alloc | apply pw_below_drewN | apply below_drew1 | refine below_set ?_ GE.out) | exact HB.out)⟩
end Go.Proofs.YtoclbmepgeelmaaDoor.Utf

namespace Go.Proofs.YtoclbmepgeelmaaDoor.Utf
set_option linter.unusedVariables false
set_option linter.unusedSimpArgs false
open Go.RowKit Go.Lib Go.Proofs.YtoclbmepgeelmaaDoorW.PrintWords Go.Proofs.YtoclbmepgeelmaaDoorW.PrintLast Go.Proofs.YtoclbmepgeelmaaDoorW.PrintMore Go.Proofs.YtoclbmepgeelmaaDoor.PRe

theorem info53 : (Tryd.prog.info? 53).map (fun i => (i.zero, i.size, i.bytes)) = some (some (.agg #[(.int .i64 0), (.int .i64 0), (.string ⟨#[]⟩), (.int .i64 0)]), 4, 40) := by kernel_rfl
theorem runL_drop (p : Int → Bool) : ∀ l : List Int, runL p (l.drop (runL p l)) = 0
  | [] => rfl
  | c :: t => by
    cases h : p (classZ c) with
    | true => rw [runL_yes t h, List.drop_succ_cons]; exact runL_drop p t
    | false => rw [runL_no t h, List.drop_zero, runL_no t h]
theorem readP_skip (f : Nat) : ∀ (l : List Int) (p : Nat) (acc : List S53), readP f l p acc = readP f (l.drop (runL blkC l)) (p + runL blkC l) acc
  | [], p, acc => rfl
  | c :: t, p, acc => by
    cases h : blkC (classZ c) with
    | true =>
      have hc : classZ c = 1 := by simpa [blkC] using h
      rw [readP_blank f c t p acc hc, readP_skip f t (p + 1) acc, runL_yes t h, List.drop_succ_cons, show p + 1 + runL blkC t = p + (runL blkC t + 1) by omega]
    | false => rw [runL_no t h, List.drop_zero, Nat.add_zero]
theorem readP_tok (f : Nat) (l : List Int) (p : Nat) (acc : List S53) (h0 : runL blkC l = 0) (hne : l ≠ []) :
    readP (f + 1) l p acc = if (nextP l).2.2.2.2 ≠ 0 then ([], (p : Int), (nextP l).2.2.2.2) else readP f (l.drop (nextP l).2.2.2.1) (p + (nextP l).2.2.2.1) (acc ++ [⟨(nextP l).1, (p : Int), (nextP l).2.1, (nextP l).2.2.1⟩]) := by
  simp only [readP]
  rw [h0, List.drop_zero, if_neg hne, Nat.add_zero]
theorem suffix_bytes (s : ByteArray) (p : Nat) : bytesOf (s.extract p s.size) = (bytesOf s).drop p := by
  rw [ext_nums, bytesOf_str _ (fun x hx => bytesOf_range s x (List.mem_of_mem_drop (List.mem_of_mem_take hx)))]
  exact List.take_of_length_le (by rw [List.length_drop, bytesOf_length]; omega)
theorem next_at (s : ByteArray) (k : Int) (t : ByteArray) (i : Int) (m : Nat) (er : Int) (h : nextP (bytesOf s) = (k, t, i, m, er)) (h1 : 1 ≤ s.size) (hs : s.size ≤ 100000) (w : World) (hT : TabsT w) :
    Calls Tryd.prog 60 #[.string s] w fun e w' => e = .returned (.tuple #[.agg #[.int .i64 k, .int .i64 0, .string t, .int .i64 i], .int .i64 (m : Int), .int .i64 er]) ∧ Below w.heap.size w w' := by
  have := next_walk s w h1 hs hT
  rw [h] at this
  exact this
theorem right_at (s : ByteArray) (b : Bool) (h : validD s.data.toList = b) (hs : s.size ≤ 9223372036854775807) (w : World) (hT : Tabs w) : Calls Tryd.prog 49 #[.string s] w fun e w' => e = .returned (.bool b) ∧ Below w.heap.size w w' := by
  rw [← h]; exact right_walk s w hs hT

set_option maxHeartbeats 1200000 in
set_option maxRecDepth 100000 in
/-- token.Read, by the plain model. -/
theorem read_walk (s : ByteArray) (w : World) (hs : s.size ≤ 100000) (hT : TabsT w) :
    Calls Tryd.prog 28 #[.string s] w fun e w' => ∃ v : Value, e = .returned (.tuple #[v, .agg #[.int .i64 (readT s).2.1, .int .i64 (readT s).2.2]]) ∧ (k53).R 53 w' w.heap.size (fun _ => True) v (readT s).1 ∧ Below w.heap.size w w' := by
  have HT := Aside0.mk hT
  clear hT
  by_cases h4 : 4096 < s.size
  · have hR : readT s = ([], 0, 2) := by unfold readT; rw [if_pos h4]
    rw [hR]
    have d4 := decide_eq_true (p := (4096 : Int) < (s.size : Int)) (by omega)
    clear hR
    go_enter Tryd.func28, Tryd.ntmps28
    go_wp2_with ((with_reducible refine gate_dst (N := 3) rfl ?_); refine box_event ?hg (N := 3) ?hd (cs := #[.int .i64 0, .int .i64 0]) (t := 45) ?hr ?_; (case hd => rfl); (case hg => rfl); (case hr => first | (go_simp; done) | (go_simp; rfl)); intro gb hg w5 hbox hb; have HB := Aside0.mk hb; have BK := Aside0.mk hbox; have GE := Aside0.mk (show w.heap.size ≤ gb by rw [hg]; exact Nat.le_refl _); clear hb hbox hg; have hcz0 : w5.cell? ⟨gb, 0, none⟩ = some (.int .i64 0) := (blk_cell BK.out 0).trans rfl; have hcz1 : w5.cell? ⟨gb, 1, none⟩ = some (.int .i64 0) := (blk_cell BK.out 1).trans rfl; have hfz0 := blk_frozen BK.out 0; have hfz1 := blk_frozen BK.out 1)
    refine bodyPost_ret (results_tc rfl _ _ gb 45 #[.int .i64 0, .int .i64 2] (0, 0) _ rfl (by refine blk_put (cs := #[.int .i64 0, .int .i64 0]) ?_ 1 _ rfl; refine blk_put (cs := #[.int .i64 0, .int .i64 0]) ?_ 0 _ rfl; exact BK.out) Tryd.underlying45 rfl (by kernel_rfl)) rfl ?_
    exact ⟨_, rfl, Kd.R_nil _ _ _ _ _, by repeat (first | (with_reducible first | exact HB.out | apply below_alloc | apply pw_below_drewN | apply below_drew1 | refine below_set ?_ GE.out) | exact HB.out)⟩

  have d4 := decide_eq_false (p := (4096 : Int) < (s.size : Int)) (by omega)
  cases hv : validD s.data.toList with
  | false =>
    have hR : readT s = ([], 0, 3) := by unfold readT; rw [if_neg h4, hv]; rfl
    rw [hR]
    have KR := Aside0.mk (fun W h => right_at s false hv (by omega) W h)
    clear hR hv
    go_enter Tryd.func28, Tryd.ntmps28
    go_wp2_with ((with_reducible refine gate_dst (N := 3) rfl ?_); refine box_event ?hg (N := 3) ?hd (cs := #[.int .i64 0, .int .i64 0]) (t := 45) ?hr ?_; (case hd => rfl); (case hg => rfl); (case hr => first | (go_simp; done) | (go_simp; rfl)); intro gb hg w5 hbox hb; have HB := Aside0.mk hb; have BK := Aside0.mk hbox; have GE := Aside0.mk (show w.heap.size ≤ gb by rw [hg]; exact Nat.le_refl _); clear hb hbox hg; have hcz0 : w5.cell? ⟨gb, 0, none⟩ = some (.int .i64 0) := (blk_cell BK.out 0).trans rfl; have hcz1 : w5.cell? ⟨gb, 1, none⟩ = some (.int .i64 0) := (blk_cell BK.out 1).trans rfl; have hfz0 := blk_frozen BK.out 0; have hfz1 := blk_frozen BK.out 1)
    clear hcz0 hcz1 hfz0 hfz1
    refine (KR.out _ (HT.out.below HB.out).1).mono ?_
    rintro e w6 ⟨rfl, hb⟩
    have BKn := Aside0.mk (blk_below BK.out hb); have HBn := Aside0.mk (below_step HB.out hb); clear BK HB hb; have BK := BKn; have HB := HBn; clear BKn HBn
    have hcz0 : w6.cell? ⟨gb, 0, none⟩ = some (.int .i64 0) := (blk_cell BK.out 0).trans rfl
    have hcz1 : w6.cell? ⟨gb, 1, none⟩ = some (.int .i64 0) := (blk_cell BK.out 1).trans rfl
    have hfz0 := blk_frozen BK.out 0
    have hfz1 := blk_frozen BK.out 1

    go_wp2_with fail
    refine bodyPost_ret (results_tc rfl _ _ gb 45 #[.int .i64 0, .int .i64 3] (0, 0) _ rfl (by refine blk_put (cs := #[.int .i64 0, .int .i64 0]) ?_ 1 _ rfl; refine blk_put (cs := #[.int .i64 0, .int .i64 0]) ?_ 0 _ rfl; exact BK.out) Tryd.underlying45 rfl (by kernel_rfl)) rfl ?_
    exact ⟨_, rfl, Kd.R_nil _ _ _ _ _, by repeat (first | (with_reducible first | exact HB.out | apply below_alloc | apply pw_below_drewN | apply below_drew1 | refine below_set ?_ GE.out) | exact HB.out)⟩

  | true =>
    have KR := Aside0.mk (fun W h => right_at s true hv (by omega) W h)
    obtain ⟨T, hTT⟩ : ∃ T, readT s = T := ⟨_, rfl⟩
    rw [hTT]
    have hR : T = readP (s.size + 1) (bytesOf s) 0 [] := by rw [← hTT]; unfold readT; rw [if_neg h4, hv]; rfl
    rw [readP_skip, Nat.zero_add] at hR
    obtain ⟨b, hb0⟩ : ∃ b, runL blkC (bytesOf s) = b := ⟨_, rfl⟩
    have hbd := runL_drop blkC (bytesOf s)
    have hbl := runL_le blkC (bytesOf s)
    rw [bytesOf_length] at hbl
    rw [hb0] at hR hbd hbl
    have K1 := Aside0.mk (fun W => run1_at s 1 b blkC (fun c => rfl) (by omega) hb0 (by omega) W)
    have HR := Aside0.mk hR
    have HD := Aside0.mk hbd
    clear hTT hR hb0 hbd hv
    go_enter Tryd.func28, Tryd.ntmps28
    go_wp2_with ((with_reducible refine gate_dst (N := 3) rfl ?_); refine box_event ?hg (N := 3) ?hd (cs := #[.int .i64 0, .int .i64 0]) (t := 45) ?hr ?_; (case hd => rfl); (case hg => rfl); (case hr => first | (go_simp; done) | (go_simp; rfl)); intro gb hg w5 hbox hb; have HB := Aside0.mk hb; have BK := Aside0.mk hbox; have GE := Aside0.mk (show w.heap.size ≤ gb by rw [hg]; exact Nat.le_refl _); clear hb hbox hg; have hcz0 : w5.cell? ⟨gb, 0, none⟩ = some (.int .i64 0) := (blk_cell BK.out 0).trans rfl; have hcz1 : w5.cell? ⟨gb, 1, none⟩ = some (.int .i64 0) := (blk_cell BK.out 1).trans rfl; have hfz0 := blk_frozen BK.out 0; have hfz1 := blk_frozen BK.out 1)
    clear hcz0 hcz1 hfz0 hfz1
    refine (KR.out _ (HT.out.below HB.out).1).mono ?_
    rintro e w6 ⟨rfl, hb⟩
    have BKn := Aside0.mk (blk_below BK.out hb); have HBn := Aside0.mk (below_step HB.out hb); clear BK HB hb; have BK := BKn; have HB := HBn; clear BKn HBn
    go_wp2_with fail
    refine (K1.out _).mono ?_
    rintro e w7 ⟨rfl, hb⟩
    have BKn := Aside0.mk (blk_below BK.out hb); have HBn := Aside0.mk (below_step HB.out hb); clear BK HB hb; have BK := BKn; have HB := HBn; clear BKn HBn
    go_wp2_with fail
    go_loopg [4, 5] (s.size + 1) (fun gk v4 v5 wx => ∃ (p : Nat) (acc : List S53), v5 = .int .i64 (p : Int) ∧ Aside0 ((k53).R 53 wx w.heap.size (fun _ => True) v4 acc) ∧ Aside0 (wx.heap[gb]? = some (.cells #[.int .i64 0, .int .i64 0] 45 (0, 0))) ∧ Aside0 (Below w.heap.size w wx) ∧ Aside0 (T = readP gk ((bytesOf s).drop p) p acc) ∧ Aside0 (runL blkC ((bytesOf s).drop p) = 0) ∧ p ≤ s.size ∧ s.size - p < gk ∧ acc.length ≤ p)
    case atStart => exact ⟨b, [], by go_num, ⟨Kd.R_nil _ _ _ _ _⟩, BK, HB, HR, HD, by omega, by omega, by simp⟩
    case round =>
      clear HR HD K1 KR BK HB hbl
      obtain ⟨p, acc, rfl, HRw, BK, HB, HR, HD, hp, hg, ha⟩ := hrel
      cases gk with
      | zero => omega
      | succ kg =>
        by_cases cp : p < s.size
        · have dp : decide ((p : Int) < (s.size : Int)) = true := decide_eq_true (by omega)
          have dp2 : decide (p < s.size) = true := decide_eq_true cp
          have hR := HR.out
          have hne : (bytesOf s).drop p ≠ [] := by rw [bytes_rd s p cp]; simp
          rw [readP_tok kg _ p acc HD.out hne] at hR
          obtain ⟨n1, n2⟩ := next_ok ((bytesOf s).drop p)
          rw [List.length_drop, bytesOf_length] at n2
          have hS := suffix_bytes s p
          have hSz : (s.extract p s.size).size = s.size - p := by rw [ByteArray.size_extract]; omega
          rcases hN : nextP ((bytesOf s).drop p) with ⟨k, t, i, m, er⟩
          rw [hN] at hR n1 n2
          simp only at hR n1 n2
          have KN := Aside0.mk (fun W h => next_at (s.extract p s.size) k t i m er (by rw [hS]; exact hN) (by omega) (by omega) W h)
          obtain ⟨S, hSS⟩ : ∃ S, s.extract p s.size = S := ⟨_, rfl⟩
          rw [hSS] at KN
          have pp : (p : Int) ≤ (s.size : Int) := by omega
          by_cases he : er = 0
          · subst he
            have hm : m ≠ 0 := by
              intro h0
              have := n1 h0
              simp only [failT, Prod.mk.injEq] at this
              omega
            simp only [ne_eq, not_true_eq_false, ↓reduceIte, List.drop_drop] at hR
            rw [readP_skip] at hR
            obtain ⟨b, hb0⟩ : ∃ b, runL blkC ((bytesOf s).drop (p + m)) = b := ⟨_, rfl⟩
            have hbd := runL_drop blkC ((bytesOf s).drop (p + m))
            have hbl := runL_le blkC ((bytesOf s).drop (p + m))
            rw [List.length_drop, bytesOf_length] at hbl
            rw [hb0, List.drop_drop] at hR
            rw [hb0, List.drop_drop] at hbd
            rw [hb0] at hbl
            have hS2 := suffix_bytes s (p + m)
            have hSz2 : (s.extract (p + m) s.size).size ≤ 1000000 := by rw [ByteArray.size_extract]; omega
            have K2 := Aside0.mk (fun W => run1_at (s.extract (p + m) s.size) 1 b blkC (fun c => rfl) (by omega) (by rw [hS2]; exact hb0) hSz2 W)
            obtain ⟨S2, hSS2⟩ : ∃ S, s.extract (p + m) s.size = S := ⟨_, rfl⟩
            rw [hSS2] at K2
            have pm : (p : Int) + (m : Int) ≤ (s.size : Int) := by omega
            have hsl : s.extract ((p : Int) + (m : Int)).toNat s.size = S2 := by rw [← hSS2]; congr 1
            have tpm : ((p : Int) + (m : Int)).toNat = p + m := by omega
            have bm : (b : Int) ≤ 100000 := by omega
            have HR2 := Aside0.mk hR
            have HD2 := Aside0.mk hbd
            have HBL := Aside0.mk hbl
            have HM := Aside0.mk hm
            have HN2 := Aside0.mk n2
            clear hR hne n1 hS hSz hN HR HD hb0 hbd hS2 hSz2 hm hbl n2
            go_wp2_with fail
            refine (KN.out _ (HT.out.below HB.out)).mono ?_
            rintro e w8 ⟨rfl, hb⟩
            have BKn := Aside0.mk (blk_below BK.out hb); have HBn := Aside0.mk (below_step HB.out hb); have HRn := Aside0.mk (Kd.R_below HRw.out hb); clear BK HB HRw hb; have BK := BKn; have HB := HBn; have HRw := HRn; clear BKn HBn HRn
            go_wp2_with (at_builtin; go_must (refine Kd.R_append k53 (w0 := w) w.heap.size rfl (.tmp 41) (.tmp 43) 43 53 (.agg #[(.int .i64 0), (.int .i64 0), (.string ⟨#[]⟩), (.int .i64 0)]) 40 rfl Tryd.underlying43 info53 rfl (by decide) (by omega) u4 acc (⟨k, (p : Int), t, i⟩ : S53) [.int .i64 k, .int .i64 (p : Int), .string t, .int .i64 i] (fun _ => True) (fun _ => False) rfl (by simp only [World.alloc, Array.size_push]; rfl) ?aP (fun _ hk => hk.elim) ?aF ?aO ?aB ?aS ?aL ?_; (case aP => exact k53_mkM _ _ _ (⟨k, (p : Int), t, i⟩ : S53)); (case aB => exact below_alloc HB.out _); (case aF => exact (fun _ _ => trivial)); (case aO => exact Kd.R_alloc HRw.out _); (case aS => exact below_size (below_alloc HB.out _)); (case aL => omega); intro v1 wA ho hb hgr hat; have BKn := Aside0.mk (blk_grown (g := gb) (o := .cells #[.int .i64 0, .int .i64 0] 45 (0, 0)) (blk_alloc BK.out _) hgr (Kd.R_ne HRw.out BK.out (by decide))); have HBn := Aside0.mk hb; clear BK HB; have BK := BKn; have HB := HBn; clear BKn HBn hb hgr hat))
            have HRn := Aside0.mk ho
            clear HRw ho
            have HRw := HRn
            clear HRn
            refine (K2.out _).mono ?_
            rintro e w9 ⟨rfl, hb⟩
            have BKn := Aside0.mk (blk_below BK.out hb); have HBn := Aside0.mk (below_step HB.out hb); have HRn := Aside0.mk (Kd.R_below HRw.out hb); clear BK HB HRw hb; have BK := BKn; have HB := HBn; have HRw := HRn; clear BKn HBn HRn
            go_wp2_with fail
            go_roundg kg
            case measure => omega
            case rel =>
              have q1 := HM.out
              have q2 := HN2.out
              have q3 := HBL.out
              exact ⟨p + m + b, acc ++ [⟨k, (p : Int), t, i⟩], by go_num, HRw, BK, HB, HR2, HD2, by omega, by omega, by simp; omega⟩
          · have be : (er != 0) = true := by simpa using he
            rw [if_pos he] at hR
            subst hR
            clear hne n1 n2 hS hSz hN HR HD he
            go_wp2_with fail
            refine (KN.out _ (HT.out.below HB.out)).mono ?_
            rintro e w8 ⟨rfl, hb⟩
            have BKn := Aside0.mk (blk_below BK.out hb); have HBn := Aside0.mk (below_step HB.out hb); clear BK HB hb; have BK := BKn; have HB := HBn; clear BKn HBn
            have hcz0 : ∀ o, (w8.alloc o).cell? ⟨gb, 0, none⟩ = some (.int .i64 0) := fun o => (blk_cell (blk_alloc BK.out o) 0).trans rfl
            have hcz1 : ∀ o, (w8.alloc o).cell? ⟨gb, 1, none⟩ = some (.int .i64 0) := fun o => (blk_cell (blk_alloc BK.out o) 1).trans rfl
            have hfz0 : ∀ o, (w8.alloc o).frozen? ⟨gb, 0, none⟩ = false := fun o => blk_frozen (blk_alloc BK.out o) 0
            have hfz1 : ∀ o, (w8.alloc o).frozen? ⟨gb, 1, none⟩ = false := fun o => blk_frozen (blk_alloc BK.out o) 1

            go_wp2_with fail
            refine bodyPost_ret (results_tc rfl _ _ gb 45 #[.int .i64 (p : Int), .int .i64 er] (0, 0) _ rfl (by refine blk_put (cs := #[.int .i64 (p : Int), .int .i64 0]) ?_ 1 _ rfl; refine blk_put (cs := #[.int .i64 0, .int .i64 0]) ?_ 0 _ rfl; (with_reducible repeat (first | refine blk_drewN ?_ _ | refine blk_drew ?_ | refine blk_alloc ?_ _)); exact BK.out) Tryd.underlying45 rfl (by kernel_rfl)) rfl ?_
            exact ⟨_, rfl, Kd.R_nil _ _ _ _ _, by repeat (first | (with_reducible first | exact HB.out | apply below_alloc | apply pw_below_drewN | apply below_drew1 | refine below_set ?_ GE.out) | exact HB.out)⟩

        · have dp : decide ((p : Int) < (s.size : Int)) = false := decide_eq_false (by omega)
          have dp2 : decide (p < s.size) = false := decide_eq_false cp
          have hR := HR.out
          rw [List.drop_eq_nil_of_le (by rw [bytesOf_length]; omega)] at hR
          simp only [readP, runL_nil, List.drop_nil, ↓reduceIte, Nat.add_zero] at hR
          obtain rfl : p = s.size := by omega
          subst hR
          clear HR HD
          go_wp2_with (at_builtin; go_must (refine Kd.R_append k53 (w0 := w) w.heap.size rfl (.tmp 55) (.tmp 59) 43 53 (.agg #[(.int .i64 0), (.int .i64 0), (.string ⟨#[]⟩), (.int .i64 0)]) 40 rfl Tryd.underlying43 info53 rfl (by decide) (by omega) u4 acc (⟨0, (s.size : Int), ⟨#[]⟩, 0⟩ : S53) [.int .i64 0, .int .i64 (s.size : Int), .string (⟨#[]⟩ : ByteArray), .int .i64 0] (fun _ => True) (fun _ => False) rfl rfl ?aP (fun _ hk => hk.elim) ?aF ?aO ?aB ?aS ?aL ?_; (case aP => exact k53_mkM _ _ _ (⟨0, (s.size : Int), ⟨#[]⟩, 0⟩ : S53)); (case aB => exact HB.out); (case aF => exact (fun _ _ => trivial)); (case aO => exact HRw.out); (case aS => exact below_size (HB.out)); (case aL => omega); intro v1 wA ho hb hgr hat; have BKn := Aside0.mk (blk_grown (g := gb) (o := .cells #[.int .i64 0, .int .i64 0] 45 (0, 0)) (BK.out) hgr (Kd.R_ne HRw.out BK.out (by decide))); have HBn := Aside0.mk hb; clear BK HB; have BK := BKn; have HB := HBn; clear BKn HBn hb hgr hat; have hcz0 : wA.cell? ⟨gb, 0, none⟩ = some (.int .i64 0) := (blk_cell BK.out 0).trans rfl; have hcz1 : wA.cell? ⟨gb, 1, none⟩ = some (.int .i64 0) := (blk_cell BK.out 1).trans rfl; have hfz0 := blk_frozen BK.out 0; have hfz1 := blk_frozen BK.out 1))
          have HRn := Aside0.mk ho
          clear ho
          go_wp2_with fail
          refine bodyPost_ret (results_tc rfl _ _ gb 45 #[.int .i64 0, .int .i64 0] (0, 0) _ rfl (by refine blk_put (cs := #[.int .i64 0, .int .i64 0]) ?_ 1 _ rfl; refine blk_put (cs := #[.int .i64 0, .int .i64 0]) ?_ 0 _ rfl; exact BK.out) Tryd.underlying45 rfl (by kernel_rfl)) rfl ?_
          exact ⟨_, rfl, Kd.R_mono (Kd.R_far (p := ⟨gb, 1, none⟩) (Kd.R_far (p := ⟨gb, 0, none⟩) (Kd.R_types HRn.out BK.out (by decide)) (fun _ hk => hk.2) (.int .i64 0)) (fun _ hk => hk.2) (.int .i64 0)) (fun _ hk => trivial), by repeat (first | (with_reducible first | exact HB.out | apply below_alloc | apply pw_below_drewN | apply below_drew1 | refine below_set ?_ GE.out) | exact HB.out)⟩
end Go.Proofs.YtoclbmepgeelmaaDoor.Utf

namespace Go.Proofs.YtoclbmepgeelmaaDoor.Utf
set_option linter.unusedVariables false
set_option linter.unusedSimpArgs false
open Go.RowKit Go.Lib Go.Proofs.YtoclbmepgeelmaaDoorW.PrintWords Go.Proofs.YtoclbmepgeelmaaDoorW.PrintLast Go.Proofs.YtoclbmepgeelmaaDoorW.PrintMore Go.Proofs.YtoclbmepgeelmaaDoor.PRe

theorem read_at (s : ByteArray) (L : List S53) (p c : Int) (h : readT s = (L, p, c)) (hs : s.size ≤ 100000) (w : World) (hT : TabsT w) :
    Calls Tryd.prog 28 #[.string s] w fun e w' => ∃ (A : Option Addr) (q : Nat), e = .returned (.tuple #[.slice A L.length q, .agg #[.int .i64 p, .int .i64 c]]) ∧ L.length ≤ q ∧ Kd.C k53 w' A L.length L ∧ Below w.heap.size w w' := by
  have := read_walk s w hs hT
  rw [h] at this
  refine this.mono ?_
  rintro e w' ⟨v, rfl, hR, hb⟩
  obtain ⟨A, q, rfl, hq, hC⟩ := Kd.R_reads hR
  exact ⟨A, q, rfl, hq, hC, hb⟩
abbrev txt1 : ByteArray := { data := #[32, 65, 98, 60, 61, 49, 50, 32, 39, 105, 116, 39, 39, 115, 39, 32, 120, 39, 48, 65, 39] }
def toks1 : List S53 := [⟨1, 1, ⟨#[97, 98]⟩, 0⟩, ⟨5, 3, ⟨#[60, 61]⟩, 0⟩, ⟨2, 5, ⟨#[]⟩, 12⟩, ⟨3, 8, ⟨#[105, 116, 39, 115]⟩, 0⟩, ⟨4, 16, ⟨#[10]⟩, 0⟩, ⟨0, 21, ⟨#[]⟩, 0⟩]
theorem read1 : readT txt1 = (toks1, 0, 0) := by kernel_rfl
theorem read2 : readT { data := #[97, 32, 39, 98] } = ([], 2, 40) := by kernel_rfl
theorem read3 : readT { data := #[57, 50, 50, 51, 51, 55, 50, 48, 51, 54, 56, 53, 52, 55, 55, 53, 56, 48, 56] } = ([], 0, 21) := by kernel_rfl

set_option maxHeartbeats 1200000 in
set_option maxRecDepth 100000 in
theorem alive19 (w : World) (hT : TabsT w) : Calls Tryd.prog 27 #[] w fun e w' => e = .returned (.bool true) ∧ Below w.heap.size w w' := by
  have HT := Aside0.mk hT
  have K1 : Aside0 (∀ W, TabsT W → Calls Tryd.prog 28 #[.string txt1] W fun e w' => ∃ (A : Option Addr) (q : Nat), e = .returned (.tuple #[.slice A 6 q, .agg #[.int .i64 0, .int .i64 0]]) ∧ 6 ≤ q ∧ Kd.C k53 w' A 6 toks1 ∧ Below W.heap.size W w') := ⟨fun W h => read_at txt1 toks1 0 0 read1 (by decide) W h⟩
  have K2 := Aside0.mk (fun W h => read_at _ [] 2 40 read2 (by decide) W h)
  have K3 := Aside0.mk (fun W h => read_at _ [] 0 21 read3 (by decide) W h)
  clear hT
  go_enter Tryd.func27, Tryd.ntmps27
  go_wp2_with fail
  refine (K1.out _ HT.out).mono ?_
  rintro e w1 ⟨A1, q1, rfl, hq1, hC1, hb⟩
  have HC1 := Aside0.mk (Kd.C_below hC1 (below_alloc (Below.refl _ _) (.cells #[.int .i64 0, .int .i64 0] 45 (0, 0))))
  have HB := Aside0.mk (below_alloc hb (.cells #[.int .i64 0, .int .i64 0] 45 (0, 0)))
  have BK1 := Aside0.mk (blk_new w1 (.cells #[.int .i64 0, .int .i64 0] 45 (0, 0)))
  clear hb hC1 hq1
  go_wp2_with fail
  refine (K2.out _ (HT.out.below HB.out)).mono ?_
  rintro e w2 ⟨A2, q2, rfl, hq2, hC2, hb⟩
  have BK1' := Aside0.mk (blk_alloc (blk_below BK1.out hb) (.cells #[.int .i64 2, .int .i64 40] 45 (0, 0)))
  have HC1' := Aside0.mk (Kd.C_below HC1.out (below_alloc hb (.cells #[.int .i64 2, .int .i64 40] 45 (0, 0))))
  have HB' := Aside0.mk (below_alloc (below_step HB.out hb) (.cells #[.int .i64 2, .int .i64 40] 45 (0, 0)))
  have BK2 := Aside0.mk (blk_new w2 (.cells #[.int .i64 2, .int .i64 40] 45 (0, 0)))
  clear hb hC2 hq2 BK1 HC1 HB
  go_wp2_with fail
  refine (K3.out _ (HT.out.below HB'.out)).mono ?_
  rintro e w3 ⟨A3, q3, rfl, hq3, hC3, hb⟩
  have BK1 := Aside0.mk (blk_alloc (blk_below BK1'.out hb) (.cells #[.int .i64 0, .int .i64 21] 45 (0, 0)))
  have BK2' := Aside0.mk (blk_alloc (blk_below BK2.out hb) (.cells #[.int .i64 0, .int .i64 21] 45 (0, 0)))
  have HC1 := Aside0.mk (Kd.C_below HC1'.out (below_alloc hb (.cells #[.int .i64 0, .int .i64 21] 45 (0, 0))))
  have HB := Aside0.mk (below_alloc (below_step HB'.out hb) (.cells #[.int .i64 0, .int .i64 21] 45 (0, 0)))
  clear hb hC3 hq3 BK1' HC1' HB' BK2
  have f1 := (blk_cell BK1.out 1).trans (show _ = some (.int .i64 0) from rfl)
  have f2 := (blk_cell BK2'.out 0).trans (show _ = some (.int .i64 2) from rfl)
  have f3 := (blk_cell BK2'.out 1).trans (show _ = some (.int .i64 40) from rfl)
  obtain ⟨ad, rfl, a0, b0, c0, d0⟩ := at_T53 HC1.out 0 (by omega) (by decide)
  obtain ⟨ad', e', a1, b1, c1, d1⟩ := at_T53 HC1.out 1 (by omega) (by decide)
  obtain rfl := Option.some.inj e'
  obtain ⟨ad', e', a2, b2, c2, d2⟩ := at_T53 HC1.out 2 (by omega) (by decide)
  obtain rfl := Option.some.inj e'
  obtain ⟨ad', e', a3, b3, c3, d3⟩ := at_T53 HC1.out 3 (by omega) (by decide)
  obtain rfl := Option.some.inj e'
  obtain ⟨ad', e', a4, b4, c4, d4⟩ := at_T53 HC1.out 4 (by omega) (by decide)
  obtain rfl := Option.some.inj e'
  obtain ⟨ad', e', a5, b5, c5, d5⟩ := at_T53 HC1.out 5 (by omega) (by decide)
  obtain rfl := Option.some.inj e'
  have g0 : (w3.alloc (.cells #[.int .i64 0, .int .i64 21] 45 (0, 0))).cell? ⟨ad.block, ad.off + 2, none⟩ = some (.string ⟨#[97, 98]⟩) := c0
  have g1 : (w3.alloc (.cells #[.int .i64 0, .int .i64 21] 45 (0, 0))).cell? ⟨ad.block, ad.off + 1, none⟩ = some (.int .i64 1) := b0
  have g2 : (w3.alloc (.cells #[.int .i64 0, .int .i64 21] 45 (0, 0))).cell? ⟨ad.block, ad.off + 4 + 2, none⟩ = some (.string ⟨#[60, 61]⟩) := c1
  have g3 : (w3.alloc (.cells #[.int .i64 0, .int .i64 21] 45 (0, 0))).cell? ⟨ad.block, ad.off + 8 + 3, none⟩ = some (.int .i64 12) := d2
  have g4 : (w3.alloc (.cells #[.int .i64 0, .int .i64 21] 45 (0, 0))).cell? ⟨ad.block, ad.off + 12 + 2, none⟩ = some (.string ⟨#[105, 116, 39, 115]⟩) := c3
  have g5 : (w3.alloc (.cells #[.int .i64 0, .int .i64 21] 45 (0, 0))).cell? ⟨ad.block, ad.off + 16 + 2, none⟩ = some (.string ⟨#[10]⟩) := c4
  have g6 : (w3.alloc (.cells #[.int .i64 0, .int .i64 21] 45 (0, 0))).cell? ⟨ad.block, ad.off + 20 + 1, none⟩ = some (.int .i64 21) := b5
  clear a0 b0 c0 d0 a1 b1 c1 d1 a2 b2 c2 d2 a3 b3 c3 d3 a4 b4 c4 d4 a5 b5 c5 d5
  go_wp2_with fail
  go_ret
  exact ⟨rfl, HB.out⟩
end Go.Proofs.YtoclbmepgeelmaaDoor.Utf
