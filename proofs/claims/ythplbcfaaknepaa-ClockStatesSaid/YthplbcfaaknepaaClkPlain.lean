import Derived.Test.YthplbcfaaknepaaClkAlive
namespace Go.Proofs.Ythplbcfaaknepaa
set_option linter.unusedVariables false
set_option linter.unusedSimpArgs false
open Go.RowKit Go.Proofs.YthplbcfaaknepaaW.PrintWords
theorem be8 (v : Int) (h0 : 0 ≤ v) (h1 : v < 18446744073709551616) : be (beOf 8 8 v) = v := by
  simp [beOf, List.range_succ, be]
  omega
theorem be4 (v : Int) (h0 : 0 ≤ v) (h1 : v < 4294967296) : be (beOf 4 4 v) = v := by
  simp [beOf, List.range_succ, be]
  omega
theorem bytes_beOf (n k : Nat) (v : Int) : Bytes (beOf n k v) := by
  intro c hc
  simp only [beOf, List.mem_map] at hc
  obtain ⟨i, _, rfl⟩ := hc
  omega
theorem bytes_app {l m : List Int} (h1 : Bytes l) (h2 : Bytes m) : Bytes (l ++ m) := by
  intro c hc
  rcases List.mem_append.1 hc with h | h
  · exact h1 c h
  · exact h2 c h
theorem bytes_wbytes (a r : Int) : Bytes (wbytes a r) := by
  unfold wbytes
  refine bytes_app (bytes_app (bytes_app ?_ (bytes_beOf _ _ _)) (bytes_beOf _ _ _)) ?_
  · intro c hc; simp at hc; omega
  · intro c hc; have := List.eq_of_mem_replicate hc; omega
theorem wbytes_ne (a r : Int) : wbytes a r ≠ zs := by
  intro h
  have := congrArg List.head? h
  simp [wbytes, zs] at this
theorem lastOf_w (a r : Int) (h1 : -9223372036854775808 ≤ a) (h2 : a ≤ 9223372036854775807) : lastOf (wbytes a r) = a := by
  have e : ((wbytes a r).drop 8).take 8 = beOf 8 8 ((a + 9223372036854775808) % 18446744073709551616) := by
    unfold wbytes
    rw [List.append_assoc, List.append_assoc, show (8 : Nat) = ([1, 0, 0, 0, 0, 0, 0, 0] : List Int).length from rfl, List.drop_left]
    rw [show ([1, 0, 0, 0, 0, 0, 0, 0] : List Int).length = (beOf 8 8 ((a + 9223372036854775808) % 18446744073709551616)).length from by simp [beOf_length]]
    rw [beOf_length]
    have : (8 : Nat) = (beOf 8 8 ((a + 9223372036854775808) % 18446744073709551616)).length := by simp [beOf_length]
    conv => lhs; arg 1; rw [this]
    rw [List.take_left]
  unfold lastOf
  rw [e, be8 _ (by omega) (by omega)]
  omega
theorem rootOf_w (a r : Int) (h1 : 0 ≤ r) (h2 : r < 4096) : rootOf (wbytes a r) = r := by
  have e : ((wbytes a r).drop 16).take 4 = beOf 4 4 r := by
    unfold wbytes
    have h16 : (16 : Nat) = (([1, 0, 0, 0, 0, 0, 0, 0] : List Int) ++ beOf 8 8 ((a + 9223372036854775808) % 18446744073709551616)).length := by simp [beOf_length]
    rw [List.append_assoc ([1, 0, 0, 0, 0, 0, 0, 0] ++ _), h16, List.drop_left]
    have h4 : (4 : Nat) = (beOf 4 4 r).length := by simp [beOf_length]
    conv => lhs; arg 1; rw [h4]
    rw [List.take_left]
  unfold rootOf
  rw [e, be4 _ (by omega) (by omega)]
theorem readS_w (a r : Int) (h1 : -9223372036854775808 ≤ a) (h2 : a ≤ 9223372036854775807) (h3 : 0 ≤ r) (h4 : r < 4096) : readS (wbytes a r) = (a, r, 0) := by
  simp only [readS]
  rw [if_neg (wbytes_ne a r), if_pos ⟨by rw [rootOf_w a r h3 h4]; exact h4, by rw [rootOf_w a r h3 h4, lastOf_w a r h1 h2]⟩, rootOf_w a r h3 h4, lastOf_w a r h1 h2]
theorem readS_rng (bs : List Int) (hl : bs.length = 64) (hB : Bytes bs) : 0 ≤ (readS bs).2.1 ∧ (readS bs).2.1 < 4096 := by
  have := rootOf_bd bs hl hB
  unfold readS
  split
  · simp
  · split
    · rename_i h; exact ⟨this.1, h.1⟩
    · simp
theorem readS_back (bs : List Int) (h : (readS bs).2.2 = 0) (h0 : bs ≠ zs) : wbytes (readS bs).1 (readS bs).2.1 = bs := by
  unfold readS at *
  rw [if_neg h0] at *
  split
  · rename_i h1; exact h1.2
  · rename_i h1; rw [if_neg h1] at h; simp at h
end Go.Proofs.Ythplbcfaaknepaa
