import Derived.Shelf.Strings.Builder1
import Derived.Shelf.Strings.Builder2
import Derived.Shelf.Strings.OnBuilder
import Derived.Shelf.Small.Utf8
import Derived.Shelf.Small.Strs
import Derived.Shelf.Strings.BuilderF
import Derived.Shelf.Strings.BuilderK
import Derived.Shelf.Strings.BuilderRune
import Derived.Shelf.Utf8.RuneCount
import Derived.Shelf.Strings.Builder2Cap
import Derived.Shelf.Strconv.Itoa0
import Derived.Shelf.Strconv.Itoa1
import Derived.Shelf.LaysM
import Derived.Shelf.Strconv.Itoa2
import Derived.Shelf.Strconv.Itoa3
import Derived.Shelf.Strconv.Itoa4
import Derived.Shelf.Strings.Search1
import Derived.Shelf.Strings.Search2
import Derived.Shelf.Strings.Search3
import Derived.Shelf.Strings.Count
import Derived.Shelf.Strings.Shaped
import Derived.Shelf.Strings.Split
import Derived.Shelf.Strings.Replace
import Derived.Shelf.Strings.SplitShaped
import Derived.Shelf.Unicode.Decode
import Derived.Shelf.Strings.RuneCount
import Derived.Shelf.Unicode.DecodeSlow
import Derived.Shelf.Unicode.DecodeAny
import Derived.Test.YtoclbmepgeelmaaDoorProg
import Derived.Test.YtoclbmepgeelmaaDoorRn1
import Derived.WalkSmall
import Derived.Lib.AppendIntMem
import Derived.Laws.Strings2
/-
  DERIVED: THE SHELF's CONTRACTS AT THIS DUMP, IN PLAIN WORDS (tools/lay-plain.mjs out of 'YtoclbmepgeelmaaDoorShf.lean', which tools/lay-shelf.mjs wrote): THE SAME DECLARATIONS UNDER THE SAME NAMES: 'import', 'namespace', 'open', 'def', 'theorem' AND NOTHING ELSE: no command of the shelf's: FOR A HAND-IN. Each laying: the table of numbers ('.._ren') and one theorem, a field a fact of the dump's own or the kernel's comparison; each contract: ONE APPLICATION.
-/
namespace Go.Proofs
open Go.Shelf
def Tryd.lays169_ren : Go.Shelf.Ren := ⟨fun | 169 => 68 | n => n, fun | 70 => 93 | 9 => 9 | 0 => 0 | 72 => 95 | 37 => 70 | 127 => 116 | 3 => 3 | 5 => 5 | n => n, fun | n => n⟩
theorem Tryd.lays169 : Go.Proofs.Lays.n169 Tryd.prog Tryd.lays169_ren := {
  mixed := by kernel_rfl
  f169 := Tryd.func68.trans (congrArg some (by kernel_rfl))
  t0 := Tryd.underlying0
  a0 := Tryd.isAgg0
  z0 := Tryd.sizeOf0
  v0 := Tryd.zeroValue0
  t3 := Tryd.underlying3
  a3 := Tryd.isAgg3
  z3 := Tryd.sizeOf3
  v3 := Tryd.zeroValue3
  t9 := Tryd.underlying9
  a9 := Tryd.isAgg9
  z9 := Tryd.sizeOf9
  v9 := Tryd.zeroValue9
  t37 := Tryd.underlying70
  a37 := Tryd.isAgg70
  z37 := Tryd.sizeOf70
  v37 := Tryd.zeroValue70
  t70 := Tryd.underlying93
  a70 := Tryd.isAgg93
  z70 := Tryd.sizeOf93
  v70 := Tryd.zeroValue93
  t72 := Tryd.underlying95
  a72 := Tryd.isAgg95
  z72 := Tryd.sizeOf95
  v72 := Tryd.zeroValue95
  t127 := Tryd.underlying116
  a127 := Tryd.isAgg116
  z127 := Tryd.sizeOf116
  v127 := Tryd.zeroValue116 }
theorem Tryd.Builder_Extra_169 : Builder.Extra Tryd.prog Tryd.lays169_ren := {
  sizeBuilder := by kernel_rfl
  liesBuilder := by kernel_rfl
  t5 := Tryd.underlying5
  a5 := Tryd.isAgg5
  z5 := Tryd.sizeOf5
  v5 := Tryd.zeroValue5
  infoByte := by kernel_rfl
  cellsByte := by kernel_rfl
  sizeByte := by kernel_rfl
  neB5 := by decide }
def Tryd.lays119_ren : Go.Shelf.Ren := ⟨fun | 119 => 66 | n => n, fun | 21 => 21 | 4 => 4 | n => n, fun | n => n⟩
theorem Tryd.lays119 : Go.Proofs.Lays.n119 Tryd.prog Tryd.lays119_ren := {
  mixed := by kernel_rfl
  f119 := Tryd.func66.trans (congrArg some (by kernel_rfl))
  t4 := Tryd.underlying4
  a4 := Tryd.isAgg4
  z4 := Tryd.sizeOf4
  v4 := Tryd.zeroValue4
  t21 := Tryd.underlying21
  a21 := Tryd.isAgg21
  z21 := Tryd.sizeOf21
  v21 := Tryd.zeroValue21 }
/-- utf8.ValidRune: "ValidRune reports whether r can be legally encoded as UTF-8. Code points that are out of range or a surrogate half are illegal.": IT RETURNS 'Lib.validRune r'; the world is as it was. (LAID: no walk: one application.) -/
theorem Tryd.utf8_ValidRune (r : Int) (w : World) :
    Calls Tryd.prog 66 #[.int .i32 r] w fun e w' => e = .returned (.bool (Lib.validRune r)) ∧ w' = w := Any.utf8_ValidRune Tryd.lays119 r w
open Go.RowKit in
/-- (*strings.Builder).String: "String returns the accumulated string.": WHATEVER THE BUILDER HOLDS; THE FORM '_k': OVER 'Lib.IsBuilderF' (a builder that 'String()' may have read), AND WITH THE FRAME THAT REACHES ABOVE THE BUILDER: 'Lib.OthersKept': every block that is not b and is no row of uint8's stands as it stood: the iterator of a range among them. (LAID: no walk: one application.) -/
theorem Tryd.Builder_String_any_k (B b : Nat) (l : List UInt8) (w : World) (h : Lib.IsBuilderF 95 5 B b (Lib.byteCells l) w) (hBw : B ≤ w.heap.size) :
    Calls Tryd.prog 68 #[.pointer (some ⟨b, 0, none⟩)] w fun e w' => e = .returned (.string ⟨l.toArray⟩) ∧ (Lib.IsBuilderF 95 5 B b (Lib.byteCells l) w' ∧ Below B w w' ∧ Lib.OthersKept 5 (some b) w w') := Any.Builder_String_any_k Tryd.lays169 Tryd.Builder_Extra_169 B b l w h hBw
def Tryd.laysM173_ren : Go.Shelf.Ren := ⟨fun | 173 => 64 | 246 => 81 | 283 => 94 | 284 => 95 | 285 => 96 | 286 => 97 | 129 => 107 | 317 => 106 | 318 => 108 | 319 => 109 | 320 => 110 | 337 => 116 | 338 => 117 | n => n, fun | 2 => 2 | 3 => 3 | 9 => 9 | 4 => 4 | 171 => 128 | 0 => 0 | 53 => 90 | 37 => 70 | 5 => 5 | 173 => 131 | 212 => 137 | 51 => 135 | 20 => 20 | 213 => 138 | 46 => 114 | 232 => 144 | 233 => 145 | n => n, fun | 17 => 2 | 18 => 4 | 19 => 5 | n => n⟩
theorem Tryd.laysM173 : Go.Proofs.LaysM.n173 Tryd.prog Tryd.laysM173_ren := {
  mixed := by kernel_rfl
  f129 := Tryd.func107.trans (congrArg some (by kernel_rfl))
  f173 := Tryd.func64.trans (congrArg some (by kernel_rfl))
  f246 := Tryd.func81.trans (congrArg some (by kernel_rfl))
  f283 := Tryd.func94.trans (congrArg some (by kernel_rfl))
  f284 := Tryd.func95.trans (congrArg some (by kernel_rfl))
  f285 := Tryd.func96.trans (congrArg some (by kernel_rfl))
  f286 := Tryd.func97.trans (congrArg some (by kernel_rfl))
  f317 := Tryd.func106.trans (congrArg some (by kernel_rfl))
  f318 := Tryd.func108.trans (congrArg some (by kernel_rfl))
  f319 := Tryd.func109.trans (congrArg some (by kernel_rfl))
  f320 := Tryd.func110.trans (congrArg some (by kernel_rfl))
  f337 := Tryd.func116.trans (congrArg some (by kernel_rfl))
  f338 := Tryd.func117.trans (congrArg some (by kernel_rfl))
  t0 := Tryd.underlying0
  a0 := Tryd.isAgg0
  z0 := Tryd.sizeOf0
  v0 := Tryd.zeroValue0
  t2 := Tryd.underlying2
  a2 := Tryd.isAgg2
  z2 := Tryd.sizeOf2
  v2 := Tryd.zeroValue2
  t3 := Tryd.underlying3
  a3 := Tryd.isAgg3
  z3 := Tryd.sizeOf3
  v3 := Tryd.zeroValue3
  t4 := Tryd.underlying4
  a4 := Tryd.isAgg4
  z4 := Tryd.sizeOf4
  v4 := Tryd.zeroValue4
  t5 := Tryd.underlying5
  a5 := Tryd.isAgg5
  z5 := Tryd.sizeOf5
  v5 := Tryd.zeroValue5
  t9 := Tryd.underlying9
  a9 := Tryd.isAgg9
  z9 := Tryd.sizeOf9
  v9 := Tryd.zeroValue9
  t20 := Tryd.underlying20
  a20 := Tryd.isAgg20
  z20 := Tryd.sizeOf20
  v20 := Tryd.zeroValue20
  t37 := Tryd.underlying70
  a37 := Tryd.isAgg70
  z37 := Tryd.sizeOf70
  v37 := Tryd.zeroValue70
  t46 := Tryd.underlying114
  a46 := Tryd.isAgg114
  z46 := Tryd.sizeOf114
  v46 := Tryd.zeroValue114
  t51 := Tryd.underlying135
  a51 := Tryd.isAgg135
  z51 := Tryd.sizeOf135
  v51 := Tryd.zeroValue135
  t53 := Tryd.underlying90
  a53 := Tryd.isAgg90
  z53 := Tryd.sizeOf90
  v53 := Tryd.zeroValue90
  t171 := Tryd.underlying128
  a171 := Tryd.isAgg128
  z171 := Tryd.sizeOf128
  v171 := Tryd.zeroValue128
  t173 := Tryd.underlying131
  a173 := Tryd.isAgg131
  z173 := Tryd.sizeOf131
  v173 := Tryd.zeroValue131
  t212 := Tryd.underlying137
  a212 := Tryd.isAgg137
  z212 := Tryd.sizeOf137
  v212 := Tryd.zeroValue137
  t213 := Tryd.underlying138
  a213 := Tryd.isAgg138
  z213 := Tryd.sizeOf138
  t232 := Tryd.underlying144
  a232 := Tryd.isAgg144
  z232 := Tryd.sizeOf144
  v232 := Tryd.zeroValue144
  t233 := Tryd.underlying145
  a233 := Tryd.isAgg145
  z233 := Tryd.sizeOf145
  v233 := Tryd.zeroValue145
  g17 := by kernel_rfl
  g18 := by kernel_rfl
  g19 := by kernel_rfl
  i0 := by kernel_rfl
  i2 := by kernel_rfl
  i3 := by kernel_rfl
  i4 := by kernel_rfl
  i5 := by kernel_rfl
  i9 := by kernel_rfl
  i20 := by kernel_rfl
  i37 := by kernel_rfl
  i46 := by kernel_rfl
  i51 := by kernel_rfl
  i53 := by kernel_rfl
  i171 := by kernel_rfl
  i173 := by kernel_rfl
  i212 := by kernel_rfl
  i232 := by kernel_rfl
  i233 := by kernel_rfl
  m17 := by kernel_rfl
  m18 := by kernel_rfl
  m19 := by kernel_rfl }
open Go.RowKit Go.Sort Go.Lib in
/-- strconv.FormatInt: "FormatInt returns the string representation of i in the given base": AT BASE 10: i's decimal numeral, for every int64. (LAID: no walk: one application.) -/
theorem Tryd.strconv_FormatInt_10 (n : Int) (h0 : -9223372036854775808 ≤ n) (h1 : n ≤ 9223372036854775807) (w : World) (htab : Lib.TabIs Tryd.prog w "internal/strconv.uint64pow10" .u64 Lib.pow10Tab) :
    Calls Tryd.prog 64 #[.int .i64 n, .int .i64 10] w fun e w' => e = .returned (.string ⟨(Lib.itoa n).toArray⟩) ∧ ∃ k os, w' = grow (w.drewN k) os := Any.strconv_FormatInt_10 Tryd.laysM173 n h0 h1 w htab
def Tryd.lays155_ren : Go.Shelf.Ren := ⟨fun | 155 => 63 | 154 => 80 | 138 => 92 | 165 => 86 | 143 => 89 | 166 => 87 | 197 => 93 | 169 => 68 | 195 => 103 | 218 => 104 | 240 => 83 | 241 => 100 | 219 => 101 | 260 => 105 | 276 => 98 | 277 => 111 | 217 => 102 | 225 => 112 | 224 => 113 | 267 => 114 | 266 => 115 | 314 => 118 | n => n, fun | 9 => 9 | 3 => 3 | 4 => 4 | 72 => 95 | 0 => 0 | 76 => 99 | 105 => 125 | 21 => 21 | 5 => 5 | 70 => 93 | 20 => 20 | 37 => 70 | 75 => 98 | 127 => 116 | 164 => 133 | 46 => 114 | 119 => 110 | 139 => 113 | 138 => 112 | 146 => 142 | 51 => 135 | 80 => 41 | n => n, fun | 1 => 3 | 3 => 0 | 4 => 1 | n => n⟩
theorem Tryd.lays155 : Go.Proofs.Lays.n155 Tryd.prog Tryd.lays155_ren := {
  mixed := by kernel_rfl
  f138 := Tryd.func92.trans (congrArg some (by kernel_rfl))
  f143 := Tryd.func89.trans (congrArg some (by kernel_rfl))
  f154 := Tryd.func80.trans (congrArg some (by kernel_rfl))
  f155 := Tryd.func63.trans (congrArg some (by kernel_rfl))
  f165 := Tryd.func86.trans (congrArg some (by kernel_rfl))
  f166 := Tryd.func87.trans (congrArg some (by kernel_rfl))
  f169 := Tryd.func68.trans (congrArg some (by kernel_rfl))
  f195 := Tryd.func103.trans (congrArg some (by kernel_rfl))
  f197 := Tryd.func93.trans (congrArg some (by kernel_rfl))
  f217 := Tryd.func102.trans (congrArg some (by kernel_rfl))
  f218 := Tryd.func104.trans (congrArg some (by kernel_rfl))
  f219 := Tryd.func101.trans (congrArg some (by kernel_rfl))
  f224 := Tryd.func113.trans (congrArg some (by kernel_rfl))
  f225 := Tryd.func112.trans (congrArg some (by kernel_rfl))
  f240 := Tryd.func83.trans (congrArg some (by kernel_rfl))
  f241 := Tryd.func100.trans (congrArg some (by kernel_rfl))
  f260 := Tryd.func105.trans (congrArg some (by kernel_rfl))
  f266 := Tryd.func115.trans (congrArg some (by kernel_rfl))
  f267 := Tryd.func114.trans (congrArg some (by kernel_rfl))
  f276 := Tryd.func98.trans (congrArg some (by kernel_rfl))
  f277 := Tryd.func111.trans (congrArg some (by kernel_rfl))
  f314 := Tryd.func118.trans (congrArg some (by kernel_rfl))
  t0 := Tryd.underlying0
  a0 := Tryd.isAgg0
  z0 := Tryd.sizeOf0
  v0 := Tryd.zeroValue0
  t3 := Tryd.underlying3
  a3 := Tryd.isAgg3
  z3 := Tryd.sizeOf3
  v3 := Tryd.zeroValue3
  t4 := Tryd.underlying4
  a4 := Tryd.isAgg4
  z4 := Tryd.sizeOf4
  v4 := Tryd.zeroValue4
  t5 := Tryd.underlying5
  a5 := Tryd.isAgg5
  z5 := Tryd.sizeOf5
  v5 := Tryd.zeroValue5
  t9 := Tryd.underlying9
  a9 := Tryd.isAgg9
  z9 := Tryd.sizeOf9
  v9 := Tryd.zeroValue9
  t20 := Tryd.underlying20
  a20 := Tryd.isAgg20
  z20 := Tryd.sizeOf20
  v20 := Tryd.zeroValue20
  t21 := Tryd.underlying21
  a21 := Tryd.isAgg21
  z21 := Tryd.sizeOf21
  v21 := Tryd.zeroValue21
  t37 := Tryd.underlying70
  a37 := Tryd.isAgg70
  z37 := Tryd.sizeOf70
  v37 := Tryd.zeroValue70
  t46 := Tryd.underlying114
  a46 := Tryd.isAgg114
  z46 := Tryd.sizeOf114
  v46 := Tryd.zeroValue114
  t51 := Tryd.underlying135
  a51 := Tryd.isAgg135
  z51 := Tryd.sizeOf135
  v51 := Tryd.zeroValue135
  t70 := Tryd.underlying93
  a70 := Tryd.isAgg93
  z70 := Tryd.sizeOf93
  v70 := Tryd.zeroValue93
  t72 := Tryd.underlying95
  a72 := Tryd.isAgg95
  z72 := Tryd.sizeOf95
  v72 := Tryd.zeroValue95
  t75 := Tryd.underlying98
  a75 := Tryd.isAgg98
  z75 := Tryd.sizeOf98
  v75 := Tryd.zeroValue98
  t76 := Tryd.underlying99
  a76 := Tryd.isAgg99
  z76 := Tryd.sizeOf99
  v76 := Tryd.zeroValue99
  t105 := Tryd.underlying125
  a105 := Tryd.isAgg125
  z105 := Tryd.sizeOf125
  v105 := Tryd.zeroValue125
  t119 := Tryd.underlying110
  a119 := Tryd.isAgg110
  z119 := Tryd.sizeOf110
  t127 := Tryd.underlying116
  a127 := Tryd.isAgg116
  z127 := Tryd.sizeOf116
  v127 := Tryd.zeroValue116
  t138 := Tryd.underlying112
  a138 := Tryd.isAgg112
  z138 := Tryd.sizeOf112
  v138 := Tryd.zeroValue112
  t139 := Tryd.underlying113
  a139 := Tryd.isAgg113
  z139 := Tryd.sizeOf113
  v139 := Tryd.zeroValue113
  t146 := Tryd.underlying142
  a146 := Tryd.isAgg142
  z146 := Tryd.sizeOf142
  v146 := Tryd.zeroValue142
  t164 := Tryd.underlying133
  a164 := Tryd.isAgg133
  z164 := Tryd.sizeOf133
  v164 := Tryd.zeroValue133
  g1 := by kernel_rfl
  g3 := by kernel_rfl
  g4 := by kernel_rfl }
theorem Tryd.Builder_Extra_155 : Builder.Extra Tryd.prog Tryd.lays155_ren := {
  sizeBuilder := by kernel_rfl
  liesBuilder := by kernel_rfl
  t5 := Tryd.underlying5
  a5 := Tryd.isAgg5
  z5 := Tryd.sizeOf5
  v5 := Tryd.zeroValue5
  infoByte := by kernel_rfl
  cellsByte := by kernel_rfl
  sizeByte := by kernel_rfl
  neB5 := by decide }
open Go.RowKit Go.Lib in
/-- strings.ReplaceAll: "ReplaceAll returns a copy of the string s with all non-overlapping instances of old replaced by new.": AT AN old THAT IS NOT EMPTY: 'Lib.replaceAll s old new'. (LAID: no walk: one application.) -/
theorem Tryd.strings_ReplaceAll (s old new : ByteArray) (m : Int) (w : World) (hs : s.size < 4294967281) (hm : w.cell? ⟨3, 0, none⟩ = some (.int .i64 m)) (h1 : 1 ≤ old.size) (hlen : s.size + Lib.countB s old * new.size ≤ 140737488355328) :
    Calls Tryd.prog 63 #[.string s, .string old, .string new] w fun e w' =>
      e = .returned (.string ⟨(Lib.replaceAll s.data.toList old.data.toList new.data.toList).toArray⟩) ∧ Below w.heap.size w w' := Any.strings_ReplaceAll Tryd.lays155 Tryd.Builder_Extra_155 s old new m w hs hm h1 hlen
end Go.Proofs
namespace Go.Proofs.YtoclbmepgeelmaaDoor.Utf
set_option linter.unusedVariables false
set_option linter.unusedSimpArgs false
open Go.RowKit Go.Lib Go.Proofs.YtoclbmepgeelmaaDoorW.PrintWords Go.Proofs.YtoclbmepgeelmaaDoorW.PrintLast Go.Proofs.YtoclbmepgeelmaaDoorW.PrintMore

set_option maxHeartbeats 4000000 in
set_option maxRecDepth 100000 in
theorem count_walk (s : ByteArray) (w : World) (hs : s.size ≤ 1000000) (hT : Tabs w) :
    Calls Tryd.prog 48 #[.string s] w fun e w' => e = .returned (.tuple #[.int .i64 ((splitR s.data.toList).length : Int), .int .i64 (splitE s.data.toList)]) ∧ Below w.heap.size w w' := by
  have cR := right_walk s w (by omega) hT
  by_cases hv : validD s.data.toList = true
  · have eE : splitE s.data.toList = 0 := by simp [splitE, hv]
    have eR : splitR s.data.toList = runesOf s.data.toList := by simp [splitR, hv]
    have hlen := runesOf_length s.data.toList
    simp only [Array.length_toList] at hlen
    have hlen' : (runesOf s.data.toList).length ≤ s.size := hlen
    rw [eE, eR]
    rw [hv] at cR
    obtain ⟨N, hN⟩ : ∃ N, (runesOf s.data.toList).length = N := ⟨_, rfl⟩
    rw [hN]
    rw [hN] at hlen'
    clear eE eR hv hT hlen
    have HN := Aside0.mk hN
    clear hN
    go_enter Tryd.func48, Tryd.ntmps48
    go_wp2_with (go_at_call 49; refine cR.mono ?_; rintro e w1 ⟨rfl, hb⟩; have HB := Aside0.mk hb; clear hb; clear cR)
    have hsz1 := below_size HB.out
    go_loopg [4] (s.size + 1) (fun gk v4 wx => ∃ (pos n : Nat), v4 = .int .i64 (n : Int) ∧ Aside0 (wx.heap[w1.heap.size]? = some (.stringIter s pos)) ∧ Aside0 (Below w.heap.size w wx) ∧ Aside0 (n + (runesOf (s.data.toList.drop pos)).length = N) ∧ s.size - pos < gk ∧ n ≤ pos ∧ pos ≤ 2000000 ∧ n ≤ 1000000)
    case atStart => exact ⟨0, 0, by go_num, ⟨World.iter_heap w1 s 0⟩, ⟨below_alloc HB.out _⟩, ⟨by simpa using HN.out⟩, by omega, by omega, by omega, by omega⟩
    case round =>
      clear HN HB
      obtain ⟨pos, n, rfl, HI, HBx, HA, hgk, hac, hp2, hn2⟩ := hrel
      cases gk with
      | zero => omega
      | succ k1 =>
        by_cases hp : pos < s.size
        · have hnx : ∀ ty, (Instr.next (.pointer (some ⟨w1.heap.size, 0, none⟩)) true ty).run Tryd.prog wr = _ := fun ty => Lib.run_next_any_at wr w1.heap.size s pos ty HI.out hp
          have hne : s.data.toList.drop pos ≠ [] := by
            intro h
            have := congrArg List.length h
            simp at this
            omega
          have hdl := decodeL_drop s pos
          have hw := decodeL_width (s.data.toList.drop pos)
          have hle := decodeL_le _ hne
          have hst := congrArg List.length (runesOf_step _ hne)
          rw [hdl] at hw hst hle
          rw [List.drop_drop] at hst
          simp only [List.length_drop, Array.length_toList, List.length_cons] at hle hst
          have hle' : (Utf8.decode s pos).2 ≤ s.size - pos := hle
          obtain ⟨⟨r, m⟩, hrn⟩ : ∃ d, Utf8.decode s pos = d := ⟨_, rfl⟩
          simp only [hrn] at hnx hw hst hle'
          have hA := HA.out
          rw [hst] at hA
          have HA2 := Aside0.mk (show n + 1 + (runesOf (s.data.toList.drop (pos + m))).length = N by omega)
          clear hst hdl hrn hne HA hA hle
          have HI2 := Aside0.mk (Lib.iterAt_heap wr w1.heap.size s pos (pos + m) HI.out)
          have HB2 := Aside0.mk (Lib.below_iterAt HBx.out (k := w1.heap.size) (by omega) s (pos + m))
          obtain ⟨wi, hwi⟩ : ∃ wi, wr.iterAt w1.heap.size s (pos + m) = wi := ⟨_, rfl⟩
          rw [hwi] at hnx HI2 HB2
          clear hwi HI HBx
          go_wp2
          go_roundg k1
          case measure => omega
          case rel => exact ⟨pos + m, n + 1, by go_num, HI2, HB2, HA2, by omega, by omega, by omega, by have := HA2.out; omega⟩
        · have hnx : ∀ ty, (Instr.next (.pointer (some ⟨w1.heap.size, 0, none⟩)) true ty).run Tryd.prog wr = _ := fun ty => Lib.run_next_end_at wr w1.heap.size s pos ty HI.out hp
          have hA := HA.out
          rw [List.drop_eq_nil_of_le (by simp; omega), runesOf_nil] at hA
          have hA' : n = N := by simpa using hA
          subst hA'
          clear HA hA
          go_wp2
          go_ret2
          exact ⟨rfl, HBx.out⟩
  · have hv : validD s.data.toList = false := by simpa using hv
    have eE : splitE s.data.toList = 3 := by simp [splitE, hv]
    have eR : splitR s.data.toList = [] := by simp [splitR, hv]
    rw [eE, eR]
    rw [hv] at cR
    clear eE eR hv hT
    go_enter Tryd.func48, Tryd.ntmps48
    go_wp2_with (go_at_call 49; refine cR.mono ?_; rintro e w1 ⟨rfl, hb⟩; clear cR)
    go_ret2
    exact ⟨rfl, hb⟩
end Go.Proofs.YtoclbmepgeelmaaDoor.Utf
namespace Go.Proofs.YtoclbmepgeelmaaDoor.Utf
set_option linter.unusedVariables false
set_option linter.unusedSimpArgs false
open Go.RowKit Go.Lib Go.Proofs.YtoclbmepgeelmaaDoorW.PrintWords Go.Proofs.YtoclbmepgeelmaaDoorW.PrintLast Go.Proofs.YtoclbmepgeelmaaDoorW.PrintMore

/-- A quote twice. -/
def dbl (l : List UInt8) : List UInt8 := l.flatMap fun b => if b = 39 then [39, 39] else [b]
theorem index_hit (t : List UInt8) : index (39 :: t) [39] = 0 := by simp [index]
theorem index_miss {b : UInt8} (hb : b ≠ 39) (t : List UInt8) : index (b :: t) [39] = if index t [39] == -1 then -1 else index t [39] + 1 := by
  have : ([39] : List UInt8).isPrefixOf (b :: t) = false := by
    simp only [List.isPrefixOf, Bool.and_true]
    simpa using fun h => hb h.symm
  rw [index, this]; rfl
theorem index_none : ∀ t : List UInt8, (∀ b ∈ t, b ≠ 39) → index t [39] = -1
  | [], _ => rfl
  | b :: t, h => by
    rw [index_miss (h b (by simp)), index_none t (fun x hx => h x (by simp [hx]))]; rfl
theorem replaceK_miss {b : UInt8} (hb : b ≠ 39) (k : Nat) (t : List UInt8) : replaceK [39] [39, 39] k (b :: t) = b :: replaceK [39] [39, 39] k t := by
  cases k with
  | zero => rfl
  | succ k =>
    rw [replaceK, replaceK, index_miss hb]
    have hg := index_ge t [39]
    by_cases h : index t [39] = -1
    · simp [h]
    · have h1 : (index t [39] == -1) = false := by simpa using h
      have h2 : (index t [39] + 1 == -1) = false := by simp; omega
      have h3 : (index t [39] + 1).toNat = (index t [39]).toNat + 1 := by omega
      simp only [h1, Bool.false_eq_true, ↓reduceIte, h2, h3, List.take_succ_cons, List.length_singleton, List.cons_append]
      rw [show (index t [39]).toNat + 1 + 1 = ((index t [39]).toNat + 1) + 1 from rfl, List.drop_succ_cons]
theorem replaceK_dbl : ∀ (t : List UInt8) (k : Nat), t.count 39 ≤ k → replaceK [39] [39, 39] k t = dbl t
  | [], k, _ => by
    cases k with
    | zero => rfl
    | succ k => simp [replaceK, index, dbl]
  | b :: t, k, h => by
    by_cases hb : b = 39
    · subst hb
      rw [List.count_cons_self] at h
      obtain ⟨k, rfl⟩ : ∃ q, k = q + 1 := ⟨k - 1, by omega⟩
      rw [replaceK, index_hit]
      have := replaceK_dbl t k (by omega)
      simp only [show ((0 : Int) == -1) = false by decide, Bool.false_eq_true, ↓reduceIte, Int.toNat_zero, List.take_zero, List.nil_append, List.length_singleton, Nat.zero_add, List.drop_succ_cons, List.drop_zero, this]
      simp [dbl]
    · rw [replaceK_miss hb, replaceK_dbl t k (by rw [List.count_cons_of_ne (by simpa using hb)] at h; exact h)]
      simp [dbl, hb]
theorem replaceAll_dbl (l : List UInt8) : replaceAll l [39] [39, 39] = dbl l := by
  unfold replaceAll replace replaceNum
  rw [if_neg (by decide), if_pos (.inl (by omega)), count_one]
  exact replaceK_dbl l _ (Nat.le_refl _)
theorem dbl_length (l : List UInt8) : (dbl l).length = l.length + l.count 39 := by
  induction l with
  | nil => rfl
  | cons b t ih =>
    by_cases hb : b = 39
    · subst hb
      have : dbl (39 :: t) = [39, 39] ++ dbl t := rfl
      rw [this, List.length_append, ih, List.count_cons_self]; simp; omega
    · have : dbl (b :: t) = [b] ++ dbl t := by simp [dbl, hb]
      rw [this, List.length_append, ih, List.count_cons_of_ne (by simpa using hb)]; simp; omega
/-- A text, quoted. -/
def quoteS (s : ByteArray) : ByteArray := ⟨(39 :: (dbl s.data.toList ++ [39])).toArray⟩

/-- What the world must hold: the tables of unicode/utf8, the powers of ten, and an integer in bytealg.MaxLen. -/
def Tabs5 (w : World) : Prop := Tabs w ∧ TabIs Tryd.prog w "internal/strconv.uint64pow10" .u64 Lib.pow10Tab ∧ ∃ m, w.cell? ⟨3, 0, none⟩ = some (.int .i64 m)
theorem gPow : Tryd.prog.globalNamed "internal/strconv.uint64pow10" = some 2 := by kernel_rfl
theorem Tabs5.below {w w' : World} (h : Tabs5 w) (hb : Below w.heap.size w w') : Tabs5 w' := by
  obtain ⟨h1, h2, m, h3⟩ := h
  refine ⟨h1.below hb, ?_, m, below_cellT hb h3⟩
  have hg : 2 < w.heap.size := by
    have := h2.cell gPow 0 (by decide)
    exact cell_lt this
  exact var?_below hb gPow hg h2

set_option maxHeartbeats 4000000 in
set_option maxRecDepth 100000 in
theorem quote_walk (s : ByteArray) (w : World) (hs : s.size ≤ 1000000) (hT : Tabs5 w) :
    Calls Tryd.prog 43 #[.string s] w fun e w' => e = .returned (.string (quoteS s)) ∧ Below w.heap.size w w' := by
  obtain ⟨_, _, m, hm⟩ := hT
  have hcb : Lib.countB s { data := #[39] } = s.data.toList.count 39 := count_one 39 s.data.toList
  have hct : s.data.toList.count 39 ≤ s.size := by
    have := List.count_le_length (a := (39 : UInt8)) (l := s.data.toList)
    simpa using this
  have cR := Tryd.strings_ReplaceAll s { data := #[39] } { data := #[39, 39] } m w (by omega) hm (by decide) (by rw [hcb]; show s.size + s.data.toList.count 39 * 2 ≤ _; omega)
  rw [show ({ data := #[39] } : ByteArray).data.toList = [39] from rfl, show ({ data := #[39, 39] } : ByteArray).data.toList = [39, 39] from rfl, replaceAll_dbl] at cR
  obtain ⟨D, hD⟩ : ∃ D : ByteArray, (⟨(dbl s.data.toList).toArray⟩ : ByteArray) = D := ⟨_, rfl⟩
  have hQ : quoteS s = ({ data := #[39] } : ByteArray) ++ D ++ { data := #[39] } := by
    apply ByteArray.ext
    rw [ByteArray.data_append, ByteArray.data_append, ← hD]
    apply Array.toList_inj.1
    simp [quoteS]
  have hsz : D.size ≤ 2000000 := by
    have hd : D.size = (dbl s.data.toList).length := by rw [← hD]; simp [ByteArray.size]
    have hl : s.data.toList.length = s.size := by simp
    rw [hd, dbl_length]
    omega
  rw [hD] at cR
  rw [hQ]
  have n1 : 1 + D.size ≤ 9223372036854775807 := by omega
  have n2 : 1 + D.size + 1 ≤ 9223372036854775807 := by omega
  clear hQ hD hcb hct hm
  go_enter Tryd.func43, Tryd.ntmps43
  go_wp2_with (go_at_call 63; refine cR.mono ?_; rintro e w1 ⟨rfl, hb⟩; clear cR)
  go_ret
  exact ⟨rfl, hb⟩

set_option maxHeartbeats 4000000 in
set_option maxRecDepth 100000 in
theorem digits_walk (n : Int) (w : World) (h0 : -9223372036854775808 ≤ n) (h1 : n ≤ 9223372036854775807) (hT : Tabs5 w) :
    Calls Tryd.prog 45 #[.int .i64 n] w fun e w' => e = .returned (.string ⟨(Lib.itoa n).toArray⟩) ∧ Below w.heap.size w w' := by
  have cF := Tryd.strconv_FormatInt_10 n h0 h1 w hT.2.1
  go_enter Tryd.func45, Tryd.ntmps45
  go_wp2_with (go_at_call 64; refine cF.mono ?_; rintro e w1 ⟨rfl, ⟨k, os, rfl⟩⟩; clear cF)
  go_ret
  exact ⟨rfl, below_grow _ _ (Nat.le_refl _) _ _⟩
end Go.Proofs.YtoclbmepgeelmaaDoor.Utf
namespace Go.Proofs.YtoclbmepgeelmaaDoor.Utf
set_option linter.unusedVariables false
set_option linter.unusedSimpArgs false
open Go.RowKit Go.Lib Go.Proofs.YtoclbmepgeelmaaDoorW.PrintWords Go.Proofs.YtoclbmepgeelmaaDoorW.PrintLast Go.Proofs.YtoclbmepgeelmaaDoorW.PrintMore

/-- What stands between quotes, taken back; none: a quote stands alone. -/
def unqL : List Int → Option (List Int)
  | [] => some []
  | c :: t => if c = 39 then (match t with
      | [] => none
      | d :: u => if d = 39 then (unqL u).map (39 :: ·) else none) else (unqL t).map (c :: ·)
theorem unqL_other {c : Int} (hc : c ≠ 39) (t : List Int) : unqL (c :: t) = (unqL t).map (c :: ·) := by
  cases t <;> simp [unqL, hc]
/-- What Unquote gives. -/
def unqO (s : ByteArray) : Option (List Int) :=
  if s.size < 2 then none else if bt s 0 ≠ 39 ∨ bt s ((s.size : Int) - 1) ≠ 39 then none else unqL (bytesOf (s.extract 1 (s.size - 1)))
def unqE (s : ByteArray) : Int := if (unqO s).isSome then 0 else 3
def unqR (s : ByteArray) : ByteArray := strOfNums ((unqO s).getD [])
theorem info5 : (Tryd.prog.info? 5).map (fun i => (i.zero, i.size, i.bytes)) = some (some (.int .u8 0), 1, 1) := by kernel_rfl

set_option maxHeartbeats 4000000 in
set_option maxRecDepth 100000 in
theorem unquote_walk (s : ByteArray) (w : World) (hs : s.size ≤ 1000000) :
    Calls Tryd.prog 39 #[.string s] w fun e w' => e = .returned (.tuple #[.string (unqR s), .int .i64 (unqE s)]) ∧ Below w.heap.size w w' := by
  by_cases h2 : s.size < 2
  · have e0 : unqO s = none := by simp [unqO, h2]
    have eE : unqE s = 3 := by simp [unqE, e0]
    have eR : unqR s = ⟨#[]⟩ := by simp [unqR, e0]; rfl
    rw [eE, eR]
    have d := decide_eq_true (p := (s.size : Int) < 2) (by omega)
    clear e0 eE eR
    go_enter Tryd.func39, Tryd.ntmps39
    go_wp2
    go_ret2
    exact ⟨rfl, Below.refl _ _⟩
  have d := decide_eq_false (p := (s.size : Int) < 2) (by omega)
  have x0 := bt_at s 0
  have x1 : ∀ h : s.size - 1 < s.size, ((s[s.size - 1]'h).toNat : Int) = bt s ((s.size : Int) - 1) := fun h => by
    unfold bt
    have e : ((s.size : Int) - 1).toNat = s.size - 1 := by omega
    rw [dif_pos (by rw [e]; exact h)]
    simp only [e]
  rw [show (0 : Int).toNat = 0 from rfl] at x0
  have p0 : (0 : Int) < (s.size : Int) := by omega
  have p1 : ((s.size : Int) - 1) < (s.size : Int) := by omega
  have p2 : 0 ≤ ((s.size : Int) - 1) := by omega
  have p3 : (1 : Int) ≤ ((s.size : Int) - 1) := by omega
  have wl : IntKind.i64.wrap ((s.size : Int) - 1) = (s.size : Int) - 1 := (i64_w _).trans (wrap64_id (by omega) (by omega))
  by_cases q0 : bt s 0 = 39
  · have b0 : (bt s 0 != 39) = false := by simpa using q0
    by_cases q1 : bt s ((s.size : Int) - 1) = 39
    · have b1 : (bt s ((s.size : Int) - 1) != 39) = false := by simpa using q1
      have hsl := fun W : World => run_slice_string (P := Tryd.prog) (w := W) 9 s .i64 .i64 1 ((s.size : Int) - 1) Tryd.underlying9 (by omega) (by omega) (by omega)
      have hI : s.extract (Int.toNat 1) ((s.size : Int) - 1).toNat = s.extract 1 (s.size - 1) := by
        rw [show (1 : Int).toNat = 1 from rfl, show ((s.size : Int) - 1).toNat = s.size - 1 by omega]
      simp only [hI] at hsl
      have eO : unqO s = unqL (bytesOf (s.extract 1 (s.size - 1))) := by simp [unqO, h2, q0, q1]
      have hIs : (s.extract 1 (s.size - 1)).size ≤ s.size := by rw [ByteArray.size_extract]; omega
      obtain ⟨I, hII⟩ : ∃ I, s.extract 1 (s.size - 1) = I := ⟨_, rfl⟩
      rw [hII] at eO hIs
      simp only [hII] at hsl
      obtain ⟨O, hO⟩ : ∃ O, unqL (bytesOf I) = O := ⟨_, rfl⟩
      have eE : unqE s = if O.isSome then 0 else 3 := by rw [unqE, eO, hO]
      have eR : unqR s = strOfNums (O.getD []) := by rw [unqR, eO, hO]
      rw [eE, eR]
      have HO := Aside0.mk hO
      clear hII hI eO eE eR hO
      go_enter Tryd.func39, Tryd.ntmps39
      go_wp2
      clear x0 x1 b0 b1 q0 q1 wl p0 p1 p2 p3 hsl d
      go_loopg [5, 7] (I.size + 1) (fun gk v5 v7 wx => ∃ (j : Int) (acc : List Int), v7 = .int .i64 j ∧ Aside0 ((Kd.int .u8).R 5 wx w.heap.size (fun _ => True) v5 acc) ∧ Aside0 (Below w.heap.size w wx) ∧ Aside0 (O = (unqL ((bytesOf I).drop j.toNat)).map (acc ++ ·)) ∧ 0 ≤ j ∧ j ≤ I.size ∧ I.size - j.toNat < gk ∧ acc.length ≤ 1000000 ∧ acc.length ≤ j)
      case atStart =>
        refine ⟨0, [], by go_num, ⟨Kd.R_nil _ _ _ _ _⟩, ⟨Below.refl _ _⟩, ⟨?_⟩, by omega, by omega, by omega, by simp, by simp⟩
        rw [← HO.out]; simp
      case round =>
        clear HO
        obtain ⟨j, acc, rfl, HR, HB, HO, hj0, hj1, hg, ha, ha2⟩ := hrel
        cases gk with
        | zero => omega
        | succ k1 =>
          by_cases cj : j < (I.size : Int)
          · have dj := decide_eq_true (p := j < (I.size : Int)) cj
            have xj := bt_at I j
            have hO := HO.out
            rw [bytes_rd I j.toNat (by omega), Int.toNat_of_nonneg hj0] at hO
            have hb := bt_range I j
            obtain ⟨c, hc⟩ : ∃ c, bt I j = c := ⟨_, rfl⟩
            rw [hc] at hO xj hb
            clear hc HO
            by_cases c39 : c = 39
            · have b39 : (c == 39) = true := by simpa using c39
              subst c39
              by_cases ce : j + 1 < (I.size : Int)
              · have de : ((j + 1) == (I.size : Int)) = false := by
                  rw [beq_eq_false_iff_ne]; omega
                have pe : 0 ≤ j + 1 := by omega
                have xe := bt_at I (j + 1)
                rw [bytes_rd I (j.toNat + 1) (by omega), show ((j.toNat + 1 : Nat) : Int) = j + 1 by omega] at hO
                have hb2 := bt_range I (j + 1)
                obtain ⟨c, hc⟩ : ∃ c, bt I (j + 1) = c := ⟨_, rfl⟩
                rw [hc] at hO xe hb2
                clear hc
                by_cases d39 : c = 39
                · subst d39
                  have hO2 : O = (unqL ((bytesOf I).drop (j + 1 + 1).toNat)).map ((acc ++ [39]) ++ ·) := by
                    rw [hO, show (j + 1 + 1).toNat = j.toNat + 1 + 1 by omega]
                    simp only [unqL, ↓reduceIte, Option.map_map]
                    congr 1
                    funext x; simp
                  have HO2 := Aside0.mk hO2
                  clear hO hO2
                  go_wp2_with (at_builtin; go_must (refine Kd.R_append (Kd.int .u8) (w0 := w) w.heap.size rfl (.tmp 50) (.tmp 54) 70 5 (.int .u8 0) 1 rfl Tryd.underlying70 info5 rfl (by decide) (by omega) u5 acc 39 [.int .u8 39] (fun _ => True) (fun _ => False) rfl rfl ?aP (fun _ hk => hk.elim) ?aF ?aO ?aB ?aS ?aL ?_; (case aP => exact rfl); (case aB => exact HB.out); (case aF => exact fun _ _ => trivial); (case aO => exact HR.out); (case aS => exact below_size HB.out); (case aL => omega); intro v1 w2 ho hb hg2 hat))
                  go_roundg k1
                  case measure => omega
                  case rel => exact ⟨j + 1 + 1, acc ++ [39], by go_num, ⟨ho⟩, ⟨hb⟩, HO2, by omega, by omega, by omega, by simp; omega, by simp; omega⟩
                · have n39 : (c != 39) = true := by simpa using d39
                  have hN : O = none := by rw [hO]; simp [unqL, d39]
                  subst hN
                  clear hO
                  go_wp2
                  go_ret2
                  exact ⟨rfl, HB.out⟩
              · have de : ((j + 1) == (I.size : Int)) = true := by
                  rw [beq_iff_eq]; omega
                have hN : O = none := by
                  rw [hO, List.drop_eq_nil_of_le (by rw [bytesOf_length]; omega)]; simp [unqL]
                subst hN
                clear hO
                go_wp2
                go_ret2
                exact ⟨rfl, HB.out⟩
            · have b39 : (c == 39) = false := by simpa using c39
              have hO2 : O = (unqL ((bytesOf I).drop (j + 1).toNat)).map ((acc ++ [c]) ++ ·) := by
                rw [hO, show (j + 1).toNat = j.toNat + 1 by omega]
                rw [unqL_other c39, Option.map_map]
                congr 1
                funext x; simp
              have HO2 := Aside0.mk hO2
              clear hO hO2
              go_wp2_with (at_builtin; go_must (refine Kd.R_append (Kd.int .u8) (w0 := w) w.heap.size rfl (.tmp 50) (.tmp 54) 70 5 (.int .u8 0) 1 rfl Tryd.underlying70 info5 rfl (by decide) (by omega) u5 acc c [.int .u8 c] (fun _ => True) (fun _ => False) rfl rfl ?aP (fun _ hk => hk.elim) ?aF ?aO ?aB ?aS ?aL ?_; (case aP => exact rfl); (case aB => exact HB.out); (case aF => exact fun _ _ => trivial); (case aO => exact HR.out); (case aS => exact below_size HB.out); (case aL => omega); intro v1 w2 ho hb hg2 hat))
              go_roundg k1
              case measure => omega
              case rel => exact ⟨j + 1, acc ++ [c], by go_num, ⟨ho⟩, ⟨hb⟩, HO2, by omega, by omega, by omega, by simp; omega, by simp; omega⟩
          · have dj := decide_eq_false (p := j < (I.size : Int)) cj
            have hO := HO.out
            rw [List.drop_eq_nil_of_le (by rw [bytesOf_length]; omega)] at hO
            have hN : O = some acc := by rw [hO]; simp [unqL]
            subst hN
            obtain ⟨A, c, rfl, hc, hC⟩ := Kd.R_reads HR.out
            have cv := Kd.C_string (P := Tryd.prog) (c := c) (src := 70) (dst := 9) (e := 5) Tryd.underlying70 Tryd.underlying5 Tryd.underlying9 hC
            clear hO HO hC
            go_wp2
            go_ret2
            exact ⟨rfl, HB.out⟩
    · have b1 : (bt s ((s.size : Int) - 1) != 39) = true := by simpa using q1
      have e0 : unqO s = none := by simp [unqO, h2, q1]
      have eE : unqE s = 3 := by simp [unqE, e0]
      have eR : unqR s = ⟨#[]⟩ := by simp [unqR, e0]; rfl
      rw [eE, eR]
      clear e0 eE eR
      go_enter Tryd.func39, Tryd.ntmps39
      go_wp2
      go_ret2
      exact ⟨rfl, Below.refl _ _⟩
  · have b0 : (bt s 0 != 39) = true := by simpa using q0
    have e0 : unqO s = none := by simp [unqO, h2, q0]
    have eE : unqE s = 3 := by simp [unqE, e0]
    have eR : unqR s = ⟨#[]⟩ := by simp [unqR, e0]; rfl
    rw [eE, eR]
    clear e0 eE eR
    go_enter Tryd.func39, Tryd.ntmps39
    go_wp2
    go_ret2
    exact ⟨rfl, Below.refl _ _⟩
end Go.Proofs.YtoclbmepgeelmaaDoor.Utf
namespace Go.Proofs.YtoclbmepgeelmaaDoor.Utf
set_option linter.unusedVariables false
set_option linter.unusedSimpArgs false
open Go.RowKit Go.Lib Go.Proofs.YtoclbmepgeelmaaDoorW.PrintWords Go.Proofs.YtoclbmepgeelmaaDoorW.PrintLast Go.Proofs.YtoclbmepgeelmaaDoorW.PrintMore

theorem name_at (s x : ByteArray) (e0 : Int) (h : nameR s = x ∧ nameE s = e0) (w : World) :
    Calls Tryd.prog 33 #[.string s] w fun e w' => e = .returned (.tuple #[.string x, .int .i64 e0]) ∧ Below w.heap.size w w' := by
  rw [← h.1, ← h.2]; exact name_walk s w
theorem unquote_at (s x : ByteArray) (e0 : Int) (hs : s.size ≤ 1000000) (h : unqR s = x ∧ unqE s = e0) (w : World) :
    Calls Tryd.prog 39 #[.string s] w fun e w' => e = .returned (.tuple #[.string x, .int .i64 e0]) ∧ Below w.heap.size w w' := by
  rw [← h.1, ← h.2]; exact unquote_walk s w hs
theorem number_at (s : ByteArray) (r : Int × Int) (hs : s.size ≤ 1000000) (h : numRE s = r) (w : World) :
    Calls Tryd.prog 41 #[.string s] w fun e w' => e = .returned (.tuple #[.int .i64 r.1, .int .i64 r.2]) ∧ Below w.heap.size w w' := by
  rw [← h]; exact num_walk s w hs
theorem count_at (s : ByteArray) (n e0 : Int) (hs : s.size ≤ 1000000) (h : ((splitR s.data.toList).length : Int) = n ∧ splitE s.data.toList = e0) (w : World) (hT : Tabs w) :
    Calls Tryd.prog 48 #[.string s] w fun e w' => e = .returned (.tuple #[.int .i64 n, .int .i64 e0]) ∧ Below w.heap.size w w' := by
  rw [← h.1, ← h.2]; exact count_walk s w hs hT
theorem quote_at (s x : ByteArray) (hs : s.size ≤ 1000000) (h : quoteS s = x) (w : World) (hT : Tabs5 w) :
    Calls Tryd.prog 43 #[.string s] w fun e w' => e = .returned (.string x) ∧ Below w.heap.size w w' := by
  rw [← h]; exact quote_walk s w hs hT
theorem digits_at (n : Int) (x : ByteArray) (h0 : -9223372036854775808 ≤ n) (h1 : n ≤ 9223372036854775807) (h : (⟨(Lib.itoa n).toArray⟩ : ByteArray) = x) (w : World) (hT : Tabs5 w) :
    Calls Tryd.prog 45 #[.int .i64 n] w fun e w' => e = .returned (.string x) ∧ Below w.heap.size w w' := by
  rw [← h]; exact digits_walk n w h0 h1 hT

set_option maxHeartbeats 4000000 in
set_option maxRecDepth 100000 in
theorem alive05 (w : World) (hT : Tabs5 w) : Calls Tryd.prog 32 #[] w fun e w' => e = .returned (.bool true) ∧ Below w.heap.size w w' := by
  have c1 := name_at { data := #[65, 98, 95, 49] } { data := #[97, 98, 95, 49] } 0 ⟨by decide, by decide⟩
  have c2 := name_at { data := #[49, 97] } { data := #[] } 3 ⟨by decide, by decide⟩
  have c3 := unquote_at { data := #[39, 105, 116, 39, 39, 115, 39] } { data := #[105, 116, 39, 115] } 0 (by decide) ⟨by decide, by decide⟩
  have c4 := number_at { data := #[57, 50, 50, 51, 51, 55, 50, 48, 51, 54, 56, 53, 52, 55, 55, 53, 56, 48, 56] } (0, 21) (by decide) (by decide)
  have c5 := count_at { data := #[97, 195, 164, 226, 130, 172] } 3 0 (by decide) ⟨by decide, by decide⟩
  have c6 := quote_at { data := #[105, 116, 39, 115] } { data := #[39, 105, 116, 39, 39, 115, 39] } (by decide) (by decide)
  have c7 := digits_at (-7) { data := #[45, 55] } (by omega) (by omega) (by
    have : Lib.itoa (-7) = [45, 55] := by
      unfold Lib.itoa
      rw [if_pos (by omega), show (-7 : Int).natAbs = 7 from rfl, Lib.decDigits, dif_pos (by omega)]; rfl
    rw [this])
  have C1 := Aside0.mk c1
  have C2 := Aside0.mk c2
  have C3 := Aside0.mk c3
  have C4 := Aside0.mk c4
  have C5 := Aside0.mk c5
  have C6 := Aside0.mk c6
  have C7 := Aside0.mk c7
  have HT := Aside0.mk hT
  clear c1 c2 c3 c4 c5 c6 c7 hT
  go_enter Tryd.func32, Tryd.ntmps32
  go_wp2_with fail
  refine (C1.out _).mono ?_
  rintro e w1 ⟨rfl, hb⟩
  have HB1 := Aside0.mk hb; clear hb
  go_wp2_with fail
  refine (C2.out _).mono ?_
  rintro e w2 ⟨rfl, hb⟩
  have HB2 := Aside0.mk (below_step HB1.out hb); clear hb
  go_wp2_with fail
  refine (C3.out _).mono ?_
  rintro e w3 ⟨rfl, hb⟩
  have HB3 := Aside0.mk (below_step HB2.out hb); clear hb
  go_wp2_with fail
  refine (C4.out _).mono ?_
  rintro e w4 ⟨rfl, hb⟩
  have HB4 := Aside0.mk (below_step HB3.out hb); clear hb
  go_wp2_with fail
  refine (C5.out _ (HT.out.below HB4.out).1).mono ?_
  rintro e w5 ⟨rfl, hb⟩
  have HB5 := Aside0.mk (below_step HB4.out hb); clear hb
  go_wp2_with fail
  refine (C6.out _ (HT.out.below HB5.out)).mono ?_
  rintro e w6 ⟨rfl, hb⟩
  have HB6 := Aside0.mk (below_step HB5.out hb); clear hb
  go_wp2_with fail
  refine (C7.out _ (HT.out.below HB6.out)).mono ?_
  rintro e w7 ⟨rfl, hb⟩
  have HB7 := Aside0.mk (below_step HB6.out hb); clear hb
  go_wp2_with fail
  go_ret
  exact ⟨rfl, HB7.out⟩
end Go.Proofs.YtoclbmepgeelmaaDoor.Utf
