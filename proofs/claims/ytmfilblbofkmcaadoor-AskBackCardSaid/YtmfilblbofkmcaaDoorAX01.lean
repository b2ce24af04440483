/- Texts joined: Worlds that only grow. For any program. A value as Go has it. No program. DERIVED: THE SHELF's CONTRACTS AT THIS DUMP, IN PLAIN WORDS (tools/lay-plain.mjs out of 'TrydShelf.lean', which tools/lay-shelf.mjs wrote): THE SAME DECLARATIONS UNDER THE SAME NAMES: 'import', 'namespace', 'open', 'def', 'theorem' AND NOTHING ELSE: no command of the shelf's: FOR A HAND-IN. Each laying: the table of numbers ('.._ren') and one theorem, a field a fact of the dump's own or the kernel's comparison; each contract: ONE APPLICATION. The order of values: cmp.Compare, cmp.Or, value.Compare: what each call answers; the world has at most new blocks. value.Is and value.num: what each call answers; the world has at most new blocks. (ParseInt's contracts stand in this seat's Lib.) Slices that a call builds itself: appended to, read, made a string. Plain laws, for any program. That arguments read behind a call as before, if all that was there is as it was. Arguments that are values: what is read of them. A region whose operations only compute, read what stays as it was, or call what leaves all as it was: walked once, in the order of the text, whatever order is drawn. For any program. A list turned round by exchanging its ends, step by step. Plain. value.itoa: it writes a number in decimal digits. value.Print, value.Right: what each call answers; the world has at most new blocks. -/
import Derived.WalkKit
import Derived.WalkSpells
import Derived.WalkLawsBesides
import Derived.Deep.RegionHeld3
import Derived.Deep.Draws
import Derived.Lib.Hide
import Derived.Shelf.Strings.Trim
import Derived.Shelf.Small.Utf8
import Derived.Shelf.Small.Strs
import Derived.Shelf.Small.Wraps
import Derived.Shelf.Strconv.Itoa0
import Derived.Shelf.Strconv.Itoa1
import Derived.Shelf.LaysM
import Derived.Shelf.Strconv.Itoa2
import Derived.Shelf.Strconv.Itoa3
import Derived.Shelf.Strconv.ParseIntEmpty
import Derived.Shelf.Strconv.Clone
import Derived.Shelf.Strconv.SyntaxError
import Derived.Shelf.LaysC
import Derived.Shelf.Strconv.ToError
import Derived.Shelf.Strconv.Lower
import Derived.Shelf.Strconv.ParseUint10
import Derived.Shelf.Strconv.ParseUint10Empty
import Derived.Shelf.Strconv.ParseUint10Any
import Derived.Shelf.Strconv.ParseInt10
import Derived.Shelf.Strconv.RangeError
import Derived.Shelf.Strconv.ToErrorRange
import Derived.Shelf.Strconv.ParseUintEmpty
import Derived.Shelf.Strconv.ParseUint10b64
import Derived.Shelf.Strconv.ParseUint10b32
import Derived.Shelf.Strconv.ParseUint10b16
import Derived.Shelf.Strconv.ParseUint10b8
import Derived.Shelf.Strconv.ParseUint10At
import Derived.Shelf.Strconv.ParseInt10At64
import Derived.Shelf.Strconv.ParseInt10At32
import Derived.Shelf.Strconv.ParseInt10At16
import Derived.Shelf.Strconv.ParseInt10At8
import Derived.Shelf.Strconv.ParseInt10All
import Derived.Shelf.Strconv.ParseIntPublic10
import Derived.Shelf.Strconv.ErrVarParseInt
import Derived.Shelf.Strings.Search1
import Derived.Shelf.GgClosure.StringsIndexFunc
import Derived.Ground.GgwProg
import Derived.Shelf.GgClosure.StringsIndexFuncTop
import Derived.Shelf.GgClosure.StringsRunes
import Derived.Shelf.Strings.Prefix
import Derived.Shelf.Unicode.Decode
import Derived.Shelf.Strings.Runes
import Derived.Shelf.Strings.AsciiSet
import Derived.Shelf.Unicode.DecodeSlow
import Derived.Shelf.Unicode.DecodeAny
import Derived.Shelf.Unicode.DecodeLast
import Derived.Shelf.Strings.FuncGrows
import Derived.Shelf.Slices.Turned
import Derived.Ground.Names2Prog
import Derived.Shelf.Slices.SearchI
import Derived.Ground.SlgnProg
import Derived.Shelf.SlicesG.SearchI
import Derived.Ground.SlgcProg
import Derived.Shelf.SlicesG.Cmp
import Derived.Test.YtmfilblbofkmcaaDoorProg
import Derived.Maps.AppendAt
import Derived.Deep.AppendLies
import Derived.Laws.IdiomStrings
import Derived.Test.YtmfilblbofkmcaaDoorRows
import Derived.ProofKit
import Derived.SizedLaws
import Derived.Lib.SmallJoins
import Derived.Carry
import Derived.Orders
import Derived.BigQuiet
/- Worlds that only grow. For any program. -/
namespace Go.Proofs.YtmfilblbofkmcaaDoor
set_option linter.all false
open Go.RowKit

/-- w' is w with new blocks, whatever they hold: all that was there is as it was. -/
def Ext (w w' : World) : Prop := Below w.heap.size w w'

theorem Ext.out {w w' : World} (h : Ext w w') : Below w.heap.size w w' := h
theorem Ext.mk {w w' : World} (h : Below w.heap.size w w') : Ext w w' := h
@[simp] theorem Ext.refl (w : World) : Ext w w := Below.refl _ _
theorem Ext.trans {a b c : World} (h : Ext a b) (k : Ext b c) : Ext a c := Below.trans h (Below.mono k h.size)
@[simp] theorem Ext.drew {a w : World} (h : Ext a w) : Ext a w.drew := Below.drew h
@[simp] theorem Ext.drewN {a w : World} (h : Ext a w) (n : Nat) : Ext a (w.drewN n) := ⟨h.os, h.tape, h.output, h.size, h.block⟩
@[simp] theorem Ext.alloc {a w : World} (h : Ext a w) (o : Obj) : Ext a (w.alloc o) := Below.alloc h h.size o
theorem Ext.setCell {a w : World} (h : Ext a w) {p : Addr} (hp : a.heap.size ≤ p.block) (u : Value) : Ext a (w.setCell p u) := Below.setCell h hp u
theorem Ext.cell {a w : World} (h : Ext a w) {p : Addr} (hp : p.block < a.heap.size) : w.cell? p = a.cell? p := Below.cell h hp
theorem Ext.size {a w : World} (h : Ext a w) : a.heap.size ≤ w.heap.size := Below.size h

/-- a cell that holds something lies in a block -/
theorem lt_of_cell {w : World} {p : Addr} {v : Value} (h : w.cell? p = some v) : p.block < w.heap.size := by
  rcases Nat.lt_or_ge p.block w.heap.size with hlt | hge
  · exact hlt
  · simp [World.cell?, Array.getElem?_eq_none hge] at h
/-- a cell that holds something holds it later -/
theorem Ext.keeps {a w : World} (h : Ext a w) {p : Addr} {v : Value} (hc : a.cell? p = some v) : w.cell? p = some v := (h.cell (lt_of_cell hc)).trans hc

end Go.Proofs.YtmfilblbofkmcaaDoor

/- A value as Go has it. No program. -/
namespace Go.Proofs.YtmfilblbofkmcaaDoor
set_option linter.all false
/-- a value as Go has it -/
structure GV where
  kind : Int
  num : Int
  text : ByteArray

/-- what is a number of 64 bits -/
def i64 (n : Int) : Prop := -9223372036854775808 ≤ n ∧ n ≤ 9223372036854775807
end Go.Proofs.YtmfilblbofkmcaaDoor

/-
  DERIVED: THE SHELF's CONTRACTS AT THIS DUMP, IN PLAIN WORDS (tools/lay-plain.mjs out of 'TrydShelf.lean', which tools/lay-shelf.mjs wrote): THE SAME DECLARATIONS UNDER THE SAME NAMES: 'import', 'namespace', 'open', 'def', 'theorem' AND NOTHING ELSE: no command of the shelf's: FOR A HAND-IN. Each laying: the table of numbers ('.._ren') and one theorem, a field a fact of the dump's own or the kernel's comparison; each contract: ONE APPLICATION.
-/
namespace Go.Proofs
set_option linter.all false
open Go.Shelf
def Tryd.lays160_ren : Go.Shelf.Ren := ⟨fun | 160 => 10 | 232 => 18 | 231 => 17 | 227 => 19 | 234 => 21 | 233 => 20 | 236 => 23 | 235 => 22 | 228 => 33 | 271 => 36 | 151 => 35 | 197 => 34 | 120 => 48 | 152 => 47 | 260 => 46 | 137 => 53 | 119 => 62 | 224 => 63 | 225 => 64 | 217 => 65 | 266 => 72 | n => n, fun | 9 => 9 | 4 => 4 | 3 => 3 | 5 => 5 | 117 => 54 | 116 => 53 | 0 => 0 | 124 => 57 | 21 => 21 | 105 => 72 | 46 => 101 | 119 => 100 | 139 => 104 | 138 => 103 | n => n, fun | 3 => 1 | 4 => 2 | n => n⟩
theorem Tryd.lays160 : Go.Proofs.Lays.n160 Tryd.prog Tryd.lays160_ren := {
  mixed := by kernel_rfl
  f119 := Tryd.func62.trans (congrArg some (by kernel_rfl))
  f120 := Tryd.func48.trans (congrArg some (by kernel_rfl))
  f137 := Tryd.func53.trans (congrArg some (by kernel_rfl))
  f151 := Tryd.func35.trans (congrArg some (by kernel_rfl))
  f152 := Tryd.func47.trans (congrArg some (by kernel_rfl))
  f160 := Tryd.func10.trans (congrArg some (by kernel_rfl))
  f197 := Tryd.func34.trans (congrArg some (by kernel_rfl))
  f217 := Tryd.func65.trans (congrArg some (by kernel_rfl))
  f224 := Tryd.func63.trans (congrArg some (by kernel_rfl))
  f225 := Tryd.func64.trans (congrArg some (by kernel_rfl))
  f227 := Tryd.func19.trans (congrArg some (by kernel_rfl))
  f228 := Tryd.func33.trans (congrArg some (by kernel_rfl))
  f231 := Tryd.func17.trans (congrArg some (by kernel_rfl))
  f232 := Tryd.func18.trans (congrArg some (by kernel_rfl))
  f233 := Tryd.func20.trans (congrArg some (by kernel_rfl))
  f234 := Tryd.func21.trans (congrArg some (by kernel_rfl))
  f235 := Tryd.func22.trans (congrArg some (by kernel_rfl))
  f236 := Tryd.func23.trans (congrArg some (by kernel_rfl))
  f260 := Tryd.func46.trans (congrArg some (by kernel_rfl))
  f266 := Tryd.func72.trans (congrArg some (by kernel_rfl))
  f271 := Tryd.func36.trans (congrArg some (by kernel_rfl))
  t0 := Tryd.underlying0
  a0 := Tryd.isAgg0
  z0 := Tryd.sizeOf0
  v0 := Tryd.zeroValue0
  t3 := Tryd.underlying3
  a3 := Tryd.isAgg3
  z3 := Tryd.sizeOf3
  v3 := Tryd.zeroValue3
  t4 := Tryd.underlying4
  a4 := Tryd.isAgg4
  z4 := Tryd.sizeOf4
  v4 := Tryd.zeroValue4
  t5 := Tryd.underlying5
  a5 := Tryd.isAgg5
  z5 := Tryd.sizeOf5
  v5 := Tryd.zeroValue5
  t9 := Tryd.underlying9
  a9 := Tryd.isAgg9
  z9 := Tryd.sizeOf9
  v9 := Tryd.zeroValue9
  t21 := Tryd.underlying21
  a21 := Tryd.isAgg21
  z21 := Tryd.sizeOf21
  v21 := Tryd.zeroValue21
  t46 := Tryd.underlying101
  a46 := Tryd.isAgg101
  z46 := Tryd.sizeOf101
  v46 := Tryd.zeroValue101
  t105 := Tryd.underlying72
  a105 := Tryd.isAgg72
  z105 := Tryd.sizeOf72
  v105 := Tryd.zeroValue72
  t116 := Tryd.underlying53
  a116 := Tryd.isAgg53
  z116 := Tryd.sizeOf53
  t117 := Tryd.underlying54
  a117 := Tryd.isAgg54
  z117 := Tryd.sizeOf54
  v117 := Tryd.zeroValue54
  t119 := Tryd.underlying100
  a119 := Tryd.isAgg100
  z119 := Tryd.sizeOf100
  t124 := Tryd.underlying57
  a124 := Tryd.isAgg57
  z124 := Tryd.sizeOf57
  v124 := Tryd.zeroValue57
  t138 := Tryd.underlying103
  a138 := Tryd.isAgg103
  z138 := Tryd.sizeOf103
  v138 := Tryd.zeroValue103
  t139 := Tryd.underlying104
  a139 := Tryd.isAgg104
  z139 := Tryd.sizeOf104
  v139 := Tryd.zeroValue104
  g3 := by kernel_rfl
  g4 := by kernel_rfl }
def Tryd.lays106_ren : Go.Shelf.Ren := ⟨fun | 106 => 45 | 213 => 61 | 265 => 71 | n => n, fun | 9 => 9 | 3 => 3 | n => n, fun | n => n⟩
theorem Tryd.lays106 : Go.Proofs.Lays.n106 Tryd.prog Tryd.lays106_ren := {
  mixed := by kernel_rfl
  f106 := Tryd.func45.trans (congrArg some (by kernel_rfl))
  f213 := Tryd.func61.trans (congrArg some (by kernel_rfl))
  f265 := Tryd.func71.trans (congrArg some (by kernel_rfl))
  t3 := Tryd.underlying3
  a3 := Tryd.isAgg3
  z3 := Tryd.sizeOf3
  v3 := Tryd.zeroValue3
  t9 := Tryd.underlying9
  a9 := Tryd.isAgg9
  z9 := Tryd.sizeOf9
  v9 := Tryd.zeroValue9 }
open Go.RowKit in
/-- strings.Compare: "Compare returns an integer comparing two strings lexicographically. The result will be 0 if a == b, -1 if a < b, and +1 if a > b.": IT RETURNS 'Lib.compareBytes a b'; the world is as it was. (LAID: no walk: one application.) -/
theorem Tryd.strings_Compare (a b : ByteArray) (w : World) :
    Calls Tryd.prog 45 #[.string a, .string b] w fun e w' => e = .returned (.int .i64 (Lib.compareBytes a.data.toList b.data.toList)) ∧ w' = w := Any.strings_Compare Tryd.lays106 a b w
def Tryd.lays137_ren : Go.Shelf.Ren := ⟨fun | 137 => 53 | 217 => 65 | 266 => 72 | n => n, fun | 9 => 9 | 5 => 5 | 3 => 3 | n => n, fun | n => n⟩
theorem Tryd.lays137 : Go.Proofs.Lays.n137 Tryd.prog Tryd.lays137_ren := {
  mixed := by kernel_rfl
  f137 := Tryd.func53.trans (congrArg some (by kernel_rfl))
  f217 := Tryd.func65.trans (congrArg some (by kernel_rfl))
  f266 := Tryd.func72.trans (congrArg some (by kernel_rfl))
  t3 := Tryd.underlying3
  a3 := Tryd.isAgg3
  z3 := Tryd.sizeOf3
  v3 := Tryd.zeroValue3
  t5 := Tryd.underlying5
  a5 := Tryd.isAgg5
  z5 := Tryd.sizeOf5
  v5 := Tryd.zeroValue5
  t9 := Tryd.underlying9
  a9 := Tryd.isAgg9
  z9 := Tryd.sizeOf9
  v9 := Tryd.zeroValue9 }
open Go.RowKit in
/-- strings.IndexByte: "IndexByte returns the index of the first instance of c in s, or -1 if c is not present in s.": IT RETURNS 'Lib.indexByte s c'; the world is as it was. (LAID: no walk: one application.) -/
theorem Tryd.strings_IndexByte (s : ByteArray) (c : Int) (w : World) :
    Calls Tryd.prog 53 #[.string s, .int .u8 c] w fun e w' => e = .returned (.int .i64 (Lib.indexByte s.data.toList c.toNat.toUInt8)) ∧ w' = w := Any.strings_IndexByte Tryd.lays137 s c w
def Tryd.laysC174_ren : Go.Shelf.Ren := ⟨fun | 174 => 70 | 247 => 73 | 245 => 74 | 287 => 75 | 279 => 76 | 280 => 77 | 281 => 78 | 282 => 79 | 321 => 80 | 322 => 81 | 316 => 82 | 171 => 84 | 205 => 83 | 243 => 85 | 246 => 86 | 283 => 87 | 284 => 88 | 285 => 89 | 286 => 90 | 129 => 92 | 317 => 91 | 318 => 93 | 319 => 94 | 320 => 95 | 337 => 96 | 338 => 97 | n => n, fun | 9 => 9 | 3 => 3 | 2 => 2 | 75 => 28 | 85 => 110 | 4 => 4 | 167 => 113 | 5 => 5 | 53 => 96 | 175 => 114 | 46 => 101 | 168 => 116 | 37 => 95 | 0 => 0 | 210 => 122 | 21 => 21 | 127 => 125 | 145 => 128 | 143 => 126 | 171 => 130 | 173 => 133 | 212 => 136 | 51 => 137 | 20 => 20 | 213 => 138 | 232 => 141 | 233 => 142 | 80 => 92 | n => n, fun | 15 => 5 | 16 => 6 | 17 => 7 | 18 => 8 | 19 => 9 | n => n⟩
theorem Tryd.laysC174 : Go.Proofs.LaysC.n174 Tryd.prog Tryd.laysC174_ren := {
  mixed := by kernel_rfl
  f129 := Tryd.func92.trans (congrArg some (by kernel_rfl))
  f171 := Tryd.func84.trans (congrArg some (by kernel_rfl))
  f174 := Tryd.func70.trans (congrArg some (by kernel_rfl))
  f205 := Tryd.func83.trans (congrArg some (by kernel_rfl))
  f243 := Tryd.func85.trans (congrArg some (by kernel_rfl))
  f245 := Tryd.func74.trans (congrArg some (by kernel_rfl))
  f246 := Tryd.func86.trans (congrArg some (by kernel_rfl))
  f247 := Tryd.func73.trans (congrArg some (by kernel_rfl))
  f279 := Tryd.func76.trans (congrArg some (by kernel_rfl))
  f280 := Tryd.func77.trans (congrArg some (by kernel_rfl))
  f281 := Tryd.func78.trans (congrArg some (by kernel_rfl))
  f282 := Tryd.func79.trans (congrArg some (by kernel_rfl))
  f283 := Tryd.func87.trans (congrArg some (by kernel_rfl))
  f284 := Tryd.func88.trans (congrArg some (by kernel_rfl))
  f285 := Tryd.func89.trans (congrArg some (by kernel_rfl))
  f286 := Tryd.func90.trans (congrArg some (by kernel_rfl))
  f287 := Tryd.func75.trans (congrArg some (by kernel_rfl))
  f316 := Tryd.func82.trans (congrArg some (by kernel_rfl))
  f317 := Tryd.func91.trans (congrArg some (by kernel_rfl))
  f318 := Tryd.func93.trans (congrArg some (by kernel_rfl))
  f319 := Tryd.func94.trans (congrArg some (by kernel_rfl))
  f320 := Tryd.func95.trans (congrArg some (by kernel_rfl))
  f321 := Tryd.func80.trans (congrArg some (by kernel_rfl))
  f322 := Tryd.func81.trans (congrArg some (by kernel_rfl))
  f337 := Tryd.func96.trans (congrArg some (by kernel_rfl))
  f338 := Tryd.func97.trans (congrArg some (by kernel_rfl))
  t0 := Tryd.underlying0
  a0 := Tryd.isAgg0
  z0 := Tryd.sizeOf0
  v0 := Tryd.zeroValue0
  t2 := Tryd.underlying2
  a2 := Tryd.isAgg2
  z2 := Tryd.sizeOf2
  v2 := Tryd.zeroValue2
  t3 := Tryd.underlying3
  a3 := Tryd.isAgg3
  z3 := Tryd.sizeOf3
  v3 := Tryd.zeroValue3
  t4 := Tryd.underlying4
  a4 := Tryd.isAgg4
  z4 := Tryd.sizeOf4
  v4 := Tryd.zeroValue4
  t5 := Tryd.underlying5
  a5 := Tryd.isAgg5
  z5 := Tryd.sizeOf5
  v5 := Tryd.zeroValue5
  t9 := Tryd.underlying9
  a9 := Tryd.isAgg9
  z9 := Tryd.sizeOf9
  v9 := Tryd.zeroValue9
  t20 := Tryd.underlying20
  a20 := Tryd.isAgg20
  z20 := Tryd.sizeOf20
  v20 := Tryd.zeroValue20
  t21 := Tryd.underlying21
  a21 := Tryd.isAgg21
  z21 := Tryd.sizeOf21
  v21 := Tryd.zeroValue21
  t37 := Tryd.underlying95
  a37 := Tryd.isAgg95
  z37 := Tryd.sizeOf95
  v37 := Tryd.zeroValue95
  t46 := Tryd.underlying101
  a46 := Tryd.isAgg101
  z46 := Tryd.sizeOf101
  v46 := Tryd.zeroValue101
  t51 := Tryd.underlying137
  a51 := Tryd.isAgg137
  z51 := Tryd.sizeOf137
  v51 := Tryd.zeroValue137
  t53 := Tryd.underlying96
  a53 := Tryd.isAgg96
  z53 := Tryd.sizeOf96
  v53 := Tryd.zeroValue96
  t75 := Tryd.underlying28
  a75 := Tryd.isAgg28
  z75 := Tryd.sizeOf28
  v75 := Tryd.zeroValue28
  t85 := Tryd.underlying110
  a85 := Tryd.isAgg110
  z85 := Tryd.sizeOf110
  v85 := Tryd.zeroValue110
  t127 := Tryd.underlying125
  a127 := Tryd.isAgg125
  z127 := Tryd.sizeOf125
  v127 := Tryd.zeroValue125
  t143 := Tryd.underlying126
  a143 := Tryd.isAgg126
  z143 := Tryd.sizeOf126
  v143 := Tryd.zeroValue126
  t145 := Tryd.underlying128
  a145 := Tryd.isAgg128
  z145 := Tryd.sizeOf128
  v145 := Tryd.zeroValue128
  t167 := Tryd.underlying113
  a167 := Tryd.isAgg113
  z167 := Tryd.sizeOf113
  v167 := Tryd.zeroValue113
  t168 := Tryd.underlying116
  a168 := Tryd.isAgg116
  z168 := Tryd.sizeOf116
  v168 := Tryd.zeroValue116
  t171 := Tryd.underlying130
  a171 := Tryd.isAgg130
  z171 := Tryd.sizeOf130
  v171 := Tryd.zeroValue130
  t173 := Tryd.underlying133
  a173 := Tryd.isAgg133
  z173 := Tryd.sizeOf133
  v173 := Tryd.zeroValue133
  t175 := Tryd.underlying114
  a175 := Tryd.isAgg114
  z175 := Tryd.sizeOf114
  v175 := Tryd.zeroValue114
  t210 := Tryd.underlying122
  a210 := Tryd.isAgg122
  z210 := Tryd.sizeOf122
  v210 := Tryd.zeroValue122
  t212 := Tryd.underlying136
  a212 := Tryd.isAgg136
  z212 := Tryd.sizeOf136
  v212 := Tryd.zeroValue136
  t213 := Tryd.underlying138
  a213 := Tryd.isAgg138
  z213 := Tryd.sizeOf138
  t232 := Tryd.underlying141
  a232 := Tryd.isAgg141
  z232 := Tryd.sizeOf141
  v232 := Tryd.zeroValue141
  t233 := Tryd.underlying142
  a233 := Tryd.isAgg142
  z233 := Tryd.sizeOf142
  v233 := Tryd.zeroValue142
  g15 := by kernel_rfl
  g16 := by kernel_rfl
  g17 := by kernel_rfl
  g18 := by kernel_rfl
  g19 := by kernel_rfl
  t80 := Tryd.underlying92
  a80 := Tryd.isAgg92
  z80 := Tryd.sizeOf92
  v80 := Tryd.zeroValue92
  i0 := by kernel_rfl
  i2 := by kernel_rfl
  i3 := by kernel_rfl
  i4 := by kernel_rfl
  i5 := by kernel_rfl
  i9 := by kernel_rfl
  i20 := by kernel_rfl
  i21 := by kernel_rfl
  i37 := by kernel_rfl
  i46 := by kernel_rfl
  i51 := by kernel_rfl
  i53 := by kernel_rfl
  i75 := by kernel_rfl
  i80 := by kernel_rfl
  i85 := by kernel_rfl
  i127 := by kernel_rfl
  i143 := by kernel_rfl
  i145 := by kernel_rfl
  i167 := by kernel_rfl
  i168 := by kernel_rfl
  i171 := by kernel_rfl
  i173 := by kernel_rfl
  i175 := by kernel_rfl
  i210 := by kernel_rfl
  i212 := by kernel_rfl
  i232 := by kernel_rfl
  i233 := by kernel_rfl
  m15 := by kernel_rfl
  m16 := by kernel_rfl
  m17 := by kernel_rfl
  m18 := by kernel_rfl
  m19 := by kernel_rfl
  c0 := by kernel_rfl
  c2 := by kernel_rfl
  c3 := by kernel_rfl
  c4 := by kernel_rfl
  c5 := by kernel_rfl
  c9 := by kernel_rfl
  c20 := by kernel_rfl
  c21 := by kernel_rfl
  c37 := by kernel_rfl
  c46 := by kernel_rfl
  c51 := by kernel_rfl
  c53 := by kernel_rfl
  c75 := by kernel_rfl
  c80 := by kernel_rfl
  c85 := by kernel_rfl
  c127 := by kernel_rfl
  c143 := by kernel_rfl
  c145 := by kernel_rfl
  c167 := by kernel_rfl
  c168 := by kernel_rfl
  c171 := by kernel_rfl
  c173 := by kernel_rfl
  c175 := by kernel_rfl
  c210 := by kernel_rfl
  c212 := by kernel_rfl
  c213 := by kernel_rfl
  c232 := by kernel_rfl
  c233 := by kernel_rfl }
open Go.RowKit in
/-- strconv.ParseInt(s, 10, 64), AT EVERY STRING THAT SPELLS AN int64 ('Lib.parseIntB 64 s.data.toList = .ok v'): v, AND NO ERROR. (LAID: no walk: one application.) -/
theorem Tryd.strconv_ParseInt_10_at64_ok (s : ByteArray) (hmax : s.size ≤ 9223372036854775806) (v : Int) (h : Lib.parseIntB 64 s.data.toList = .ok v) (w : World) :
    Calls Tryd.prog 70 #[.string s, .int .i64 10, .int .i64 64] w fun e w' => e = .returned (.tuple #[.int .i64 v, .nilIface]) ∧ (w' = w ∨ ∃ t, w' = Lib.bytesWorld w 5 t) := Any.strconv_ParseInt_10_at64_ok Tryd.laysC174 s hmax v h w
open Go.RowKit in
theorem Tryd.strconv_ParseInt_10_at64_syntax_var (s : ByteArray) (hlim : s.size ≤ 281474976710656) (h : Lib.parseIntB 64 s.data.toList = Lib.NumEnd.syntax) (tp : TypeId) (p : Value) (w : World) (hvar : w.var? Tryd.prog "strconv.ErrSyntax" = some #[.iface tp p]) :
    Calls Tryd.prog 70 #[.string s, .int .i64 10, .int .i64 64] w fun e w' => ∃ N, e = .returned (.tuple #[.int .i64 (0), .iface 116 (.pointer (some ⟨N, 0, none⟩))]) ∧ w.heap.size ≤ N ∧ w'.heap[N]? = some (.cells #[.string ⟨#[80, 97, 114, 115, 101, 73, 110, 116]⟩, .string s, .iface tp p] 122 (0, 0)) ∧ Below w.heap.size w w' := Any.strconv_ParseInt_10_at64_syntax_var Tryd.laysC174 s hlim h tp p w hvar
open Go.RowKit in
theorem Tryd.strconv_ParseInt_10_at64_range_var (s : ByteArray) (hlim : s.size ≤ 281474976710656) (h : Lib.parseIntB 64 s.data.toList = .range) (tp : TypeId) (p : Value) (w : World) (hvar : w.var? Tryd.prog "strconv.ErrRange" = some #[.iface tp p]) :
    Calls Tryd.prog 70 #[.string s, .int .i64 10, .int .i64 64] w fun e w' => ∃ N, e = .returned (.tuple #[.int .i64 (Lib.intSat 64 s.data.toList), .iface 116 (.pointer (some ⟨N, 0, none⟩))]) ∧ w.heap.size ≤ N ∧ w'.heap[N]? = some (.cells #[.string ⟨#[80, 97, 114, 115, 101, 73, 110, 116]⟩, .string s, .iface tp p] 122 (0, 0)) ∧ Below w.heap.size w w' := Any.strconv_ParseInt_10_at64_range_var Tryd.laysC174 s hlim h tp p w hvar
def Tryd.laysGw15_ren : Go.Shelf.Ren := ⟨fun | 15 => 24 | 20 => 37 | n => n, fun | 9 => 9 | 23 => 59 | 3 => 3 | 4 => 4 | 0 => 0 | 21 => 21 | n => n, fun | n => n⟩
theorem Tryd.laysGw15 : Go.Proofs.LaysGw.n15 Tryd.prog Tryd.laysGw15_ren := {
  mixed := by kernel_rfl
  f15 := Tryd.func24.trans (congrArg some (by kernel_rfl))
  f20 := Tryd.func37.trans (congrArg some (by kernel_rfl))
  t0 := Tryd.underlying0
  a0 := Tryd.isAgg0
  z0 := Tryd.sizeOf0
  v0 := Tryd.zeroValue0
  i0 := by kernel_rfl
  t3 := Tryd.underlying3
  a3 := Tryd.isAgg3
  z3 := Tryd.sizeOf3
  v3 := Tryd.zeroValue3
  i3 := by kernel_rfl
  t4 := Tryd.underlying4
  a4 := Tryd.isAgg4
  z4 := Tryd.sizeOf4
  v4 := Tryd.zeroValue4
  i4 := by kernel_rfl
  t9 := Tryd.underlying9
  a9 := Tryd.isAgg9
  z9 := Tryd.sizeOf9
  v9 := Tryd.zeroValue9
  i9 := by kernel_rfl
  t21 := Tryd.underlying21
  a21 := Tryd.isAgg21
  z21 := Tryd.sizeOf21
  v21 := Tryd.zeroValue21
  i21 := by kernel_rfl
  t23 := Tryd.underlying59
  a23 := Tryd.isAgg59
  z23 := Tryd.sizeOf59
  v23 := Tryd.zeroValue59
  i23 := by kernel_rfl }
open Go.RowKit Go.Lib in
theorem Tryd.strings_IndexFunc (g : Nat) (lb : Array Value) (eg : ∀ args w, (callFunc g args).run Tryd.prog w = .ok (.enter g args) w) (p : Nat → Bool) (s : ByteArray) (w : World) (hp : PredAt Tryd.prog g lb encR p w) :
    Calls Tryd.prog 24 #[.string s, .func (.func g) #[] lb] w fun e w' => e = .returned (.int .i64 (Lib.idxFunc p true s)) ∧ Below w.heap.size w w' := Any.strings_IndexFunc Tryd.laysGw15 g lb eg p s w hp
def Tryd.lays99_ren : Go.Shelf.Ren := ⟨fun | 99 => 54 | 206 => 66 | n => n, fun | 9 => 9 | 4 => 4 | 3 => 3 | n => n, fun | n => n⟩
theorem Tryd.lays99 : Go.Proofs.Lays.n99 Tryd.prog Tryd.lays99_ren := {
  mixed := by kernel_rfl
  f99 := Tryd.func54.trans (congrArg some (by kernel_rfl))
  f206 := Tryd.func66.trans (congrArg some (by kernel_rfl))
  t3 := Tryd.underlying3
  a3 := Tryd.isAgg3
  z3 := Tryd.sizeOf3
  v3 := Tryd.zeroValue3
  t4 := Tryd.underlying4
  a4 := Tryd.isAgg4
  z4 := Tryd.sizeOf4
  v4 := Tryd.zeroValue4
  t9 := Tryd.underlying9
  a9 := Tryd.isAgg9
  z9 := Tryd.sizeOf9
  v9 := Tryd.zeroValue9 }
open Go.RowKit Go.Lib in
/-- strings.HasPrefix: "HasPrefix reports whether the string s begins with prefix.": IT RETURNS 'Lib.hasPrefix s prefix'; the world is as it was. (LAID: no walk: one application.) -/
theorem Tryd.strings_HasPrefix (s p : ByteArray) (w : World) :
    Calls Tryd.prog 54 #[.string s, .string p] w fun e w' => e = .returned (.bool (Lib.hasPrefix s.data.toList p.data.toList)) ∧ w' = w := Any.strings_HasPrefix Tryd.lays99 s p w
def Tryd.lays109_ren : Go.Shelf.Ren := ⟨fun | 109 => 69 | n => n, fun | 31 => 107 | 9 => 9 | 3 => 3 | 0 => 0 | 4 => 4 | n => n, fun | n => n⟩
theorem Tryd.lays109 : Go.Proofs.Lays.n109 Tryd.prog Tryd.lays109_ren := {
  mixed := by kernel_rfl
  f109 := Tryd.func69.trans (congrArg some (by kernel_rfl))
  t0 := Tryd.underlying0
  a0 := Tryd.isAgg0
  z0 := Tryd.sizeOf0
  v0 := Tryd.zeroValue0
  t3 := Tryd.underlying3
  a3 := Tryd.isAgg3
  z3 := Tryd.sizeOf3
  v3 := Tryd.zeroValue3
  t4 := Tryd.underlying4
  a4 := Tryd.isAgg4
  z4 := Tryd.sizeOf4
  v4 := Tryd.zeroValue4
  t9 := Tryd.underlying9
  a9 := Tryd.isAgg9
  z9 := Tryd.sizeOf9
  v9 := Tryd.zeroValue9
  t31 := Tryd.underlying107
  a31 := Tryd.isAgg107
  z31 := Tryd.sizeOf107
  v31 := Tryd.zeroValue107 }
open Go.Lib in
/-- slices.Index at []string: "Index returns the index of the first occurrence of v in s, or -1 if not present.": IT RETURNS 'Lib.idxOfS (the elements) v'; the world is as it was. 'zs': what the cells behind the slice's address hold (its spare capacity too, if you have it); 'zs.take n': its elements. (LAID: no walk: one application.) -/
theorem Tryd.slices_Index_string (b off n c : Nat) (zs : List ByteArray) (x : ByteArray) (w : World) (hz : n ≤ zs.length) (hbig : n ≤ 9223372036854775807) (hc : ∀ j, j < zs.length → w.cell? ⟨b, off + j, none⟩ = some (.string (zs.getD j ByteArray.empty))) :
    Calls Tryd.prog 69 #[.slice (some ⟨b, off, none⟩) n c, .string x] w fun e w' => e = .returned (.int .i64 (Lib.idxOfS (zs.take n) x)) ∧ w' = w := Any.slices_Index_string Tryd.lays109 b off n c zs x w hz hbig hc
def Tryd.lays110_ren : Go.Shelf.Ren := ⟨fun | 110 => 67 | 109 => 69 | n => n, fun | 31 => 107 | 9 => 9 | 4 => 4 | 3 => 3 | 0 => 0 | n => n, fun | n => n⟩
theorem Tryd.lays110 : Go.Proofs.Lays.n110 Tryd.prog Tryd.lays110_ren := {
  mixed := by kernel_rfl
  f109 := Tryd.func69.trans (congrArg some (by kernel_rfl))
  f110 := Tryd.func67.trans (congrArg some (by kernel_rfl))
  t0 := Tryd.underlying0
  a0 := Tryd.isAgg0
  z0 := Tryd.sizeOf0
  v0 := Tryd.zeroValue0
  t3 := Tryd.underlying3
  a3 := Tryd.isAgg3
  z3 := Tryd.sizeOf3
  v3 := Tryd.zeroValue3
  t4 := Tryd.underlying4
  a4 := Tryd.isAgg4
  z4 := Tryd.sizeOf4
  v4 := Tryd.zeroValue4
  t9 := Tryd.underlying9
  a9 := Tryd.isAgg9
  z9 := Tryd.sizeOf9
  v9 := Tryd.zeroValue9
  t31 := Tryd.underlying107
  a31 := Tryd.isAgg107
  z31 := Tryd.sizeOf107
  v31 := Tryd.zeroValue107 }
open Go.Lib in
/-- slices.Contains at []string: "Contains reports whether v is present in s.": IT RETURNS 'Lib.containsS (the elements) v', which is true just where v is among them ('Lib.containsS_iff'); the world is as it was. ITS CALLEE slices.Index IS MET BY ITS OWN CONTRACT OFF THE SHELF (lay that first): no loop is walked here. (LAID: no walk: one application.) -/
theorem Tryd.slices_Contains_string (b off n c : Nat) (zs : List ByteArray) (x : ByteArray) (w : World) (hz : n ≤ zs.length) (hbig : n ≤ 9223372036854775807) (hc : ∀ j, j < zs.length → w.cell? ⟨b, off + j, none⟩ = some (.string (zs.getD j ByteArray.empty))) :
    Calls Tryd.prog 67 #[.slice (some ⟨b, off, none⟩) n c, .string x] w fun e w' => e = .returned (.bool (Lib.containsS (zs.take n) x)) ∧ w' = w := Any.slices_Contains_string Tryd.lays110 b off n c zs x w hz hbig hc
end Go.Proofs

/- The order of values: cmp.Compare, cmp.Or, value.Compare: what each call answers; the world has at most new blocks. -/
namespace Go.Proofs.YtmfilblbofkmcaaDoor
set_option linter.all false
set_option linter.unusedSimpArgs false
set_option linter.unusedVariables false
open Go.RowKit
def cmpI (x y : Int) : Int := if x < y then -1 else if y < x then 1 else 0
/-- cmp.Or of three numbers -/
def orI (x y z : Int) : Int := if x = 0 then (if y = 0 then z else y) else x

theorem cmp_int (x y : Int) (w : World) :
    Calls Tryd.prog 43 #[.int .i64 x, .int .i64 y] w fun e w' => e = .returned (.int .i64 (cmpI x y)) ∧ w' = w := by
  unfold cmpI
  by_cases h1 : x < y
  · go_enter Tryd.func43, Tryd.ntmps43
    go_wp2
    go_ret
    exact ⟨by simp [h1], rfl⟩
  · by_cases h2 : y < x
    · go_enter Tryd.func43, Tryd.ntmps43
      go_wp2
      go_ret
      exact ⟨by simp [h1, h2], rfl⟩
    · go_enter Tryd.func43, Tryd.ntmps43
      go_wp2
      go_ret
      exact ⟨by simp [h1, h2], rfl⟩
theorem cmp_int64 (x y : Int) (w : World) :
    Calls Tryd.prog 44 #[.int .i64 x, .int .i64 y] w fun e w' => e = .returned (.int .i64 (cmpI x y)) ∧ w' = w := by
  unfold cmpI
  by_cases h1 : x < y
  · go_enter Tryd.func44, Tryd.ntmps44
    go_wp2
    go_ret
    exact ⟨by simp [h1], rfl⟩
  · by_cases h2 : y < x
    · go_enter Tryd.func44, Tryd.ntmps44
      go_wp2
      go_ret
      exact ⟨by simp [h1, h2], rfl⟩
    · go_enter Tryd.func44, Tryd.ntmps44
      go_wp2
      go_ret
      exact ⟨by simp [h1, h2], rfl⟩

set_option maxHeartbeats 8000000 in
theorem or_int (x y z : Int) (g : Nat) (w : World) (h0 : w.cell? ⟨g, 0, none⟩ = some (.int .i64 x)) (h1 : w.cell? ⟨g, 1, none⟩ = some (.int .i64 y)) (h2 : w.cell? ⟨g, 2, none⟩ = some (.int .i64 z)) :
    Calls Tryd.prog 42 #[.slice (some ⟨g, 0, none⟩) 3 3] w fun e w' => e = .returned (.int .i64 (orI x y z)) ∧ w' = w := by
  by_cases hx : x = 0
  · have bx : (x == 0) = true := by simp [hx]
    have cx : (x != 0) = false := by simp [hx]
    by_cases hy : y = 0
    · have by' : (y == 0) = true := by simp [hy]
      have cy : (y != 0) = false := by simp [hy]
      have fin : orI x y z = z := by simp [orI, hx, hy]
      rw [fin]; clear hx hy fin
      by_cases hz : z = 0
      · have bz : (z == 0) = true := by simp [hz]
        have cz : (z != 0) = false := by simp [hz]
        subst hz
        go_enter Tryd.func42, Tryd.ntmps42
        go_wp2
        refine wp_loop_rounds 4 ?_
        rw [rounds_succ]; go_wp2
        rw [rounds_succ]; go_wp2
        rw [rounds_succ]; go_wp2
        rw [rounds_succ]; go_wp2
        go_ret
        exact ⟨rfl, rfl⟩
      · have bz : (z == 0) = false := by simp [hz]
        have cz : (z != 0) = true := by simp [hz]
        clear hz
        go_enter Tryd.func42, Tryd.ntmps42
        go_wp2
        refine wp_loop_rounds 4 ?_
        rw [rounds_succ]; go_wp2
        rw [rounds_succ]; go_wp2
        rw [rounds_succ]; go_wp2
        go_ret
        exact ⟨rfl, rfl⟩
    · have by' : (y == 0) = false := by simp [hy]
      have cy : (y != 0) = true := by simp [hy]
      have fin : orI x y z = y := by simp [orI, hx, hy]
      rw [fin]; clear hx hy fin
      go_enter Tryd.func42, Tryd.ntmps42
      go_wp2
      refine wp_loop_rounds 4 ?_
      rw [rounds_succ]; go_wp2
      rw [rounds_succ]; go_wp2
      go_ret
      exact ⟨rfl, rfl⟩
  · have bx : (x == 0) = false := by simp [hx]
    have cx : (x != 0) = true := by simp [hx]
    have fin : orI x y z = x := by simp [orI, hx]
    rw [fin]; clear hx fin
    go_enter Tryd.func42, Tryd.ntmps42
    go_wp2
    refine wp_loop_rounds 4 ?_
    rw [rounds_succ]; go_wp2
    go_ret
    exact ⟨rfl, rfl⟩

/-- what value.Compare answers -/
def cmpV (k n : Int) (s : ByteArray) (k' n' : Int) (s' : ByteArray) : Int := orI (cmpI k k') (cmpI n n') (Lib.compareBytes s.data.toList s'.data.toList)

set_option maxHeartbeats 8000000 in
theorem compare_any (k n : Int) (s : ByteArray) (k' n' : Int) (s' : ByteArray) (w : World) :
    Calls Tryd.prog 32 #[.agg #[.int .i64 k, .int .i64 n, .string s], .agg #[.int .i64 k', .int .i64 n', .string s']] w fun e w' => e = .returned (.int .i64 (cmpV k n s k' n' s')) ∧ Ext w w' := by
  go_enter Tryd.func32, Tryd.ntmps32
  go_wp2_with fail
  go_region_held3 (fun w' => w'.cell? ⟨w.heap.size, 0, none⟩ = some (.int .i64 k) ∧ w'.cell? ⟨w.heap.size, 1, none⟩ = some (.int .i64 n) ∧ w'.cell? ⟨w.heap.size, 2, none⟩ = some (.string s) ∧ w'.cell? ⟨w.heap.size+1, 0, none⟩ = some (.int .i64 k') ∧ w'.cell? ⟨w.heap.size+1, 1, none⟩ = some (.int .i64 n') ∧ w'.cell? ⟨w.heap.size+1, 2, none⟩ = some (.string s') ∧ Ext w w') (((try dsimp only); (repeat' apply And.intro) <;> (first | (go_keep; done) | (repeat (first | with_reducible exact Ext.refl _ | with_reducible assumption | with_reducible refine Ext.drew ?_ | with_reducible refine Ext.alloc ?_ _ | with_reducible refine Ext.drewN ?_ _ | refine Ext.trans ?_ (by with_reducible assumption)))))) (first | (go_at_call 43; refine (cmp_int _ _ _).mono ?_; rintro e w' ⟨rfl, rfl⟩) | (go_at_call 44; refine (cmp_int64 _ _ _).mono ?_; rintro e w' ⟨rfl, rfl⟩) | (go_at_call 45; refine (Tryd.strings_Compare _ _ _).mono ?_; rintro e w' ⟨rfl, rfl⟩) | (go_at_call 42; refine (or_int (cmpI k k') (cmpI n n') (Lib.compareBytes s.data.toList s'.data.toList) _ _ (by go_simp) (by go_simp) (by go_simp)).mono ?_; rintro e w' ⟨rfl, rfl⟩))
  go_wp2
  go_ret
  refine ⟨rfl, ?_⟩
  (repeat (first | with_reducible exact Ext.refl _ | with_reducible assumption | with_reducible refine Ext.drew ?_ | with_reducible refine Ext.alloc ?_ _ | with_reducible refine Ext.drewN ?_ _ | refine Ext.trans ?_ (by with_reducible assumption)))
end Go.Proofs.YtmfilblbofkmcaaDoor

/- value.Is and value.num: what each call answers; the world has at most new blocks. -/
namespace Go.Proofs.YtmfilblbofkmcaaDoor
set_option linter.all false
set_option linter.unusedSimpArgs false
set_option linter.unusedVariables false
open Go.RowKit
/-- what value.Is answers -/
def isCode (c n : Int) : Int := if (c = 1 ∧ n = 0) ∨ (c = 2 ∧ n ≠ 0) ∨ (c = 3 ∧ n < 0) ∨ (c = 4 ∧ n ≤ 0) ∨ (c = 5 ∧ 0 < n) ∨ (c = 6 ∧ 0 ≤ n) then 1 else 0
def isV (c : Int) (k n : Int) (s : ByteArray) (k' n' : Int) (s' : ByteArray) : Int := if k = 0 ∨ k ≠ k' then -1 else isCode c (cmpV k n s k' n' s')

set_option maxHeartbeats 8000000 in
theorem is_none (c k n : Int) (s : ByteArray) (k' n' : Int) (s' : ByteArray) (w : World) (h : k = 0 ∨ k ≠ k') :
    Calls Tryd.prog 16 #[.int .i64 c, .agg #[.int .i64 k, .int .i64 n, .string s], .agg #[.int .i64 k', .int .i64 n', .string s']] w fun e w' => e = .returned (.int .i64 (-1)) ∧ Ext w w' := by
  by_cases hk : k = 0
  · have b1 : (k == 0) = true := by simp [hk]
    clear h hk
    go_enter Tryd.func16, Tryd.ntmps16
    go_wp2
    go_ret
    refine ⟨rfl, ?_⟩
    (repeat (first | with_reducible exact Ext.refl _ | with_reducible assumption | with_reducible refine Ext.drew ?_ | with_reducible refine Ext.alloc ?_ _ | with_reducible refine Ext.drewN ?_ _ | refine Ext.trans ?_ (by with_reducible assumption)))
  · have b1 : (k == 0) = false := by simp [hk]
    have hk' : k ≠ k' := by rcases h with h | h; exact absurd h hk; exact h
    have b2 : (k == k') = false := by simp [hk']
    have b3 : (k != k') = true := by simp [hk']
    clear h hk hk'
    go_enter Tryd.func16, Tryd.ntmps16
    go_wp2
    go_ret
    refine ⟨rfl, ?_⟩
    (repeat (first | with_reducible exact Ext.refl _ | with_reducible assumption | with_reducible refine Ext.drew ?_ | with_reducible refine Ext.alloc ?_ _ | with_reducible refine Ext.drewN ?_ _ | refine Ext.trans ?_ (by with_reducible assumption)))

set_option maxHeartbeats 8000000 in
theorem is_some (c k n : Int) (s : ByteArray) (n' : Int) (s' : ByteArray) (w : World) (hk : k ≠ 0) :
    Calls Tryd.prog 16 #[.int .i64 c, .agg #[.int .i64 k, .int .i64 n, .string s], .agg #[.int .i64 k, .int .i64 n', .string s']] w fun e w' => e = .returned (.int .i64 (isCode c (cmpV k n s k n' s'))) ∧ Ext w w' := by
  have b1 : (k == 0) = false := by simp [hk]
  clear hk
  go_enter Tryd.func16, Tryd.ntmps16
  go_wp2_with (go_at_call 32; refine (compare_any _ _ _ _ _ _ _).mono ?_; rintro e w1 ⟨rfl, hw1⟩)
  all_goals (go_ret; refine ⟨?_, ?_⟩; rotate_left; (repeat (first | with_reducible exact Ext.refl _ | with_reducible assumption | with_reducible refine Ext.drew ?_ | with_reducible refine Ext.alloc ?_ _ | with_reducible refine Ext.drewN ?_ _ | refine Ext.trans ?_ (by with_reducible assumption))))
  all_goals (clear hw1; (simp_all [isCode] <;> omega))
theorem is_any (c k n : Int) (s : ByteArray) (k' n' : Int) (s' : ByteArray) (w : World) :
    Calls Tryd.prog 16 #[.int .i64 c, .agg #[.int .i64 k, .int .i64 n, .string s], .agg #[.int .i64 k', .int .i64 n', .string s']] w fun e w' => e = .returned (.int .i64 (isV c k n s k' n' s')) ∧ Ext w w' := by
  by_cases h : k = 0 ∨ k ≠ k'
  · rw [show isV c k n s k' n' s' = -1 by simp only [isV, if_pos h]]
    exact is_none c k n s k' n' s' w h
  · obtain ⟨h1, h2⟩ := not_or.1 h
    obtain rfl : k = k' := Decidable.not_not.1 h2
    rw [show isV c k n s k n' s' = isCode c (cmpV k n s k n' s') by simp only [isV, if_neg h]]
    exact is_some c k n s n' s' w h1
end Go.Proofs.YtmfilblbofkmcaaDoor

/- (ParseInt's contracts stand in this seat's Lib.) -/

/- Slices that a call builds itself: appended to, read, made a string. Plain laws, for any program. -/
namespace Go.Proofs.YtmfilblbofkmcaaDoor
set_option linter.all false
open Go.RowKit

/-- t is a slice type, its elements of type e take so many cells and bytes -/
structure Elem (P : Program) (t e : TypeId) (size bytes : Nat) : Prop where
  under : P.underlying t = some (.slice e)
  info : ∃ i z, P.info? e = some i ∧ i.zero = some z ∧ i.size = size ∧ i.bytes = bytes ∧ z.cells.size = size
  pos : 0 < size

/-- since w0 the slice v has been built: n elements, the cells xs, in a block from B on; below B all is as it was -/
structure Mk (B : Nat) (w0 w : World) (e : TypeId) (size : Nat) (v : Value) (n : Nat) (xs : List Value) : Prop where
  own : w.ownsRow B e size v n xs
  below : Below B w0 w
  base : B ≤ w.heap.size

section
variable {P : Program} {B : Nat} {w0 w w' : World} {e : TypeId} {size n : Nat} {v : Value} {xs : List Value}
theorem Mk.nil (h : Below B w0 w) (hB : B ≤ w.heap.size) : Mk B w0 w e size (.slice none 0 0) 0 [] := ⟨World.ownsRow_nil _ _ _ _, h, hB⟩
theorem Mk.alloc (h : Mk B w0 w e size v n xs) (o : Obj) : Mk B w0 (w.alloc o) e size v n xs := ⟨h.own.alloc o, h.below.alloc h.base o, by have := h.base; simp; omega⟩
theorem Mk.drew (h : Mk B w0 w e size v n xs) : Mk B w0 w.drew e size v n xs := ⟨h.own.drew, h.below.drew, h.base⟩
theorem Mk.step (h : Mk B w0 w e size v n xs) (hx : Ext w w') : Mk B w0 w' e size v n xs :=
  ⟨h.own.kept (row := none) ⟨hx.os, hx.tape, hx.output, hx.size, fun k hk _ => hx.block k hk⟩ (by cases hv : v.ownBlock <;> simp), h.below.trans (Below.mono hx h.base), Nat.le_trans h.base hx.size⟩
theorem Mk.ext (h : Mk w0.heap.size w0 w e size v n xs) : Ext w0 w := h.below

theorem Mk.stored {g cap : Nat} (h : Mk B w0 w e size (.slice (some ⟨g, 0, none⟩) n cap) n xs) (j : Nat) (u : Value) : Mk B w0 (w.setCell ⟨g, j, none⟩ u) e size (.slice (some ⟨g, 0, none⟩) n cap) n (xs.set j u) :=
  ⟨(h.own.stored j u).1, h.below.setCell (h.own.lt g rfl).1 u, by simpa [World.setCell] using h.base⟩

theorem Mk.row (h : Mk B w0 w e size v n xs) : ∀ g, v.ownBlock = some g → ∃ cs fr, w.heap[g]? = some (.cells cs e fr) := by
  intro g hg
  rcases h.own.2 with ⟨rfl, _⟩ | ⟨g', cap, cur, rfl, _, hgg, _⟩
  · simp [Value.ownBlock] at hg
  · simp [Value.ownBlock] at hg
    subst hg
    exact ⟨_, _, hgg⟩

theorem wpList_push {t : TypeId} {bytes : Nat} (hE : Elem P t e size bytes) {ops : Array Oper} {rest : List Oper} {o : Oper} {a : Act} {Q : Exit → Act → World → Prop} (hgd : o.guard = none) (s x : Operand)
    (ho : o.op = .call { callee := .builtin .append, args := #[s, x], argTypes := #[t, t] }) (news : List Value)
    (hM : Mk B w0 w e size v n xs) (S : Nat) (hS : w.heap.size = S) (hs : a.eval s = v) (hx : a.eval x = .slice (some ⟨S, 0, none⟩) 1 1) (hl : news.length = size) (h1 : ∀ u ∈ news, u.oneCell' = true)
    (hn : (n + 1) * bytes ≤ 140737488355328) (hm : n + 1 ≤ 140737488355328)
    (h : ∀ g cap w', Mk B w0 w' e size (.slice (some ⟨g, 0, none⟩) (n + 1 : Nat) cap) (n + 1) (xs ++ news) → w.grownBy w' v.ownBlock → (v.ownBlock = some g ∨ g = w.heap.size + 1) → wpList P ops Q rest (a.put o.dst (.slice (some ⟨g, 0, none⟩) (n + 1 : Nat) cap)) w') :
    wpList P ops Q (o :: rest) a (w.alloc (.cells news.toArray e)) := by
  subst hS
  obtain ⟨i, z, hi, hz, hsz, hby, hzs⟩ := hE.info
  have hM' := hM.alloc (.cells news.toArray e)
  refine wpList_append_own_at (P := P) (w := w.alloc (.cells news.toArray e)) hgd s x t ho B e i z size bytes hE.under hi hz hsz hby hzs hE.pos v n xs hs hM'.own ⟨w.heap.size, 0, none⟩ 1 1 news hx (by simpa using hl) ?_ h1 (by unfold maxLen; omega) hn hM'.base ?_
  · exact fun j u hu => World.news_of_block (heap_alloc_new w _) j u (by simpa using hu)
  · intro v' w' hown hg _ hat
    obtain ⟨g, cap, rfl, _, _⟩ := hown.form (by omega)
    refine h g cap w' ⟨hown, ?_, Nat.le_trans hM'.base hg.size⟩ ?_ (by simpa [Value.ownBlock, eq_comm] using hat)
    · exact hM'.below.grown hg hM'.base (fun k hk => (hM.own.lt k hk).1)
    · exact ⟨hg.os, hg.tape, hg.output, Nat.le_trans (by simp) hg.size, fun k hk hne => (hg.block k (by simp; omega) hne).trans (Below.heap_alloc w _ k hk)⟩

theorem Ext.grownBy {a b : World} (h : Ext a b) (row : Option Nat) : a.grownBy b row := ⟨h.os, h.tape, h.output, h.size, fun k hk _ => h.block k hk⟩

/-- string(b) of a slice of bytes that was built -/
theorem run_string_own {src dst : TypeId} (hs : P.underlying src = some (.slice e)) (he : P.underlying e = some (.int .u8)) (hd : P.underlying dst = some .string) (l : List UInt8)
    (hown : w.ownsRow B e 1 v n (l.map fun c => Value.int .u8 (c.toNat : Int))) : (convert src dst v).run P w = .ok (.string ⟨l.toArray⟩) w := by
  have hln := hown.1
  simp only [List.length_map, Nat.mul_one] at hln
  rcases hown.2 with ⟨rfl, rfl⟩ | ⟨g, cap, cur, rfl, _, hg, _, _, _, htk⟩
  · have : l = [] := List.eq_nil_of_length_eq_zero hln
    subst this
    rw [run_convert_bytes_string w src dst e none 0 0 hs he hd]
    simp [Conv.bytesToString]
    rfl
  · subst hln
    exact run_convert_bytes_back w src dst e ⟨g, 0, none⟩ cap l hs he hd fun j hj => hown.cells (g := g) rfl j _ (by simp [hj])
end
end Go.Proofs.YtmfilblbofkmcaaDoor

/- That arguments read behind a call as before, if all that was there is as it was. -/
namespace Go.Proofs.YtmfilblbofkmcaaDoor
set_option linter.all false
set_option linter.unusedSimpArgs false
set_option linter.unusedVariables false
open Go.RowKit
open Go.ChangeShapes Go.WideShapes Go.ChangeAt Go.Joins

theorem Tryd.own : ownKnob Tryd.prog.godebug = none := by kernel_rfl
theorem Tryd.laidOut : laidOutB Tryd.prog = true := by kernel_rfl
section
variable {H : Type} {enc : TypeId × Value → H} {P : Program}
/-- all arguments read as they did, if all that was there is as it was -/
theorem trodAll_ext (hl : laidOutB P = true) {W W' : World} (hb : Ext W W') : ∀ (ts : List TypeId) (vs : List Value) (ds : List (DataW H)) (ps : List MemPlace),
    (∀ t ∈ ts, P.readableRec t = true ∧ t < P.types.size) → DataW.TrodAll enc P W 0 (fun _ => true) true ts vs ds ps → (∀ x ∈ ps, x.block < W.heap.size) →
    DataW.TrodAll enc P W' 0 (fun b => decide (b < W.heap.size)) true ts vs ds ps
  | [], [], [], ps, _, h, _ => h
  | t :: ts, v :: vs, d :: ds, ps, ht, h, hlt => by
    obtain ⟨p, q, h1, h2, rfl⟩ := h
    exact ⟨p, q, Below.trod hl (ht t (by simp)).1 (ht t (by simp)).2 h1 hb fun x hx => hlt x (by simp [hx]), trodAll_ext hl hb ts vs ds q (fun t ht' => ht t (by simp [ht'])) h2 (fun x hx => hlt x (by simp [hx])), rfl⟩
  | [], [], _ :: _, _, _, h, _ => by simp [DataW.TrodAll] at h
  | [], _ :: _, _, _, _, h, _ => by simp [DataW.TrodAll] at h
  | _ :: _, [], _, _, _, h, _ => by simp [DataW.TrodAll] at h
  | _ :: _, _ :: _, [], _, _, h, _ => by simp [DataW.TrodAll] at h
end

theorem i64_wf {n : Int} (h : (Lit.int .i64 n).wf = true) : i64 n := by
  unfold i64
  simp [Lit.wf, IntKind.wrap] at h
  first | exact h | omega

end Go.Proofs.YtmfilblbofkmcaaDoor

/- Arguments that are values: what is read of them. -/
namespace Go.Proofs.YtmfilblbofkmcaaDoor
set_option linter.all false
set_option linter.unusedSimpArgs false
set_option linter.unusedVariables false
open Go.RowKit
open Go.ChangeShapes Go.WideShapes Go.ChangeAt Go.Joins
theorem Tryd.cellsVal : Tryd.prog.cellsOf 23 = 3 := by kernel_rfl

set_option maxRecDepth 100000 in
/-- a value that comes in -/
theorem open_gv {H : Type} {enc : TypeId × Value → H} {w : World} {base b0 : Nat} {spare : Nat → Bool} {held : Bool} {r : Reach} {v : Value} {d : DataW H} {p : List MemPlace}
    (hv : Value.okWide Tryd.prog w r b0 23 v) (h : DataW.Trod enc Tryd.prog w base spare held 23 v d p) (hz : ∀ n ∈ d.weights Tryd.prog 23, n ≤ reachBytes) :
    ∃ x : GV, v = .agg #[.int .i64 x.kind, .int .i64 x.num, .string x.text] ∧ i64 x.kind ∧ i64 x.num ∧ x.text.size ≤ 140737488355328 := by
  obtain ⟨c0, c1, c2, y0, y1, y2, m, rfl, rfl, rfl, hy0, hy1, hy2⟩ := open_agg3 Tryd.underlying23 (by kernel_rfl) Tryd.cellsVal hv h
  obtain ⟨k, e0, rfl, wk⟩ := DataW.trod_int Tryd.underlying3 hy0
  obtain ⟨n, e1, rfl, wn⟩ := DataW.trod_int Tryd.underlying2 hy1
  obtain ⟨s, e2, rfl, ws⟩ := DataW.trod_string Tryd.underlying9 hy2
  simp only [List.cons.injEq, and_true] at e0 e1 e2
  subst e0 e1 e2
  refine ⟨⟨k, n, s⟩, rfl, i64_wf wk, i64_wf wn, ?_⟩
  have := hz s.data.toList.length (by simp [DataW.weights, DataW.weightsEach, Tryd.underlying23])
  simp [reachBytes] at this
  show s.size ≤ _
  have hs : s.size = s.data.size := rfl
  omega
theorem weights_of {H : Type} {P : Program} {ts : List TypeId} {ds : List (DataW H)} (h : (DataW.weightsEach P ts ds).all (· ≤ reachBytes) = true) {j : Nat} {t : TypeId} {d : DataW H} (ht : ts[j]? = some t) (hd : ds[j]? = some d) :
    ∀ n ∈ d.weights P t, n ≤ reachBytes := fun n hn => by
  have := List.all_eq_true.1 h _ (DataW.weights_mem_each ht hd n hn)
  simpa using this
end Go.Proofs.YtmfilblbofkmcaaDoor

/- A region whose operations only compute, read what stays as it was, or call what leaves all as it was: walked once, in the order of the text, whatever order is drawn. For any program. -/
namespace Go.Proofs.YtmfilblbofkmcaaDoor
set_option linter.all false
open Go.RowKit

section
variable {P : Program} {ops : Array Oper} {F : World → Prop}

/-- in every world that meets F the operation yields v, or calls a function that yields v and leaves what was there as it was -/
def StepOK (P : Program) (F : World → Prop) (o : Oper) (a : Act) (v : Value) : Prop :=
  (∀ w, F w → (execOp a.eval o).run P w = .ok (.value v) w) ∨
  (∃ f args, (∀ w, F w → (execOp a.eval o).run P w = .ok (.enter f args) w) ∧ ∀ w, F w → Calls P f args w fun e w' => e = .returned v ∧ Ext w w')

/-- the walk in the order of the text -/
def Fixed (P : Program) (ops : Array Oper) (F : World → Prop) (K : Act → Prop) : List Oper → Act → Prop
  | [], a => K a
  | o :: rest, a => (Region.wanted o (yielded ops a.tmps) = true ∧ ∃ v, StepOK P F o a v ∧ Fixed P ops F K rest (a.put o.dst v)) ∨
      (Region.wanted o (yielded ops a.tmps) = false ∧ Fixed P ops F K rest (a.put o.dst undef))

theorem Fixed.done {K : Act → Prop} {a : Act} (h : K a) : Fixed P ops F K [] a := h
theorem Fixed.skip {K : Act → Prop} {o : Oper} {rest : List Oper} {a : Act} (hw : Region.wanted o (yielded ops a.tmps) = false) (h : Fixed P ops F K rest (a.put o.dst undef)) : Fixed P ops F K (o :: rest) a := .inr ⟨hw, h⟩
theorem Fixed.val {K : Act → Prop} {o : Oper} {rest : List Oper} {a : Act} {v : Value} (hw : Region.wanted o (yielded ops a.tmps) = true) (hr : ∀ w, F w → (execOp a.eval o).run P w = .ok (.value v) w)
    (h : Fixed P ops F K rest (a.put o.dst v)) : Fixed P ops F K (o :: rest) a := .inl ⟨hw, v, .inl hr, h⟩
theorem Fixed.call {K : Act → Prop} {o : Oper} {rest : List Oper} {a : Act} {v : Value} {f : FuncId} {args : Array Value} (hw : Region.wanted o (yielded ops a.tmps) = true) (hr : ∀ w, F w → (execOp a.eval o).run P w = .ok (.enter f args) w)
    (hc : ∀ w, F w → Calls P f args w fun e w' => e = .returned v ∧ Ext w w') (h : Fixed P ops F K rest (a.put o.dst v)) : Fixed P ops F K (o :: rest) a := .inl ⟨hw, v, .inr ⟨f, args, hr, hc⟩, h⟩

/-- the frame when the operations of L have come up, with the values vs -/
def frameOf (ops : Array Oper) (vs : Nat → Value) (L : Nat → Bool) (a0 : Act) : Nat → Act
  | 0 => a0
  | n + 1 => if L n then (frameOf ops vs L a0 n).put ((ops[n]?).bind (·.dst)) (vs n) else frameOf ops vs L a0 n

theorem frame_congr {vs : Nat → Value} {L M : Nat → Bool} {a0 : Act} : ∀ n, (∀ i, i < n → L i = M i) → frameOf ops vs L a0 n = frameOf ops vs M a0 n
  | 0, _ => rfl
  | n + 1, h => by
    unfold frameOf
    rw [frame_congr n (fun i hi => h i (by omega)), h n (by omega)]
theorem frame_vs {vs us : Nat → Value} {L : Nat → Bool} {a0 : Act} : ∀ n, (∀ i, i < n → vs i = us i) → frameOf ops vs L a0 n = frameOf ops us L a0 n
  | 0, _ => rfl
  | n + 1, h => by
    unfold frameOf
    rw [frame_vs n (fun i hi => h i (by omega)), h n (by omega)]

/-- no two operations write one slot -/
def dstApart (ops : Array Oper) : Bool := (List.range ops.size).all fun i => (List.range ops.size).all fun j => i == j || match (ops[i]?).bind (·.dst) with | none => true | some d => (ops[j]?).bind (·.dst) != some d
/-- i waits for j -/
def waits (ops : Array Oper) (i j : Nat) : Bool := ((ops[i]?).map fun o => o.after.any fun e => Region.binds .any e && e.on == j).getD false
def isSelect (o : Oper) : Bool := match o.op with | .select .. => true | _ => false
/-- whoever looks at a slot waits for its writer, or its writer waits for him; nobody waits for whoever comes later -/
def looksOk (ops : Array Oper) : Bool := (List.range ops.size).all fun i => match ops[i]? with
  | none => true
  | some o => !isSelect o && (o.after.all fun e => !Region.binds .any e || decide (e.on < i)) && (o.looksAt ops).all fun t => (List.range ops.size).all fun j => ((ops[j]?).bind (·.dst) != some t) || (decide (j < i) && waits ops i j) || (decide (i < j) && waits ops j i)
def fixedOk (ops : Array Oper) : Bool := dstApart ops && looksOk ops

theorem dst_spec (h : dstApart ops = true) {i j : Nat} (hij : i ≠ j) {d : Tmp} (hi : (ops[i]?).bind (·.dst) = some d) : (ops[j]?).bind (·.dst) ≠ some d := by
  have li : i < ops.size := by
    rcases Nat.lt_or_ge i ops.size with h | h
    · exact h
    · simp [Array.getElem?_eq_none h] at hi
  intro hj
  have lj : j < ops.size := by
    rcases Nat.lt_or_ge j ops.size with h | h
    · exact h
    · simp [Array.getElem?_eq_none h] at hj
  unfold dstApart at h
  rw [List.all_eq_true] at h
  have h1 := h i (by simpa using li)
  rw [List.all_eq_true] at h1
  have h2 := h1 j (by simpa using lj)
  rw [hi, hj] at h2
  simp at h2
  exact hij h2

theorem put_put (hd : dstApart ops = true) (a : Act) {i j : Nat} (hij : i ≠ j) (v u : Value) :
    (a.put ((ops[i]?).bind (·.dst)) v).put ((ops[j]?).bind (·.dst)) u = (a.put ((ops[j]?).bind (·.dst)) u).put ((ops[i]?).bind (·.dst)) v :=
  Act.put_comm a v u fun d hi => dst_spec hd hij hi

/-- one more has come up -/
theorem frame_more (hd : dstApart ops = true) {vs : Nat → Value} {L : Nat → Bool} {a0 : Act} {i : Nat} (hi : L i = false) : ∀ n, i < n →
    frameOf ops vs (fun j => j == i || L j) a0 n = (frameOf ops vs L a0 n).put ((ops[i]?).bind (·.dst)) (vs i)
  | 0, h => absurd h (by omega)
  | n + 1, h => by
    unfold frameOf
    by_cases e : n = i
    · subst e
      simp only [beq_self_eq_true, Bool.true_or, if_true, hi, Bool.false_eq_true, if_false]
      rw [frame_congr (L := fun j => j == n || L j) (M := L) n (fun j hj => by
        have : (j == n) = false := by simp; omega
        simp [this])]
    · have hb : (n == i) = false := by simpa using e
      simp only [hb, Bool.false_or]
      rw [frame_more hd hi n (by omega)]
      split
      · exact put_put hd _ (fun h => e h.symm) _ _
      · rfl

theorem frame_size {vs : Nat → Value} {L : Nat → Bool} {a0 : Act} : ∀ n, (frameOf ops vs L a0 n).tmps.size = a0.tmps.size ∧ (frameOf ops vs L a0 n).defers = a0.defers
  | 0 => ⟨rfl, rfl⟩
  | n + 1 => by
    unfold frameOf
    have ih := frame_size (vs := vs) (L := L) (a0 := a0) n
    split
    · cases h : (ops[n]?).bind (·.dst) <;> simp [Act.put, ih]
    · exact ih
/-- a slot that nobody of L writes -/
theorem frame_other {vs : Nat → Value} {L : Nat → Bool} {a0 : Act} {t : Tmp} : ∀ n, (∀ j, j < n → L j = true → (ops[j]?).bind (·.dst) ≠ some t) → (frameOf ops vs L a0 n).tmps[t]? = a0.tmps[t]?
  | 0, _ => rfl
  | n + 1, h => by
    unfold frameOf
    have ih := frame_other (vs := vs) (L := L) (a0 := a0) (t := t) n (fun j hj => h j (by omega))
    split
    · rename_i hl
      have hn := h n (by omega) hl
      cases hd : (ops[n]?).bind (·.dst) with
      | none => simpa [Act.put] using ih
      | some d =>
        have : d ≠ t := fun e => hn (by rw [hd, e])
        simp [Act.put, Array.getElem?_setIfInBounds_ne this, ih]
    · exact ih
/-- a slot that j of L writes -/
theorem frame_at (hd : dstApart ops = true) {vs : Nat → Value} {L : Nat → Bool} {a0 : Act} {t : Tmp} {j : Nat} (hj : (ops[j]?).bind (·.dst) = some t) (hl : L j = true) : ∀ n, j < n →
    (frameOf ops vs L a0 n).tmps[t]? = if t < a0.tmps.size then some (vs j) else none
  | 0, h => absurd h (by omega)
  | n + 1, h => by
    unfold frameOf
    by_cases e : n = j
    · subst e
      rw [if_pos hl, hj]
      have hs := (frame_size (ops := ops) (vs := vs) (L := L) (a0 := a0) n).1
      by_cases hlt : t < a0.tmps.size
      · simp [Act.put, hs, hlt]
      · simp [Act.put, hs, hlt]
    · have ih := frame_at hd (vs := vs) (L := L) (a0 := a0) hj hl n (by omega)
      split
      · have hn := dst_spec hd (fun h => e h.symm) hj (j := n)
        cases hdn : (ops[n]?).bind (·.dst) with
        | none => simpa [Act.put] using ih
        | some d =>
          have : d ≠ t := fun e => hn (by rw [hdn, e])
          simp [Act.put, Array.getElem?_setIfInBounds_ne this, ih]
      · exact ih

/-- two frames agree at all slots that operation i looks at, if the ones of whom it waits are in both, and no one who waits for it in either -/
theorem frames_agree (hd : dstApart ops = true) (hl : looksOk ops = true) {vs : Nat → Value} {L M : Nat → Bool} {a0 : Act} {i : Nat} {o : Oper} (hi : ops[i]? = some o)
    (h1 : ∀ j, j < i → waits ops i j = true → L j = true ∧ M j = true) (h2 : ∀ j, i < j → waits ops j i = true → L j = false ∧ M j = false) (h3 : L i = false ∧ M i = false)
    {t : Tmp} (ht : t ∈ o.looksAt ops) : (frameOf ops vs L a0 ops.size).tmps[t]? = (frameOf ops vs M a0 ops.size).tmps[t]? := by
  have li : i < ops.size := (Array.getElem?_eq_some_iff.1 hi).1
  unfold looksOk at hl
  rw [List.all_eq_true] at hl
  have hli := hl i (by simpa using li)
  rw [hi] at hli
  simp only [Bool.and_eq_true] at hli
  have hlt := hli.2
  rw [List.all_eq_true] at hlt
  have hT := hlt t ht
  rw [List.all_eq_true] at hT
  by_cases hw : ∃ j, j < ops.size ∧ (ops[j]?).bind (·.dst) = some t
  · obtain ⟨j, lj, hj⟩ := hw
    have hJ := hT j (by simpa using lj)
    rw [hj] at hJ
    simp only [bne_self_eq_false, Bool.false_or, Bool.or_eq_true, Bool.and_eq_true, decide_eq_true_eq] at hJ
    rcases hJ with ⟨hji, hwt⟩ | ⟨hij, hwt⟩
    · obtain ⟨a, b⟩ := h1 j hji hwt
      rw [frame_at hd hj a _ lj, frame_at hd hj b _ lj]
    · obtain ⟨a, b⟩ := h2 j hij hwt
      rw [frame_other _ (fun k _ hk e => by
          by_cases hkj : k = j
          · subst hkj; rw [a] at hk; cases hk
          · exact dst_spec hd (fun e => hkj e.symm) hj e),
        frame_other _ (fun k _ hk e => by
          by_cases hkj : k = j
          · subst hkj; rw [b] at hk; cases hk
          · exact dst_spec hd (fun e => hkj e.symm) hj e)]
  · have hno : ∀ k, k < ops.size → (ops[k]?).bind (·.dst) ≠ some t := fun k hk e => hw ⟨k, hk, e⟩
    rw [frame_other _ (fun k hk _ => hno k hk), frame_other _ (fun k hk _ => hno k hk)]

theorem eval_agree {a b : Act} {o : Oper} (h : ∀ t ∈ o.looksAt ops, a.tmps[t]? = b.tmps[t]?) : ∀ x ∈ o.op.operands, a.eval x = b.eval x := by
  intro x hx
  cases x with
  | tmp t =>
    have := h t (List.mem_append_left _ (List.mem_filterMap.2 ⟨.tmp t, by simpa using hx, rfl⟩))
    simp only [Act.eval, Array.getD_eq_getD_getElem?, this]
  | const v => rfl
  | global g => rfl
  | func f => rfl
theorem wanted_agree {a b : Act} {o : Oper} (h : ∀ t ∈ o.looksAt ops, a.tmps[t]? = b.tmps[t]?) : Region.wanted o (yielded ops a.tmps) = Region.wanted o (yielded ops b.tmps) := by
  unfold Region.wanted
  cases hg : o.guard with
  | none => rfl
  | some gw =>
    obtain ⟨g, want⟩ := gw
    have : yielded ops a.tmps g = yielded ops b.tmps g := by
      unfold yielded
      cases ht : (ops[g]?).bind (·.dst) with
      | none => rfl
      | some t =>
        have := h t (by simp [Oper.looksAt, hg, ht])
        simp only [Option.bind_some, this]
    simp only [this]

/-- the frame of the text's order ahead of operation n -/
def frameTo (ops : Array Oper) (vs : Nat → Value) (a0 : Act) (n : Nat) : Act := frameOf ops vs (fun _ => true) a0 n
theorem frameTo_eq {vs : Nat → Value} {a0 : Act} {i : Nat} : ∀ n, i ≤ n → frameTo ops vs a0 i = frameOf ops vs (fun j => decide (j < i)) a0 n
  | 0, h => by obtain rfl : i = 0 := by omega
               rfl
  | n + 1, h => by
    by_cases e : i = n + 1
    · subst e
      exact frame_congr _ fun j hj => by simp [hj]
    · rw [frameTo_eq n (by omega)]
      conv => rhs; unfold frameOf
      rw [if_neg (by simp; omega)]

/-- out of the walk: the values, and that each step stands -/
theorem Fixed.values {K : Act → Prop} {a0 : Act} : ∀ (rest : List Oper) (n : Nat) (us : Nat → Value), (∀ j, rest[j]? = ops[n + j]?) → n + rest.length = ops.size → Fixed P ops F K rest (frameTo ops us a0 n) →
    ∃ vs : Nat → Value, (∀ j, j < n → vs j = us j) ∧ K (frameTo ops vs a0 ops.size) ∧ ∀ i o, n ≤ i → ops[i]? = some o →
      (Region.wanted o (yielded ops (frameTo ops vs a0 i).tmps) = true ∧ StepOK P F o (frameTo ops vs a0 i) (vs i)) ∨ (Region.wanted o (yielded ops (frameTo ops vs a0 i).tmps) = false ∧ vs i = undef)
  | [], n, us, _, hn, h => ⟨us, fun _ _ => rfl, by rw [← hn]; exact h, fun i o hi ho => by
      have := (Array.getElem?_eq_some_iff.1 ho).1
      simp at hn; omega⟩
  | o :: rest, n, us, hr, hn, h => by
    have ho : ops[n]? = some o := by simpa using (hr 0).symm
    have hr' : ∀ j, rest[j]? = ops[n + 1 + j]? := fun j => by
      have := hr (j + 1)
      simpa [Nat.add_assoc, Nat.add_comm 1 j] using this
    have hput : ∀ v, frameTo ops (fun j => if j = n then v else us j) a0 (n + 1) = (frameTo ops us a0 n).put o.dst v := fun v => by
      unfold frameTo
      conv => lhs; unfold frameOf
      rw [if_pos rfl, if_pos rfl, ho, frame_vs (us := us) n (fun i hi => if_neg (by omega))]
      rfl
    have hkeep : ∀ v vs, (∀ j, j < n + 1 → vs j = (if j = n then v else us j)) → frameTo ops vs a0 n = frameTo ops us a0 n := fun v vs hvs => by
      exact frame_vs _ fun j hj => by rw [hvs j (by omega), if_neg (by omega)]
    rcases h with ⟨hw, v, hs, h⟩ | ⟨hw, h⟩
    · obtain ⟨vs, h1, h2, h3⟩ := Fixed.values rest (n + 1) (fun j => if j = n then v else us j) hr' (by simp at hn; omega) (by rw [hput]; exact h)
      refine ⟨vs, fun j hj => by rw [h1 j (by omega), if_neg (by omega)], h2, fun i o' hi ho' => ?_⟩
      by_cases e : i = n
      · subst e
        obtain rfl : o = o' := Option.some.inj (ho.symm.trans ho')
        rw [hkeep v vs h1, h1 i (by omega), if_pos rfl]
        exact .inl ⟨hw, hs⟩
      · exact h3 i o' (by omega) ho'
    · obtain ⟨vs, h1, h2, h3⟩ := Fixed.values rest (n + 1) (fun j => if j = n then undef else us j) hr' (by simp at hn; omega) (by rw [hput]; exact h)
      refine ⟨vs, fun j hj => by rw [h1 j (by omega), if_neg (by omega)], h2, fun i o' hi ho' => ?_⟩
      by_cases e : i = n
      · subst e
        obtain rfl : o = o' := Option.some.inj (ho.symm.trans ho')
        rw [hkeep undef vs h1, h1 i (by omega), if_pos rfl]
        exact .inr ⟨hw, rfl⟩
      · exact h3 i o' (by omega) ho'

/-- one step, in whatever frame agrees -/
theorem wpOp_fixed {Q : Exit → Act → World → Prop} {i : Nat} {o : Oper} (hi : ops[i]? = some o) (hsel : isSelect o = false) {a b : Act} {w : World} {v : Value} {K : Act → World → Prop}
    (hab : ∀ t ∈ o.looksAt ops, a.tmps[t]? = b.tmps[t]?) (hF : F w)
    (hs : (Region.wanted o (yielded ops b.tmps) = true ∧ StepOK P F o b v) ∨ (Region.wanted o (yielded ops b.tmps) = false ∧ v = undef))
    (h : ∀ w', Ext w w' → K (a.put o.dst v) w') : wpOp P ops Q i K a w := by
  have hns : ∀ cs c, o.op ≠ .select cs c := fun cs c e => by simp [isSelect, e] at hsel
  unfold wpOp
  simp only [hi]
  rw [wanted_agree hab]
  have he : execOp a.eval o = execOp b.eval o := execOp_congr o hns (eval_agree hab)
  rcases hs with ⟨hw, hr | ⟨f, args, hr, hc⟩⟩ | ⟨hw, rfl⟩
  · rw [if_pos hw]
    refine .inl ?_
    unfold Oper.wp
    rw [he, hr w hF]
    exact h w (Ext.refl w)
  · rw [if_pos hw]
    refine .inl ?_
    unfold Oper.wp
    rw [he, hr w hF]
    exact (hc w hF).mono fun e w' ⟨h1, h2⟩ => by subst h1; exact h w' h2
  · rw [hw]
    exact h w (Ext.refl w)

theorem waits_spec {i j : Nat} {o : Oper} (hi : ops[i]? = some o) : waits ops i j = true ↔ ∃ e ∈ o.after, Region.binds .any e = true ∧ e.on = j := by
  simp only [waits, hi, Option.map_some, Option.getD_some]
  rw [Array.any_eq_true]
  constructor
  · rintro ⟨k, hk, h⟩
    simp only [Bool.and_eq_true, beq_iff_eq] at h
    exact ⟨o.after[k], Array.getElem_mem hk, h.1, h.2⟩
  · rintro ⟨e, he, h1, h2⟩
    obtain ⟨k, hk, rfl⟩ := Array.getElem_of_mem he
    exact ⟨k, hk, by simp [h1, h2]⟩
theorem filter_less {p q : Nat → Bool} {i : Nat} (hp : p i = true) (hq : q i = false) : ∀ (l : List Nat), (∀ j ∈ l, q j = true → p j = true) → (l.filter q).length ≤ (l.filter p).length ∧ (i ∈ l → (l.filter q).length < (l.filter p).length)
  | [], _ => by simp
  | x :: l, h => by
    obtain ⟨h1, h2⟩ := filter_less hp hq l fun j hj => h j (by simp [hj])
    have hx := h x (by simp)
    by_cases e : i = x
    · subst e
      simp only [List.filter_cons, hp, hq, if_true, Bool.false_eq_true, if_false, List.length_cons]
      omega
    · cases hqx : q x with
      | true =>
        simp only [List.filter_cons, hqx, hx hqx, if_true, List.length_cons]
        refine ⟨by omega, fun hm => ?_⟩
        have := h2 (by simpa [e] using hm)
        omega
      | false =>
        cases hpx : p x with
        | true =>
          simp only [List.filter_cons, hqx, hpx, if_true, Bool.false_eq_true, if_false, List.length_cons]
          exact ⟨by omega, fun _ => by omega⟩
        | false =>
          simp only [List.filter_cons, hqx, hpx, Bool.false_eq_true, if_false]
          exact ⟨h1, fun hm => h2 (by simpa [e] using hm)⟩
theorem repl_false (n j : Nat) : (Array.replicate n false).getD j false = false := by
  simp only [Array.getD_eq_getD_getElem?, Array.getElem?_replicate]
  split <;> rfl

theorem wpAny_fixed {Q : Exit → Act → World → Prop} {a0 : Act} {w0 : World} {vs : Nat → Value} (hd : dstApart ops = true) (hl : looksOk ops = true) (hcl : ∀ w w', F w → Ext w w' → F w')
    (hst : ∀ i o, ops[i]? = some o → (Region.wanted o (yielded ops (frameTo ops vs a0 i).tmps) = true ∧ StepOK P F o (frameTo ops vs a0 i) (vs i)) ∨ (Region.wanted o (yielded ops (frameTo ops vs a0 i).tmps) = false ∧ vs i = undef))
    (hQ : ∀ w, Ext w0 w → F w → Q .normal (frameTo ops vs a0 ops.size) w) :
    ∀ (fuel : Nat) (listed : Array Bool) (w : World), listed.size = ops.size → ((List.range ops.size).filter fun j => !listed.getD j true).length ≤ fuel →
      (∀ i j, listed.getD i false = true → waits ops i j = true → listed.getD j false = true) → F w → Ext w0 w →
      wpAny P .any ops Q fuel listed (frameOf ops vs (fun j => listed.getD j false) a0 ops.size) w := by
  -- whoever is not listed: the first of them may come up
  have first : ∀ listed : Array Bool, listed.size = ops.size → Region.ready .any ops listed = [] → ∀ i, i < ops.size → listed.getD i false = true := by
    intro listed hs hr i
    induction i using Nat.strongRecOn with
    | _ i ih =>
      intro hi
      cases hb : listed.getD i false with
      | true => rfl
      | false =>
        have ho : ops[i]? = some ops[i] := Array.getElem?_eq_getElem hi
        have hmem : i ∈ Region.ready .any ops listed := mem_ready.2 ⟨by
          have hli : i < listed.size := by omega
          simpa [Array.getD_eq_getD_getElem?, hli] using hb, _, ho, fun e he hbd => by
            have hl' := hl
            unfold looksOk at hl'
            rw [List.all_eq_true] at hl'
            have h1 := hl' i (by simpa using hi)
            rw [ho] at h1
            simp only [Bool.and_eq_true] at h1
            have h2 := h1.1.2
            have h3 := (Array.all_eq_true_iff_forall_mem.1 h2) e he
            rw [hbd] at h3
            simp at h3
            exact ih e.on h3 (by omega)⟩
        rw [hr] at hmem
        cases hmem
  have fin : ∀ (listed : Array Bool) (w : World), listed.size = ops.size → F w → Ext w0 w → Region.ready .any ops listed = [] → Q .normal (frameOf ops vs (fun j => listed.getD j false) a0 ops.size) w := by
    intro listed w hs hF hx hr
    have : frameOf ops vs (fun j => listed.getD j false) a0 ops.size = frameTo ops vs a0 ops.size := frame_congr _ fun j hj => first listed hs hr j hj
    rw [this]
    exact hQ w hx hF
  intro fuel
  induction fuel with
  | zero =>
    intro listed w hs hn hcld hF hx
    have hr : Region.ready .any ops listed = [] := by
      rw [List.eq_nil_iff_forall_not_mem]
      intro i hi
      obtain ⟨h0, o, ho, _⟩ := mem_ready.1 hi
      have : i ∈ (List.range ops.size).filter fun j => !listed.getD j true := List.mem_filter.2 ⟨by simpa using (Array.getElem?_eq_some_iff.1 ho).1, by simp [h0]⟩
      rw [List.eq_nil_of_length_eq_zero (Nat.le_zero.1 hn)] at this
      cases this
    exact ⟨hr, fin listed w hs hF hx hr⟩
  | succ fuel ih =>
    intro listed w hs hn hcld hF hx
    refine ⟨fin listed w hs hF hx, fun i hi => ?_⟩
    obtain ⟨h0, o, ho, hall⟩ := mem_ready.1 hi
    have hi' : i < ops.size := (Array.getElem?_eq_some_iff.1 ho).1
    have hLi : listed.getD i false = false := by
      have hli : i < listed.size := by omega
      simpa [Array.getD_eq_getD_getElem?, hli] using h0
    have hsel : isSelect o = false := by
      have hl' := hl
      unfold looksOk at hl'
      rw [List.all_eq_true] at hl'
      have h1 := hl' i (by simpa using hi')
      rw [ho] at h1
      simp only [Bool.and_eq_true, Bool.not_eq_true'] at h1
      exact h1.1.1
    refine wpOp_fixed (b := frameTo ops vs a0 i) ho hsel ?_ hF (hst i o ho) ?_
    · intro t ht
      rw [frameTo_eq ops.size (by omega)]
      refine frames_agree hd hl ho ?_ ?_ ⟨hLi, by simp⟩ ht
      · intro j hj hw
        obtain ⟨e, he, hb, rfl⟩ := (waits_spec ho).1 hw
        exact ⟨hall e he hb, by simp [hj]⟩
      · intro j hj hw
        refine ⟨?_, by simp; omega⟩
        cases hb : listed.getD j false with
        | false => rfl
        | true => rw [hcld j i hb hw] at hLi; cases hLi
    · intro w' hx'
      have hmore := frame_more hd (vs := vs) (L := fun j => listed.getD j false) (a0 := a0) hLi ops.size hi'
      have hput : (ops[i]?).bind (·.dst) = o.dst := by rw [ho]; rfl
      rw [hput] at hmore
      rw [← hmore]
      have hset : ∀ j, (listed.setIfInBounds i true).getD j false = (j == i || listed.getD j false) := fun j => by
        by_cases e : j = i
        · subst e
          have : j < listed.size := by omega
          simp [Array.getD_eq_getD_getElem?, this]
        · rw [getD_set_ne false (fun h => e h.symm)]
          have : (j == i) = false := by simpa using e
          rw [this, Bool.false_or]
      rw [show frameOf ops vs (fun j => j == i || listed.getD j false) a0 ops.size = frameOf ops vs (fun j => (listed.setIfInBounds i true).getD j false) a0 ops.size from frame_congr _ fun j _ => (hset j).symm]
      refine ih _ _ (by simpa using hs) ?_ ?_ (hcl w w' hF hx') (hx.trans hx')
      · have hlen : ((List.range ops.size).filter fun j => !(listed.setIfInBounds i true).getD j true).length < ((List.range ops.size).filter fun j => !listed.getD j true).length := by
          have hsz : i < listed.size := by omega
          refine (filter_less (p := fun j => !listed.getD j true) (q := fun j => !(listed.setIfInBounds i true).getD j true) (i := i) (by simp only [h0]; rfl) (by simp [Array.getD_eq_getD_getElem?, hsz]) _ ?_).2 (by simpa using hi')
          intro j hj hj'
          by_cases e : i = j
          · subst e
            simp [Array.getD_eq_getD_getElem?, hsz] at hj'
          · rw [getD_set_ne true e] at hj'; exact hj'
        omega
      · intro k j hk hw
        rw [hset] at hk ⊢
        by_cases e : k = i
        · subst e
          obtain ⟨e, he, hb, rfl⟩ := (waits_spec ho).1 hw
          rw [hall e he hb]; simp
        · have : (k == i) = false := by simpa using e
          rw [this, Bool.false_or] at hk
          rw [hcld k j hk hw]; simp

/-- **A region walked once**, whether its order is drawn or not. -/
theorem wp_region_fixed {Q : Exit → Act → World → Prop} {id : Nat} {l : List Oper} {draw : Bool} {a : Act} {w : World} (hm : P.follows .mixedOrders = true) (hok : fixedOk l.toArray = true)
    (hcl : ∀ w w', F w → Ext w w' → F w') (hF : F w) (h : Fixed P l.toArray F (fun a' => ∀ w', Ext w w' → F w' → Q .normal a' w') l a) : (Code.region id l.toArray draw).wp P Q a w := by
  have hd : dstApart l.toArray = true := by simp only [fixedOk, Bool.and_eq_true] at hok; exact hok.1
  have hl : looksOk l.toArray = true := by simp only [fixedOk, Bool.and_eq_true] at hok; exact hok.2
  obtain ⟨vs, _, hK, hst⟩ := Fixed.values (a0 := a) l 0 (fun _ => undef) (by simp) (by simp) h
  cases draw with
  | true =>
    refine wp_region_any hm ?_
    have := wpAny_fixed (Q := Q) hd hl hcl (fun i o ho => hst i o (Nat.zero_le _) ho) hK l.toArray.size (Array.replicate l.toArray.size false) w.drew (by simp) (by
      have := List.length_filter_le (fun j => !(Array.replicate l.toArray.size false).getD j true) (List.range l.toArray.size)
      simpa using this) (fun i j hi => by rw [repl_false] at hi; cases hi) (hcl w w.drew hF ((Ext.refl w).drew)) ((Ext.refl w).drew)
    rw [frame_congr (M := fun _ => false) l.toArray.size (fun j hj => repl_false _ _)] at this
    rw [show frameOf l.toArray vs (fun _ => false) a l.toArray.size = a from by
      generalize l.toArray.size = n
      induction n with
      | zero => rfl
      | succ n ih => unfold frameOf; simpa using ih] at this
    exact this
  | false =>
    refine wp_region ?_
    have key : ∀ (n : Nat) (w' : World), n ≤ l.toArray.size → Ext w w' → F w' → wpOps P l.toArray Q (List.range' (l.toArray.size - n) n) (frameTo l.toArray vs a (l.toArray.size - n)) w' := by
      intro n
      induction n with
      | zero => intro w' _ hx hF'; exact hK w' hx hF'
      | succ n ih =>
        intro w' hn hx hF'
        rw [List.range'_succ, wpOps_cons]
        have hlt : l.toArray.size - (n + 1) < l.toArray.size := by omega
        have ho : l.toArray[l.toArray.size - (n + 1)]? = some l.toArray[l.toArray.size - (n + 1)] := Array.getElem?_eq_getElem hlt
        have hsel : isSelect l.toArray[l.toArray.size - (n + 1)] = false := by
          have hl' := hl
          unfold looksOk at hl'
          rw [List.all_eq_true] at hl'
          have h1 := hl' _ (List.mem_range.2 hlt)
          rw [ho] at h1
          simp only [Bool.and_eq_true, Bool.not_eq_true'] at h1
          exact h1.1.1
        refine wpOp_fixed ho hsel (fun _ _ => rfl) hF' (hst _ _ (Nat.zero_le _) ho) fun w'' hx' => ?_
        have := ih w'' (by omega) (hx.trans hx') (hcl _ _ hF' hx')
        rw [show l.toArray.size - n = l.toArray.size - (n + 1) + 1 by omega] at this
        unfold frameTo at this
        conv at this => arg 5; unfold frameOf
        rw [if_pos rfl, ho] at this
        exact this
    have := key l.toArray.size w (Nat.le_refl _) (Ext.refl w) hF
    rw [Nat.sub_self] at this
    rw [List.range_eq_range']
    exact this
end
end Go.Proofs.YtmfilblbofkmcaaDoor

/- A list turned round by exchanging its ends, step by step. Plain. -/
namespace Go.Proofs.YtmfilblbofkmcaaDoor
set_option linter.all false

def swp {α : Type} (xs : List α) : Nat → List α
  | 0 => xs
  | k + 1 => match xs[k]?, xs[xs.length - 1 - k]? with
    | some x, some y => ((swp xs k).set k y).set (xs.length - 1 - k) x
    | _, _ => swp xs k
theorem swp_len {α : Type} (xs : List α) : ∀ k, (swp xs k).length = xs.length
  | 0 => rfl
  | k + 1 => by
    rw [swp]
    split <;> simp [swp_len xs k]
theorem swp_at {α : Type} (xs : List α) : ∀ k, k ≤ xs.length / 2 → ∀ j, j < xs.length →
    (swp xs k)[j]? = if j < k ∨ xs.length - 1 - j < k then xs[xs.length - 1 - j]? else xs[j]?
  | 0, _, j, hj => by simp [swp]
  | k + 1, hk, j, hj => by
    have ih := swp_at xs k (by omega) j hj
    have h1 : xs[k]? = some xs[k] := List.getElem?_eq_getElem (by omega)
    have h2 : xs[xs.length - 1 - k]? = some xs[xs.length - 1 - k] := List.getElem?_eq_getElem (by omega)
    rw [swp, h1, h2]
    simp only [List.getElem?_set, List.length_set, swp_len]
    by_cases a : xs.length - 1 - k = j
    · subst a
      rw [if_pos rfl, if_pos (by omega), if_pos (by omega), show xs.length - 1 - (xs.length - 1 - k) = k by omega, h1]
    · by_cases b : k = j
      · subst b
        rw [if_neg a, if_pos rfl, if_pos (by omega), if_pos (by omega), h2]
      · rw [if_neg a, if_neg b, ih]
        by_cases c : j < k ∨ xs.length - 1 - j < k
        · rw [if_pos c, if_pos (by omega)]
        · rw [if_neg c, if_neg (by omega)]
theorem swp_half {α : Type} (xs : List α) : swp xs (xs.length / 2) = xs.reverse := by
  apply List.ext_getElem?
  intro j
  by_cases hj : j < xs.length
  · rw [swp_at xs _ (Nat.le_refl _) j hj, List.getElem?_reverse hj]
    by_cases c : j < xs.length / 2 ∨ xs.length - 1 - j < xs.length / 2
    · rw [if_pos c]
    · rw [if_neg c, show xs.length - 1 - j = j by omega]
  · rw [List.getElem?_eq_none (by rw [swp_len]; omega), List.getElem?_eq_none (by simp; omega)]
theorem swp_mid {α : Type} (xs : List α) (k : Nat) (hk : k < xs.length / 2) (x y : α) (hx : xs[k]? = some x) (hy : xs[xs.length - 1 - k]? = some y) :
    (swp xs k)[k]? = some x ∧ (swp xs k)[xs.length - 1 - k]? = some y ∧ swp xs (k + 1) = ((swp xs k).set k y).set (xs.length - 1 - k) x := by
  refine ⟨?_, ?_, by rw [swp, hx, hy]⟩
  · rw [swp_at xs k (by omega) k (by omega), if_neg (by omega), hx]
  · rw [swp_at xs k (by omega) _ (by omega), if_neg (by omega), hy]
end Go.Proofs.YtmfilblbofkmcaaDoor

/- value.itoa: it writes a number in decimal digits. -/
namespace Go.Proofs.YtmfilblbofkmcaaDoor
set_option linter.all false
set_option linter.unusedSimpArgs false
set_option linter.unusedVariables false
open Go.RowKit
/-- the digits of a number, the least one first -/
def revDig (u : Nat) : List UInt8 := UInt8.ofNat (48 + u % 10) :: (if u / 10 = 0 then [] else revDig (u / 10))
termination_by u
decreasing_by omega
def B8 (c : UInt8) : Value := .int .u8 (c.toNat : Int)
theorem Tryd.elem_bytes : Elem Tryd.prog 95 5 1 1 := by
  obtain ⟨i0, hi0, hz0, hz1, hz2⟩ := info_parts (show (Tryd.prog.info? 5).map (fun i => (i.zero, i.size, i.bytes)) = some (some (.int .u8 0), 1, 1) by kernel_rfl)
  exact ⟨Tryd.underlying95, ⟨i0, _, hi0, hz0, hz1, hz2, rfl⟩, by omega⟩
theorem revDig_len (k : Nat) : ∀ u, u < 10 ^ k → (revDig u).length ≤ k + 1 := by
  induction k with
  | zero => intro u h; rw [revDig]; simp at h; subst h; simp
  | succ k ih =>
    intro u h
    rw [revDig]
    by_cases h0 : u / 10 = 0
    · simp [h0]
    · have := ih (u / 10) (by rw [Nat.pow_succ] at h; omega)
      simp [h0]; exact this
theorem revDig_last (m : Nat) (h : m / 10 = 0) : revDig m = [UInt8.ofNat (48 + m % 10)] := by rw [revDig]; simp [h]
theorem revDig_step (m : Nat) (h : m / 10 ≠ 0) : revDig m = UInt8.ofNat (48 + m % 10) :: revDig (m / 10) := by rw [revDig]; simp [h]
theorem dig_cell (m : Nat) : Value.int .u8 (48 + (m : Int) % 10) = B8 (UInt8.ofNat (48 + m % 10)) := by
  unfold B8
  congr 1
  rw [UInt8.toNat_ofNat']
  omega

/-- the letters of a number -/
def itoaL (n : Int) : List UInt8 := (revDig n.natAbs ++ if n < 0 then [45] else []).reverse
def itoaS (n : Int) : ByteArray := ⟨(itoaL n).toArray⟩
theorem negU (n : Int) (h0 : n < 0) (h1 : -9223372036854775808 ≤ n) : Value.int .u64 (IntKind.u64.wrap (-IntKind.u64.wrap n)) = .int .u64 (n.natAbs : Int) := by
  congr 1
  simp [IntKind.wrap, IntKind.bits, IntKind.signed]
  omega

def ItoaRel (B u0 : Nat) (w : World) (b u : Value) (wr : World) : Prop :=
  ∃ (pre : List UInt8) (m : Nat), u = .int .u64 m ∧ m ≤ u0 ∧ Mk B w wr 5 1 b pre.length (pre.map B8) ∧ pre ++ revDig m = revDig u0

set_option maxHeartbeats 8000000 in
theorem itoa_pos (n : Int) (w : World) (h0 : 0 ≤ n) (h1 : n ≤ 9223372036854775807) :
    Calls Tryd.prog 41 #[.int .i64 n] w fun e w' => e = .returned (.string (itoaS n)) ∧ Ext w w' := by
  go_enter Tryd.func41, Tryd.ntmps41
  go_wp2
  go_loopw [3, 4] (fun b u wr => ItoaRel w.heap.size n.natAbs w b u wr) (fun _ u _ => (intOf u).toNat)
  case atStart => exact ⟨[], n.natAbs, by rw [Int.natAbs_of_nonneg h0], Nat.le_refl _, Mk.nil (Below.refl _ _) (Nat.le_refl _), rfl⟩
  case round =>
    obtain ⟨pre, m, rfl, hm, hM, hpre⟩ := hrel
    have hl : pre.length ≤ 25 := by
      have := congrArg List.length hpre
      have := revDig_len 20 n.natAbs (by omega)
      simp at *; omega
    have Hp := Lib.hid hpre; clear hpre
    have hm3 : (m : Int) ≤ 9223372036854775807 := by omega
    by_cases hz : m / 10 = 0
    · have b1 : ((m : Int) / 10 == 0) = true := by simp; omega
      clear hz
      go_wp2_with (at_builtin; refine wpList_push Tryd.elem_bytes rfl (.tmp 12) (.tmp 17) rfl [.int .u8 (48 + (m : Int) % 10)] hM _ rfl rfl rfl rfl (by simp [Value.oneCell']) (by omega) (by omega) ?_; intro g cap w1 hM1 _ _)
      rw [dig_cell] at hM1
      have hM2 : Mk w.heap.size w w1 5 1 (.slice (some ⟨g, 0, none⟩) (pre.length + 1) cap) (pre.length + 1) ((revDig n.natAbs).map B8) := by
        rw [← Hp.out, revDig_last m (by simp at b1; omega)]
        simpa [B8] using hM1
      clear hM1 hM Hp
      have hlen : (revDig n.natAbs).length ≤ 25 := Nat.le_trans (revDig_len 20 n.natAbs (by omega)) (by omega)
      obtain ⟨ds, hds⟩ : ∃ ds, ds = revDig n.natAbs := ⟨_, rfl⟩
      rw [← hds] at hM2
      have Hds := Lib.hid hds; clear hds
      go_wp2
      have hL : ds.length = pre.length + 1 := by have := hM2.own.1; simp at this; exact this
      have HL := Lib.hid hL; clear hL
      have hfin : itoaS n = ⟨(swp ds ((pre.length + 1) / 2)).toArray⟩ := by rw [← HL.out, swp_half, Hds.out]; simp [itoaS, itoaL, show ¬ n < 0 by omega]
      have FIN := Lib.hid hfin; clear hfin
      go_loopw [5, 31] (fun _ i wr2 => ∃ k : Nat, i = .int .i64 k ∧ k ≤ (pre.length + 1) / 2 ∧ Mk w.heap.size w wr2 5 1 (.slice (some ⟨g, 0, none⟩) (pre.length + 1) cap) (pre.length + 1) ((swp ds k).map B8)) (fun _ i _ => (pre.length + 1) - (intOf i).toNat)
      case atStart => exact ⟨0, rfl, by omega, hM2⟩
      case round =>
        obtain ⟨k, rfl, hk, hM3⟩ := hrel
        by_cases hlt : k < (pre.length + 1) / 2
        · have hx : ds[k]? = some (ds[k]'(by have := HL.out; omega)) := List.getElem?_eq_getElem _
          have hy : ds[pre.length - k]? = some (ds[pre.length - k]'(by have := HL.out; omega)) := List.getElem?_eq_getElem _
          obtain ⟨m1, m2, m3⟩ := swp_mid ds k (by have := HL.out; omega) _ _ hx (by rw [show ds.length - 1 - k = pre.length - k by have := HL.out; omega]; exact hy)
          rw [show ds.length - 1 - k = pre.length - k by have := HL.out; omega] at m2 m3
          generalize ds[k]'(by have := HL.out; omega) = x at m1 m2 m3
          generalize ds[pre.length - k]'(by have := HL.out; omega) = y at m1 m2 m3
          clear hx hy
          have hc1 : wr.cell? ⟨g, k, none⟩ = some (.int .u8 (x.toNat : Int)) := by rw [hM3.own.cellAt k (by omega)]; simp [m1, B8]
          have hc2 : wr.cell? ⟨g, pre.length - k, none⟩ = some (.int .u8 (y.toNat : Int)) := by rw [hM3.own.cellAt _ (by omega)]; simp [m2, B8]
          have hf1 := hM3.own.frozenAt k
          have hf2 := hM3.own.frozenAt (pre.length - k)
          have M3 := Lib.hid m3; clear m1 m2 m3
          have hM4 : Mk w.heap.size w ((wr.drew.setCell ⟨g, k, none⟩ (B8 y)).setCell ⟨g, pre.length - k, none⟩ (B8 x)) 5 1 (.slice (some ⟨g, 0, none⟩) (pre.length + 1) cap) (pre.length + 1) ((swp ds (k + 1)).map B8) := by
            rw [M3.out, List.map_set, List.map_set]
            exact (hM3.drew.stored k _).stored _ _
          clear hM3 M3
          go_wp2
          go_region
          go_wp2
          go_roundw
          case rel => exact ⟨k + 1, by simp, by omega, hM4⟩
          case measure => simp [intOf]; omega
        · obtain rfl : k = (pre.length + 1) / 2 := by omega
          have hstr := run_string_own (P := Tryd.prog) Tryd.underlying95 Tryd.underlying5 Tryd.underlying9 (swp ds ((pre.length + 1) / 2)) hM3.own
          go_wp2
          go_ret
          exact ⟨by rw [FIN.out]; rfl, hM3.ext⟩
    · have b1 : ((m : Int) / 10 == 0) = false := by simp; omega
      have Hz := Lib.hid hz
      clear hz
      go_wp2_with (at_builtin; refine wpList_push Tryd.elem_bytes rfl (.tmp 12) (.tmp 17) rfl [.int .u8 (48 + (m : Int) % 10)] hM _ rfl rfl rfl rfl (by simp [Value.oneCell']) (by omega) (by omega) ?_; intro g cap w1 hM1 _ _)
      rw [dig_cell] at hM1
      go_roundw
      case rel => exact ⟨pre ++ [UInt8.ofNat (48 + m % 10)], m / 10, by simp, by omega, by simpa using hM1, by rw [← Hp.out, revDig_step m Hz.out]; simp⟩
      case measure => simp [intOf]; have := Hz.out; omega
set_option maxHeartbeats 8000000 in
theorem itoa_neg (n : Int) (w : World) (h0 : n < 0) (h1 : -9223372036854775808 ≤ n) :
    Calls Tryd.prog 41 #[.int .i64 n] w fun e w' => e = .returned (.string (itoaS n)) ∧ Ext w w' := by
  go_enter Tryd.func41, Tryd.ntmps41
  go_wp2
  go_loopw [3, 4] (fun b u wr => ItoaRel w.heap.size n.natAbs w b u wr) (fun _ u _ => (intOf u).toNat)
  case atStart => exact ⟨[], n.natAbs, negU n h0 h1, Nat.le_refl _, Mk.nil (Below.refl _ _) (Nat.le_refl _), rfl⟩
  case round =>
    obtain ⟨pre, m, rfl, hm, hM, hpre⟩ := hrel
    have hl : pre.length ≤ 25 := by
      have := congrArg List.length hpre
      have := revDig_len 20 n.natAbs (by omega)
      simp at *; omega
    have Hp := Lib.hid hpre; clear hpre
    have hm3 : (m : Int) ≤ 9223372036854775808 := by omega
    by_cases hz : m / 10 = 0
    · have b1 : ((m : Int) / 10 == 0) = true := by simp; omega
      clear hz
      go_wp2_with (first | (at_builtin; refine wpList_push Tryd.elem_bytes rfl (.tmp 25) (.tmp 26) rfl [.int .u8 45] hM1 _ rfl rfl rfl rfl (by simp [Value.oneCell']) (by omega) (by omega) ?_; intro g2 cap2 w2 hM9 _ _) | (at_builtin; refine wpList_push Tryd.elem_bytes rfl (.tmp 12) (.tmp 17) rfl [.int .u8 (48 + (m : Int) % 10)] hM _ rfl rfl rfl rfl (by simp [Value.oneCell']) (by omega) (by omega) ?_; intro g cap w1 hM1 _ _))
      rw [dig_cell] at hM9
      have hM2 : Mk w.heap.size w w2 5 1 (.slice (some ⟨g2, 0, none⟩) (pre.length + 1 + 1) cap2) (pre.length + 1 + 1) ((revDig n.natAbs ++ [45]).map B8) := by
        rw [← Hp.out, revDig_last m (by simp at b1; omega)]
        simpa [B8] using hM9
      clear hM9 hM1 hM Hp
      have hlen : (revDig n.natAbs).length ≤ 25 := Nat.le_trans (revDig_len 20 n.natAbs (by omega)) (by omega)
      obtain ⟨ds, hds⟩ : ∃ ds, ds = revDig n.natAbs ++ [45] := ⟨_, rfl⟩
      rw [← hds] at hM2
      have Hds := Lib.hid hds; clear hds
      go_wp2
      have hL : ds.length = pre.length + 1 + 1 := by have := hM2.own.1; simp at this; exact this
      have HL := Lib.hid hL; clear hL
      have hfin : itoaS n = ⟨(swp ds ((pre.length + 1 + 1) / 2)).toArray⟩ := by rw [← HL.out, swp_half, Hds.out]; simp [itoaS, itoaL, h0]
      have FIN := Lib.hid hfin; clear hfin
      go_loopw [5, 31] (fun _ i wr2 => ∃ k : Nat, i = .int .i64 k ∧ k ≤ (pre.length + 1 + 1) / 2 ∧ Mk w.heap.size w wr2 5 1 (.slice (some ⟨g2, 0, none⟩) (pre.length + 1 + 1) cap2) (pre.length + 1 + 1) ((swp ds k).map B8)) (fun _ i _ => (pre.length + 1 + 1) - (intOf i).toNat)
      case atStart => exact ⟨0, rfl, by omega, hM2⟩
      case round =>
        obtain ⟨k, rfl, hk, hM3⟩ := hrel
        by_cases hlt : k < (pre.length + 1 + 1) / 2
        · have hx : ds[k]? = some (ds[k]'(by have := HL.out; omega)) := List.getElem?_eq_getElem _
          have hy : ds[pre.length + 1 - k]? = some (ds[pre.length + 1 - k]'(by have := HL.out; omega)) := List.getElem?_eq_getElem _
          obtain ⟨m1, m2, m3⟩ := swp_mid ds k (by have := HL.out; omega) _ _ hx (by rw [show ds.length - 1 - k = pre.length + 1 - k by have := HL.out; omega]; exact hy)
          rw [show ds.length - 1 - k = pre.length + 1 - k by have := HL.out; omega] at m2 m3
          generalize ds[k]'(by have := HL.out; omega) = x at m1 m2 m3
          generalize ds[pre.length + 1 - k]'(by have := HL.out; omega) = y at m1 m2 m3
          clear hx hy
          have hc1 : wr.cell? ⟨g2, k, none⟩ = some (.int .u8 (x.toNat : Int)) := by rw [hM3.own.cellAt k (by omega)]; simp [m1, B8]
          have hc2 : wr.cell? ⟨g2, pre.length + 1 - k, none⟩ = some (.int .u8 (y.toNat : Int)) := by rw [hM3.own.cellAt _ (by omega)]; simp [m2, B8]
          have hf1 := hM3.own.frozenAt k
          have hf2 := hM3.own.frozenAt (pre.length + 1 - k)
          have M3 := Lib.hid m3; clear m1 m2 m3
          have hM4 : Mk w.heap.size w ((wr.drew.setCell ⟨g2, k, none⟩ (B8 y)).setCell ⟨g2, pre.length + 1 - k, none⟩ (B8 x)) 5 1 (.slice (some ⟨g2, 0, none⟩) (pre.length + 1 + 1) cap2) (pre.length + 1 + 1) ((swp ds (k + 1)).map B8) := by
            rw [M3.out, List.map_set, List.map_set]
            exact (hM3.drew.stored k _).stored _ _
          clear hM3 M3
          go_wp2
          go_region
          go_wp2
          go_roundw
          case rel => exact ⟨k + 1, by simp, by omega, hM4⟩
          case measure => simp [intOf]; omega
        · obtain rfl : k = (pre.length + 1 + 1) / 2 := by omega
          have hstr := run_string_own (P := Tryd.prog) Tryd.underlying95 Tryd.underlying5 Tryd.underlying9 (swp ds ((pre.length + 1 + 1) / 2)) hM3.own
          go_wp2
          go_ret
          exact ⟨by rw [FIN.out]; rfl, hM3.ext⟩
    · have b1 : ((m : Int) / 10 == 0) = false := by simp; omega
      have Hz := Lib.hid hz
      clear hz
      go_wp2_with (at_builtin; refine wpList_push Tryd.elem_bytes rfl (.tmp 12) (.tmp 17) rfl [.int .u8 (48 + (m : Int) % 10)] hM _ rfl rfl rfl rfl (by simp [Value.oneCell']) (by omega) (by omega) ?_; intro g cap w1 hM1 _ _)
      rw [dig_cell] at hM1
      go_roundw
      case rel => exact ⟨pre ++ [UInt8.ofNat (48 + m % 10)], m / 10, by simp, by omega, by simpa using hM1, by rw [← Hp.out, revDig_step m Hz.out]; simp⟩
      case measure => simp [intOf]; have := Hz.out; omega

theorem itoa_any (n : Int) (w : World) (h0 : -9223372036854775808 ≤ n) (h1 : n ≤ 9223372036854775807) :
    Calls Tryd.prog 41 #[.int .i64 n] w fun e w' => e = .returned (.string (itoaS n)) ∧ Ext w w' := by
  by_cases h : n < 0
  · exact itoa_neg n w h h0
  · exact itoa_pos n w (by omega) h1
end Go.Proofs.YtmfilblbofkmcaaDoor

/- value.Print, value.Right: what each call answers; the world has at most new blocks. -/
namespace Go.Proofs.YtmfilblbofkmcaaDoor
set_option linter.all false
set_option linter.unusedSimpArgs false
set_option linter.unusedVariables false
open Go.RowKit
/-- what value.Print answers -/
def printL (k n : Int) (s : ByteArray) : List UInt8 := if k = 1 then itoaL n else if k = 2 then 39 :: s.data.toList ++ [39] else [110, 117, 108, 108]
def printS (k n : Int) (s : ByteArray) : ByteArray := ⟨(printL k n s).toArray⟩

set_option maxHeartbeats 8000000 in
theorem print_any (k n : Int) (s : ByteArray) (w : World) (h0 : -9223372036854775808 ≤ n) (h1 : n ≤ 9223372036854775807) (hs : s.size ≤ 140737488355328) :
    Calls Tryd.prog 31 #[.agg #[.int .i64 k, .int .i64 n, .string s]] w fun e w' => e = .returned (.string (printS k n s)) ∧ Ext w w' := by
  by_cases hk : k = 1
  · subst hk
    go_enter Tryd.func31, Tryd.ntmps31
    go_wp2_with (go_at_call 41; refine (itoa_any _ _ h0 h1).mono ?_; rintro e w1 ⟨rfl, hw1⟩)
    go_ret
    refine ⟨rfl, ?_⟩
    (repeat (first | with_reducible exact Ext.refl _ | with_reducible assumption | with_reducible refine Ext.drew ?_ | with_reducible refine Ext.alloc ?_ _ | with_reducible refine Ext.drewN ?_ _ | refine Ext.trans ?_ (by with_reducible assumption)))
  · have b1 : (k == 1) = false := by simp [hk]
    by_cases hk2 : k = 2
    · subst hk2
      clear hk b1
      go_enter Tryd.func31, Tryd.ntmps31
      go_wp2_with fail
      go_ret
      refine ⟨?_, ?_⟩
      · refine congrArg (fun z => Ending.returned (Value.string z)) (?_ : _ = printS 2 n s)
        apply ByteArray.ext
        apply Array.toList_inj.1
        simp [printS, printL, ByteArray.data_append]
      · (repeat (first | with_reducible exact Ext.refl _ | with_reducible assumption | with_reducible refine Ext.drew ?_ | with_reducible refine Ext.alloc ?_ _ | with_reducible refine Ext.drewN ?_ _ | refine Ext.trans ?_ (by with_reducible assumption)))
    · have b2 : (k == 2) = false := by simp [hk2]
      have fin : printS k n s = ⟨#[110, 117, 108, 108]⟩ := by simp [printS, printL, hk, hk2]
      rw [fin]
      clear hk hk2 fin
      go_enter Tryd.func31, Tryd.ntmps31
      go_wp2_with fail
      go_ret
      refine ⟨rfl, ?_⟩
      (repeat (first | with_reducible exact Ext.refl _ | with_reducible assumption | with_reducible refine Ext.drew ?_ | with_reducible refine Ext.alloc ?_ _ | with_reducible refine Ext.drewN ?_ _ | refine Ext.trans ?_ (by with_reducible assumption)))
end Go.Proofs.YtmfilblbofkmcaaDoor
