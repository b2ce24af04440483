/- Texts joined: Worlds that only grow. For any program. A value as Go has it. No program. DERIVED: THE SHELF's CONTRACTS AT THIS DUMP, IN PLAIN WORDS (tools/lay-plain.mjs out of 'TryzShelf.lean', which tools/lay-shelf.mjs wrote): THE SAME DECLARATIONS UNDER THE SAME NAMES: 'import', 'namespace', 'open', 'def', 'theorem' AND NOTHING ELSE: no command of the shelf's: FOR A HAND-IN. Each laying: the table of numbers ('.._ren') and one theorem, a field a fact of the dump's own or the kernel's comparison; each contract: ONE APPLICATION. Slices that a call builds itself: appended to, read, made a string. Plain laws, for any program. That arguments read behind a call as before, if all that was there is as it was. Arguments that are values: what is read of them. An argument that is a slice: what its cells hold. A region whose operations only compute, read what stays as it was, or call what leaves all as it was: walked once, in the order of the text, whatever order is drawn. For any program. A list turned round by exchanging its ends, step by step. Plain. value.itoa: it writes a number in decimal digits. value.Print, value.Right: what each call answers; the world has at most new blocks. Which texts a value may have: what the library's search for a letter finds. Plain. -/
import Derived.WalkKit
import Derived.WalkSpells
import Derived.WalkLawsBesides
import Derived.Deep.RegionHeld3
import Derived.Deep.Draws
import Derived.Lib.Hide
import Derived.Shelf.Strings.Builder1
import Derived.Shelf.Strings.Builder2
import Derived.Shelf.Strings.OnBuilder
import Derived.Shelf.Strings.Trim
import Derived.Shelf.Small.Utf8
import Derived.Shelf.Small.Bits
import Derived.Shelf.Small.Strs
import Derived.Shelf.Small.Wraps
import Derived.Shelf.Strings.BuilderF
import Derived.Shelf.Strings.BuilderK
import Derived.Shelf.Utf8.RuneCount
import Derived.Shelf.Strconv.Atoi
import Derived.Shelf.Strconv.Itoa0
import Derived.Shelf.Strconv.Itoa1
import Derived.Shelf.LaysM
import Derived.Shelf.Strconv.Itoa2
import Derived.Shelf.Strconv.Itoa3
import Derived.Shelf.Strconv.AtoiErrFast
import Derived.Shelf.Strconv.ParseIntEmpty
import Derived.Shelf.Strconv.AtoiFail
import Derived.Shelf.Strconv.Clone
import Derived.Shelf.Strconv.SyntaxError
import Derived.Shelf.LaysC
import Derived.Shelf.Strconv.ToError
import Derived.Shelf.Strconv.AtoiErr
import Derived.Shelf.Strconv.ErrVar
import Derived.Shelf.Strconv.Lower
import Derived.Shelf.Strconv.ParseUint10
import Derived.Shelf.Strconv.ParseUint10Empty
import Derived.Shelf.Strconv.ParseUint10Any
import Derived.Shelf.Strconv.ParseInt10
import Derived.Shelf.Strconv.AtoiLong
import Derived.Shelf.Strconv.AtoiInnerAll
import Derived.Shelf.Strconv.RangeError
import Derived.Shelf.Strconv.ToErrorRange
import Derived.Shelf.Strconv.AtoiAll
import Derived.Shelf.Strconv.ErrVarAll
import Derived.Shelf.Strconv.ParseUintEmpty
import Derived.Shelf.Strconv.ParseUint10b32
import Derived.Shelf.Strconv.ParseUint10b16
import Derived.Shelf.Strconv.ParseUint10b8
import Derived.Shelf.Strings.Search1
import Derived.Shelf.Strings.Search2
import Derived.Shelf.Strings.Search3
import Derived.Shelf.Strings.Count
import Derived.Shelf.Strings.Shaped
import Derived.Shelf.Sort.Plain
import Derived.Shelf.GgClosure.StringsIndexFunc
import Derived.Ground.GgwProg
import Derived.Shelf.GgClosure.StringsIndexFuncTop
import Derived.Shelf.GgClosure.StringsRunes
import Derived.Shelf.Strings.Prefix
import Derived.Shelf.Strings.Split
import Derived.Shelf.Strings.SplitShaped
import Derived.Shelf.Unicode.Decode
import Derived.Shelf.Strings.Runes
import Derived.Shelf.Strings.RuneCount
import Derived.Shelf.Strings.AsciiSet
import Derived.Shelf.Strings.Explode
import Derived.Shelf.Unicode.DecodeSlow
import Derived.Shelf.Unicode.DecodeAny
import Derived.Shelf.Unicode.DecodeLast
import Derived.Shelf.Strings.FuncGrows
import Derived.Shelf.Slices.Turned
import Derived.Shelf.Slices.Equal
import Derived.Ground.Names2Prog
import Derived.Shelf.Slices.Clone
import Derived.Shelf.Slices.SearchI
import Derived.Shelf.Slices.In.SortNone
import Derived.Shelf.Slices.Empties2
import Derived.Ground.SlgnProg
import Derived.Shelf.SlicesE.Clone
import Derived.Test.YtcpnnffnkegamaaGreatDoorProg
import Derived.Maps.AppendAt
import Derived.Deep.AppendLies
import Derived.Laws.IdiomStrings
import Derived.Test.YtcpnnffnkegamaaGreatDoorRows
import Derived.ProofKit
import Derived.SizedLaws
import Derived.Lib.SmallJoins
import Derived.Carry
import Derived.Deep.Slices
import Derived.Deep.Fields
import Derived.ChangeSame
import Derived.Orders
import Derived.BigQuiet
/- Worlds that only grow. For any program. -/
namespace Go.Proofs.YtcpnnffnkegamaaGreatDoor
set_option linter.all false
open Go.RowKit

/-- w' is w with new blocks, whatever they hold: all that was there is as it was. -/
def Ext (w w' : World) : Prop := Below w.heap.size w w'

theorem Ext.out {w w' : World} (h : Ext w w') : Below w.heap.size w w' := h
theorem Ext.mk {w w' : World} (h : Below w.heap.size w w') : Ext w w' := h
@[simp] theorem Ext.refl (w : World) : Ext w w := Below.refl _ _
theorem Ext.trans {a b c : World} (h : Ext a b) (k : Ext b c) : Ext a c := Below.trans h (Below.mono k h.size)
@[simp] theorem Ext.drew {a w : World} (h : Ext a w) : Ext a w.drew := Below.drew h
@[simp] theorem Ext.drewN {a w : World} (h : Ext a w) (n : Nat) : Ext a (w.drewN n) := ⟨h.os, h.tape, h.output, h.size, h.block⟩
@[simp] theorem Ext.alloc {a w : World} (h : Ext a w) (o : Obj) : Ext a (w.alloc o) := Below.alloc h h.size o
theorem Ext.setCell {a w : World} (h : Ext a w) {p : Addr} (hp : a.heap.size ≤ p.block) (u : Value) : Ext a (w.setCell p u) := Below.setCell h hp u
theorem Ext.cell {a w : World} (h : Ext a w) {p : Addr} (hp : p.block < a.heap.size) : w.cell? p = a.cell? p := Below.cell h hp
theorem Ext.size {a w : World} (h : Ext a w) : a.heap.size ≤ w.heap.size := Below.size h

/-- a cell that holds something lies in a block -/
theorem lt_of_cell {w : World} {p : Addr} {v : Value} (h : w.cell? p = some v) : p.block < w.heap.size := by
  rcases Nat.lt_or_ge p.block w.heap.size with hlt | hge
  · exact hlt
  · simp [World.cell?, Array.getElem?_eq_none hge] at h
/-- a cell that holds something holds it later -/
theorem Ext.keeps {a w : World} (h : Ext a w) {p : Addr} {v : Value} (hc : a.cell? p = some v) : w.cell? p = some v := (h.cell (lt_of_cell hc)).trans hc

end Go.Proofs.YtcpnnffnkegamaaGreatDoor

/- A value as Go has it. No program. -/
namespace Go.Proofs.YtcpnnffnkegamaaGreatDoor
set_option linter.all false
/-- a value as Go has it -/
structure GV where
  kind : Int
  num : Int
  text : ByteArray

/-- what is a number of 64 bits -/
def i64 (n : Int) : Prop := -9223372036854775808 ≤ n ∧ n ≤ 9223372036854775807
end Go.Proofs.YtcpnnffnkegamaaGreatDoor

/-
  DERIVED: THE SHELF's CONTRACTS AT THIS DUMP, IN PLAIN WORDS (tools/lay-plain.mjs out of 'TryzShelf.lean', which tools/lay-shelf.mjs wrote): THE SAME DECLARATIONS UNDER THE SAME NAMES: 'import', 'namespace', 'open', 'def', 'theorem' AND NOTHING ELSE: no command of the shelf's: FOR A HAND-IN. Each laying: the table of numbers ('.._ren') and one theorem, a field a fact of the dump's own or the kernel's comparison; each contract: ONE APPLICATION.
-/
namespace Go.Proofs
set_option linter.all false
open Go.Shelf
def Tryz.lays156_ren : Go.Shelf.Ren := ⟨fun | 156 => 54 | 165 => 80 | 166 => 81 | 169 => 82 | 240 => 106 | 241 => 107 | 276 => 134 | 277 => 135 | n => n, fun | 31 => 78 | 9 => 9 | 3 => 3 | 4 => 4 | 0 => 0 | 20 => 20 | 72 => 134 | 76 => 125 | 70 => 131 | 37 => 132 | 75 => 37 | 127 => 157 | 164 => 179 | 5 => 5 | 80 => 136 | n => n, fun | n => n⟩
theorem Tryz.lays156 : Go.Proofs.Lays.n156 Tryz.prog Tryz.lays156_ren := {
  mixed := by kernel_rfl
  f156 := Tryz.func54.trans (congrArg some (by kernel_rfl))
  f165 := Tryz.func80.trans (congrArg some (by kernel_rfl))
  f166 := Tryz.func81.trans (congrArg some (by kernel_rfl))
  f169 := Tryz.func82.trans (congrArg some (by kernel_rfl))
  f240 := Tryz.func106.trans (congrArg some (by kernel_rfl))
  f241 := Tryz.func107.trans (congrArg some (by kernel_rfl))
  f276 := Tryz.func134.trans (congrArg some (by kernel_rfl))
  f277 := Tryz.func135.trans (congrArg some (by kernel_rfl))
  t0 := Tryz.underlying0
  a0 := Tryz.isAgg0
  z0 := Tryz.sizeOf0
  v0 := Tryz.zeroValue0
  t3 := Tryz.underlying3
  a3 := Tryz.isAgg3
  z3 := Tryz.sizeOf3
  v3 := Tryz.zeroValue3
  t4 := Tryz.underlying4
  a4 := Tryz.isAgg4
  z4 := Tryz.sizeOf4
  v4 := Tryz.zeroValue4
  t9 := Tryz.underlying9
  a9 := Tryz.isAgg9
  z9 := Tryz.sizeOf9
  v9 := Tryz.zeroValue9
  t20 := Tryz.underlying20
  a20 := Tryz.isAgg20
  z20 := Tryz.sizeOf20
  v20 := Tryz.zeroValue20
  t31 := Tryz.underlying78
  a31 := Tryz.isAgg78
  z31 := Tryz.sizeOf78
  v31 := Tryz.zeroValue78
  t37 := Tryz.underlying132
  a37 := Tryz.isAgg132
  z37 := Tryz.sizeOf132
  v37 := Tryz.zeroValue132
  t70 := Tryz.underlying131
  a70 := Tryz.isAgg131
  z70 := Tryz.sizeOf131
  v70 := Tryz.zeroValue131
  t72 := Tryz.underlying134
  a72 := Tryz.isAgg134
  z72 := Tryz.sizeOf134
  v72 := Tryz.zeroValue134
  t75 := Tryz.underlying37
  a75 := Tryz.isAgg37
  z75 := Tryz.sizeOf37
  v75 := Tryz.zeroValue37
  t76 := Tryz.underlying125
  a76 := Tryz.isAgg125
  z76 := Tryz.sizeOf125
  v76 := Tryz.zeroValue125
  t127 := Tryz.underlying157
  a127 := Tryz.isAgg157
  z127 := Tryz.sizeOf157
  v127 := Tryz.zeroValue157
  t164 := Tryz.underlying179
  a164 := Tryz.isAgg179
  z164 := Tryz.sizeOf179
  v164 := Tryz.zeroValue179 }
theorem Tryz.Builder_Extra_156 : Builder.Extra Tryz.prog Tryz.lays156_ren := {
  sizeBuilder := by kernel_rfl
  liesBuilder := by kernel_rfl
  t5 := Tryz.underlying5
  a5 := Tryz.isAgg5
  z5 := Tryz.sizeOf5
  v5 := Tryz.zeroValue5
  infoByte := by kernel_rfl
  cellsByte := by kernel_rfl
  sizeByte := by kernel_rfl
  neB5 := by decide }
open Go.RowKit in
/-- No element: the empty string; the world is as it was. (Whatever the slice's address and capacity: a nil slice too.) (LAID: no walk: one application.) -/
theorem Tryz.strings_Join_none (a : Option Addr) (c : Nat) (sep : ByteArray) (w : World) :
    Calls Tryz.prog 54 #[.slice a 0 c, .string sep] w fun e w' => e = .returned (.string ⟨#[]⟩) ∧ w' = w := Any.strings_Join_none Tryz.lays156 Tryz.Builder_Extra_156 a c sep w
open Go.RowKit in
/-- strings.Join: "Join concatenates the elements of its first argument to create a single string. The separator string sep is placed between elements in the resulting string.": HOWEVER MANY ELEMENTS. Below the heap's end the world is as it was. (LAID: no walk: one application.) -/
theorem Tryz.strings_Join (bk o c : Nat) (xs : List ByteArray) (sep : ByteArray) (w : World) (hcells : ∀ (j : Nat) x, xs[j]? = some x → w.cell? ⟨bk, o + j, none⟩ = some (.string x)) (hbk : bk < w.heap.size) (hN : xs.length ≤ 140737488355328) (hcap : xs.length ≤ c) (hlen : (Lib.join (xs.map (·.data.toList)) sep.data.toList).length ≤ 140737488355328) :
    Calls Tryz.prog 54 #[.slice (some ⟨bk, o, none⟩) xs.length c, .string sep] w fun e w' => e = .returned (.string ⟨(Lib.join (xs.map (·.data.toList)) sep.data.toList).toArray⟩) ∧ Below w.heap.size w w' := Any.strings_Join Tryz.lays156 Tryz.Builder_Extra_156 bk o c xs sep w hcells hbk hN hcap hlen
def Tryz.lays160_ren : Go.Shelf.Ren := ⟨fun | 160 => 38 | 232 => 58 | 231 => 57 | 227 => 59 | 234 => 61 | 233 => 60 | 236 => 63 | 235 => 62 | 228 => 85 | 271 => 88 | 151 => 87 | 197 => 86 | 120 => 110 | 152 => 109 | 260 => 108 | 137 => 37 | 119 => 136 | 224 => 123 | 225 => 122 | 217 => 56 | 266 => 84 | n => n, fun | 9 => 9 | 4 => 4 | 3 => 3 | 5 => 5 | 117 => 112 | 116 => 111 | 0 => 0 | 124 => 115 | 21 => 21 | 105 => 139 | 46 => 86 | 119 => 182 | 139 => 185 | 138 => 184 | n => n, fun | 3 => 3 | 4 => 4 | n => n⟩
theorem Tryz.lays160 : Go.Proofs.Lays.n160 Tryz.prog Tryz.lays160_ren := {
  mixed := by kernel_rfl
  f119 := Tryz.func136.trans (congrArg some (by kernel_rfl))
  f120 := Tryz.func110.trans (congrArg some (by kernel_rfl))
  f137 := Tryz.func37.trans (congrArg some (by kernel_rfl))
  f151 := Tryz.func87.trans (congrArg some (by kernel_rfl))
  f152 := Tryz.func109.trans (congrArg some (by kernel_rfl))
  f160 := Tryz.func38.trans (congrArg some (by kernel_rfl))
  f197 := Tryz.func86.trans (congrArg some (by kernel_rfl))
  f217 := Tryz.func56.trans (congrArg some (by kernel_rfl))
  f224 := Tryz.func123.trans (congrArg some (by kernel_rfl))
  f225 := Tryz.func122.trans (congrArg some (by kernel_rfl))
  f227 := Tryz.func59.trans (congrArg some (by kernel_rfl))
  f228 := Tryz.func85.trans (congrArg some (by kernel_rfl))
  f231 := Tryz.func57.trans (congrArg some (by kernel_rfl))
  f232 := Tryz.func58.trans (congrArg some (by kernel_rfl))
  f233 := Tryz.func60.trans (congrArg some (by kernel_rfl))
  f234 := Tryz.func61.trans (congrArg some (by kernel_rfl))
  f235 := Tryz.func62.trans (congrArg some (by kernel_rfl))
  f236 := Tryz.func63.trans (congrArg some (by kernel_rfl))
  f260 := Tryz.func108.trans (congrArg some (by kernel_rfl))
  f266 := Tryz.func84.trans (congrArg some (by kernel_rfl))
  f271 := Tryz.func88.trans (congrArg some (by kernel_rfl))
  t0 := Tryz.underlying0
  a0 := Tryz.isAgg0
  z0 := Tryz.sizeOf0
  v0 := Tryz.zeroValue0
  t3 := Tryz.underlying3
  a3 := Tryz.isAgg3
  z3 := Tryz.sizeOf3
  v3 := Tryz.zeroValue3
  t4 := Tryz.underlying4
  a4 := Tryz.isAgg4
  z4 := Tryz.sizeOf4
  v4 := Tryz.zeroValue4
  t5 := Tryz.underlying5
  a5 := Tryz.isAgg5
  z5 := Tryz.sizeOf5
  v5 := Tryz.zeroValue5
  t9 := Tryz.underlying9
  a9 := Tryz.isAgg9
  z9 := Tryz.sizeOf9
  v9 := Tryz.zeroValue9
  t21 := Tryz.underlying21
  a21 := Tryz.isAgg21
  z21 := Tryz.sizeOf21
  v21 := Tryz.zeroValue21
  t46 := Tryz.underlying86
  a46 := Tryz.isAgg86
  z46 := Tryz.sizeOf86
  v46 := Tryz.zeroValue86
  t105 := Tryz.underlying139
  a105 := Tryz.isAgg139
  z105 := Tryz.sizeOf139
  v105 := Tryz.zeroValue139
  t116 := Tryz.underlying111
  a116 := Tryz.isAgg111
  z116 := Tryz.sizeOf111
  t117 := Tryz.underlying112
  a117 := Tryz.isAgg112
  z117 := Tryz.sizeOf112
  v117 := Tryz.zeroValue112
  t119 := Tryz.underlying182
  a119 := Tryz.isAgg182
  z119 := Tryz.sizeOf182
  t124 := Tryz.underlying115
  a124 := Tryz.isAgg115
  z124 := Tryz.sizeOf115
  v124 := Tryz.zeroValue115
  t138 := Tryz.underlying184
  a138 := Tryz.isAgg184
  z138 := Tryz.sizeOf184
  v138 := Tryz.zeroValue184
  t139 := Tryz.underlying185
  a139 := Tryz.isAgg185
  z139 := Tryz.sizeOf185
  v139 := Tryz.zeroValue185
  g3 := by kernel_rfl
  g4 := by kernel_rfl }
def Tryz.lays137_ren : Go.Shelf.Ren := ⟨fun | 137 => 37 | 217 => 56 | 266 => 84 | n => n, fun | 9 => 9 | 5 => 5 | 3 => 3 | n => n, fun | n => n⟩
theorem Tryz.lays137 : Go.Proofs.Lays.n137 Tryz.prog Tryz.lays137_ren := {
  mixed := by kernel_rfl
  f137 := Tryz.func37.trans (congrArg some (by kernel_rfl))
  f217 := Tryz.func56.trans (congrArg some (by kernel_rfl))
  f266 := Tryz.func84.trans (congrArg some (by kernel_rfl))
  t3 := Tryz.underlying3
  a3 := Tryz.isAgg3
  z3 := Tryz.sizeOf3
  v3 := Tryz.zeroValue3
  t5 := Tryz.underlying5
  a5 := Tryz.isAgg5
  z5 := Tryz.sizeOf5
  v5 := Tryz.zeroValue5
  t9 := Tryz.underlying9
  a9 := Tryz.isAgg9
  z9 := Tryz.sizeOf9
  v9 := Tryz.zeroValue9 }
open Go.RowKit in
/-- strings.IndexByte: "IndexByte returns the index of the first instance of c in s, or -1 if c is not present in s.": IT RETURNS 'Lib.indexByte s c'; the world is as it was. (LAID: no walk: one application.) -/
theorem Tryz.strings_IndexByte (s : ByteArray) (c : Int) (w : World) :
    Calls Tryz.prog 37 #[.string s, .int .u8 c] w fun e w' => e = .returned (.int .i64 (Lib.indexByte s.data.toList c.toNat.toUInt8)) ∧ w' = w := Any.strings_IndexByte Tryz.lays137 s c w
def Tryz.laysM171_ren : Go.Shelf.Ren := ⟨fun | 171 => 32 | 243 => 53 | 246 => 79 | 283 => 102 | 284 => 103 | 285 => 104 | 286 => 105 | 129 => 121 | 317 => 130 | 318 => 131 | 319 => 132 | 320 => 133 | 337 => 148 | 338 => 149 | n => n, fun | 3 => 3 | 9 => 9 | 2 => 2 | 4 => 4 | 171 => 151 | 0 => 0 | 53 => 152 | 37 => 132 | 5 => 5 | 173 => 155 | 212 => 177 | 51 => 168 | 20 => 20 | 213 => 178 | 46 => 86 | 232 => 205 | 233 => 206 | n => n, fun | 17 => 2 | 18 => 7 | 19 => 8 | n => n⟩
theorem Tryz.laysM171 : Go.Proofs.LaysM.n171 Tryz.prog Tryz.laysM171_ren := {
  mixed := by kernel_rfl
  f129 := Tryz.func121.trans (congrArg some (by kernel_rfl))
  f171 := Tryz.func32.trans (congrArg some (by kernel_rfl))
  f243 := Tryz.func53.trans (congrArg some (by kernel_rfl))
  f246 := Tryz.func79.trans (congrArg some (by kernel_rfl))
  f283 := Tryz.func102.trans (congrArg some (by kernel_rfl))
  f284 := Tryz.func103.trans (congrArg some (by kernel_rfl))
  f285 := Tryz.func104.trans (congrArg some (by kernel_rfl))
  f286 := Tryz.func105.trans (congrArg some (by kernel_rfl))
  f317 := Tryz.func130.trans (congrArg some (by kernel_rfl))
  f318 := Tryz.func131.trans (congrArg some (by kernel_rfl))
  f319 := Tryz.func132.trans (congrArg some (by kernel_rfl))
  f320 := Tryz.func133.trans (congrArg some (by kernel_rfl))
  f337 := Tryz.func148.trans (congrArg some (by kernel_rfl))
  f338 := Tryz.func149.trans (congrArg some (by kernel_rfl))
  t0 := Tryz.underlying0
  a0 := Tryz.isAgg0
  z0 := Tryz.sizeOf0
  v0 := Tryz.zeroValue0
  t2 := Tryz.underlying2
  a2 := Tryz.isAgg2
  z2 := Tryz.sizeOf2
  v2 := Tryz.zeroValue2
  t3 := Tryz.underlying3
  a3 := Tryz.isAgg3
  z3 := Tryz.sizeOf3
  v3 := Tryz.zeroValue3
  t4 := Tryz.underlying4
  a4 := Tryz.isAgg4
  z4 := Tryz.sizeOf4
  v4 := Tryz.zeroValue4
  t5 := Tryz.underlying5
  a5 := Tryz.isAgg5
  z5 := Tryz.sizeOf5
  v5 := Tryz.zeroValue5
  t9 := Tryz.underlying9
  a9 := Tryz.isAgg9
  z9 := Tryz.sizeOf9
  v9 := Tryz.zeroValue9
  t20 := Tryz.underlying20
  a20 := Tryz.isAgg20
  z20 := Tryz.sizeOf20
  v20 := Tryz.zeroValue20
  t37 := Tryz.underlying132
  a37 := Tryz.isAgg132
  z37 := Tryz.sizeOf132
  v37 := Tryz.zeroValue132
  t46 := Tryz.underlying86
  a46 := Tryz.isAgg86
  z46 := Tryz.sizeOf86
  v46 := Tryz.zeroValue86
  t51 := Tryz.underlying168
  a51 := Tryz.isAgg168
  z51 := Tryz.sizeOf168
  v51 := Tryz.zeroValue168
  t53 := Tryz.underlying152
  a53 := Tryz.isAgg152
  z53 := Tryz.sizeOf152
  v53 := Tryz.zeroValue152
  t171 := Tryz.underlying151
  a171 := Tryz.isAgg151
  z171 := Tryz.sizeOf151
  v171 := Tryz.zeroValue151
  t173 := Tryz.underlying155
  a173 := Tryz.isAgg155
  z173 := Tryz.sizeOf155
  v173 := Tryz.zeroValue155
  t212 := Tryz.underlying177
  a212 := Tryz.isAgg177
  z212 := Tryz.sizeOf177
  v212 := Tryz.zeroValue177
  t213 := Tryz.underlying178
  a213 := Tryz.isAgg178
  z213 := Tryz.sizeOf178
  t232 := Tryz.underlying205
  a232 := Tryz.isAgg205
  z232 := Tryz.sizeOf205
  v232 := Tryz.zeroValue205
  t233 := Tryz.underlying206
  a233 := Tryz.isAgg206
  z233 := Tryz.sizeOf206
  v233 := Tryz.zeroValue206
  g17 := by kernel_rfl
  g18 := by kernel_rfl
  g19 := by kernel_rfl
  i0 := by kernel_rfl
  i2 := by kernel_rfl
  i3 := by kernel_rfl
  i4 := by kernel_rfl
  i5 := by kernel_rfl
  i9 := by kernel_rfl
  i20 := by kernel_rfl
  i37 := by kernel_rfl
  i46 := by kernel_rfl
  i51 := by kernel_rfl
  i53 := by kernel_rfl
  i171 := by kernel_rfl
  i173 := by kernel_rfl
  i212 := by kernel_rfl
  i232 := by kernel_rfl
  i233 := by kernel_rfl
  m17 := by kernel_rfl
  m18 := by kernel_rfl
  m19 := by kernel_rfl }
open Go.RowKit Go.Sort Go.Lib in
/-- strconv.Itoa: "Itoa is equivalent to FormatInt(int64(i), 10).": i's DECIMAL NUMERAL ('Lib.itoa': a '-' where i is negative, then the digits), FOR EVERY int. The world behind the call: the world before it, new blocks behind the heap (the library's 'var a [24]byte'), draws. (LAID: no walk: one application.) -/
theorem Tryz.strconv_Itoa (n : Int) (h0 : -9223372036854775808 ≤ n) (h1 : n ≤ 9223372036854775807) (w : World) (htab : Lib.TabIs Tryz.prog w "internal/strconv.uint64pow10" .u64 Lib.pow10Tab) :
    Calls Tryz.prog 32 #[.int .i64 n] w fun e w' => e = .returned (.string ⟨(Lib.itoa n).toArray⟩) ∧ ∃ k os, w' = grow (w.drewN k) os := Any.strconv_Itoa Tryz.laysM171 n h0 h1 w htab
def Tryz.lays189_ren : Go.Shelf.Ren := ⟨fun | 189 => 68 | 125 => 93 | 257 => 92 | 128 => 120 | 129 => 121 | 294 => 111 | 295 => 112 | 296 => 113 | 297 => 114 | 298 => 115 | 299 => 116 | 216 => 117 | 300 => 118 | 301 => 119 | 328 => 137 | 329 => 138 | 330 => 139 | 331 => 140 | 332 => 141 | 215 => 142 | 343 => 150 | n => n, fun | 28 => 41 | 3 => 3 | 46 => 86 | 0 => 0 | 51 => 168 | 53 => 152 | 4 => 4 | 183 => 161 | 182 => 160 | 131 => 100 | 5 => 5 | 9 => 9 | 218 => 186 | 222 => 190 | 228 => 199 | 229 => 200 | n => n, fun | n => n⟩
theorem Tryz.lays189 : Go.Proofs.Lays.n189 Tryz.prog Tryz.lays189_ren := {
  mixed := by kernel_rfl
  f125 := Tryz.func93.trans (congrArg some (by kernel_rfl))
  f128 := Tryz.func120.trans (congrArg some (by kernel_rfl))
  f129 := Tryz.func121.trans (congrArg some (by kernel_rfl))
  f189 := Tryz.func68.trans (congrArg some (by kernel_rfl))
  f215 := Tryz.func142.trans (congrArg some (by kernel_rfl))
  f216 := Tryz.func117.trans (congrArg some (by kernel_rfl))
  f257 := Tryz.func92.trans (congrArg some (by kernel_rfl))
  f294 := Tryz.func111.trans (congrArg some (by kernel_rfl))
  f295 := Tryz.func112.trans (congrArg some (by kernel_rfl))
  f296 := Tryz.func113.trans (congrArg some (by kernel_rfl))
  f297 := Tryz.func114.trans (congrArg some (by kernel_rfl))
  f298 := Tryz.func115.trans (congrArg some (by kernel_rfl))
  f299 := Tryz.func116.trans (congrArg some (by kernel_rfl))
  f300 := Tryz.func118.trans (congrArg some (by kernel_rfl))
  f301 := Tryz.func119.trans (congrArg some (by kernel_rfl))
  f328 := Tryz.func137.trans (congrArg some (by kernel_rfl))
  f329 := Tryz.func138.trans (congrArg some (by kernel_rfl))
  f330 := Tryz.func139.trans (congrArg some (by kernel_rfl))
  f331 := Tryz.func140.trans (congrArg some (by kernel_rfl))
  f332 := Tryz.func141.trans (congrArg some (by kernel_rfl))
  f343 := Tryz.func150.trans (congrArg some (by kernel_rfl))
  t0 := Tryz.underlying0
  a0 := Tryz.isAgg0
  z0 := Tryz.sizeOf0
  v0 := Tryz.zeroValue0
  t3 := Tryz.underlying3
  a3 := Tryz.isAgg3
  z3 := Tryz.sizeOf3
  v3 := Tryz.zeroValue3
  t4 := Tryz.underlying4
  a4 := Tryz.isAgg4
  z4 := Tryz.sizeOf4
  v4 := Tryz.zeroValue4
  t5 := Tryz.underlying5
  a5 := Tryz.isAgg5
  z5 := Tryz.sizeOf5
  v5 := Tryz.zeroValue5
  t9 := Tryz.underlying9
  a9 := Tryz.isAgg9
  z9 := Tryz.sizeOf9
  v9 := Tryz.zeroValue9
  t28 := Tryz.underlying41
  a28 := Tryz.isAgg41
  z28 := Tryz.sizeOf41
  v28 := Tryz.zeroValue41
  t46 := Tryz.underlying86
  a46 := Tryz.isAgg86
  z46 := Tryz.sizeOf86
  v46 := Tryz.zeroValue86
  t51 := Tryz.underlying168
  a51 := Tryz.isAgg168
  z51 := Tryz.sizeOf168
  v51 := Tryz.zeroValue168
  t53 := Tryz.underlying152
  a53 := Tryz.isAgg152
  z53 := Tryz.sizeOf152
  v53 := Tryz.zeroValue152
  t131 := Tryz.underlying100
  a131 := Tryz.isAgg100
  z131 := Tryz.sizeOf100
  v131 := Tryz.zeroValue100
  t182 := Tryz.underlying160
  a182 := Tryz.isAgg160
  z182 := Tryz.sizeOf160
  v182 := Tryz.zeroValue160
  t183 := Tryz.underlying161
  a183 := Tryz.isAgg161
  z183 := Tryz.sizeOf161
  v183 := Tryz.zeroValue161
  t218 := Tryz.underlying186
  a218 := Tryz.isAgg186
  z218 := Tryz.sizeOf186
  v218 := Tryz.zeroValue186
  t222 := Tryz.underlying190
  a222 := Tryz.isAgg190
  z222 := Tryz.sizeOf190
  v222 := Tryz.zeroValue190
  t228 := Tryz.underlying199
  a228 := Tryz.isAgg199
  z228 := Tryz.sizeOf199
  v228 := Tryz.zeroValue199
  t229 := Tryz.underlying200
  a229 := Tryz.isAgg200
  z229 := Tryz.sizeOf200
  v229 := Tryz.zeroValue200 }
open Go.Sort Go.RowKit in
theorem Tryz.slices_Sort_int (blk off cap : Nat) (zs : List Int) (w : World) (hH : Holds (Value.int .i64) w blk off zs.toArray) (hblk : blk < w.heap.size) (hsz : zs.length < 4611686018427387904) :
    Calls Tryz.prog 68 #[.slice (some ⟨blk, off, none⟩) zs.length cap] w fun e w' =>
      e = .returned (.tuple #[]) ∧ ∃ n os, w' = grow (putRow (Value.int .i64) (Sort.ahead w n) blk off (zs.mergeSort fun x y => decide (x ≤ y)).toArray) os := Any.slices_Sort_int Tryz.lays189 blk off cap zs w hH hblk hsz
def Tryz.laysGw15_ren : Go.Shelf.Ren := ⟨fun | 15 => 70 | 20 => 94 | n => n, fun | 9 => 9 | 23 => 122 | 3 => 3 | 4 => 4 | 0 => 0 | 21 => 21 | n => n, fun | n => n⟩
theorem Tryz.laysGw15 : Go.Proofs.LaysGw.n15 Tryz.prog Tryz.laysGw15_ren := {
  mixed := by kernel_rfl
  f15 := Tryz.func70.trans (congrArg some (by kernel_rfl))
  f20 := Tryz.func94.trans (congrArg some (by kernel_rfl))
  t0 := Tryz.underlying0
  a0 := Tryz.isAgg0
  z0 := Tryz.sizeOf0
  v0 := Tryz.zeroValue0
  i0 := by kernel_rfl
  t3 := Tryz.underlying3
  a3 := Tryz.isAgg3
  z3 := Tryz.sizeOf3
  v3 := Tryz.zeroValue3
  i3 := by kernel_rfl
  t4 := Tryz.underlying4
  a4 := Tryz.isAgg4
  z4 := Tryz.sizeOf4
  v4 := Tryz.zeroValue4
  i4 := by kernel_rfl
  t9 := Tryz.underlying9
  a9 := Tryz.isAgg9
  z9 := Tryz.sizeOf9
  v9 := Tryz.zeroValue9
  i9 := by kernel_rfl
  t21 := Tryz.underlying21
  a21 := Tryz.isAgg21
  z21 := Tryz.sizeOf21
  v21 := Tryz.zeroValue21
  i21 := by kernel_rfl
  t23 := Tryz.underlying122
  a23 := Tryz.isAgg122
  z23 := Tryz.sizeOf122
  v23 := Tryz.zeroValue122
  i23 := by kernel_rfl }
open Go.RowKit Go.Lib in
theorem Tryz.strings_IndexFunc (g : Nat) (lb : Array Value) (eg : ∀ args w, (callFunc g args).run Tryz.prog w = .ok (.enter g args) w) (p : Nat → Bool) (s : ByteArray) (w : World) (hp : PredAt Tryz.prog g lb encR p w) :
    Calls Tryz.prog 70 #[.string s, .func (.func g) #[] lb] w fun e w' => e = .returned (.int .i64 (Lib.idxFunc p true s)) ∧ Below w.heap.size w w' := Any.strings_IndexFunc Tryz.laysGw15 g lb eg p s w hp
def Tryz.lays107_ren : Go.Shelf.Ren := ⟨fun | 107 => 66 | 108 => 90 | n => n, fun | 28 => 41 | 3 => 3 | 4 => 4 | 0 => 0 | n => n, fun | n => n⟩
theorem Tryz.lays107 : Go.Proofs.Lays.n107 Tryz.prog Tryz.lays107_ren := {
  mixed := by kernel_rfl
  f107 := Tryz.func66.trans (congrArg some (by kernel_rfl))
  f108 := Tryz.func90.trans (congrArg some (by kernel_rfl))
  t0 := Tryz.underlying0
  a0 := Tryz.isAgg0
  z0 := Tryz.sizeOf0
  v0 := Tryz.zeroValue0
  t3 := Tryz.underlying3
  a3 := Tryz.isAgg3
  z3 := Tryz.sizeOf3
  v3 := Tryz.zeroValue3
  t4 := Tryz.underlying4
  a4 := Tryz.isAgg4
  z4 := Tryz.sizeOf4
  v4 := Tryz.zeroValue4
  t28 := Tryz.underlying41
  a28 := Tryz.isAgg41
  z28 := Tryz.sizeOf41
  v28 := Tryz.zeroValue41 }
open Go.Lib in
/-- slices.Contains at []int: "Contains reports whether v is present in s.": IT RETURNS 'elements.contains v'; the world is as it was. ITS CALLEE slices.Index IS MET BY ITS OWN CONTRACT OFF THE SHELF (lay that first): no loop is walked here. (LAID: no walk: one application.) -/
theorem Tryz.slices_Contains_int (b off n c : Nat) (zs : List Int) (x : Int) (w : World) (hz : n ≤ zs.length) (hbig : n ≤ 9223372036854775807) (hc : ∀ j, j < zs.length → w.cell? ⟨b, off + j, none⟩ = some (.int .i64 (zs.getD j 0))) :
    Calls Tryz.prog 66 #[.slice (some ⟨b, off, none⟩) n c, .int .i64 x] w fun e w' => e = .returned (.bool ((zs.take n).contains x)) ∧ w' = w := Any.slices_Contains_int Tryz.lays107 b off n c zs x w hz hbig hc
open Go.Lib in
/-- The same at a slice of length 0, a nil one too. (LAID: no walk: one application.) -/
theorem Tryz.slices_Contains_int_empty (a : Option Addr) (c : Nat) (x : Int) (w : World) :
    Calls Tryz.prog 66 #[.slice a 0 c, .int .i64 x] w fun e w' => e = .returned (.bool false) ∧ w' = w := Any.slices_Contains_int_empty Tryz.lays107 a c x w
def Tryz.lays110_ren : Go.Shelf.Ren := ⟨fun | 110 => 44 | 109 => 69 | n => n, fun | 31 => 78 | 9 => 9 | 4 => 4 | 3 => 3 | 0 => 0 | n => n, fun | n => n⟩
theorem Tryz.lays110 : Go.Proofs.Lays.n110 Tryz.prog Tryz.lays110_ren := {
  mixed := by kernel_rfl
  f109 := Tryz.func69.trans (congrArg some (by kernel_rfl))
  f110 := Tryz.func44.trans (congrArg some (by kernel_rfl))
  t0 := Tryz.underlying0
  a0 := Tryz.isAgg0
  z0 := Tryz.sizeOf0
  v0 := Tryz.zeroValue0
  t3 := Tryz.underlying3
  a3 := Tryz.isAgg3
  z3 := Tryz.sizeOf3
  v3 := Tryz.zeroValue3
  t4 := Tryz.underlying4
  a4 := Tryz.isAgg4
  z4 := Tryz.sizeOf4
  v4 := Tryz.zeroValue4
  t9 := Tryz.underlying9
  a9 := Tryz.isAgg9
  z9 := Tryz.sizeOf9
  v9 := Tryz.zeroValue9
  t31 := Tryz.underlying78
  a31 := Tryz.isAgg78
  z31 := Tryz.sizeOf78
  v31 := Tryz.zeroValue78 }
open Go.Lib in
/-- slices.Contains at []string: "Contains reports whether v is present in s.": IT RETURNS 'Lib.containsS (the elements) v', which is true just where v is among them ('Lib.containsS_iff'); the world is as it was. ITS CALLEE slices.Index IS MET BY ITS OWN CONTRACT OFF THE SHELF (lay that first): no loop is walked here. (LAID: no walk: one application.) -/
theorem Tryz.slices_Contains_string (b off n c : Nat) (zs : List ByteArray) (x : ByteArray) (w : World) (hz : n ≤ zs.length) (hbig : n ≤ 9223372036854775807) (hc : ∀ j, j < zs.length → w.cell? ⟨b, off + j, none⟩ = some (.string (zs.getD j ByteArray.empty))) :
    Calls Tryz.prog 44 #[.slice (some ⟨b, off, none⟩) n c, .string x] w fun e w' => e = .returned (.bool (Lib.containsS (zs.take n) x)) ∧ w' = w := Any.slices_Contains_string Tryz.lays110 b off n c zs x w hz hbig hc
def Tryz.lays111_ren : Go.Shelf.Ren := ⟨fun | 111 => 12 | n => n, fun | 28 => 41 | 3 => 3 | 4 => 4 | 0 => 0 | n => n, fun | n => n⟩
theorem Tryz.lays111 : Go.Proofs.Lays.n111 Tryz.prog Tryz.lays111_ren := {
  mixed := by kernel_rfl
  f111 := Tryz.func12.trans (congrArg some (by kernel_rfl))
  t0 := Tryz.underlying0
  a0 := Tryz.isAgg0
  z0 := Tryz.sizeOf0
  v0 := Tryz.zeroValue0
  t3 := Tryz.underlying3
  a3 := Tryz.isAgg3
  z3 := Tryz.sizeOf3
  v3 := Tryz.zeroValue3
  t4 := Tryz.underlying4
  a4 := Tryz.isAgg4
  z4 := Tryz.sizeOf4
  v4 := Tryz.zeroValue4
  t28 := Tryz.underlying41
  a28 := Tryz.isAgg41
  z28 := Tryz.sizeOf41
  v28 := Tryz.zeroValue41 }
open Go.RowKit Go.Lib in
/-- slices.Equal at []int: "Equal reports whether two slices are equal: the same length and all elements equal. If the lengths are different, Equal returns false. Otherwise, the elements are compared in increasing index order, and the comparison stops at the first unequal pair. Empty and nil slices are considered equal.": IT RETURNS WHETHER THE TWO LISTS OF ELEMENTS ARE ONE; the world is as it was but for the count of draws (the test 's1[i] != s2[i]' has two reads, whose order the model draws, once a round). 'xs', 'ys': what the cells behind the two addresses hold (the spare capacity too, if you have it); 'xs.take n', 'ys.take m': the elements. THE TWO SLICES MAY OVERLAP. (LAID: no walk: one application.) -/
theorem Tryz.slices_Equal_int (b1 o1 n c b2 o2 m d : Nat) (xs ys : List Int) (w : World) (hx : n ≤ xs.length) (hy : m ≤ ys.length) (hbig : n ≤ 9223372036854775807) (hbig2 : m ≤ 9223372036854775807) (hc1 : ∀ j, j < xs.length → w.cell? ⟨b1, o1 + j, none⟩ = some (.int .i64 (xs.getD j 0))) (hc2 : ∀ j, j < ys.length → w.cell? ⟨b2, o2 + j, none⟩ = some (.int .i64 (ys.getD j 0))) :
    Calls Tryz.prog 12 #[.slice (some ⟨b1, o1, none⟩) n c, .slice (some ⟨b2, o2, none⟩) m d] w fun e w' => e = .returned (.bool (xs.take n == ys.take m)) ∧ ∃ q, w' = w.drewN q := Any.slices_Equal_int Tryz.lays111 b1 o1 n c b2 o2 m d xs ys w hx hy hbig hbig2 hc1 hc2
open Go.RowKit Go.Lib in
/-- The same where the first is of length 0 (a nil one too): no cell is asked for. (LAID: no walk: one application.) -/
theorem Tryz.slices_Equal_int_empty (a1 a2 : Option Addr) (c m d : Nat) (w : World) (hbig2 : m ≤ 9223372036854775807) :
    Calls Tryz.prog 12 #[.slice a1 0 c, .slice a2 m d] w fun e w' => e = .returned (.bool (decide (m = 0))) ∧ w' = w := Any.slices_Equal_int_empty Tryz.lays111 a1 a2 c m d w hbig2
open Go.RowKit Go.Sort in
/-- .. and plain. (LAID: no walk: one application.) -/
theorem Tryz.slices_Sort_int_none (p : Option Addr) (cap : Nat) (w : World) :
    Calls Tryz.prog 68 #[.slice p 0 cap] w fun e w' => e = .returned (.tuple #[]) ∧ w' = w := Any.slices_Sort_int_none Tryz.lays189 p cap w
open Go.RowKit Go.Lib in
theorem Tryz.slices_Equal_int_lens (a1 a2 : Option Addr) (n c m d : Nat) (w : World) (hnm : n ≠ m) :
    Calls Tryz.prog 12 #[.slice a1 n c, .slice a2 m d] w fun e w' => e = .returned (.bool false) ∧ w' = w := Any.slices_Equal_int_lens Tryz.lays111 a1 a2 n c m d w hnm
end Go.Proofs

/- Slices that a call builds itself: appended to, read, made a string. Plain laws, for any program. -/
namespace Go.Proofs.YtcpnnffnkegamaaGreatDoor
set_option linter.all false
open Go.RowKit

/-- t is a slice type, its elements of type e take so many cells and bytes -/
structure Elem (P : Program) (t e : TypeId) (size bytes : Nat) : Prop where
  under : P.underlying t = some (.slice e)
  info : ∃ i z, P.info? e = some i ∧ i.zero = some z ∧ i.size = size ∧ i.bytes = bytes ∧ z.cells.size = size
  pos : 0 < size

/-- since w0 the slice v has been built: n elements, the cells xs, in a block from B on; below B all is as it was -/
structure Mk (B : Nat) (w0 w : World) (e : TypeId) (size : Nat) (v : Value) (n : Nat) (xs : List Value) : Prop where
  own : w.ownsRow B e size v n xs
  below : Below B w0 w
  base : B ≤ w.heap.size

section
variable {P : Program} {B : Nat} {w0 w w' : World} {e : TypeId} {size n : Nat} {v : Value} {xs : List Value}
theorem Mk.nil (h : Below B w0 w) (hB : B ≤ w.heap.size) : Mk B w0 w e size (.slice none 0 0) 0 [] := ⟨World.ownsRow_nil _ _ _ _, h, hB⟩
theorem Mk.alloc (h : Mk B w0 w e size v n xs) (o : Obj) : Mk B w0 (w.alloc o) e size v n xs := ⟨h.own.alloc o, h.below.alloc h.base o, by have := h.base; simp; omega⟩
theorem Mk.drew (h : Mk B w0 w e size v n xs) : Mk B w0 w.drew e size v n xs := ⟨h.own.drew, h.below.drew, h.base⟩
theorem Mk.step (h : Mk B w0 w e size v n xs) (hx : Ext w w') : Mk B w0 w' e size v n xs :=
  ⟨h.own.kept (row := none) ⟨hx.os, hx.tape, hx.output, hx.size, fun k hk _ => hx.block k hk⟩ (by cases hv : v.ownBlock <;> simp), h.below.trans (Below.mono hx h.base), Nat.le_trans h.base hx.size⟩
theorem Mk.ext (h : Mk w0.heap.size w0 w e size v n xs) : Ext w0 w := h.below

theorem Mk.stored {g cap : Nat} (h : Mk B w0 w e size (.slice (some ⟨g, 0, none⟩) n cap) n xs) (j : Nat) (u : Value) : Mk B w0 (w.setCell ⟨g, j, none⟩ u) e size (.slice (some ⟨g, 0, none⟩) n cap) n (xs.set j u) :=
  ⟨(h.own.stored j u).1, h.below.setCell (h.own.lt g rfl).1 u, by simpa [World.setCell] using h.base⟩

theorem Mk.row (h : Mk B w0 w e size v n xs) : ∀ g, v.ownBlock = some g → ∃ cs fr, w.heap[g]? = some (.cells cs e fr) := by
  intro g hg
  rcases h.own.2 with ⟨rfl, _⟩ | ⟨g', cap, cur, rfl, _, hgg, _⟩
  · simp [Value.ownBlock] at hg
  · simp [Value.ownBlock] at hg
    subst hg
    exact ⟨_, _, hgg⟩

theorem wpList_push {t : TypeId} {bytes : Nat} (hE : Elem P t e size bytes) {ops : Array Oper} {rest : List Oper} {o : Oper} {a : Act} {Q : Exit → Act → World → Prop} (hgd : o.guard = none) (s x : Operand)
    (ho : o.op = .call { callee := .builtin .append, args := #[s, x], argTypes := #[t, t] }) (news : List Value)
    (hM : Mk B w0 w e size v n xs) (S : Nat) (hS : w.heap.size = S) (hs : a.eval s = v) (hx : a.eval x = .slice (some ⟨S, 0, none⟩) 1 1) (hl : news.length = size) (h1 : ∀ u ∈ news, u.oneCell' = true)
    (hn : (n + 1) * bytes ≤ 140737488355328) (hm : n + 1 ≤ 140737488355328)
    (h : ∀ g cap w', Mk B w0 w' e size (.slice (some ⟨g, 0, none⟩) (n + 1 : Nat) cap) (n + 1) (xs ++ news) → w.grownBy w' v.ownBlock → (v.ownBlock = some g ∨ g = w.heap.size + 1) → wpList P ops Q rest (a.put o.dst (.slice (some ⟨g, 0, none⟩) (n + 1 : Nat) cap)) w') :
    wpList P ops Q (o :: rest) a (w.alloc (.cells news.toArray e)) := by
  subst hS
  obtain ⟨i, z, hi, hz, hsz, hby, hzs⟩ := hE.info
  have hM' := hM.alloc (.cells news.toArray e)
  refine wpList_append_own_at (P := P) (w := w.alloc (.cells news.toArray e)) hgd s x t ho B e i z size bytes hE.under hi hz hsz hby hzs hE.pos v n xs hs hM'.own ⟨w.heap.size, 0, none⟩ 1 1 news hx (by simpa using hl) ?_ h1 (by unfold maxLen; omega) hn hM'.base ?_
  · exact fun j u hu => World.news_of_block (heap_alloc_new w _) j u (by simpa using hu)
  · intro v' w' hown hg _ hat
    obtain ⟨g, cap, rfl, _, _⟩ := hown.form (by omega)
    refine h g cap w' ⟨hown, ?_, Nat.le_trans hM'.base hg.size⟩ ?_ (by simpa [Value.ownBlock, eq_comm] using hat)
    · exact hM'.below.grown hg hM'.base (fun k hk => (hM.own.lt k hk).1)
    · exact ⟨hg.os, hg.tape, hg.output, Nat.le_trans (by simp) hg.size, fun k hk hne => (hg.block k (by simp; omega) hne).trans (Below.heap_alloc w _ k hk)⟩

theorem Ext.grownBy {a b : World} (h : Ext a b) (row : Option Nat) : a.grownBy b row := ⟨h.os, h.tape, h.output, h.size, fun k hk _ => h.block k hk⟩

/-- string(b) of a slice of bytes that was built -/
theorem run_string_own {src dst : TypeId} (hs : P.underlying src = some (.slice e)) (he : P.underlying e = some (.int .u8)) (hd : P.underlying dst = some .string) (l : List UInt8)
    (hown : w.ownsRow B e 1 v n (l.map fun c => Value.int .u8 (c.toNat : Int))) : (convert src dst v).run P w = .ok (.string ⟨l.toArray⟩) w := by
  have hln := hown.1
  simp only [List.length_map, Nat.mul_one] at hln
  rcases hown.2 with ⟨rfl, rfl⟩ | ⟨g, cap, cur, rfl, _, hg, _, _, _, htk⟩
  · have : l = [] := List.eq_nil_of_length_eq_zero hln
    subst this
    rw [run_convert_bytes_string w src dst e none 0 0 hs he hd]
    simp [Conv.bytesToString]
    rfl
  · subst hln
    exact run_convert_bytes_back w src dst e ⟨g, 0, none⟩ cap l hs he hd fun j hj => hown.cells (g := g) rfl j _ (by simp [hj])
end
end Go.Proofs.YtcpnnffnkegamaaGreatDoor

/- That arguments read behind a call as before, if all that was there is as it was. -/
namespace Go.Proofs.YtcpnnffnkegamaaGreatDoor
set_option linter.all false
set_option linter.unusedSimpArgs false
set_option linter.unusedVariables false
open Go.RowKit
open Go.ChangeShapes Go.WideShapes Go.ChangeAt Go.Joins

theorem Tryz.own : ownKnob Tryz.prog.godebug = none := by kernel_rfl
theorem Tryz.laidOut : laidOutB Tryz.prog = true := by kernel_rfl
section
variable {H : Type} {enc : TypeId × Value → H} {P : Program}
/-- all arguments read as they did, if all that was there is as it was -/
theorem trodAll_ext (hl : laidOutB P = true) {W W' : World} (hb : Ext W W') : ∀ (ts : List TypeId) (vs : List Value) (ds : List (DataW H)) (ps : List MemPlace),
    (∀ t ∈ ts, P.readableRec t = true ∧ t < P.types.size) → DataW.TrodAll enc P W 0 (fun _ => true) true ts vs ds ps → (∀ x ∈ ps, x.block < W.heap.size) →
    DataW.TrodAll enc P W' 0 (fun b => decide (b < W.heap.size)) true ts vs ds ps
  | [], [], [], ps, _, h, _ => h
  | t :: ts, v :: vs, d :: ds, ps, ht, h, hlt => by
    obtain ⟨p, q, h1, h2, rfl⟩ := h
    exact ⟨p, q, Below.trod hl (ht t (by simp)).1 (ht t (by simp)).2 h1 hb fun x hx => hlt x (by simp [hx]), trodAll_ext hl hb ts vs ds q (fun t ht' => ht t (by simp [ht'])) h2 (fun x hx => hlt x (by simp [hx])), rfl⟩
  | [], [], _ :: _, _, _, h, _ => by simp [DataW.TrodAll] at h
  | [], _ :: _, _, _, _, h, _ => by simp [DataW.TrodAll] at h
  | _ :: _, [], _, _, _, h, _ => by simp [DataW.TrodAll] at h
  | _ :: _, _ :: _, [], _, _, h, _ => by simp [DataW.TrodAll] at h
end

theorem i64_wf {n : Int} (h : (Lit.int .i64 n).wf = true) : i64 n := by
  unfold i64
  simp [Lit.wf, IntKind.wrap] at h
  first | exact h | omega

end Go.Proofs.YtcpnnffnkegamaaGreatDoor

/- Arguments that are values: what is read of them. -/
namespace Go.Proofs.YtcpnnffnkegamaaGreatDoor
set_option linter.all false
set_option linter.unusedSimpArgs false
set_option linter.unusedVariables false
open Go.RowKit
open Go.ChangeShapes Go.WideShapes Go.ChangeAt Go.Joins
theorem Tryz.cellsVal : Tryz.prog.cellsOf 59 = 3 := by kernel_rfl

end Go.Proofs.YtcpnnffnkegamaaGreatDoor

/- An argument that is a slice: what its cells hold. -/
namespace Go.Proofs.YtcpnnffnkegamaaGreatDoor
set_option linter.unusedSimpArgs false
set_option linter.unusedVariables false
open Go.RowKit
set_option linter.all false
open Go.ChangeShapes Go.WideShapes Go.ChangeAt Go.Joins Go.Deep
theorem list_of {α : Type} {Q : Nat → α → Prop} : ∀ n, (∀ i, i < n → ∃ x, Q i x) → ∃ l : List α, l.length = n ∧ ∀ i x, l[i]? = some x → Q i x
  | 0, _ => ⟨[], rfl, fun i x h => by simp at h⟩
  | n + 1, h => by
    obtain ⟨l, hl, hq⟩ := list_of n fun i hi => h i (by omega)
    obtain ⟨y, hy⟩ := h n (by omega)
    refine ⟨l ++ [y], by simp [hl], fun i x hx => ?_⟩
    by_cases hi : i < n
    · rw [List.getElem?_append_left (by omega)] at hx
      exact hq i x hx
    · rw [List.getElem?_append_right (by omega)] at hx
      have : i = n := by
        have := (List.getElem?_eq_some_iff.1 hx).1
        simp at this; omega
      subst this
      rw [hl, Nat.sub_self] at hx
      simp at hx
      subst hx
      exact hy
theorem Tryz.cellsInt : Tryz.prog.cellsOf 3 = 1 := by kernel_rfl
theorem Tryz.cellsInt64 : Tryz.prog.cellsOf 2 = 1 := by kernel_rfl
theorem Tryz.cellsString : Tryz.prog.cellsOf 9 = 1 := by kernel_rfl
end Go.Proofs.YtcpnnffnkegamaaGreatDoor

/- A region whose operations only compute, read what stays as it was, or call what leaves all as it was: walked once, in the order of the text, whatever order is drawn. For any program. -/
namespace Go.Proofs.YtcpnnffnkegamaaGreatDoor
set_option linter.all false
open Go.RowKit

section
variable {P : Program} {ops : Array Oper} {F : World → Prop}

/-- in every world that meets F the operation yields v, or calls a function that yields v and leaves what was there as it was -/
def StepOK (P : Program) (F : World → Prop) (o : Oper) (a : Act) (v : Value) : Prop :=
  (∀ w, F w → (execOp a.eval o).run P w = .ok (.value v) w) ∨
  (∃ f args, (∀ w, F w → (execOp a.eval o).run P w = .ok (.enter f args) w) ∧ ∀ w, F w → Calls P f args w fun e w' => e = .returned v ∧ Ext w w')

/-- the walk in the order of the text -/
def Fixed (P : Program) (ops : Array Oper) (F : World → Prop) (K : Act → Prop) : List Oper → Act → Prop
  | [], a => K a
  | o :: rest, a => (Region.wanted o (yielded ops a.tmps) = true ∧ ∃ v, StepOK P F o a v ∧ Fixed P ops F K rest (a.put o.dst v)) ∨
      (Region.wanted o (yielded ops a.tmps) = false ∧ Fixed P ops F K rest (a.put o.dst undef))

theorem Fixed.done {K : Act → Prop} {a : Act} (h : K a) : Fixed P ops F K [] a := h
theorem Fixed.skip {K : Act → Prop} {o : Oper} {rest : List Oper} {a : Act} (hw : Region.wanted o (yielded ops a.tmps) = false) (h : Fixed P ops F K rest (a.put o.dst undef)) : Fixed P ops F K (o :: rest) a := .inr ⟨hw, h⟩
theorem Fixed.val {K : Act → Prop} {o : Oper} {rest : List Oper} {a : Act} {v : Value} (hw : Region.wanted o (yielded ops a.tmps) = true) (hr : ∀ w, F w → (execOp a.eval o).run P w = .ok (.value v) w)
    (h : Fixed P ops F K rest (a.put o.dst v)) : Fixed P ops F K (o :: rest) a := .inl ⟨hw, v, .inl hr, h⟩
theorem Fixed.call {K : Act → Prop} {o : Oper} {rest : List Oper} {a : Act} {v : Value} {f : FuncId} {args : Array Value} (hw : Region.wanted o (yielded ops a.tmps) = true) (hr : ∀ w, F w → (execOp a.eval o).run P w = .ok (.enter f args) w)
    (hc : ∀ w, F w → Calls P f args w fun e w' => e = .returned v ∧ Ext w w') (h : Fixed P ops F K rest (a.put o.dst v)) : Fixed P ops F K (o :: rest) a := .inl ⟨hw, v, .inr ⟨f, args, hr, hc⟩, h⟩

/-- the frame when the operations of L have come up, with the values vs -/
def frameOf (ops : Array Oper) (vs : Nat → Value) (L : Nat → Bool) (a0 : Act) : Nat → Act
  | 0 => a0
  | n + 1 => if L n then (frameOf ops vs L a0 n).put ((ops[n]?).bind (·.dst)) (vs n) else frameOf ops vs L a0 n

theorem frame_congr {vs : Nat → Value} {L M : Nat → Bool} {a0 : Act} : ∀ n, (∀ i, i < n → L i = M i) → frameOf ops vs L a0 n = frameOf ops vs M a0 n
  | 0, _ => rfl
  | n + 1, h => by
    unfold frameOf
    rw [frame_congr n (fun i hi => h i (by omega)), h n (by omega)]
theorem frame_vs {vs us : Nat → Value} {L : Nat → Bool} {a0 : Act} : ∀ n, (∀ i, i < n → vs i = us i) → frameOf ops vs L a0 n = frameOf ops us L a0 n
  | 0, _ => rfl
  | n + 1, h => by
    unfold frameOf
    rw [frame_vs n (fun i hi => h i (by omega)), h n (by omega)]

/-- no two operations write one slot -/
def dstApart (ops : Array Oper) : Bool := (List.range ops.size).all fun i => (List.range ops.size).all fun j => i == j || match (ops[i]?).bind (·.dst) with | none => true | some d => (ops[j]?).bind (·.dst) != some d
/-- i waits for j -/
def waits (ops : Array Oper) (i j : Nat) : Bool := ((ops[i]?).map fun o => o.after.any fun e => Region.binds .any e && e.on == j).getD false
def isSelect (o : Oper) : Bool := match o.op with | .select .. => true | _ => false
/-- whoever looks at a slot waits for its writer, or its writer waits for him; nobody waits for whoever comes later -/
def looksOk (ops : Array Oper) : Bool := (List.range ops.size).all fun i => match ops[i]? with
  | none => true
  | some o => !isSelect o && (o.after.all fun e => !Region.binds .any e || decide (e.on < i)) && (o.looksAt ops).all fun t => (List.range ops.size).all fun j => ((ops[j]?).bind (·.dst) != some t) || (decide (j < i) && waits ops i j) || (decide (i < j) && waits ops j i)
def fixedOk (ops : Array Oper) : Bool := dstApart ops && looksOk ops

theorem dst_spec (h : dstApart ops = true) {i j : Nat} (hij : i ≠ j) {d : Tmp} (hi : (ops[i]?).bind (·.dst) = some d) : (ops[j]?).bind (·.dst) ≠ some d := by
  have li : i < ops.size := by
    rcases Nat.lt_or_ge i ops.size with h | h
    · exact h
    · simp [Array.getElem?_eq_none h] at hi
  intro hj
  have lj : j < ops.size := by
    rcases Nat.lt_or_ge j ops.size with h | h
    · exact h
    · simp [Array.getElem?_eq_none h] at hj
  unfold dstApart at h
  rw [List.all_eq_true] at h
  have h1 := h i (by simpa using li)
  rw [List.all_eq_true] at h1
  have h2 := h1 j (by simpa using lj)
  rw [hi, hj] at h2
  simp at h2
  exact hij h2

theorem put_put (hd : dstApart ops = true) (a : Act) {i j : Nat} (hij : i ≠ j) (v u : Value) :
    (a.put ((ops[i]?).bind (·.dst)) v).put ((ops[j]?).bind (·.dst)) u = (a.put ((ops[j]?).bind (·.dst)) u).put ((ops[i]?).bind (·.dst)) v :=
  Act.put_comm a v u fun d hi => dst_spec hd hij hi

/-- one more has come up -/
theorem frame_more (hd : dstApart ops = true) {vs : Nat → Value} {L : Nat → Bool} {a0 : Act} {i : Nat} (hi : L i = false) : ∀ n, i < n →
    frameOf ops vs (fun j => j == i || L j) a0 n = (frameOf ops vs L a0 n).put ((ops[i]?).bind (·.dst)) (vs i)
  | 0, h => absurd h (by omega)
  | n + 1, h => by
    unfold frameOf
    by_cases e : n = i
    · subst e
      simp only [beq_self_eq_true, Bool.true_or, if_true, hi, Bool.false_eq_true, if_false]
      rw [frame_congr (L := fun j => j == n || L j) (M := L) n (fun j hj => by
        have : (j == n) = false := by simp; omega
        simp [this])]
    · have hb : (n == i) = false := by simpa using e
      simp only [hb, Bool.false_or]
      rw [frame_more hd hi n (by omega)]
      split
      · exact put_put hd _ (fun h => e h.symm) _ _
      · rfl

theorem frame_size {vs : Nat → Value} {L : Nat → Bool} {a0 : Act} : ∀ n, (frameOf ops vs L a0 n).tmps.size = a0.tmps.size ∧ (frameOf ops vs L a0 n).defers = a0.defers
  | 0 => ⟨rfl, rfl⟩
  | n + 1 => by
    unfold frameOf
    have ih := frame_size (vs := vs) (L := L) (a0 := a0) n
    split
    · cases h : (ops[n]?).bind (·.dst) <;> simp [Act.put, ih]
    · exact ih
/-- a slot that nobody of L writes -/
theorem frame_other {vs : Nat → Value} {L : Nat → Bool} {a0 : Act} {t : Tmp} : ∀ n, (∀ j, j < n → L j = true → (ops[j]?).bind (·.dst) ≠ some t) → (frameOf ops vs L a0 n).tmps[t]? = a0.tmps[t]?
  | 0, _ => rfl
  | n + 1, h => by
    unfold frameOf
    have ih := frame_other (vs := vs) (L := L) (a0 := a0) (t := t) n (fun j hj => h j (by omega))
    split
    · rename_i hl
      have hn := h n (by omega) hl
      cases hd : (ops[n]?).bind (·.dst) with
      | none => simpa [Act.put] using ih
      | some d =>
        have : d ≠ t := fun e => hn (by rw [hd, e])
        simp [Act.put, Array.getElem?_setIfInBounds_ne this, ih]
    · exact ih
/-- a slot that j of L writes -/
theorem frame_at (hd : dstApart ops = true) {vs : Nat → Value} {L : Nat → Bool} {a0 : Act} {t : Tmp} {j : Nat} (hj : (ops[j]?).bind (·.dst) = some t) (hl : L j = true) : ∀ n, j < n →
    (frameOf ops vs L a0 n).tmps[t]? = if t < a0.tmps.size then some (vs j) else none
  | 0, h => absurd h (by omega)
  | n + 1, h => by
    unfold frameOf
    by_cases e : n = j
    · subst e
      rw [if_pos hl, hj]
      have hs := (frame_size (ops := ops) (vs := vs) (L := L) (a0 := a0) n).1
      by_cases hlt : t < a0.tmps.size
      · simp [Act.put, hs, hlt]
      · simp [Act.put, hs, hlt]
    · have ih := frame_at hd (vs := vs) (L := L) (a0 := a0) hj hl n (by omega)
      split
      · have hn := dst_spec hd (fun h => e h.symm) hj (j := n)
        cases hdn : (ops[n]?).bind (·.dst) with
        | none => simpa [Act.put] using ih
        | some d =>
          have : d ≠ t := fun e => hn (by rw [hdn, e])
          simp [Act.put, Array.getElem?_setIfInBounds_ne this, ih]
      · exact ih

/-- two frames agree at all slots that operation i looks at, if the ones of whom it waits are in both, and no one who waits for it in either -/
theorem frames_agree (hd : dstApart ops = true) (hl : looksOk ops = true) {vs : Nat → Value} {L M : Nat → Bool} {a0 : Act} {i : Nat} {o : Oper} (hi : ops[i]? = some o)
    (h1 : ∀ j, j < i → waits ops i j = true → L j = true ∧ M j = true) (h2 : ∀ j, i < j → waits ops j i = true → L j = false ∧ M j = false) (h3 : L i = false ∧ M i = false)
    {t : Tmp} (ht : t ∈ o.looksAt ops) : (frameOf ops vs L a0 ops.size).tmps[t]? = (frameOf ops vs M a0 ops.size).tmps[t]? := by
  have li : i < ops.size := (Array.getElem?_eq_some_iff.1 hi).1
  unfold looksOk at hl
  rw [List.all_eq_true] at hl
  have hli := hl i (by simpa using li)
  rw [hi] at hli
  simp only [Bool.and_eq_true] at hli
  have hlt := hli.2
  rw [List.all_eq_true] at hlt
  have hT := hlt t ht
  rw [List.all_eq_true] at hT
  by_cases hw : ∃ j, j < ops.size ∧ (ops[j]?).bind (·.dst) = some t
  · obtain ⟨j, lj, hj⟩ := hw
    have hJ := hT j (by simpa using lj)
    rw [hj] at hJ
    simp only [bne_self_eq_false, Bool.false_or, Bool.or_eq_true, Bool.and_eq_true, decide_eq_true_eq] at hJ
    rcases hJ with ⟨hji, hwt⟩ | ⟨hij, hwt⟩
    · obtain ⟨a, b⟩ := h1 j hji hwt
      rw [frame_at hd hj a _ lj, frame_at hd hj b _ lj]
    · obtain ⟨a, b⟩ := h2 j hij hwt
      rw [frame_other _ (fun k _ hk e => by
          by_cases hkj : k = j
          · subst hkj; rw [a] at hk; cases hk
          · exact dst_spec hd (fun e => hkj e.symm) hj e),
        frame_other _ (fun k _ hk e => by
          by_cases hkj : k = j
          · subst hkj; rw [b] at hk; cases hk
          · exact dst_spec hd (fun e => hkj e.symm) hj e)]
  · have hno : ∀ k, k < ops.size → (ops[k]?).bind (·.dst) ≠ some t := fun k hk e => hw ⟨k, hk, e⟩
    rw [frame_other _ (fun k hk _ => hno k hk), frame_other _ (fun k hk _ => hno k hk)]

theorem eval_agree {a b : Act} {o : Oper} (h : ∀ t ∈ o.looksAt ops, a.tmps[t]? = b.tmps[t]?) : ∀ x ∈ o.op.operands, a.eval x = b.eval x := by
  intro x hx
  cases x with
  | tmp t =>
    have := h t (List.mem_append_left _ (List.mem_filterMap.2 ⟨.tmp t, by simpa using hx, rfl⟩))
    simp only [Act.eval, Array.getD_eq_getD_getElem?, this]
  | const v => rfl
  | global g => rfl
  | func f => rfl
theorem wanted_agree {a b : Act} {o : Oper} (h : ∀ t ∈ o.looksAt ops, a.tmps[t]? = b.tmps[t]?) : Region.wanted o (yielded ops a.tmps) = Region.wanted o (yielded ops b.tmps) := by
  unfold Region.wanted
  cases hg : o.guard with
  | none => rfl
  | some gw =>
    obtain ⟨g, want⟩ := gw
    have : yielded ops a.tmps g = yielded ops b.tmps g := by
      unfold yielded
      cases ht : (ops[g]?).bind (·.dst) with
      | none => rfl
      | some t =>
        have := h t (by simp [Oper.looksAt, hg, ht])
        simp only [Option.bind_some, this]
    simp only [this]

/-- the frame of the text's order ahead of operation n -/
def frameTo (ops : Array Oper) (vs : Nat → Value) (a0 : Act) (n : Nat) : Act := frameOf ops vs (fun _ => true) a0 n
theorem frameTo_eq {vs : Nat → Value} {a0 : Act} {i : Nat} : ∀ n, i ≤ n → frameTo ops vs a0 i = frameOf ops vs (fun j => decide (j < i)) a0 n
  | 0, h => by obtain rfl : i = 0 := by omega
               rfl
  | n + 1, h => by
    by_cases e : i = n + 1
    · subst e
      exact frame_congr _ fun j hj => by simp [hj]
    · rw [frameTo_eq n (by omega)]
      conv => rhs; unfold frameOf
      rw [if_neg (by simp; omega)]

/-- out of the walk: the values, and that each step stands -/
theorem Fixed.values {K : Act → Prop} {a0 : Act} : ∀ (rest : List Oper) (n : Nat) (us : Nat → Value), (∀ j, rest[j]? = ops[n + j]?) → n + rest.length = ops.size → Fixed P ops F K rest (frameTo ops us a0 n) →
    ∃ vs : Nat → Value, (∀ j, j < n → vs j = us j) ∧ K (frameTo ops vs a0 ops.size) ∧ ∀ i o, n ≤ i → ops[i]? = some o →
      (Region.wanted o (yielded ops (frameTo ops vs a0 i).tmps) = true ∧ StepOK P F o (frameTo ops vs a0 i) (vs i)) ∨ (Region.wanted o (yielded ops (frameTo ops vs a0 i).tmps) = false ∧ vs i = undef)
  | [], n, us, _, hn, h => ⟨us, fun _ _ => rfl, by rw [← hn]; exact h, fun i o hi ho => by
      have := (Array.getElem?_eq_some_iff.1 ho).1
      simp at hn; omega⟩
  | o :: rest, n, us, hr, hn, h => by
    have ho : ops[n]? = some o := by simpa using (hr 0).symm
    have hr' : ∀ j, rest[j]? = ops[n + 1 + j]? := fun j => by
      have := hr (j + 1)
      simpa [Nat.add_assoc, Nat.add_comm 1 j] using this
    have hput : ∀ v, frameTo ops (fun j => if j = n then v else us j) a0 (n + 1) = (frameTo ops us a0 n).put o.dst v := fun v => by
      unfold frameTo
      conv => lhs; unfold frameOf
      rw [if_pos rfl, if_pos rfl, ho, frame_vs (us := us) n (fun i hi => if_neg (by omega))]
      rfl
    have hkeep : ∀ v vs, (∀ j, j < n + 1 → vs j = (if j = n then v else us j)) → frameTo ops vs a0 n = frameTo ops us a0 n := fun v vs hvs => by
      exact frame_vs _ fun j hj => by rw [hvs j (by omega), if_neg (by omega)]
    rcases h with ⟨hw, v, hs, h⟩ | ⟨hw, h⟩
    · obtain ⟨vs, h1, h2, h3⟩ := Fixed.values rest (n + 1) (fun j => if j = n then v else us j) hr' (by simp at hn; omega) (by rw [hput]; exact h)
      refine ⟨vs, fun j hj => by rw [h1 j (by omega), if_neg (by omega)], h2, fun i o' hi ho' => ?_⟩
      by_cases e : i = n
      · subst e
        obtain rfl : o = o' := Option.some.inj (ho.symm.trans ho')
        rw [hkeep v vs h1, h1 i (by omega), if_pos rfl]
        exact .inl ⟨hw, hs⟩
      · exact h3 i o' (by omega) ho'
    · obtain ⟨vs, h1, h2, h3⟩ := Fixed.values rest (n + 1) (fun j => if j = n then undef else us j) hr' (by simp at hn; omega) (by rw [hput]; exact h)
      refine ⟨vs, fun j hj => by rw [h1 j (by omega), if_neg (by omega)], h2, fun i o' hi ho' => ?_⟩
      by_cases e : i = n
      · subst e
        obtain rfl : o = o' := Option.some.inj (ho.symm.trans ho')
        rw [hkeep undef vs h1, h1 i (by omega), if_pos rfl]
        exact .inr ⟨hw, rfl⟩
      · exact h3 i o' (by omega) ho'

/-- one step, in whatever frame agrees -/
theorem wpOp_fixed {Q : Exit → Act → World → Prop} {i : Nat} {o : Oper} (hi : ops[i]? = some o) (hsel : isSelect o = false) {a b : Act} {w : World} {v : Value} {K : Act → World → Prop}
    (hab : ∀ t ∈ o.looksAt ops, a.tmps[t]? = b.tmps[t]?) (hF : F w)
    (hs : (Region.wanted o (yielded ops b.tmps) = true ∧ StepOK P F o b v) ∨ (Region.wanted o (yielded ops b.tmps) = false ∧ v = undef))
    (h : ∀ w', Ext w w' → K (a.put o.dst v) w') : wpOp P ops Q i K a w := by
  have hns : ∀ cs c, o.op ≠ .select cs c := fun cs c e => by simp [isSelect, e] at hsel
  unfold wpOp
  simp only [hi]
  rw [wanted_agree hab]
  have he : execOp a.eval o = execOp b.eval o := execOp_congr o hns (eval_agree hab)
  rcases hs with ⟨hw, hr | ⟨f, args, hr, hc⟩⟩ | ⟨hw, rfl⟩
  · rw [if_pos hw]
    refine .inl ?_
    unfold Oper.wp
    rw [he, hr w hF]
    exact h w (Ext.refl w)
  · rw [if_pos hw]
    refine .inl ?_
    unfold Oper.wp
    rw [he, hr w hF]
    exact (hc w hF).mono fun e w' ⟨h1, h2⟩ => by subst h1; exact h w' h2
  · rw [hw]
    exact h w (Ext.refl w)

theorem waits_spec {i j : Nat} {o : Oper} (hi : ops[i]? = some o) : waits ops i j = true ↔ ∃ e ∈ o.after, Region.binds .any e = true ∧ e.on = j := by
  simp only [waits, hi, Option.map_some, Option.getD_some]
  rw [Array.any_eq_true]
  constructor
  · rintro ⟨k, hk, h⟩
    simp only [Bool.and_eq_true, beq_iff_eq] at h
    exact ⟨o.after[k], Array.getElem_mem hk, h.1, h.2⟩
  · rintro ⟨e, he, h1, h2⟩
    obtain ⟨k, hk, rfl⟩ := Array.getElem_of_mem he
    exact ⟨k, hk, by simp [h1, h2]⟩
theorem filter_less {p q : Nat → Bool} {i : Nat} (hp : p i = true) (hq : q i = false) : ∀ (l : List Nat), (∀ j ∈ l, q j = true → p j = true) → (l.filter q).length ≤ (l.filter p).length ∧ (i ∈ l → (l.filter q).length < (l.filter p).length)
  | [], _ => by simp
  | x :: l, h => by
    obtain ⟨h1, h2⟩ := filter_less hp hq l fun j hj => h j (by simp [hj])
    have hx := h x (by simp)
    by_cases e : i = x
    · subst e
      simp only [List.filter_cons, hp, hq, if_true, Bool.false_eq_true, if_false, List.length_cons]
      omega
    · cases hqx : q x with
      | true =>
        simp only [List.filter_cons, hqx, hx hqx, if_true, List.length_cons]
        refine ⟨by omega, fun hm => ?_⟩
        have := h2 (by simpa [e] using hm)
        omega
      | false =>
        cases hpx : p x with
        | true =>
          simp only [List.filter_cons, hqx, hpx, if_true, Bool.false_eq_true, if_false, List.length_cons]
          exact ⟨by omega, fun _ => by omega⟩
        | false =>
          simp only [List.filter_cons, hqx, hpx, Bool.false_eq_true, if_false]
          exact ⟨h1, fun hm => h2 (by simpa [e] using hm)⟩
theorem repl_false (n j : Nat) : (Array.replicate n false).getD j false = false := by
  simp only [Array.getD_eq_getD_getElem?, Array.getElem?_replicate]
  split <;> rfl

theorem wpAny_fixed {Q : Exit → Act → World → Prop} {a0 : Act} {w0 : World} {vs : Nat → Value} (hd : dstApart ops = true) (hl : looksOk ops = true) (hcl : ∀ w w', F w → Ext w w' → F w')
    (hst : ∀ i o, ops[i]? = some o → (Region.wanted o (yielded ops (frameTo ops vs a0 i).tmps) = true ∧ StepOK P F o (frameTo ops vs a0 i) (vs i)) ∨ (Region.wanted o (yielded ops (frameTo ops vs a0 i).tmps) = false ∧ vs i = undef))
    (hQ : ∀ w, Ext w0 w → F w → Q .normal (frameTo ops vs a0 ops.size) w) :
    ∀ (fuel : Nat) (listed : Array Bool) (w : World), listed.size = ops.size → ((List.range ops.size).filter fun j => !listed.getD j true).length ≤ fuel →
      (∀ i j, listed.getD i false = true → waits ops i j = true → listed.getD j false = true) → F w → Ext w0 w →
      wpAny P .any ops Q fuel listed (frameOf ops vs (fun j => listed.getD j false) a0 ops.size) w := by
  -- whoever is not listed: the first of them may come up
  have first : ∀ listed : Array Bool, listed.size = ops.size → Region.ready .any ops listed = [] → ∀ i, i < ops.size → listed.getD i false = true := by
    intro listed hs hr i
    induction i using Nat.strongRecOn with
    | _ i ih =>
      intro hi
      cases hb : listed.getD i false with
      | true => rfl
      | false =>
        have ho : ops[i]? = some ops[i] := Array.getElem?_eq_getElem hi
        have hmem : i ∈ Region.ready .any ops listed := mem_ready.2 ⟨by
          have hli : i < listed.size := by omega
          simpa [Array.getD_eq_getD_getElem?, hli] using hb, _, ho, fun e he hbd => by
            have hl' := hl
            unfold looksOk at hl'
            rw [List.all_eq_true] at hl'
            have h1 := hl' i (by simpa using hi)
            rw [ho] at h1
            simp only [Bool.and_eq_true] at h1
            have h2 := h1.1.2
            have h3 := (Array.all_eq_true_iff_forall_mem.1 h2) e he
            rw [hbd] at h3
            simp at h3
            exact ih e.on h3 (by omega)⟩
        rw [hr] at hmem
        cases hmem
  have fin : ∀ (listed : Array Bool) (w : World), listed.size = ops.size → F w → Ext w0 w → Region.ready .any ops listed = [] → Q .normal (frameOf ops vs (fun j => listed.getD j false) a0 ops.size) w := by
    intro listed w hs hF hx hr
    have : frameOf ops vs (fun j => listed.getD j false) a0 ops.size = frameTo ops vs a0 ops.size := frame_congr _ fun j hj => first listed hs hr j hj
    rw [this]
    exact hQ w hx hF
  intro fuel
  induction fuel with
  | zero =>
    intro listed w hs hn hcld hF hx
    have hr : Region.ready .any ops listed = [] := by
      rw [List.eq_nil_iff_forall_not_mem]
      intro i hi
      obtain ⟨h0, o, ho, _⟩ := mem_ready.1 hi
      have : i ∈ (List.range ops.size).filter fun j => !listed.getD j true := List.mem_filter.2 ⟨by simpa using (Array.getElem?_eq_some_iff.1 ho).1, by simp [h0]⟩
      rw [List.eq_nil_of_length_eq_zero (Nat.le_zero.1 hn)] at this
      cases this
    exact ⟨hr, fin listed w hs hF hx hr⟩
  | succ fuel ih =>
    intro listed w hs hn hcld hF hx
    refine ⟨fin listed w hs hF hx, fun i hi => ?_⟩
    obtain ⟨h0, o, ho, hall⟩ := mem_ready.1 hi
    have hi' : i < ops.size := (Array.getElem?_eq_some_iff.1 ho).1
    have hLi : listed.getD i false = false := by
      have hli : i < listed.size := by omega
      simpa [Array.getD_eq_getD_getElem?, hli] using h0
    have hsel : isSelect o = false := by
      have hl' := hl
      unfold looksOk at hl'
      rw [List.all_eq_true] at hl'
      have h1 := hl' i (by simpa using hi')
      rw [ho] at h1
      simp only [Bool.and_eq_true, Bool.not_eq_true'] at h1
      exact h1.1.1
    refine wpOp_fixed (b := frameTo ops vs a0 i) ho hsel ?_ hF (hst i o ho) ?_
    · intro t ht
      rw [frameTo_eq ops.size (by omega)]
      refine frames_agree hd hl ho ?_ ?_ ⟨hLi, by simp⟩ ht
      · intro j hj hw
        obtain ⟨e, he, hb, rfl⟩ := (waits_spec ho).1 hw
        exact ⟨hall e he hb, by simp [hj]⟩
      · intro j hj hw
        refine ⟨?_, by simp; omega⟩
        cases hb : listed.getD j false with
        | false => rfl
        | true => rw [hcld j i hb hw] at hLi; cases hLi
    · intro w' hx'
      have hmore := frame_more hd (vs := vs) (L := fun j => listed.getD j false) (a0 := a0) hLi ops.size hi'
      have hput : (ops[i]?).bind (·.dst) = o.dst := by rw [ho]; rfl
      rw [hput] at hmore
      rw [← hmore]
      have hset : ∀ j, (listed.setIfInBounds i true).getD j false = (j == i || listed.getD j false) := fun j => by
        by_cases e : j = i
        · subst e
          have : j < listed.size := by omega
          simp [Array.getD_eq_getD_getElem?, this]
        · rw [getD_set_ne false (fun h => e h.symm)]
          have : (j == i) = false := by simpa using e
          rw [this, Bool.false_or]
      rw [show frameOf ops vs (fun j => j == i || listed.getD j false) a0 ops.size = frameOf ops vs (fun j => (listed.setIfInBounds i true).getD j false) a0 ops.size from frame_congr _ fun j _ => (hset j).symm]
      refine ih _ _ (by simpa using hs) ?_ ?_ (hcl w w' hF hx') (hx.trans hx')
      · have hlen : ((List.range ops.size).filter fun j => !(listed.setIfInBounds i true).getD j true).length < ((List.range ops.size).filter fun j => !listed.getD j true).length := by
          have hsz : i < listed.size := by omega
          refine (filter_less (p := fun j => !listed.getD j true) (q := fun j => !(listed.setIfInBounds i true).getD j true) (i := i) (by simp only [h0]; rfl) (by simp [Array.getD_eq_getD_getElem?, hsz]) _ ?_).2 (by simpa using hi')
          intro j hj hj'
          by_cases e : i = j
          · subst e
            simp [Array.getD_eq_getD_getElem?, hsz] at hj'
          · rw [getD_set_ne true e] at hj'; exact hj'
        omega
      · intro k j hk hw
        rw [hset] at hk ⊢
        by_cases e : k = i
        · subst e
          obtain ⟨e, he, hb, rfl⟩ := (waits_spec ho).1 hw
          rw [hall e he hb]; simp
        · have : (k == i) = false := by simpa using e
          rw [this, Bool.false_or] at hk
          rw [hcld k j hk hw]; simp

/-- **A region walked once**, whether its order is drawn or not. -/
theorem wp_region_fixed {Q : Exit → Act → World → Prop} {id : Nat} {l : List Oper} {draw : Bool} {a : Act} {w : World} (hm : P.follows .mixedOrders = true) (hok : fixedOk l.toArray = true)
    (hcl : ∀ w w', F w → Ext w w' → F w') (hF : F w) (h : Fixed P l.toArray F (fun a' => ∀ w', Ext w w' → F w' → Q .normal a' w') l a) : (Code.region id l.toArray draw).wp P Q a w := by
  have hd : dstApart l.toArray = true := by simp only [fixedOk, Bool.and_eq_true] at hok; exact hok.1
  have hl : looksOk l.toArray = true := by simp only [fixedOk, Bool.and_eq_true] at hok; exact hok.2
  obtain ⟨vs, _, hK, hst⟩ := Fixed.values (a0 := a) l 0 (fun _ => undef) (by simp) (by simp) h
  cases draw with
  | true =>
    refine wp_region_any hm ?_
    have := wpAny_fixed (Q := Q) hd hl hcl (fun i o ho => hst i o (Nat.zero_le _) ho) hK l.toArray.size (Array.replicate l.toArray.size false) w.drew (by simp) (by
      have := List.length_filter_le (fun j => !(Array.replicate l.toArray.size false).getD j true) (List.range l.toArray.size)
      simpa using this) (fun i j hi => by rw [repl_false] at hi; cases hi) (hcl w w.drew hF ((Ext.refl w).drew)) ((Ext.refl w).drew)
    rw [frame_congr (M := fun _ => false) l.toArray.size (fun j hj => repl_false _ _)] at this
    rw [show frameOf l.toArray vs (fun _ => false) a l.toArray.size = a from by
      generalize l.toArray.size = n
      induction n with
      | zero => rfl
      | succ n ih => unfold frameOf; simpa using ih] at this
    exact this
  | false =>
    refine wp_region ?_
    have key : ∀ (n : Nat) (w' : World), n ≤ l.toArray.size → Ext w w' → F w' → wpOps P l.toArray Q (List.range' (l.toArray.size - n) n) (frameTo l.toArray vs a (l.toArray.size - n)) w' := by
      intro n
      induction n with
      | zero => intro w' _ hx hF'; exact hK w' hx hF'
      | succ n ih =>
        intro w' hn hx hF'
        rw [List.range'_succ, wpOps_cons]
        have hlt : l.toArray.size - (n + 1) < l.toArray.size := by omega
        have ho : l.toArray[l.toArray.size - (n + 1)]? = some l.toArray[l.toArray.size - (n + 1)] := Array.getElem?_eq_getElem hlt
        have hsel : isSelect l.toArray[l.toArray.size - (n + 1)] = false := by
          have hl' := hl
          unfold looksOk at hl'
          rw [List.all_eq_true] at hl'
          have h1 := hl' _ (List.mem_range.2 hlt)
          rw [ho] at h1
          simp only [Bool.and_eq_true, Bool.not_eq_true'] at h1
          exact h1.1.1
        refine wpOp_fixed ho hsel (fun _ _ => rfl) hF' (hst _ _ (Nat.zero_le _) ho) fun w'' hx' => ?_
        have := ih w'' (by omega) (hx.trans hx') (hcl _ _ hF' hx')
        rw [show l.toArray.size - n = l.toArray.size - (n + 1) + 1 by omega] at this
        unfold frameTo at this
        conv at this => arg 5; unfold frameOf
        rw [if_pos rfl, ho] at this
        exact this
    have := key l.toArray.size w (Nat.le_refl _) (Ext.refl w) hF
    rw [Nat.sub_self] at this
    rw [List.range_eq_range']
    exact this
end
end Go.Proofs.YtcpnnffnkegamaaGreatDoor

/- A list turned round by exchanging its ends, step by step. Plain. -/
namespace Go.Proofs.YtcpnnffnkegamaaGreatDoor
set_option linter.all false

def swp {α : Type} (xs : List α) : Nat → List α
  | 0 => xs
  | k + 1 => match xs[k]?, xs[xs.length - 1 - k]? with
    | some x, some y => ((swp xs k).set k y).set (xs.length - 1 - k) x
    | _, _ => swp xs k
theorem swp_len {α : Type} (xs : List α) : ∀ k, (swp xs k).length = xs.length
  | 0 => rfl
  | k + 1 => by
    rw [swp]
    split <;> simp [swp_len xs k]
theorem swp_at {α : Type} (xs : List α) : ∀ k, k ≤ xs.length / 2 → ∀ j, j < xs.length →
    (swp xs k)[j]? = if j < k ∨ xs.length - 1 - j < k then xs[xs.length - 1 - j]? else xs[j]?
  | 0, _, j, hj => by simp [swp]
  | k + 1, hk, j, hj => by
    have ih := swp_at xs k (by omega) j hj
    have h1 : xs[k]? = some xs[k] := List.getElem?_eq_getElem (by omega)
    have h2 : xs[xs.length - 1 - k]? = some xs[xs.length - 1 - k] := List.getElem?_eq_getElem (by omega)
    rw [swp, h1, h2]
    simp only [List.getElem?_set, List.length_set, swp_len]
    by_cases a : xs.length - 1 - k = j
    · subst a
      rw [if_pos rfl, if_pos (by omega), if_pos (by omega), show xs.length - 1 - (xs.length - 1 - k) = k by omega, h1]
    · by_cases b : k = j
      · subst b
        rw [if_neg a, if_pos rfl, if_pos (by omega), if_pos (by omega), h2]
      · rw [if_neg a, if_neg b, ih]
        by_cases c : j < k ∨ xs.length - 1 - j < k
        · rw [if_pos c, if_pos (by omega)]
        · rw [if_neg c, if_neg (by omega)]
theorem swp_half {α : Type} (xs : List α) : swp xs (xs.length / 2) = xs.reverse := by
  apply List.ext_getElem?
  intro j
  by_cases hj : j < xs.length
  · rw [swp_at xs _ (Nat.le_refl _) j hj, List.getElem?_reverse hj]
    by_cases c : j < xs.length / 2 ∨ xs.length - 1 - j < xs.length / 2
    · rw [if_pos c]
    · rw [if_neg c, show xs.length - 1 - j = j by omega]
  · rw [List.getElem?_eq_none (by rw [swp_len]; omega), List.getElem?_eq_none (by simp; omega)]
theorem swp_mid {α : Type} (xs : List α) (k : Nat) (hk : k < xs.length / 2) (x y : α) (hx : xs[k]? = some x) (hy : xs[xs.length - 1 - k]? = some y) :
    (swp xs k)[k]? = some x ∧ (swp xs k)[xs.length - 1 - k]? = some y ∧ swp xs (k + 1) = ((swp xs k).set k y).set (xs.length - 1 - k) x := by
  refine ⟨?_, ?_, by rw [swp, hx, hy]⟩
  · rw [swp_at xs k (by omega) k (by omega), if_neg (by omega), hx]
  · rw [swp_at xs k (by omega) _ (by omega), if_neg (by omega), hy]
end Go.Proofs.YtcpnnffnkegamaaGreatDoor

/- value.itoa: it writes a number in decimal digits. -/
namespace Go.Proofs.YtcpnnffnkegamaaGreatDoor
set_option linter.all false
set_option linter.unusedSimpArgs false
set_option linter.unusedVariables false
open Go.RowKit
/-- the digits of a number, the least one first -/
def revDig (u : Nat) : List UInt8 := UInt8.ofNat (48 + u % 10) :: (if u / 10 = 0 then [] else revDig (u / 10))
termination_by u
decreasing_by omega
def B8 (c : UInt8) : Value := .int .u8 (c.toNat : Int)
theorem Tryz.elem_bytes : Elem Tryz.prog 132 5 1 1 := by
  obtain ⟨i0, hi0, hz0, hz1, hz2⟩ := info_parts (show (Tryz.prog.info? 5).map (fun i => (i.zero, i.size, i.bytes)) = some (some (.int .u8 0), 1, 1) by kernel_rfl)
  exact ⟨Tryz.underlying132, ⟨i0, _, hi0, hz0, hz1, hz2, rfl⟩, by omega⟩
theorem revDig_len (k : Nat) : ∀ u, u < 10 ^ k → (revDig u).length ≤ k + 1 := by
  induction k with
  | zero => intro u h; rw [revDig]; simp at h; subst h; simp
  | succ k ih =>
    intro u h
    rw [revDig]
    by_cases h0 : u / 10 = 0
    · simp [h0]
    · have := ih (u / 10) (by rw [Nat.pow_succ] at h; omega)
      simp [h0]; exact this
theorem revDig_last (m : Nat) (h : m / 10 = 0) : revDig m = [UInt8.ofNat (48 + m % 10)] := by rw [revDig]; simp [h]
theorem revDig_step (m : Nat) (h : m / 10 ≠ 0) : revDig m = UInt8.ofNat (48 + m % 10) :: revDig (m / 10) := by rw [revDig]; simp [h]
theorem dig_cell (m : Nat) : Value.int .u8 (48 + (m : Int) % 10) = B8 (UInt8.ofNat (48 + m % 10)) := by
  unfold B8
  congr 1
  rw [UInt8.toNat_ofNat']
  omega

/-- the letters of a number -/
def itoaL (n : Int) : List UInt8 := (revDig n.natAbs ++ if n < 0 then [45] else []).reverse
def itoaS (n : Int) : ByteArray := ⟨(itoaL n).toArray⟩
theorem negU (n : Int) (h0 : n < 0) (h1 : -9223372036854775808 ≤ n) : Value.int .u64 (IntKind.u64.wrap (-IntKind.u64.wrap n)) = .int .u64 (n.natAbs : Int) := by
  congr 1
  simp [IntKind.wrap, IntKind.bits, IntKind.signed]
  omega

def ItoaRel (B u0 : Nat) (w : World) (b u : Value) (wr : World) : Prop :=
  ∃ (pre : List UInt8) (m : Nat), u = .int .u64 m ∧ m ≤ u0 ∧ Mk B w wr 5 1 b pre.length (pre.map B8) ∧ pre ++ revDig m = revDig u0

set_option maxHeartbeats 8000000 in
theorem itoa_pos (n : Int) (w : World) (h0 : 0 ≤ n) (h1 : n ≤ 9223372036854775807) :
    Calls Tryz.prog 83 #[.int .i64 n] w fun e w' => e = .returned (.string (itoaS n)) ∧ Ext w w' := by
  go_enter Tryz.func83, Tryz.ntmps83
  go_wp2
  go_loopw [3, 4] (fun b u wr => ItoaRel w.heap.size n.natAbs w b u wr) (fun _ u _ => (intOf u).toNat)
  case atStart => exact ⟨[], n.natAbs, by rw [Int.natAbs_of_nonneg h0], Nat.le_refl _, Mk.nil (Below.refl _ _) (Nat.le_refl _), rfl⟩
  case round =>
    obtain ⟨pre, m, rfl, hm, hM, hpre⟩ := hrel
    have hl : pre.length ≤ 25 := by
      have := congrArg List.length hpre
      have := revDig_len 20 n.natAbs (by omega)
      simp at *; omega
    have Hp := Lib.hid hpre; clear hpre
    have hm3 : (m : Int) ≤ 9223372036854775807 := by omega
    by_cases hz : m / 10 = 0
    · have b1 : ((m : Int) / 10 == 0) = true := by simp; omega
      clear hz
      go_wp2_with (at_builtin; refine wpList_push Tryz.elem_bytes rfl (.tmp 12) (.tmp 17) rfl [.int .u8 (48 + (m : Int) % 10)] hM _ rfl rfl rfl rfl (by simp [Value.oneCell']) (by omega) (by omega) ?_; intro g cap w1 hM1 _ _)
      rw [dig_cell] at hM1
      have hM2 : Mk w.heap.size w w1 5 1 (.slice (some ⟨g, 0, none⟩) (pre.length + 1) cap) (pre.length + 1) ((revDig n.natAbs).map B8) := by
        rw [← Hp.out, revDig_last m (by simp at b1; omega)]
        simpa [B8] using hM1
      clear hM1 hM Hp
      have hlen : (revDig n.natAbs).length ≤ 25 := Nat.le_trans (revDig_len 20 n.natAbs (by omega)) (by omega)
      obtain ⟨ds, hds⟩ : ∃ ds, ds = revDig n.natAbs := ⟨_, rfl⟩
      rw [← hds] at hM2
      have Hds := Lib.hid hds; clear hds
      go_wp2
      have hL : ds.length = pre.length + 1 := by have := hM2.own.1; simp at this; exact this
      have HL := Lib.hid hL; clear hL
      have hfin : itoaS n = ⟨(swp ds ((pre.length + 1) / 2)).toArray⟩ := by rw [← HL.out, swp_half, Hds.out]; simp [itoaS, itoaL, show ¬ n < 0 by omega]
      have FIN := Lib.hid hfin; clear hfin
      go_loopw [5, 31] (fun _ i wr2 => ∃ k : Nat, i = .int .i64 k ∧ k ≤ (pre.length + 1) / 2 ∧ Mk w.heap.size w wr2 5 1 (.slice (some ⟨g, 0, none⟩) (pre.length + 1) cap) (pre.length + 1) ((swp ds k).map B8)) (fun _ i _ => (pre.length + 1) - (intOf i).toNat)
      case atStart => exact ⟨0, rfl, by omega, hM2⟩
      case round =>
        obtain ⟨k, rfl, hk, hM3⟩ := hrel
        by_cases hlt : k < (pre.length + 1) / 2
        · have hx : ds[k]? = some (ds[k]'(by have := HL.out; omega)) := List.getElem?_eq_getElem _
          have hy : ds[pre.length - k]? = some (ds[pre.length - k]'(by have := HL.out; omega)) := List.getElem?_eq_getElem _
          obtain ⟨m1, m2, m3⟩ := swp_mid ds k (by have := HL.out; omega) _ _ hx (by rw [show ds.length - 1 - k = pre.length - k by have := HL.out; omega]; exact hy)
          rw [show ds.length - 1 - k = pre.length - k by have := HL.out; omega] at m2 m3
          generalize ds[k]'(by have := HL.out; omega) = x at m1 m2 m3
          generalize ds[pre.length - k]'(by have := HL.out; omega) = y at m1 m2 m3
          clear hx hy
          have hc1 : wr.cell? ⟨g, k, none⟩ = some (.int .u8 (x.toNat : Int)) := by rw [hM3.own.cellAt k (by omega)]; simp [m1, B8]
          have hc2 : wr.cell? ⟨g, pre.length - k, none⟩ = some (.int .u8 (y.toNat : Int)) := by rw [hM3.own.cellAt _ (by omega)]; simp [m2, B8]
          have hf1 := hM3.own.frozenAt k
          have hf2 := hM3.own.frozenAt (pre.length - k)
          have M3 := Lib.hid m3; clear m1 m2 m3
          have hM4 : Mk w.heap.size w ((wr.drew.setCell ⟨g, k, none⟩ (B8 y)).setCell ⟨g, pre.length - k, none⟩ (B8 x)) 5 1 (.slice (some ⟨g, 0, none⟩) (pre.length + 1) cap) (pre.length + 1) ((swp ds (k + 1)).map B8) := by
            rw [M3.out, List.map_set, List.map_set]
            exact (hM3.drew.stored k _).stored _ _
          clear hM3 M3
          go_wp2
          go_region
          go_wp2
          go_roundw
          case rel => exact ⟨k + 1, by simp, by omega, hM4⟩
          case measure => simp [intOf]; omega
        · obtain rfl : k = (pre.length + 1) / 2 := by omega
          have hstr := run_string_own (P := Tryz.prog) Tryz.underlying132 Tryz.underlying5 Tryz.underlying9 (swp ds ((pre.length + 1) / 2)) hM3.own
          go_wp2
          go_ret
          exact ⟨by rw [FIN.out]; rfl, hM3.ext⟩
    · have b1 : ((m : Int) / 10 == 0) = false := by simp; omega
      have Hz := Lib.hid hz
      clear hz
      go_wp2_with (at_builtin; refine wpList_push Tryz.elem_bytes rfl (.tmp 12) (.tmp 17) rfl [.int .u8 (48 + (m : Int) % 10)] hM _ rfl rfl rfl rfl (by simp [Value.oneCell']) (by omega) (by omega) ?_; intro g cap w1 hM1 _ _)
      rw [dig_cell] at hM1
      go_roundw
      case rel => exact ⟨pre ++ [UInt8.ofNat (48 + m % 10)], m / 10, by simp, by omega, by simpa using hM1, by rw [← Hp.out, revDig_step m Hz.out]; simp⟩
      case measure => simp [intOf]; have := Hz.out; omega
set_option maxHeartbeats 8000000 in
theorem itoa_neg (n : Int) (w : World) (h0 : n < 0) (h1 : -9223372036854775808 ≤ n) :
    Calls Tryz.prog 83 #[.int .i64 n] w fun e w' => e = .returned (.string (itoaS n)) ∧ Ext w w' := by
  go_enter Tryz.func83, Tryz.ntmps83
  go_wp2
  go_loopw [3, 4] (fun b u wr => ItoaRel w.heap.size n.natAbs w b u wr) (fun _ u _ => (intOf u).toNat)
  case atStart => exact ⟨[], n.natAbs, negU n h0 h1, Nat.le_refl _, Mk.nil (Below.refl _ _) (Nat.le_refl _), rfl⟩
  case round =>
    obtain ⟨pre, m, rfl, hm, hM, hpre⟩ := hrel
    have hl : pre.length ≤ 25 := by
      have := congrArg List.length hpre
      have := revDig_len 20 n.natAbs (by omega)
      simp at *; omega
    have Hp := Lib.hid hpre; clear hpre
    have hm3 : (m : Int) ≤ 9223372036854775808 := by omega
    by_cases hz : m / 10 = 0
    · have b1 : ((m : Int) / 10 == 0) = true := by simp; omega
      clear hz
      go_wp2_with (first | (at_builtin; refine wpList_push Tryz.elem_bytes rfl (.tmp 25) (.tmp 26) rfl [.int .u8 45] hM1 _ rfl rfl rfl rfl (by simp [Value.oneCell']) (by omega) (by omega) ?_; intro g2 cap2 w2 hM9 _ _) | (at_builtin; refine wpList_push Tryz.elem_bytes rfl (.tmp 12) (.tmp 17) rfl [.int .u8 (48 + (m : Int) % 10)] hM _ rfl rfl rfl rfl (by simp [Value.oneCell']) (by omega) (by omega) ?_; intro g cap w1 hM1 _ _))
      rw [dig_cell] at hM9
      have hM2 : Mk w.heap.size w w2 5 1 (.slice (some ⟨g2, 0, none⟩) (pre.length + 1 + 1) cap2) (pre.length + 1 + 1) ((revDig n.natAbs ++ [45]).map B8) := by
        rw [← Hp.out, revDig_last m (by simp at b1; omega)]
        simpa [B8] using hM9
      clear hM9 hM1 hM Hp
      have hlen : (revDig n.natAbs).length ≤ 25 := Nat.le_trans (revDig_len 20 n.natAbs (by omega)) (by omega)
      obtain ⟨ds, hds⟩ : ∃ ds, ds = revDig n.natAbs ++ [45] := ⟨_, rfl⟩
      rw [← hds] at hM2
      have Hds := Lib.hid hds; clear hds
      go_wp2
      have hL : ds.length = pre.length + 1 + 1 := by have := hM2.own.1; simp at this; exact this
      have HL := Lib.hid hL; clear hL
      have hfin : itoaS n = ⟨(swp ds ((pre.length + 1 + 1) / 2)).toArray⟩ := by rw [← HL.out, swp_half, Hds.out]; simp [itoaS, itoaL, h0]
      have FIN := Lib.hid hfin; clear hfin
      go_loopw [5, 31] (fun _ i wr2 => ∃ k : Nat, i = .int .i64 k ∧ k ≤ (pre.length + 1 + 1) / 2 ∧ Mk w.heap.size w wr2 5 1 (.slice (some ⟨g2, 0, none⟩) (pre.length + 1 + 1) cap2) (pre.length + 1 + 1) ((swp ds k).map B8)) (fun _ i _ => (pre.length + 1 + 1) - (intOf i).toNat)
      case atStart => exact ⟨0, rfl, by omega, hM2⟩
      case round =>
        obtain ⟨k, rfl, hk, hM3⟩ := hrel
        by_cases hlt : k < (pre.length + 1 + 1) / 2
        · have hx : ds[k]? = some (ds[k]'(by have := HL.out; omega)) := List.getElem?_eq_getElem _
          have hy : ds[pre.length + 1 - k]? = some (ds[pre.length + 1 - k]'(by have := HL.out; omega)) := List.getElem?_eq_getElem _
          obtain ⟨m1, m2, m3⟩ := swp_mid ds k (by have := HL.out; omega) _ _ hx (by rw [show ds.length - 1 - k = pre.length + 1 - k by have := HL.out; omega]; exact hy)
          rw [show ds.length - 1 - k = pre.length + 1 - k by have := HL.out; omega] at m2 m3
          generalize ds[k]'(by have := HL.out; omega) = x at m1 m2 m3
          generalize ds[pre.length + 1 - k]'(by have := HL.out; omega) = y at m1 m2 m3
          clear hx hy
          have hc1 : wr.cell? ⟨g2, k, none⟩ = some (.int .u8 (x.toNat : Int)) := by rw [hM3.own.cellAt k (by omega)]; simp [m1, B8]
          have hc2 : wr.cell? ⟨g2, pre.length + 1 - k, none⟩ = some (.int .u8 (y.toNat : Int)) := by rw [hM3.own.cellAt _ (by omega)]; simp [m2, B8]
          have hf1 := hM3.own.frozenAt k
          have hf2 := hM3.own.frozenAt (pre.length + 1 - k)
          have M3 := Lib.hid m3; clear m1 m2 m3
          have hM4 : Mk w.heap.size w ((wr.drew.setCell ⟨g2, k, none⟩ (B8 y)).setCell ⟨g2, pre.length + 1 - k, none⟩ (B8 x)) 5 1 (.slice (some ⟨g2, 0, none⟩) (pre.length + 1 + 1) cap2) (pre.length + 1 + 1) ((swp ds (k + 1)).map B8) := by
            rw [M3.out, List.map_set, List.map_set]
            exact (hM3.drew.stored k _).stored _ _
          clear hM3 M3
          go_wp2
          go_region
          go_wp2
          go_roundw
          case rel => exact ⟨k + 1, by simp, by omega, hM4⟩
          case measure => simp [intOf]; omega
        · obtain rfl : k = (pre.length + 1 + 1) / 2 := by omega
          have hstr := run_string_own (P := Tryz.prog) Tryz.underlying132 Tryz.underlying5 Tryz.underlying9 (swp ds ((pre.length + 1 + 1) / 2)) hM3.own
          go_wp2
          go_ret
          exact ⟨by rw [FIN.out]; rfl, hM3.ext⟩
    · have b1 : ((m : Int) / 10 == 0) = false := by simp; omega
      have Hz := Lib.hid hz
      clear hz
      go_wp2_with (at_builtin; refine wpList_push Tryz.elem_bytes rfl (.tmp 12) (.tmp 17) rfl [.int .u8 (48 + (m : Int) % 10)] hM _ rfl rfl rfl rfl (by simp [Value.oneCell']) (by omega) (by omega) ?_; intro g cap w1 hM1 _ _)
      rw [dig_cell] at hM1
      go_roundw
      case rel => exact ⟨pre ++ [UInt8.ofNat (48 + m % 10)], m / 10, by simp, by omega, by simpa using hM1, by rw [← Hp.out, revDig_step m Hz.out]; simp⟩
      case measure => simp [intOf]; have := Hz.out; omega

theorem itoa_any (n : Int) (w : World) (h0 : -9223372036854775808 ≤ n) (h1 : n ≤ 9223372036854775807) :
    Calls Tryz.prog 83 #[.int .i64 n] w fun e w' => e = .returned (.string (itoaS n)) ∧ Ext w w' := by
  by_cases h : n < 0
  · exact itoa_neg n w h h0
  · exact itoa_pos n w (by omega) h1
end Go.Proofs.YtcpnnffnkegamaaGreatDoor

/- value.Print, value.Right: what each call answers; the world has at most new blocks. -/
namespace Go.Proofs.YtcpnnffnkegamaaGreatDoor
set_option linter.all false
set_option linter.unusedSimpArgs false
set_option linter.unusedVariables false
open Go.RowKit
/-- what value.Print answers -/
def printL (k n : Int) (s : ByteArray) : List UInt8 := if k = 1 then itoaL n else if k = 2 then 39 :: s.data.toList ++ [39] else [110, 117, 108, 108]
def printS (k n : Int) (s : ByteArray) : ByteArray := ⟨(printL k n s).toArray⟩

set_option maxHeartbeats 8000000 in
theorem print_any (k n : Int) (s : ByteArray) (w : World) (h0 : -9223372036854775808 ≤ n) (h1 : n ≤ 9223372036854775807) (hs : s.size ≤ 140737488355328) :
    Calls Tryz.prog 55 #[.agg #[.int .i64 k, .int .i64 n, .string s]] w fun e w' => e = .returned (.string (printS k n s)) ∧ Ext w w' := by
  by_cases hk : k = 1
  · subst hk
    go_enter Tryz.func55, Tryz.ntmps55
    go_wp2_with (go_at_call 83; refine (itoa_any _ _ h0 h1).mono ?_; rintro e w1 ⟨rfl, hw1⟩)
    go_ret
    refine ⟨rfl, ?_⟩
    (repeat (first | with_reducible exact Ext.refl _ | with_reducible assumption | with_reducible refine Ext.drew ?_ | with_reducible refine Ext.alloc ?_ _ | with_reducible refine Ext.drewN ?_ _ | refine Ext.trans ?_ (by with_reducible assumption)))
  · have b1 : (k == 1) = false := by simp [hk]
    by_cases hk2 : k = 2
    · subst hk2
      clear hk b1
      go_enter Tryz.func55, Tryz.ntmps55
      go_wp2_with fail
      go_ret
      refine ⟨?_, ?_⟩
      · refine congrArg (fun z => Ending.returned (Value.string z)) (?_ : _ = printS 2 n s)
        apply ByteArray.ext
        apply Array.toList_inj.1
        simp [printS, printL, ByteArray.data_append]
      · (repeat (first | with_reducible exact Ext.refl _ | with_reducible assumption | with_reducible refine Ext.drew ?_ | with_reducible refine Ext.alloc ?_ _ | with_reducible refine Ext.drewN ?_ _ | refine Ext.trans ?_ (by with_reducible assumption)))
    · have b2 : (k == 2) = false := by simp [hk2]
      have fin : printS k n s = ⟨#[110, 117, 108, 108]⟩ := by simp [printS, printL, hk, hk2]
      rw [fin]
      clear hk hk2 fin
      go_enter Tryz.func55, Tryz.ntmps55
      go_wp2_with fail
      go_ret
      refine ⟨rfl, ?_⟩
      (repeat (first | with_reducible exact Ext.refl _ | with_reducible assumption | with_reducible refine Ext.drew ?_ | with_reducible refine Ext.alloc ?_ _ | with_reducible refine Ext.drewN ?_ _ | refine Ext.trans ?_ (by with_reducible assumption)))
end Go.Proofs.YtcpnnffnkegamaaGreatDoor

/- Which texts a value may have: what the library's search for a letter finds. Plain. -/
namespace Go.Proofs.YtcpnnffnkegamaaGreatDoor
set_option linter.all false

/-- a letter that may not be -/
def badL (r : Nat) : Bool := decide (r < 32) || decide (126 < r) || decide (r = 39)
/-- all letters of a text may be -/
def okText (s : ByteArray) : Bool := s.data.toList.all fun c => !badL c.toNat

theorem idx_from (s : ByteArray) : ∀ (f pos : Nat), s.size ≤ pos + f →
    (Lib.idxFuncFrom badL true s f pos < 0 ↔ ∀ j (h : j < s.size), pos ≤ j → badL (s[j]'h).toNat = false) := by
  intro f
  induction f with
  | zero =>
    intro pos hp
    simp only [Lib.idxFuncFrom]
    constructor
    · intro _ j h hj; omega
    · intro _; omega
  | succ f ih =>
    intro pos hp
    unfold Lib.idxFuncFrom
    by_cases hps : pos < s.size
    · rw [if_pos hps]
      by_cases ha : (s[pos]'hps).toNat < 128
      · rw [decode_ascii s pos hps ha]
        cases hb : badL (s[pos]'hps).toNat with
        | true =>
          simp only [if_true]
          constructor
          · intro h; omega
          · intro h; have := h pos hps (Nat.le_refl _); rw [hb] at this; cases this
        | false =>
          simp only [Bool.false_eq_true, if_false]
          rw [ih (pos + 1) (by omega)]
          constructor
          · intro h j hj hpj
            rcases Nat.eq_or_lt_of_le hpj with rfl | hlt
            · exact hb
            · exact h j hj hlt
          · intro h j hj hpj; exact h j hj (by omega)
      · have hd := decode_high s pos hps (by omega)
        have h1 : badL (Utf8.decode s pos).1 = true := by
          have := hd.1
          simp [badL]; omega
        have h2 : badL (s[pos]'hps).toNat = true := by simp [badL]; omega
        rw [if_pos h1]
        constructor
        · intro h; omega
        · intro h; have := h pos hps (Nat.le_refl _); rw [h2] at this; cases this
    · rw [if_neg hps]
      constructor
      · intro _ j h hj; omega
      · intro _; omega
theorem idx_ok (s : ByteArray) : decide (Lib.idxFunc badL true s < 0) = okText s := by
  rw [Bool.eq_iff_iff]
  rw [decide_eq_true_eq, Lib.idxFunc, idx_from s s.size 0 (by omega)]
  unfold okText
  rw [List.all_eq_true]
  constructor
  · intro h c hc
    obtain ⟨j, hj, rfl⟩ := List.getElem_of_mem hc
    have hb := h j (by simpa using hj) (Nat.zero_le _)
    have e : s.data.toList[j] = s[j]'(by simpa using hj) := by simp; rfl
    rw [e, hb]; rfl
  · intro h j hj _
    have := h (s[j]) (by
      have : s[j] = s.data.toList[j]'(by simpa using hj) := by simp; rfl
      rw [this]; exact List.getElem_mem _)
    simpa using this
end Go.Proofs.YtcpnnffnkegamaaGreatDoor
