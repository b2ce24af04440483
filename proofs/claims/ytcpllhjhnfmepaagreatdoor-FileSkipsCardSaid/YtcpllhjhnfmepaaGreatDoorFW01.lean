/- Texts joined: Worlds that only grow. For any program. an error as Go has it. A value as Go has it. No program. DERIVED: THE SHELF's CONTRACTS AT THIS DUMP, IN PLAIN WORDS (tools/lay-plain.mjs out of 'TryzShelf.lean', which tools/lay-shelf.mjs wrote): THE SAME DECLARATIONS UNDER THE SAME NAMES: 'import', 'namespace', 'open', 'def', 'theorem' AND NOTHING ELSE: no command of the shelf's: FOR A HAND-IN. Each laying: the table of numbers ('.._ren') and one theorem, a field a fact of the dump's own or the kernel's comparison; each contract: ONE APPLICATION. The order of values: cmp.Compare, cmp.Or, value.Compare: what each call answers; the world has at most new blocks. value.Is and value.num: what each call answers; the world has at most new blocks. Slices that a call builds itself: appended to, read, made a string. Plain laws, for any program. That arguments read behind a call as before, if all that was there is as it was. Arguments that are values: what is read of them. An argument that is a slice: what its cells hold. A region whose operations only compute, read what stays as it was, or call what leaves all as it was: walked once, in the order of the text, whatever order is drawn. For any program. Which texts a value may have: what the library's search for a letter finds. Plain. -/
import Derived.WalkKit
import Derived.WalkSpells
import Derived.WalkLawsBesides
import Derived.Deep.RegionHeld3
import Derived.Deep.Draws
import Derived.Lib.Hide
import Derived.Test.YtcpllhjhnfmepaaGreatDoorProg
import Derived.Shelf.Strings.Trim
import Derived.Shelf.Small.Utf8
import Derived.Shelf.Small.Strs
import Derived.Shelf.Small.Wraps
import Derived.Shelf.Strings.Search1
import Derived.Shelf.GgClosure.StringsIndexFunc
import Derived.Ground.GgwProg
import Derived.Shelf.GgClosure.StringsIndexFuncTop
import Derived.Shelf.GgClosure.StringsRunes
import Derived.Shelf.Unicode.Decode
import Derived.Shelf.Strings.Runes
import Derived.Shelf.Strings.AsciiSet
import Derived.Shelf.Bits.Mul64
import Derived.Shelf.Unicode.DecodeSlow
import Derived.Shelf.Unicode.DecodeAny
import Derived.Shelf.Unicode.DecodeLast
import Derived.Shelf.Strings.FuncGrows
import Derived.Shelf.Slices.Turned
import Derived.Ground.Names2Prog
import Derived.Shelf.Slices.SearchI
import Derived.Ground.SlgnProg
import Derived.Shelf.SlicesG.SearchI
import Derived.Ground.SlgcProg
import Derived.Shelf.SlicesG.Cmp
import Derived.Maps.AppendAt
import Derived.Deep.AppendLies
import Derived.Laws.IdiomStrings
import Derived.Test.YtcpllhjhnfmepaaGreatDoorRows
import Derived.ProofKit
import Derived.SizedLaws
import Derived.Lib.SmallJoins
import Derived.Carry
import Derived.Deep.Slices
import Derived.Deep.Fields
import Derived.ChangeSame
import Derived.Orders
/- Worlds that only grow. For any program. -/
namespace Go.Proofs.YtcpllhjhnfmepaaGreatDoor
set_option linter.all false
open Go.RowKit

/-- w' is w with new blocks, whatever they hold: all that was there is as it was. -/
def Ext (w w' : World) : Prop := Below w.heap.size w w'

theorem Ext.out {w w' : World} (h : Ext w w') : Below w.heap.size w w' := h
theorem Ext.mk {w w' : World} (h : Below w.heap.size w w') : Ext w w' := h
@[simp] theorem Ext.refl (w : World) : Ext w w := Below.refl _ _
theorem Ext.trans {a b c : World} (h : Ext a b) (k : Ext b c) : Ext a c := Below.trans h (Below.mono k h.size)
@[simp] theorem Ext.drew {a w : World} (h : Ext a w) : Ext a w.drew := Below.drew h
@[simp] theorem Ext.drewN {a w : World} (h : Ext a w) (n : Nat) : Ext a (w.drewN n) := ⟨h.os, h.tape, h.output, h.size, h.block⟩
@[simp] theorem Ext.alloc {a w : World} (h : Ext a w) (o : Obj) : Ext a (w.alloc o) := Below.alloc h h.size o
theorem Ext.setCell {a w : World} (h : Ext a w) {p : Addr} (hp : a.heap.size ≤ p.block) (u : Value) : Ext a (w.setCell p u) := Below.setCell h hp u
theorem Ext.cell {a w : World} (h : Ext a w) {p : Addr} (hp : p.block < a.heap.size) : w.cell? p = a.cell? p := Below.cell h hp
theorem Ext.size {a w : World} (h : Ext a w) : a.heap.size ≤ w.heap.size := Below.size h

/-- a cell that holds something lies in a block -/
theorem lt_of_cell {w : World} {p : Addr} {v : Value} (h : w.cell? p = some v) : p.block < w.heap.size := by
  rcases Nat.lt_or_ge p.block w.heap.size with hlt | hge
  · exact hlt
  · simp [World.cell?, Array.getElem?_eq_none hge] at h
/-- a cell that holds something holds it later -/
theorem Ext.keeps {a w : World} (h : Ext a w) {p : Addr} {v : Value} (hc : a.cell? p = some v) : w.cell? p = some v := (h.cell (lt_of_cell hc)).trans hc

end Go.Proofs.YtcpllhjhnfmepaaGreatDoor

/- an error as Go has it. -/
namespace Go.Proofs.YtcpllhjhnfmepaaGreatDoor
set_option linter.all false
set_option linter.unusedSimpArgs false
set_option linter.unusedVariables false
open Go.RowKit
/-- an error as Go has it -/
abbrev errV (e : Int) : Value := if e = 0 then .nilIface else .iface 86 (.int .i64 e)
end Go.Proofs.YtcpllhjhnfmepaaGreatDoor

/- A value as Go has it. No program. -/
namespace Go.Proofs.YtcpllhjhnfmepaaGreatDoor
set_option linter.all false
/-- a value as Go has it -/
structure GV where
  kind : Int
  num : Int
  text : ByteArray

/-- what is a number of 64 bits -/
def i64 (n : Int) : Prop := -9223372036854775808 ≤ n ∧ n ≤ 9223372036854775807
end Go.Proofs.YtcpllhjhnfmepaaGreatDoor

/-
  DERIVED: THE SHELF's CONTRACTS AT THIS DUMP, IN PLAIN WORDS (tools/lay-plain.mjs out of 'TryzShelf.lean', which tools/lay-shelf.mjs wrote): THE SAME DECLARATIONS UNDER THE SAME NAMES: 'import', 'namespace', 'open', 'def', 'theorem' AND NOTHING ELSE: no command of the shelf's: FOR A HAND-IN. Each laying: the table of numbers ('.._ren') and one theorem, a field a fact of the dump's own or the kernel's comparison; each contract: ONE APPLICATION.
-/
namespace Go.Proofs
set_option linter.all false
open Go.Shelf
def Tryz.lays160_ren : Go.Shelf.Ren := ⟨fun | 160 => 74 | 232 => 98 | 231 => 97 | 227 => 99 | 234 => 101 | 233 => 100 | 236 => 103 | 235 => 102 | 228 => 115 | 271 => 118 | 151 => 117 | 197 => 116 | 120 => 122 | 152 => 121 | 260 => 120 | 137 => 73 | 119 => 123 | 224 => 124 | 225 => 125 | 217 => 96 | 266 => 114 | n => n, fun | 9 => 9 | 4 => 4 | 3 => 3 | 5 => 5 | 117 => 171 | 116 => 170 | 0 => 0 | 124 => 174 | 21 => 21 | 105 => 200 | 46 => 107 | 119 => 204 | 139 => 207 | 138 => 206 | n => n, fun | 3 => 4 | 4 => 5 | n => n⟩
theorem Tryz.lays160 : Go.Proofs.Lays.n160 Tryz.prog Tryz.lays160_ren := {
  mixed := by kernel_rfl
  f119 := Tryz.func123.trans (congrArg some (by kernel_rfl))
  f120 := Tryz.func122.trans (congrArg some (by kernel_rfl))
  f137 := Tryz.func73.trans (congrArg some (by kernel_rfl))
  f151 := Tryz.func117.trans (congrArg some (by kernel_rfl))
  f152 := Tryz.func121.trans (congrArg some (by kernel_rfl))
  f160 := Tryz.func74.trans (congrArg some (by kernel_rfl))
  f197 := Tryz.func116.trans (congrArg some (by kernel_rfl))
  f217 := Tryz.func96.trans (congrArg some (by kernel_rfl))
  f224 := Tryz.func124.trans (congrArg some (by kernel_rfl))
  f225 := Tryz.func125.trans (congrArg some (by kernel_rfl))
  f227 := Tryz.func99.trans (congrArg some (by kernel_rfl))
  f228 := Tryz.func115.trans (congrArg some (by kernel_rfl))
  f231 := Tryz.func97.trans (congrArg some (by kernel_rfl))
  f232 := Tryz.func98.trans (congrArg some (by kernel_rfl))
  f233 := Tryz.func100.trans (congrArg some (by kernel_rfl))
  f234 := Tryz.func101.trans (congrArg some (by kernel_rfl))
  f235 := Tryz.func102.trans (congrArg some (by kernel_rfl))
  f236 := Tryz.func103.trans (congrArg some (by kernel_rfl))
  f260 := Tryz.func120.trans (congrArg some (by kernel_rfl))
  f266 := Tryz.func114.trans (congrArg some (by kernel_rfl))
  f271 := Tryz.func118.trans (congrArg some (by kernel_rfl))
  t0 := Tryz.underlying0
  a0 := Tryz.isAgg0
  z0 := Tryz.sizeOf0
  v0 := Tryz.zeroValue0
  t3 := Tryz.underlying3
  a3 := Tryz.isAgg3
  z3 := Tryz.sizeOf3
  v3 := Tryz.zeroValue3
  t4 := Tryz.underlying4
  a4 := Tryz.isAgg4
  z4 := Tryz.sizeOf4
  v4 := Tryz.zeroValue4
  t5 := Tryz.underlying5
  a5 := Tryz.isAgg5
  z5 := Tryz.sizeOf5
  v5 := Tryz.zeroValue5
  t9 := Tryz.underlying9
  a9 := Tryz.isAgg9
  z9 := Tryz.sizeOf9
  v9 := Tryz.zeroValue9
  t21 := Tryz.underlying21
  a21 := Tryz.isAgg21
  z21 := Tryz.sizeOf21
  v21 := Tryz.zeroValue21
  t46 := Tryz.underlying107
  a46 := Tryz.isAgg107
  z46 := Tryz.sizeOf107
  v46 := Tryz.zeroValue107
  t105 := Tryz.underlying200
  a105 := Tryz.isAgg200
  z105 := Tryz.sizeOf200
  v105 := Tryz.zeroValue200
  t116 := Tryz.underlying170
  a116 := Tryz.isAgg170
  z116 := Tryz.sizeOf170
  t117 := Tryz.underlying171
  a117 := Tryz.isAgg171
  z117 := Tryz.sizeOf171
  v117 := Tryz.zeroValue171
  t119 := Tryz.underlying204
  a119 := Tryz.isAgg204
  z119 := Tryz.sizeOf204
  t124 := Tryz.underlying174
  a124 := Tryz.isAgg174
  z124 := Tryz.sizeOf174
  v124 := Tryz.zeroValue174
  t138 := Tryz.underlying206
  a138 := Tryz.isAgg206
  z138 := Tryz.sizeOf206
  v138 := Tryz.zeroValue206
  t139 := Tryz.underlying207
  a139 := Tryz.isAgg207
  z139 := Tryz.sizeOf207
  v139 := Tryz.zeroValue207
  g3 := by kernel_rfl
  g4 := by kernel_rfl }
def Tryz.lays106_ren : Go.Shelf.Ren := ⟨fun | 106 => 83 | 213 => 110 | 265 => 119 | n => n, fun | 9 => 9 | 3 => 3 | n => n, fun | n => n⟩
theorem Tryz.lays106 : Go.Proofs.Lays.n106 Tryz.prog Tryz.lays106_ren := {
  mixed := by kernel_rfl
  f106 := Tryz.func83.trans (congrArg some (by kernel_rfl))
  f213 := Tryz.func110.trans (congrArg some (by kernel_rfl))
  f265 := Tryz.func119.trans (congrArg some (by kernel_rfl))
  t3 := Tryz.underlying3
  a3 := Tryz.isAgg3
  z3 := Tryz.sizeOf3
  v3 := Tryz.zeroValue3
  t9 := Tryz.underlying9
  a9 := Tryz.isAgg9
  z9 := Tryz.sizeOf9
  v9 := Tryz.zeroValue9 }
open Go.RowKit in
/-- strings.Compare: "Compare returns an integer comparing two strings lexicographically. The result will be 0 if a == b, -1 if a < b, and +1 if a > b.": IT RETURNS 'Lib.compareBytes a b'; the world is as it was. (LAID: no walk: one application.) -/
theorem Tryz.strings_Compare (a b : ByteArray) (w : World) :
    Calls Tryz.prog 83 #[.string a, .string b] w fun e w' => e = .returned (.int .i64 (Lib.compareBytes a.data.toList b.data.toList)) ∧ w' = w := Any.strings_Compare Tryz.lays106 a b w
def Tryz.lays137_ren : Go.Shelf.Ren := ⟨fun | 137 => 73 | 217 => 96 | 266 => 114 | n => n, fun | 9 => 9 | 5 => 5 | 3 => 3 | n => n, fun | n => n⟩
theorem Tryz.lays137 : Go.Proofs.Lays.n137 Tryz.prog Tryz.lays137_ren := {
  mixed := by kernel_rfl
  f137 := Tryz.func73.trans (congrArg some (by kernel_rfl))
  f217 := Tryz.func96.trans (congrArg some (by kernel_rfl))
  f266 := Tryz.func114.trans (congrArg some (by kernel_rfl))
  t3 := Tryz.underlying3
  a3 := Tryz.isAgg3
  z3 := Tryz.sizeOf3
  v3 := Tryz.zeroValue3
  t5 := Tryz.underlying5
  a5 := Tryz.isAgg5
  z5 := Tryz.sizeOf5
  v5 := Tryz.zeroValue5
  t9 := Tryz.underlying9
  a9 := Tryz.isAgg9
  z9 := Tryz.sizeOf9
  v9 := Tryz.zeroValue9 }
open Go.RowKit in
/-- strings.IndexByte: "IndexByte returns the index of the first instance of c in s, or -1 if c is not present in s.": IT RETURNS 'Lib.indexByte s c'; the world is as it was. (LAID: no walk: one application.) -/
theorem Tryz.strings_IndexByte (s : ByteArray) (c : Int) (w : World) :
    Calls Tryz.prog 73 #[.string s, .int .u8 c] w fun e w' => e = .returned (.int .i64 (Lib.indexByte s.data.toList c.toNat.toUInt8)) ∧ w' = w := Any.strings_IndexByte Tryz.lays137 s c w
def Tryz.laysGw15_ren : Go.Shelf.Ren := ⟨fun | 15 => 76 | 20 => 104 | n => n, fun | 9 => 9 | 23 => 141 | 3 => 3 | 4 => 4 | 0 => 0 | 21 => 21 | n => n, fun | n => n⟩
theorem Tryz.laysGw15 : Go.Proofs.LaysGw.n15 Tryz.prog Tryz.laysGw15_ren := {
  mixed := by kernel_rfl
  f15 := Tryz.func76.trans (congrArg some (by kernel_rfl))
  f20 := Tryz.func104.trans (congrArg some (by kernel_rfl))
  t0 := Tryz.underlying0
  a0 := Tryz.isAgg0
  z0 := Tryz.sizeOf0
  v0 := Tryz.zeroValue0
  i0 := by kernel_rfl
  t3 := Tryz.underlying3
  a3 := Tryz.isAgg3
  z3 := Tryz.sizeOf3
  v3 := Tryz.zeroValue3
  i3 := by kernel_rfl
  t4 := Tryz.underlying4
  a4 := Tryz.isAgg4
  z4 := Tryz.sizeOf4
  v4 := Tryz.zeroValue4
  i4 := by kernel_rfl
  t9 := Tryz.underlying9
  a9 := Tryz.isAgg9
  z9 := Tryz.sizeOf9
  v9 := Tryz.zeroValue9
  i9 := by kernel_rfl
  t21 := Tryz.underlying21
  a21 := Tryz.isAgg21
  z21 := Tryz.sizeOf21
  v21 := Tryz.zeroValue21
  i21 := by kernel_rfl
  t23 := Tryz.underlying141
  a23 := Tryz.isAgg141
  z23 := Tryz.sizeOf141
  v23 := Tryz.zeroValue141
  i23 := by kernel_rfl }
open Go.RowKit Go.Lib in
theorem Tryz.strings_IndexFunc (g : Nat) (lb : Array Value) (eg : ∀ args w, (callFunc g args).run Tryz.prog w = .ok (.enter g args) w) (p : Nat → Bool) (s : ByteArray) (w : World) (hp : PredAt Tryz.prog g lb encR p w) :
    Calls Tryz.prog 76 #[.string s, .func (.func g) #[] lb] w fun e w' => e = .returned (.int .i64 (Lib.idxFunc p true s)) ∧ Below w.heap.size w w' := Any.strings_IndexFunc Tryz.laysGw15 g lb eg p s w hp
def Tryz.lays212_ren : Go.Shelf.Ren := ⟨fun | 212 => 78 | 263 => 105 | 264 => 106 | n => n, fun | 46 => 107 | 51 => 176 | 146 => 177 | 53 => 123 | 148 => 179 | n => n, fun | n => n⟩
theorem Tryz.lays212 : Go.Proofs.Lays.n212 Tryz.prog Tryz.lays212_ren := {
  mixed := by kernel_rfl
  f212 := Tryz.func78.trans (congrArg some (by kernel_rfl))
  f263 := Tryz.func105.trans (congrArg some (by kernel_rfl))
  f264 := Tryz.func106.trans (congrArg some (by kernel_rfl))
  t46 := Tryz.underlying107
  a46 := Tryz.isAgg107
  z46 := Tryz.sizeOf107
  v46 := Tryz.zeroValue107
  t51 := Tryz.underlying176
  a51 := Tryz.isAgg176
  z51 := Tryz.sizeOf176
  v51 := Tryz.zeroValue176
  t53 := Tryz.underlying123
  a53 := Tryz.isAgg123
  z53 := Tryz.sizeOf123
  v53 := Tryz.zeroValue123
  t146 := Tryz.underlying177
  a146 := Tryz.isAgg177
  z146 := Tryz.sizeOf177
  v146 := Tryz.zeroValue177
  t148 := Tryz.underlying179
  a148 := Tryz.isAgg179
  z148 := Tryz.sizeOf179
  v148 := Tryz.zeroValue179 }
open Go.RowKit Go.Lib in
/-- math/bits.Mul: "Mul returns the full-width product of x and y": on a machine of 64 bits: Mul64's. (LAID: no walk: one application.) -/
theorem Tryz.bits_Mul (x y : Nat) (hx : x < 18446744073709551616) (hy : y < 18446744073709551616) (w : World) :
    Calls Tryz.prog 78 #[.int .u64 x, .int .u64 y] w fun e w' => e = .returned (.tuple #[.int .u64 ((x * y / 18446744073709551616 : Nat) : Int), .int .u64 ((x * y % 18446744073709551616 : Nat) : Int)]) ∧ w' = w := Any.bits_Mul Tryz.lays212 x y hx hy w
def Tryz.lays110_ren : Go.Shelf.Ren := ⟨fun | 110 => 50 | 109 => 75 | n => n, fun | 31 => 79 | 9 => 9 | 4 => 4 | 3 => 3 | 0 => 0 | n => n, fun | n => n⟩
theorem Tryz.lays110 : Go.Proofs.Lays.n110 Tryz.prog Tryz.lays110_ren := {
  mixed := by kernel_rfl
  f109 := Tryz.func75.trans (congrArg some (by kernel_rfl))
  f110 := Tryz.func50.trans (congrArg some (by kernel_rfl))
  t0 := Tryz.underlying0
  a0 := Tryz.isAgg0
  z0 := Tryz.sizeOf0
  v0 := Tryz.zeroValue0
  t3 := Tryz.underlying3
  a3 := Tryz.isAgg3
  z3 := Tryz.sizeOf3
  v3 := Tryz.zeroValue3
  t4 := Tryz.underlying4
  a4 := Tryz.isAgg4
  z4 := Tryz.sizeOf4
  v4 := Tryz.zeroValue4
  t9 := Tryz.underlying9
  a9 := Tryz.isAgg9
  z9 := Tryz.sizeOf9
  v9 := Tryz.zeroValue9
  t31 := Tryz.underlying79
  a31 := Tryz.isAgg79
  z31 := Tryz.sizeOf79
  v31 := Tryz.zeroValue79 }
open Go.Lib in
/-- slices.Contains at []string: "Contains reports whether v is present in s.": IT RETURNS 'Lib.containsS (the elements) v', which is true just where v is among them ('Lib.containsS_iff'); the world is as it was. ITS CALLEE slices.Index IS MET BY ITS OWN CONTRACT OFF THE SHELF (lay that first): no loop is walked here. (LAID: no walk: one application.) -/
theorem Tryz.slices_Contains_string (b off n c : Nat) (zs : List ByteArray) (x : ByteArray) (w : World) (hz : n ≤ zs.length) (hbig : n ≤ 9223372036854775807) (hc : ∀ j, j < zs.length → w.cell? ⟨b, off + j, none⟩ = some (.string (zs.getD j ByteArray.empty))) :
    Calls Tryz.prog 50 #[.slice (some ⟨b, off, none⟩) n c, .string x] w fun e w' => e = .returned (.bool (Lib.containsS (zs.take n) x)) ∧ w' = w := Any.slices_Contains_string Tryz.lays110 b off n c zs x w hz hbig hc
end Go.Proofs

/- The order of values: cmp.Compare, cmp.Or, value.Compare: what each call answers; the world has at most new blocks. -/
namespace Go.Proofs.YtcpllhjhnfmepaaGreatDoor
set_option linter.all false
set_option linter.unusedSimpArgs false
set_option linter.unusedVariables false
open Go.RowKit
def cmpI (x y : Int) : Int := if x < y then -1 else if y < x then 1 else 0
/-- cmp.Or of three numbers -/
def orI (x y z : Int) : Int := if x = 0 then (if y = 0 then z else y) else x

theorem cmp_int (x y : Int) (w : World) :
    Calls Tryz.prog 81 #[.int .i64 x, .int .i64 y] w fun e w' => e = .returned (.int .i64 (cmpI x y)) ∧ w' = w := by
  unfold cmpI
  by_cases h1 : x < y
  · go_enter Tryz.func81, Tryz.ntmps81
    go_wp2
    go_ret
    exact ⟨by simp [h1], rfl⟩
  · by_cases h2 : y < x
    · go_enter Tryz.func81, Tryz.ntmps81
      go_wp2
      go_ret
      exact ⟨by simp [h1, h2], rfl⟩
    · go_enter Tryz.func81, Tryz.ntmps81
      go_wp2
      go_ret
      exact ⟨by simp [h1, h2], rfl⟩
theorem cmp_int64 (x y : Int) (w : World) :
    Calls Tryz.prog 82 #[.int .i64 x, .int .i64 y] w fun e w' => e = .returned (.int .i64 (cmpI x y)) ∧ w' = w := by
  unfold cmpI
  by_cases h1 : x < y
  · go_enter Tryz.func82, Tryz.ntmps82
    go_wp2
    go_ret
    exact ⟨by simp [h1], rfl⟩
  · by_cases h2 : y < x
    · go_enter Tryz.func82, Tryz.ntmps82
      go_wp2
      go_ret
      exact ⟨by simp [h1, h2], rfl⟩
    · go_enter Tryz.func82, Tryz.ntmps82
      go_wp2
      go_ret
      exact ⟨by simp [h1, h2], rfl⟩

set_option maxHeartbeats 8000000 in
theorem or_int (x y z : Int) (g : Nat) (w : World) (h0 : w.cell? ⟨g, 0, none⟩ = some (.int .i64 x)) (h1 : w.cell? ⟨g, 1, none⟩ = some (.int .i64 y)) (h2 : w.cell? ⟨g, 2, none⟩ = some (.int .i64 z)) :
    Calls Tryz.prog 80 #[.slice (some ⟨g, 0, none⟩) 3 3] w fun e w' => e = .returned (.int .i64 (orI x y z)) ∧ w' = w := by
  by_cases hx : x = 0
  · have bx : (x == 0) = true := by simp [hx]
    have cx : (x != 0) = false := by simp [hx]
    by_cases hy : y = 0
    · have by' : (y == 0) = true := by simp [hy]
      have cy : (y != 0) = false := by simp [hy]
      have fin : orI x y z = z := by simp [orI, hx, hy]
      rw [fin]; clear hx hy fin
      by_cases hz : z = 0
      · have bz : (z == 0) = true := by simp [hz]
        have cz : (z != 0) = false := by simp [hz]
        subst hz
        go_enter Tryz.func80, Tryz.ntmps80
        go_wp2
        refine wp_loop_rounds 4 ?_
        rw [rounds_succ]; go_wp2
        rw [rounds_succ]; go_wp2
        rw [rounds_succ]; go_wp2
        rw [rounds_succ]; go_wp2
        go_ret
        exact ⟨rfl, rfl⟩
      · have bz : (z == 0) = false := by simp [hz]
        have cz : (z != 0) = true := by simp [hz]
        clear hz
        go_enter Tryz.func80, Tryz.ntmps80
        go_wp2
        refine wp_loop_rounds 4 ?_
        rw [rounds_succ]; go_wp2
        rw [rounds_succ]; go_wp2
        rw [rounds_succ]; go_wp2
        go_ret
        exact ⟨rfl, rfl⟩
    · have by' : (y == 0) = false := by simp [hy]
      have cy : (y != 0) = true := by simp [hy]
      have fin : orI x y z = y := by simp [orI, hx, hy]
      rw [fin]; clear hx hy fin
      go_enter Tryz.func80, Tryz.ntmps80
      go_wp2
      refine wp_loop_rounds 4 ?_
      rw [rounds_succ]; go_wp2
      rw [rounds_succ]; go_wp2
      go_ret
      exact ⟨rfl, rfl⟩
  · have bx : (x == 0) = false := by simp [hx]
    have cx : (x != 0) = true := by simp [hx]
    have fin : orI x y z = x := by simp [orI, hx]
    rw [fin]; clear hx fin
    go_enter Tryz.func80, Tryz.ntmps80
    go_wp2
    refine wp_loop_rounds 4 ?_
    rw [rounds_succ]; go_wp2
    go_ret
    exact ⟨rfl, rfl⟩

/-- what value.Compare answers -/
def cmpV (k n : Int) (s : ByteArray) (k' n' : Int) (s' : ByteArray) : Int := orI (cmpI k k') (cmpI n n') (Lib.compareBytes s.data.toList s'.data.toList)

set_option maxHeartbeats 8000000 in
theorem compare_any (k n : Int) (s : ByteArray) (k' n' : Int) (s' : ByteArray) (w : World) :
    Calls Tryz.prog 59 #[.agg #[.int .i64 k, .int .i64 n, .string s], .agg #[.int .i64 k', .int .i64 n', .string s']] w fun e w' => e = .returned (.int .i64 (cmpV k n s k' n' s')) ∧ Ext w w' := by
  go_enter Tryz.func59, Tryz.ntmps59
  go_wp2_with fail
  go_region_held3 (fun w' => w'.cell? ⟨w.heap.size, 0, none⟩ = some (.int .i64 k) ∧ w'.cell? ⟨w.heap.size, 1, none⟩ = some (.int .i64 n) ∧ w'.cell? ⟨w.heap.size, 2, none⟩ = some (.string s) ∧ w'.cell? ⟨w.heap.size+1, 0, none⟩ = some (.int .i64 k') ∧ w'.cell? ⟨w.heap.size+1, 1, none⟩ = some (.int .i64 n') ∧ w'.cell? ⟨w.heap.size+1, 2, none⟩ = some (.string s') ∧ Ext w w') (((try dsimp only); (repeat' apply And.intro) <;> (first | (go_keep; done) | (repeat (first | with_reducible exact Ext.refl _ | with_reducible assumption | with_reducible refine Ext.drew ?_ | with_reducible refine Ext.alloc ?_ _ | with_reducible refine Ext.drewN ?_ _ | refine Ext.trans ?_ (by with_reducible assumption)))))) (first | (go_at_call 81; refine (cmp_int _ _ _).mono ?_; rintro e w' ⟨rfl, rfl⟩) | (go_at_call 82; refine (cmp_int64 _ _ _).mono ?_; rintro e w' ⟨rfl, rfl⟩) | (go_at_call 83; refine (Tryz.strings_Compare _ _ _).mono ?_; rintro e w' ⟨rfl, rfl⟩) | (go_at_call 80; refine (or_int (cmpI k k') (cmpI n n') (Lib.compareBytes s.data.toList s'.data.toList) _ _ (by go_simp) (by go_simp) (by go_simp)).mono ?_; rintro e w' ⟨rfl, rfl⟩))
  go_wp2
  go_ret
  refine ⟨rfl, ?_⟩
  (repeat (first | with_reducible exact Ext.refl _ | with_reducible assumption | with_reducible refine Ext.drew ?_ | with_reducible refine Ext.alloc ?_ _ | with_reducible refine Ext.drewN ?_ _ | refine Ext.trans ?_ (by with_reducible assumption)))
end Go.Proofs.YtcpllhjhnfmepaaGreatDoor

/- value.Is and value.num: what each call answers; the world has at most new blocks. -/
namespace Go.Proofs.YtcpllhjhnfmepaaGreatDoor
set_option linter.all false
set_option linter.unusedSimpArgs false
set_option linter.unusedVariables false
open Go.RowKit
/-- what value.Is answers -/
def isCode (c n : Int) : Int := if (c = 1 ∧ n = 0) ∨ (c = 2 ∧ n ≠ 0) ∨ (c = 3 ∧ n < 0) ∨ (c = 4 ∧ n ≤ 0) ∨ (c = 5 ∧ 0 < n) ∨ (c = 6 ∧ 0 ≤ n) then 1 else 0
def isV (c : Int) (k n : Int) (s : ByteArray) (k' n' : Int) (s' : ByteArray) : Int := if k = 0 ∨ k ≠ k' then -1 else isCode c (cmpV k n s k' n' s')

set_option maxHeartbeats 8000000 in
theorem num_any (n : Int) (w : World) :
    Calls Tryz.prog 30 #[.int .i64 n] w fun e w' => e = .returned (.agg #[.int .i64 1, .int .i64 n, .string ⟨#[]⟩]) ∧ Ext w w' := by
  go_enter Tryz.func30, Tryz.ntmps30
  go_wp2
  refine bodyPost_ret (v := .agg #[.int .i64 1, .int .i64 n, .string ⟨#[]⟩]) (by simp [results, Tryz.results30, go_sem]) rfl ⟨rfl, ?_⟩
  (repeat (first | with_reducible exact Ext.refl _ | with_reducible assumption | with_reducible refine Ext.drew ?_ | with_reducible refine Ext.alloc ?_ _ | with_reducible refine Ext.drewN ?_ _ | refine Ext.trans ?_ (by with_reducible assumption)))

set_option maxHeartbeats 8000000 in
theorem is_none (c k n : Int) (s : ByteArray) (k' n' : Int) (s' : ByteArray) (w : World) (h : k = 0 ∨ k ≠ k') :
    Calls Tryz.prog 56 #[.int .i64 c, .agg #[.int .i64 k, .int .i64 n, .string s], .agg #[.int .i64 k', .int .i64 n', .string s']] w fun e w' => e = .returned (.int .i64 (-1)) ∧ Ext w w' := by
  by_cases hk : k = 0
  · have b1 : (k == 0) = true := by simp [hk]
    clear h hk
    go_enter Tryz.func56, Tryz.ntmps56
    go_wp2
    go_ret
    refine ⟨rfl, ?_⟩
    (repeat (first | with_reducible exact Ext.refl _ | with_reducible assumption | with_reducible refine Ext.drew ?_ | with_reducible refine Ext.alloc ?_ _ | with_reducible refine Ext.drewN ?_ _ | refine Ext.trans ?_ (by with_reducible assumption)))
  · have b1 : (k == 0) = false := by simp [hk]
    have hk' : k ≠ k' := by rcases h with h | h; exact absurd h hk; exact h
    have b2 : (k == k') = false := by simp [hk']
    have b3 : (k != k') = true := by simp [hk']
    clear h hk hk'
    go_enter Tryz.func56, Tryz.ntmps56
    go_wp2
    go_ret
    refine ⟨rfl, ?_⟩
    (repeat (first | with_reducible exact Ext.refl _ | with_reducible assumption | with_reducible refine Ext.drew ?_ | with_reducible refine Ext.alloc ?_ _ | with_reducible refine Ext.drewN ?_ _ | refine Ext.trans ?_ (by with_reducible assumption)))

set_option maxHeartbeats 8000000 in
theorem is_some (c k n : Int) (s : ByteArray) (n' : Int) (s' : ByteArray) (w : World) (hk : k ≠ 0) :
    Calls Tryz.prog 56 #[.int .i64 c, .agg #[.int .i64 k, .int .i64 n, .string s], .agg #[.int .i64 k, .int .i64 n', .string s']] w fun e w' => e = .returned (.int .i64 (isCode c (cmpV k n s k n' s'))) ∧ Ext w w' := by
  have b1 : (k == 0) = false := by simp [hk]
  clear hk
  go_enter Tryz.func56, Tryz.ntmps56
  go_wp2_with (go_at_call 59; refine (compare_any _ _ _ _ _ _ _).mono ?_; rintro e w1 ⟨rfl, hw1⟩)
  all_goals (go_ret; refine ⟨?_, ?_⟩; rotate_left; (repeat (first | with_reducible exact Ext.refl _ | with_reducible assumption | with_reducible refine Ext.drew ?_ | with_reducible refine Ext.alloc ?_ _ | with_reducible refine Ext.drewN ?_ _ | refine Ext.trans ?_ (by with_reducible assumption))))
  all_goals (clear hw1; (simp_all [isCode] <;> omega))
theorem is_any (c k n : Int) (s : ByteArray) (k' n' : Int) (s' : ByteArray) (w : World) :
    Calls Tryz.prog 56 #[.int .i64 c, .agg #[.int .i64 k, .int .i64 n, .string s], .agg #[.int .i64 k', .int .i64 n', .string s']] w fun e w' => e = .returned (.int .i64 (isV c k n s k' n' s')) ∧ Ext w w' := by
  by_cases h : k = 0 ∨ k ≠ k'
  · rw [show isV c k n s k' n' s' = -1 by simp only [isV, if_pos h]]
    exact is_none c k n s k' n' s' w h
  · obtain ⟨h1, h2⟩ := not_or.1 h
    obtain rfl : k = k' := Decidable.not_not.1 h2
    rw [show isV c k n s k n' s' = isCode c (cmpV k n s k n' s') by simp only [isV, if_neg h]]
    exact is_some c k n s n' s' w h1
end Go.Proofs.YtcpllhjhnfmepaaGreatDoor

/- Slices that a call builds itself: appended to, read, made a string. Plain laws, for any program. -/
namespace Go.Proofs.YtcpllhjhnfmepaaGreatDoor
set_option linter.all false
open Go.RowKit

/-- t is a slice type, its elements of type e take so many cells and bytes -/
structure Elem (P : Program) (t e : TypeId) (size bytes : Nat) : Prop where
  under : P.underlying t = some (.slice e)
  info : ∃ i z, P.info? e = some i ∧ i.zero = some z ∧ i.size = size ∧ i.bytes = bytes ∧ z.cells.size = size
  pos : 0 < size

/-- since w0 the slice v has been built: n elements, the cells xs, in a block from B on; below B all is as it was -/
structure Mk (B : Nat) (w0 w : World) (e : TypeId) (size : Nat) (v : Value) (n : Nat) (xs : List Value) : Prop where
  own : w.ownsRow B e size v n xs
  below : Below B w0 w
  base : B ≤ w.heap.size

section
variable {P : Program} {B : Nat} {w0 w w' : World} {e : TypeId} {size n : Nat} {v : Value} {xs : List Value}
theorem Mk.nil (h : Below B w0 w) (hB : B ≤ w.heap.size) : Mk B w0 w e size (.slice none 0 0) 0 [] := ⟨World.ownsRow_nil _ _ _ _, h, hB⟩
theorem Mk.alloc (h : Mk B w0 w e size v n xs) (o : Obj) : Mk B w0 (w.alloc o) e size v n xs := ⟨h.own.alloc o, h.below.alloc h.base o, by have := h.base; simp; omega⟩
theorem Mk.drew (h : Mk B w0 w e size v n xs) : Mk B w0 w.drew e size v n xs := ⟨h.own.drew, h.below.drew, h.base⟩
theorem Mk.step (h : Mk B w0 w e size v n xs) (hx : Ext w w') : Mk B w0 w' e size v n xs :=
  ⟨h.own.kept (row := none) ⟨hx.os, hx.tape, hx.output, hx.size, fun k hk _ => hx.block k hk⟩ (by cases hv : v.ownBlock <;> simp), h.below.trans (Below.mono hx h.base), Nat.le_trans h.base hx.size⟩
theorem Mk.ext (h : Mk w0.heap.size w0 w e size v n xs) : Ext w0 w := h.below

theorem Mk.stored {g cap : Nat} (h : Mk B w0 w e size (.slice (some ⟨g, 0, none⟩) n cap) n xs) (j : Nat) (u : Value) : Mk B w0 (w.setCell ⟨g, j, none⟩ u) e size (.slice (some ⟨g, 0, none⟩) n cap) n (xs.set j u) :=
  ⟨(h.own.stored j u).1, h.below.setCell (h.own.lt g rfl).1 u, by simpa [World.setCell] using h.base⟩

theorem Mk.row (h : Mk B w0 w e size v n xs) : ∀ g, v.ownBlock = some g → ∃ cs fr, w.heap[g]? = some (.cells cs e fr) := by
  intro g hg
  rcases h.own.2 with ⟨rfl, _⟩ | ⟨g', cap, cur, rfl, _, hgg, _⟩
  · simp [Value.ownBlock] at hg
  · simp [Value.ownBlock] at hg
    subst hg
    exact ⟨_, _, hgg⟩

theorem wpList_push {t : TypeId} {bytes : Nat} (hE : Elem P t e size bytes) {ops : Array Oper} {rest : List Oper} {o : Oper} {a : Act} {Q : Exit → Act → World → Prop} (hgd : o.guard = none) (s x : Operand)
    (ho : o.op = .call { callee := .builtin .append, args := #[s, x], argTypes := #[t, t] }) (news : List Value)
    (hM : Mk B w0 w e size v n xs) (S : Nat) (hS : w.heap.size = S) (hs : a.eval s = v) (hx : a.eval x = .slice (some ⟨S, 0, none⟩) 1 1) (hl : news.length = size) (h1 : ∀ u ∈ news, u.oneCell' = true)
    (hn : (n + 1) * bytes ≤ 140737488355328) (hm : n + 1 ≤ 140737488355328)
    (h : ∀ g cap w', Mk B w0 w' e size (.slice (some ⟨g, 0, none⟩) (n + 1 : Nat) cap) (n + 1) (xs ++ news) → w.grownBy w' v.ownBlock → (v.ownBlock = some g ∨ g = w.heap.size + 1) → wpList P ops Q rest (a.put o.dst (.slice (some ⟨g, 0, none⟩) (n + 1 : Nat) cap)) w') :
    wpList P ops Q (o :: rest) a (w.alloc (.cells news.toArray e)) := by
  subst hS
  obtain ⟨i, z, hi, hz, hsz, hby, hzs⟩ := hE.info
  have hM' := hM.alloc (.cells news.toArray e)
  refine wpList_append_own_at (P := P) (w := w.alloc (.cells news.toArray e)) hgd s x t ho B e i z size bytes hE.under hi hz hsz hby hzs hE.pos v n xs hs hM'.own ⟨w.heap.size, 0, none⟩ 1 1 news hx (by simpa using hl) ?_ h1 (by unfold maxLen; omega) hn hM'.base ?_
  · exact fun j u hu => World.news_of_block (heap_alloc_new w _) j u (by simpa using hu)
  · intro v' w' hown hg _ hat
    obtain ⟨g, cap, rfl, _, _⟩ := hown.form (by omega)
    refine h g cap w' ⟨hown, ?_, Nat.le_trans hM'.base hg.size⟩ ?_ (by simpa [Value.ownBlock, eq_comm] using hat)
    · exact hM'.below.grown hg hM'.base (fun k hk => (hM.own.lt k hk).1)
    · exact ⟨hg.os, hg.tape, hg.output, Nat.le_trans (by simp) hg.size, fun k hk hne => (hg.block k (by simp; omega) hne).trans (Below.heap_alloc w _ k hk)⟩

/-- append of one element to a slice that has no room: a new row; all that was there is as it was -/
theorem run_append_tight {t ty : TypeId} {bytes : Nat} (hE : Elem P t e size bytes) (a : Addr) (hxs : xs.length = n * size) (holds : ∀ j u, xs[j]? = some u → w.cell? (a.add j) = some u)
    (ad : Addr) (c : Nat) (news : List Value) (hl : news.length = size) (hnews : ∀ j u, news[j]? = some u → w.cell? (ad.add j) = some u) (hn : (n + 1) * bytes ≤ 140737488355328) (hm : n + 1 ≤ 140737488355328) (hB : B ≤ w.heap.size) :
    ∃ cap w', (Builtin.append_ #[t, t] ty #[.slice (some a) n n, .slice (some ad) 1 c]).run P w = .ok (.slice (some ⟨w.heap.size, 0, none⟩) (n + 1) cap) w' ∧ w'.ownsRow B e size (.slice (some ⟨w.heap.size, 0, none⟩) (n + 1 : Nat) cap) (n + 1) (xs ++ news) ∧ Ext w w' := by
  obtain ⟨i, z, hi, hz, hsz, hby, hzs⟩ := hE.info
  subst hsz
  subst hby
  have hr := run_append_grow (P := P) w t ty e i z hE.under hi hz a n n xs hxs holds ad 1 c news (by simpa using hl) hnews (by omega) (by omega) (growslice_fits (by omega) hn)
  refine ⟨_, _, hr, ⟨by simp [hxs, hl, Nat.add_mul], .inr ⟨w.heap.size, _, _, rfl, hB, heap_alloc_new w.drew _, grownCap_ge w (n + 1) n e, grownCap_le_maxLen w (n + 1) n e (by unfold maxLen; omega), ?_, ?_⟩⟩, ((Ext.refl w).drew).alloc _⟩
  · have hge := grownCap_ge w (n + 1) n e
    simp only [Array.size_append, List.size_toArray, size_zeroCells, hzs, hxs, hl]
    rw [show n * i.size + i.size = (n + 1) * i.size by rw [Nat.add_mul]; omega, ← Nat.add_mul]
    congr 1
    omega
  · simp only [Array.toList_append, List.append_assoc]
    rw [← List.append_assoc, show (n + 1) * i.size = (xs ++ news).length by simp [hxs, hl, Nat.add_mul]]
    exact List.take_left

theorem cell_one_at (W : World) (u0 : Value) (e : TypeId) (S : Nat) (hS : W.heap.size = S) : ∀ j u, [u0][j]? = some u → (W.alloc (.cells #[u0] e)).drew.cell? ((⟨S, 0, none⟩ : Addr).add j) = some u := by
  subst hS
  intro j u hu
  exact World.news_of_block (w := W.alloc (.cells #[u0] e)) (heap_alloc_new W _) j u (by simpa using hu)
theorem Ext.grownBy {a b : World} (h : Ext a b) (row : Option Nat) : a.grownBy b row := ⟨h.os, h.tape, h.output, h.size, fun k hk _ => h.block k hk⟩

/-- string(b) of a slice of bytes that was built -/
theorem run_string_own {src dst : TypeId} (hs : P.underlying src = some (.slice e)) (he : P.underlying e = some (.int .u8)) (hd : P.underlying dst = some .string) (l : List UInt8)
    (hown : w.ownsRow B e 1 v n (l.map fun c => Value.int .u8 (c.toNat : Int))) : (convert src dst v).run P w = .ok (.string ⟨l.toArray⟩) w := by
  have hln := hown.1
  simp only [List.length_map, Nat.mul_one] at hln
  rcases hown.2 with ⟨rfl, rfl⟩ | ⟨g, cap, cur, rfl, _, hg, _, _, _, htk⟩
  · have : l = [] := List.eq_nil_of_length_eq_zero hln
    subst this
    rw [run_convert_bytes_string w src dst e none 0 0 hs he hd]
    simp [Conv.bytesToString]
    rfl
  · subst hln
    exact run_convert_bytes_back w src dst e ⟨g, 0, none⟩ cap l hs he hd fun j hj => hown.cells (g := g) rfl j _ (by simp [hj])
end
end Go.Proofs.YtcpllhjhnfmepaaGreatDoor

/- That arguments read behind a call as before, if all that was there is as it was. -/
namespace Go.Proofs.YtcpllhjhnfmepaaGreatDoor
set_option linter.all false
set_option linter.unusedSimpArgs false
set_option linter.unusedVariables false
open Go.RowKit
open Go.ChangeShapes Go.WideShapes Go.ChangeAt Go.Joins

theorem Tryz.own : ownKnob Tryz.prog.godebug = none := by kernel_rfl
theorem Tryz.laidOut : laidOutB Tryz.prog = true := by kernel_rfl
section
variable {H : Type} {enc : TypeId × Value → H} {P : Program}
/-- all arguments read as they did, if all that was there is as it was -/
theorem trodAll_ext (hl : laidOutB P = true) {W W' : World} (hb : Ext W W') : ∀ (ts : List TypeId) (vs : List Value) (ds : List (DataW H)) (ps : List MemPlace),
    (∀ t ∈ ts, P.readableRec t = true ∧ t < P.types.size) → DataW.TrodAll enc P W 0 (fun _ => true) true ts vs ds ps → (∀ x ∈ ps, x.block < W.heap.size) →
    DataW.TrodAll enc P W' 0 (fun b => decide (b < W.heap.size)) true ts vs ds ps
  | [], [], [], ps, _, h, _ => h
  | t :: ts, v :: vs, d :: ds, ps, ht, h, hlt => by
    obtain ⟨p, q, h1, h2, rfl⟩ := h
    exact ⟨p, q, Below.trod hl (ht t (by simp)).1 (ht t (by simp)).2 h1 hb fun x hx => hlt x (by simp [hx]), trodAll_ext hl hb ts vs ds q (fun t ht' => ht t (by simp [ht'])) h2 (fun x hx => hlt x (by simp [hx])), rfl⟩
  | [], [], _ :: _, _, _, h, _ => by simp [DataW.TrodAll] at h
  | [], _ :: _, _, _, _, h, _ => by simp [DataW.TrodAll] at h
  | _ :: _, [], _, _, _, h, _ => by simp [DataW.TrodAll] at h
  | _ :: _, _ :: _, [], _, _, h, _ => by simp [DataW.TrodAll] at h
end

theorem i64_wf {n : Int} (h : (Lit.int .i64 n).wf = true) : i64 n := by
  unfold i64
  simp [Lit.wf, IntKind.wrap] at h
  first | exact h | omega

end Go.Proofs.YtcpllhjhnfmepaaGreatDoor

/- Arguments that are values: what is read of them. -/
namespace Go.Proofs.YtcpllhjhnfmepaaGreatDoor
set_option linter.all false
set_option linter.unusedSimpArgs false
set_option linter.unusedVariables false
open Go.RowKit
open Go.ChangeShapes Go.WideShapes Go.ChangeAt Go.Joins
theorem Tryz.cellsVal : Tryz.prog.cellsOf 45 = 3 := by kernel_rfl

theorem weights_of {H : Type} {P : Program} {ts : List TypeId} {ds : List (DataW H)} (h : (DataW.weightsEach P ts ds).all (· ≤ reachBytes) = true) {j : Nat} {t : TypeId} {d : DataW H} (ht : ts[j]? = some t) (hd : ds[j]? = some d) :
    ∀ n ∈ d.weights P t, n ≤ reachBytes := fun n hn => by
  have := List.all_eq_true.1 h _ (DataW.weights_mem_each ht hd n hn)
  simpa using this
end Go.Proofs.YtcpllhjhnfmepaaGreatDoor

/- An argument that is a slice: what its cells hold. -/
namespace Go.Proofs.YtcpllhjhnfmepaaGreatDoor
set_option linter.unusedSimpArgs false
set_option linter.unusedVariables false
open Go.RowKit
set_option linter.all false
open Go.ChangeShapes Go.WideShapes Go.ChangeAt Go.Joins Go.Deep
theorem list_of {α : Type} {Q : Nat → α → Prop} : ∀ n, (∀ i, i < n → ∃ x, Q i x) → ∃ l : List α, l.length = n ∧ ∀ i x, l[i]? = some x → Q i x
  | 0, _ => ⟨[], rfl, fun i x h => by simp at h⟩
  | n + 1, h => by
    obtain ⟨l, hl, hq⟩ := list_of n fun i hi => h i (by omega)
    obtain ⟨y, hy⟩ := h n (by omega)
    refine ⟨l ++ [y], by simp [hl], fun i x hx => ?_⟩
    by_cases hi : i < n
    · rw [List.getElem?_append_left (by omega)] at hx
      exact hq i x hx
    · rw [List.getElem?_append_right (by omega)] at hx
      have : i = n := by
        have := (List.getElem?_eq_some_iff.1 hx).1
        simp at this; omega
      subst this
      rw [hl, Nat.sub_self] at hx
      simp at hx
      subst hx
      exact hy
theorem Tryz.cellsInt : Tryz.prog.cellsOf 3 = 1 := by kernel_rfl
theorem Tryz.cellsInt64 : Tryz.prog.cellsOf 2 = 1 := by kernel_rfl
theorem Tryz.cellsString : Tryz.prog.cellsOf 9 = 1 := by kernel_rfl
end Go.Proofs.YtcpllhjhnfmepaaGreatDoor

/- A region whose operations only compute, read what stays as it was, or call what leaves all as it was: walked once, in the order of the text, whatever order is drawn. For any program. -/
namespace Go.Proofs.YtcpllhjhnfmepaaGreatDoor
set_option linter.all false
open Go.RowKit

section
variable {P : Program} {ops : Array Oper} {F : World → Prop}

/-- in every world that meets F the operation yields v, or calls a function that yields v and leaves what was there as it was -/
def StepOK (P : Program) (F : World → Prop) (o : Oper) (a : Act) (v : Value) : Prop :=
  (∀ w, F w → (execOp a.eval o).run P w = .ok (.value v) w) ∨
  (∃ f args, (∀ w, F w → (execOp a.eval o).run P w = .ok (.enter f args) w) ∧ ∀ w, F w → Calls P f args w fun e w' => e = .returned v ∧ Ext w w')

/-- the walk in the order of the text -/
def Fixed (P : Program) (ops : Array Oper) (F : World → Prop) (K : Act → Prop) : List Oper → Act → Prop
  | [], a => K a
  | o :: rest, a => (Region.wanted o (yielded ops a.tmps) = true ∧ ∃ v, StepOK P F o a v ∧ Fixed P ops F K rest (a.put o.dst v)) ∨
      (Region.wanted o (yielded ops a.tmps) = false ∧ Fixed P ops F K rest (a.put o.dst undef))

theorem Fixed.done {K : Act → Prop} {a : Act} (h : K a) : Fixed P ops F K [] a := h
theorem Fixed.skip {K : Act → Prop} {o : Oper} {rest : List Oper} {a : Act} (hw : Region.wanted o (yielded ops a.tmps) = false) (h : Fixed P ops F K rest (a.put o.dst undef)) : Fixed P ops F K (o :: rest) a := .inr ⟨hw, h⟩
theorem Fixed.val {K : Act → Prop} {o : Oper} {rest : List Oper} {a : Act} {v : Value} (hw : Region.wanted o (yielded ops a.tmps) = true) (hr : ∀ w, F w → (execOp a.eval o).run P w = .ok (.value v) w)
    (h : Fixed P ops F K rest (a.put o.dst v)) : Fixed P ops F K (o :: rest) a := .inl ⟨hw, v, .inl hr, h⟩
theorem Fixed.call {K : Act → Prop} {o : Oper} {rest : List Oper} {a : Act} {v : Value} {f : FuncId} {args : Array Value} (hw : Region.wanted o (yielded ops a.tmps) = true) (hr : ∀ w, F w → (execOp a.eval o).run P w = .ok (.enter f args) w)
    (hc : ∀ w, F w → Calls P f args w fun e w' => e = .returned v ∧ Ext w w') (h : Fixed P ops F K rest (a.put o.dst v)) : Fixed P ops F K (o :: rest) a := .inl ⟨hw, v, .inr ⟨f, args, hr, hc⟩, h⟩

/-- the frame when the operations of L have come up, with the values vs -/
def frameOf (ops : Array Oper) (vs : Nat → Value) (L : Nat → Bool) (a0 : Act) : Nat → Act
  | 0 => a0
  | n + 1 => if L n then (frameOf ops vs L a0 n).put ((ops[n]?).bind (·.dst)) (vs n) else frameOf ops vs L a0 n

theorem frame_congr {vs : Nat → Value} {L M : Nat → Bool} {a0 : Act} : ∀ n, (∀ i, i < n → L i = M i) → frameOf ops vs L a0 n = frameOf ops vs M a0 n
  | 0, _ => rfl
  | n + 1, h => by
    unfold frameOf
    rw [frame_congr n (fun i hi => h i (by omega)), h n (by omega)]
theorem frame_vs {vs us : Nat → Value} {L : Nat → Bool} {a0 : Act} : ∀ n, (∀ i, i < n → vs i = us i) → frameOf ops vs L a0 n = frameOf ops us L a0 n
  | 0, _ => rfl
  | n + 1, h => by
    unfold frameOf
    rw [frame_vs n (fun i hi => h i (by omega)), h n (by omega)]

/-- no two operations write one slot -/
def dstApart (ops : Array Oper) : Bool := (List.range ops.size).all fun i => (List.range ops.size).all fun j => i == j || match (ops[i]?).bind (·.dst) with | none => true | some d => (ops[j]?).bind (·.dst) != some d
/-- i waits for j -/
def waits (ops : Array Oper) (i j : Nat) : Bool := ((ops[i]?).map fun o => o.after.any fun e => Region.binds .any e && e.on == j).getD false
def isSelect (o : Oper) : Bool := match o.op with | .select .. => true | _ => false
/-- whoever looks at a slot waits for its writer, or its writer waits for him; nobody waits for whoever comes later -/
def looksOk (ops : Array Oper) : Bool := (List.range ops.size).all fun i => match ops[i]? with
  | none => true
  | some o => !isSelect o && (o.after.all fun e => !Region.binds .any e || decide (e.on < i)) && (o.looksAt ops).all fun t => (List.range ops.size).all fun j => ((ops[j]?).bind (·.dst) != some t) || (decide (j < i) && waits ops i j) || (decide (i < j) && waits ops j i)
def fixedOk (ops : Array Oper) : Bool := dstApart ops && looksOk ops

theorem dst_spec (h : dstApart ops = true) {i j : Nat} (hij : i ≠ j) {d : Tmp} (hi : (ops[i]?).bind (·.dst) = some d) : (ops[j]?).bind (·.dst) ≠ some d := by
  have li : i < ops.size := by
    rcases Nat.lt_or_ge i ops.size with h | h
    · exact h
    · simp [Array.getElem?_eq_none h] at hi
  intro hj
  have lj : j < ops.size := by
    rcases Nat.lt_or_ge j ops.size with h | h
    · exact h
    · simp [Array.getElem?_eq_none h] at hj
  unfold dstApart at h
  rw [List.all_eq_true] at h
  have h1 := h i (by simpa using li)
  rw [List.all_eq_true] at h1
  have h2 := h1 j (by simpa using lj)
  rw [hi, hj] at h2
  simp at h2
  exact hij h2

theorem put_put (hd : dstApart ops = true) (a : Act) {i j : Nat} (hij : i ≠ j) (v u : Value) :
    (a.put ((ops[i]?).bind (·.dst)) v).put ((ops[j]?).bind (·.dst)) u = (a.put ((ops[j]?).bind (·.dst)) u).put ((ops[i]?).bind (·.dst)) v :=
  Act.put_comm a v u fun d hi => dst_spec hd hij hi

/-- one more has come up -/
theorem frame_more (hd : dstApart ops = true) {vs : Nat → Value} {L : Nat → Bool} {a0 : Act} {i : Nat} (hi : L i = false) : ∀ n, i < n →
    frameOf ops vs (fun j => j == i || L j) a0 n = (frameOf ops vs L a0 n).put ((ops[i]?).bind (·.dst)) (vs i)
  | 0, h => absurd h (by omega)
  | n + 1, h => by
    unfold frameOf
    by_cases e : n = i
    · subst e
      simp only [beq_self_eq_true, Bool.true_or, if_true, hi, Bool.false_eq_true, if_false]
      rw [frame_congr (L := fun j => j == n || L j) (M := L) n (fun j hj => by
        have : (j == n) = false := by simp; omega
        simp [this])]
    · have hb : (n == i) = false := by simpa using e
      simp only [hb, Bool.false_or]
      rw [frame_more hd hi n (by omega)]
      split
      · exact put_put hd _ (fun h => e h.symm) _ _
      · rfl

theorem frame_size {vs : Nat → Value} {L : Nat → Bool} {a0 : Act} : ∀ n, (frameOf ops vs L a0 n).tmps.size = a0.tmps.size ∧ (frameOf ops vs L a0 n).defers = a0.defers
  | 0 => ⟨rfl, rfl⟩
  | n + 1 => by
    unfold frameOf
    have ih := frame_size (vs := vs) (L := L) (a0 := a0) n
    split
    · cases h : (ops[n]?).bind (·.dst) <;> simp [Act.put, ih]
    · exact ih
/-- a slot that nobody of L writes -/
theorem frame_other {vs : Nat → Value} {L : Nat → Bool} {a0 : Act} {t : Tmp} : ∀ n, (∀ j, j < n → L j = true → (ops[j]?).bind (·.dst) ≠ some t) → (frameOf ops vs L a0 n).tmps[t]? = a0.tmps[t]?
  | 0, _ => rfl
  | n + 1, h => by
    unfold frameOf
    have ih := frame_other (vs := vs) (L := L) (a0 := a0) (t := t) n (fun j hj => h j (by omega))
    split
    · rename_i hl
      have hn := h n (by omega) hl
      cases hd : (ops[n]?).bind (·.dst) with
      | none => simpa [Act.put] using ih
      | some d =>
        have : d ≠ t := fun e => hn (by rw [hd, e])
        simp [Act.put, Array.getElem?_setIfInBounds_ne this, ih]
    · exact ih
/-- a slot that j of L writes -/
theorem frame_at (hd : dstApart ops = true) {vs : Nat → Value} {L : Nat → Bool} {a0 : Act} {t : Tmp} {j : Nat} (hj : (ops[j]?).bind (·.dst) = some t) (hl : L j = true) : ∀ n, j < n →
    (frameOf ops vs L a0 n).tmps[t]? = if t < a0.tmps.size then some (vs j) else none
  | 0, h => absurd h (by omega)
  | n + 1, h => by
    unfold frameOf
    by_cases e : n = j
    · subst e
      rw [if_pos hl, hj]
      have hs := (frame_size (ops := ops) (vs := vs) (L := L) (a0 := a0) n).1
      by_cases hlt : t < a0.tmps.size
      · simp [Act.put, hs, hlt]
      · simp [Act.put, hs, hlt]
    · have ih := frame_at hd (vs := vs) (L := L) (a0 := a0) hj hl n (by omega)
      split
      · have hn := dst_spec hd (fun h => e h.symm) hj (j := n)
        cases hdn : (ops[n]?).bind (·.dst) with
        | none => simpa [Act.put] using ih
        | some d =>
          have : d ≠ t := fun e => hn (by rw [hdn, e])
          simp [Act.put, Array.getElem?_setIfInBounds_ne this, ih]
      · exact ih

/-- two frames agree at all slots that operation i looks at, if the ones of whom it waits are in both, and no one who waits for it in either -/
theorem frames_agree (hd : dstApart ops = true) (hl : looksOk ops = true) {vs : Nat → Value} {L M : Nat → Bool} {a0 : Act} {i : Nat} {o : Oper} (hi : ops[i]? = some o)
    (h1 : ∀ j, j < i → waits ops i j = true → L j = true ∧ M j = true) (h2 : ∀ j, i < j → waits ops j i = true → L j = false ∧ M j = false) (h3 : L i = false ∧ M i = false)
    {t : Tmp} (ht : t ∈ o.looksAt ops) : (frameOf ops vs L a0 ops.size).tmps[t]? = (frameOf ops vs M a0 ops.size).tmps[t]? := by
  have li : i < ops.size := (Array.getElem?_eq_some_iff.1 hi).1
  unfold looksOk at hl
  rw [List.all_eq_true] at hl
  have hli := hl i (by simpa using li)
  rw [hi] at hli
  simp only [Bool.and_eq_true] at hli
  have hlt := hli.2
  rw [List.all_eq_true] at hlt
  have hT := hlt t ht
  rw [List.all_eq_true] at hT
  by_cases hw : ∃ j, j < ops.size ∧ (ops[j]?).bind (·.dst) = some t
  · obtain ⟨j, lj, hj⟩ := hw
    have hJ := hT j (by simpa using lj)
    rw [hj] at hJ
    simp only [bne_self_eq_false, Bool.false_or, Bool.or_eq_true, Bool.and_eq_true, decide_eq_true_eq] at hJ
    rcases hJ with ⟨hji, hwt⟩ | ⟨hij, hwt⟩
    · obtain ⟨a, b⟩ := h1 j hji hwt
      rw [frame_at hd hj a _ lj, frame_at hd hj b _ lj]
    · obtain ⟨a, b⟩ := h2 j hij hwt
      rw [frame_other _ (fun k _ hk e => by
          by_cases hkj : k = j
          · subst hkj; rw [a] at hk; cases hk
          · exact dst_spec hd (fun e => hkj e.symm) hj e),
        frame_other _ (fun k _ hk e => by
          by_cases hkj : k = j
          · subst hkj; rw [b] at hk; cases hk
          · exact dst_spec hd (fun e => hkj e.symm) hj e)]
  · have hno : ∀ k, k < ops.size → (ops[k]?).bind (·.dst) ≠ some t := fun k hk e => hw ⟨k, hk, e⟩
    rw [frame_other _ (fun k hk _ => hno k hk), frame_other _ (fun k hk _ => hno k hk)]

theorem eval_agree {a b : Act} {o : Oper} (h : ∀ t ∈ o.looksAt ops, a.tmps[t]? = b.tmps[t]?) : ∀ x ∈ o.op.operands, a.eval x = b.eval x := by
  intro x hx
  cases x with
  | tmp t =>
    have := h t (List.mem_append_left _ (List.mem_filterMap.2 ⟨.tmp t, by simpa using hx, rfl⟩))
    simp only [Act.eval, Array.getD_eq_getD_getElem?, this]
  | const v => rfl
  | global g => rfl
  | func f => rfl
theorem wanted_agree {a b : Act} {o : Oper} (h : ∀ t ∈ o.looksAt ops, a.tmps[t]? = b.tmps[t]?) : Region.wanted o (yielded ops a.tmps) = Region.wanted o (yielded ops b.tmps) := by
  unfold Region.wanted
  cases hg : o.guard with
  | none => rfl
  | some gw =>
    obtain ⟨g, want⟩ := gw
    have : yielded ops a.tmps g = yielded ops b.tmps g := by
      unfold yielded
      cases ht : (ops[g]?).bind (·.dst) with
      | none => rfl
      | some t =>
        have := h t (by simp [Oper.looksAt, hg, ht])
        simp only [Option.bind_some, this]
    simp only [this]

/-- the frame of the text's order ahead of operation n -/
def frameTo (ops : Array Oper) (vs : Nat → Value) (a0 : Act) (n : Nat) : Act := frameOf ops vs (fun _ => true) a0 n
theorem frameTo_eq {vs : Nat → Value} {a0 : Act} {i : Nat} : ∀ n, i ≤ n → frameTo ops vs a0 i = frameOf ops vs (fun j => decide (j < i)) a0 n
  | 0, h => by obtain rfl : i = 0 := by omega
               rfl
  | n + 1, h => by
    by_cases e : i = n + 1
    · subst e
      exact frame_congr _ fun j hj => by simp [hj]
    · rw [frameTo_eq n (by omega)]
      conv => rhs; unfold frameOf
      rw [if_neg (by simp; omega)]

/-- out of the walk: the values, and that each step stands -/
theorem Fixed.values {K : Act → Prop} {a0 : Act} : ∀ (rest : List Oper) (n : Nat) (us : Nat → Value), (∀ j, rest[j]? = ops[n + j]?) → n + rest.length = ops.size → Fixed P ops F K rest (frameTo ops us a0 n) →
    ∃ vs : Nat → Value, (∀ j, j < n → vs j = us j) ∧ K (frameTo ops vs a0 ops.size) ∧ ∀ i o, n ≤ i → ops[i]? = some o →
      (Region.wanted o (yielded ops (frameTo ops vs a0 i).tmps) = true ∧ StepOK P F o (frameTo ops vs a0 i) (vs i)) ∨ (Region.wanted o (yielded ops (frameTo ops vs a0 i).tmps) = false ∧ vs i = undef)
  | [], n, us, _, hn, h => ⟨us, fun _ _ => rfl, by rw [← hn]; exact h, fun i o hi ho => by
      have := (Array.getElem?_eq_some_iff.1 ho).1
      simp at hn; omega⟩
  | o :: rest, n, us, hr, hn, h => by
    have ho : ops[n]? = some o := by simpa using (hr 0).symm
    have hr' : ∀ j, rest[j]? = ops[n + 1 + j]? := fun j => by
      have := hr (j + 1)
      simpa [Nat.add_assoc, Nat.add_comm 1 j] using this
    have hput : ∀ v, frameTo ops (fun j => if j = n then v else us j) a0 (n + 1) = (frameTo ops us a0 n).put o.dst v := fun v => by
      unfold frameTo
      conv => lhs; unfold frameOf
      rw [if_pos rfl, if_pos rfl, ho, frame_vs (us := us) n (fun i hi => if_neg (by omega))]
      rfl
    have hkeep : ∀ v vs, (∀ j, j < n + 1 → vs j = (if j = n then v else us j)) → frameTo ops vs a0 n = frameTo ops us a0 n := fun v vs hvs => by
      exact frame_vs _ fun j hj => by rw [hvs j (by omega), if_neg (by omega)]
    rcases h with ⟨hw, v, hs, h⟩ | ⟨hw, h⟩
    · obtain ⟨vs, h1, h2, h3⟩ := Fixed.values rest (n + 1) (fun j => if j = n then v else us j) hr' (by simp at hn; omega) (by rw [hput]; exact h)
      refine ⟨vs, fun j hj => by rw [h1 j (by omega), if_neg (by omega)], h2, fun i o' hi ho' => ?_⟩
      by_cases e : i = n
      · subst e
        obtain rfl : o = o' := Option.some.inj (ho.symm.trans ho')
        rw [hkeep v vs h1, h1 i (by omega), if_pos rfl]
        exact .inl ⟨hw, hs⟩
      · exact h3 i o' (by omega) ho'
    · obtain ⟨vs, h1, h2, h3⟩ := Fixed.values rest (n + 1) (fun j => if j = n then undef else us j) hr' (by simp at hn; omega) (by rw [hput]; exact h)
      refine ⟨vs, fun j hj => by rw [h1 j (by omega), if_neg (by omega)], h2, fun i o' hi ho' => ?_⟩
      by_cases e : i = n
      · subst e
        obtain rfl : o = o' := Option.some.inj (ho.symm.trans ho')
        rw [hkeep undef vs h1, h1 i (by omega), if_pos rfl]
        exact .inr ⟨hw, rfl⟩
      · exact h3 i o' (by omega) ho'

/-- one step, in whatever frame agrees -/
theorem wpOp_fixed {Q : Exit → Act → World → Prop} {i : Nat} {o : Oper} (hi : ops[i]? = some o) (hsel : isSelect o = false) {a b : Act} {w : World} {v : Value} {K : Act → World → Prop}
    (hab : ∀ t ∈ o.looksAt ops, a.tmps[t]? = b.tmps[t]?) (hF : F w)
    (hs : (Region.wanted o (yielded ops b.tmps) = true ∧ StepOK P F o b v) ∨ (Region.wanted o (yielded ops b.tmps) = false ∧ v = undef))
    (h : ∀ w', Ext w w' → K (a.put o.dst v) w') : wpOp P ops Q i K a w := by
  have hns : ∀ cs c, o.op ≠ .select cs c := fun cs c e => by simp [isSelect, e] at hsel
  unfold wpOp
  simp only [hi]
  rw [wanted_agree hab]
  have he : execOp a.eval o = execOp b.eval o := execOp_congr o hns (eval_agree hab)
  rcases hs with ⟨hw, hr | ⟨f, args, hr, hc⟩⟩ | ⟨hw, rfl⟩
  · rw [if_pos hw]
    refine .inl ?_
    unfold Oper.wp
    rw [he, hr w hF]
    exact h w (Ext.refl w)
  · rw [if_pos hw]
    refine .inl ?_
    unfold Oper.wp
    rw [he, hr w hF]
    exact (hc w hF).mono fun e w' ⟨h1, h2⟩ => by subst h1; exact h w' h2
  · rw [hw]
    exact h w (Ext.refl w)

theorem waits_spec {i j : Nat} {o : Oper} (hi : ops[i]? = some o) : waits ops i j = true ↔ ∃ e ∈ o.after, Region.binds .any e = true ∧ e.on = j := by
  simp only [waits, hi, Option.map_some, Option.getD_some]
  rw [Array.any_eq_true]
  constructor
  · rintro ⟨k, hk, h⟩
    simp only [Bool.and_eq_true, beq_iff_eq] at h
    exact ⟨o.after[k], Array.getElem_mem hk, h.1, h.2⟩
  · rintro ⟨e, he, h1, h2⟩
    obtain ⟨k, hk, rfl⟩ := Array.getElem_of_mem he
    exact ⟨k, hk, by simp [h1, h2]⟩
theorem filter_less {p q : Nat → Bool} {i : Nat} (hp : p i = true) (hq : q i = false) : ∀ (l : List Nat), (∀ j ∈ l, q j = true → p j = true) → (l.filter q).length ≤ (l.filter p).length ∧ (i ∈ l → (l.filter q).length < (l.filter p).length)
  | [], _ => by simp
  | x :: l, h => by
    obtain ⟨h1, h2⟩ := filter_less hp hq l fun j hj => h j (by simp [hj])
    have hx := h x (by simp)
    by_cases e : i = x
    · subst e
      simp only [List.filter_cons, hp, hq, if_true, Bool.false_eq_true, if_false, List.length_cons]
      omega
    · cases hqx : q x with
      | true =>
        simp only [List.filter_cons, hqx, hx hqx, if_true, List.length_cons]
        refine ⟨by omega, fun hm => ?_⟩
        have := h2 (by simpa [e] using hm)
        omega
      | false =>
        cases hpx : p x with
        | true =>
          simp only [List.filter_cons, hqx, hpx, if_true, Bool.false_eq_true, if_false, List.length_cons]
          exact ⟨by omega, fun _ => by omega⟩
        | false =>
          simp only [List.filter_cons, hqx, hpx, Bool.false_eq_true, if_false]
          exact ⟨h1, fun hm => h2 (by simpa [e] using hm)⟩
theorem repl_false (n j : Nat) : (Array.replicate n false).getD j false = false := by
  simp only [Array.getD_eq_getD_getElem?, Array.getElem?_replicate]
  split <;> rfl

theorem wpAny_fixed {Q : Exit → Act → World → Prop} {a0 : Act} {w0 : World} {vs : Nat → Value} (hd : dstApart ops = true) (hl : looksOk ops = true) (hcl : ∀ w w', F w → Ext w w' → F w')
    (hst : ∀ i o, ops[i]? = some o → (Region.wanted o (yielded ops (frameTo ops vs a0 i).tmps) = true ∧ StepOK P F o (frameTo ops vs a0 i) (vs i)) ∨ (Region.wanted o (yielded ops (frameTo ops vs a0 i).tmps) = false ∧ vs i = undef))
    (hQ : ∀ w, Ext w0 w → F w → Q .normal (frameTo ops vs a0 ops.size) w) :
    ∀ (fuel : Nat) (listed : Array Bool) (w : World), listed.size = ops.size → ((List.range ops.size).filter fun j => !listed.getD j true).length ≤ fuel →
      (∀ i j, listed.getD i false = true → waits ops i j = true → listed.getD j false = true) → F w → Ext w0 w →
      wpAny P .any ops Q fuel listed (frameOf ops vs (fun j => listed.getD j false) a0 ops.size) w := by
  -- whoever is not listed: the first of them may come up
  have first : ∀ listed : Array Bool, listed.size = ops.size → Region.ready .any ops listed = [] → ∀ i, i < ops.size → listed.getD i false = true := by
    intro listed hs hr i
    induction i using Nat.strongRecOn with
    | _ i ih =>
      intro hi
      cases hb : listed.getD i false with
      | true => rfl
      | false =>
        have ho : ops[i]? = some ops[i] := Array.getElem?_eq_getElem hi
        have hmem : i ∈ Region.ready .any ops listed := mem_ready.2 ⟨by
          have hli : i < listed.size := by omega
          simpa [Array.getD_eq_getD_getElem?, hli] using hb, _, ho, fun e he hbd => by
            have hl' := hl
            unfold looksOk at hl'
            rw [List.all_eq_true] at hl'
            have h1 := hl' i (by simpa using hi)
            rw [ho] at h1
            simp only [Bool.and_eq_true] at h1
            have h2 := h1.1.2
            have h3 := (Array.all_eq_true_iff_forall_mem.1 h2) e he
            rw [hbd] at h3
            simp at h3
            exact ih e.on h3 (by omega)⟩
        rw [hr] at hmem
        cases hmem
  have fin : ∀ (listed : Array Bool) (w : World), listed.size = ops.size → F w → Ext w0 w → Region.ready .any ops listed = [] → Q .normal (frameOf ops vs (fun j => listed.getD j false) a0 ops.size) w := by
    intro listed w hs hF hx hr
    have : frameOf ops vs (fun j => listed.getD j false) a0 ops.size = frameTo ops vs a0 ops.size := frame_congr _ fun j hj => first listed hs hr j hj
    rw [this]
    exact hQ w hx hF
  intro fuel
  induction fuel with
  | zero =>
    intro listed w hs hn hcld hF hx
    have hr : Region.ready .any ops listed = [] := by
      rw [List.eq_nil_iff_forall_not_mem]
      intro i hi
      obtain ⟨h0, o, ho, _⟩ := mem_ready.1 hi
      have : i ∈ (List.range ops.size).filter fun j => !listed.getD j true := List.mem_filter.2 ⟨by simpa using (Array.getElem?_eq_some_iff.1 ho).1, by simp [h0]⟩
      rw [List.eq_nil_of_length_eq_zero (Nat.le_zero.1 hn)] at this
      cases this
    exact ⟨hr, fin listed w hs hF hx hr⟩
  | succ fuel ih =>
    intro listed w hs hn hcld hF hx
    refine ⟨fin listed w hs hF hx, fun i hi => ?_⟩
    obtain ⟨h0, o, ho, hall⟩ := mem_ready.1 hi
    have hi' : i < ops.size := (Array.getElem?_eq_some_iff.1 ho).1
    have hLi : listed.getD i false = false := by
      have hli : i < listed.size := by omega
      simpa [Array.getD_eq_getD_getElem?, hli] using h0
    have hsel : isSelect o = false := by
      have hl' := hl
      unfold looksOk at hl'
      rw [List.all_eq_true] at hl'
      have h1 := hl' i (by simpa using hi')
      rw [ho] at h1
      simp only [Bool.and_eq_true, Bool.not_eq_true'] at h1
      exact h1.1.1
    refine wpOp_fixed (b := frameTo ops vs a0 i) ho hsel ?_ hF (hst i o ho) ?_
    · intro t ht
      rw [frameTo_eq ops.size (by omega)]
      refine frames_agree hd hl ho ?_ ?_ ⟨hLi, by simp⟩ ht
      · intro j hj hw
        obtain ⟨e, he, hb, rfl⟩ := (waits_spec ho).1 hw
        exact ⟨hall e he hb, by simp [hj]⟩
      · intro j hj hw
        refine ⟨?_, by simp; omega⟩
        cases hb : listed.getD j false with
        | false => rfl
        | true => rw [hcld j i hb hw] at hLi; cases hLi
    · intro w' hx'
      have hmore := frame_more hd (vs := vs) (L := fun j => listed.getD j false) (a0 := a0) hLi ops.size hi'
      have hput : (ops[i]?).bind (·.dst) = o.dst := by rw [ho]; rfl
      rw [hput] at hmore
      rw [← hmore]
      have hset : ∀ j, (listed.setIfInBounds i true).getD j false = (j == i || listed.getD j false) := fun j => by
        by_cases e : j = i
        · subst e
          have : j < listed.size := by omega
          simp [Array.getD_eq_getD_getElem?, this]
        · rw [getD_set_ne false (fun h => e h.symm)]
          have : (j == i) = false := by simpa using e
          rw [this, Bool.false_or]
      rw [show frameOf ops vs (fun j => j == i || listed.getD j false) a0 ops.size = frameOf ops vs (fun j => (listed.setIfInBounds i true).getD j false) a0 ops.size from frame_congr _ fun j _ => (hset j).symm]
      refine ih _ _ (by simpa using hs) ?_ ?_ (hcl w w' hF hx') (hx.trans hx')
      · have hlen : ((List.range ops.size).filter fun j => !(listed.setIfInBounds i true).getD j true).length < ((List.range ops.size).filter fun j => !listed.getD j true).length := by
          have hsz : i < listed.size := by omega
          refine (filter_less (p := fun j => !listed.getD j true) (q := fun j => !(listed.setIfInBounds i true).getD j true) (i := i) (by simp only [h0]; rfl) (by simp [Array.getD_eq_getD_getElem?, hsz]) _ ?_).2 (by simpa using hi')
          intro j hj hj'
          by_cases e : i = j
          · subst e
            simp [Array.getD_eq_getD_getElem?, hsz] at hj'
          · rw [getD_set_ne true e] at hj'; exact hj'
        omega
      · intro k j hk hw
        rw [hset] at hk ⊢
        by_cases e : k = i
        · subst e
          obtain ⟨e, he, hb, rfl⟩ := (waits_spec ho).1 hw
          rw [hall e he hb]; simp
        · have : (k == i) = false := by simpa using e
          rw [this, Bool.false_or] at hk
          rw [hcld k j hk hw]; simp

/-- **A region walked once**, whether its order is drawn or not. -/
theorem wp_region_fixed {Q : Exit → Act → World → Prop} {id : Nat} {l : List Oper} {draw : Bool} {a : Act} {w : World} (hm : P.follows .mixedOrders = true) (hok : fixedOk l.toArray = true)
    (hcl : ∀ w w', F w → Ext w w' → F w') (hF : F w) (h : Fixed P l.toArray F (fun a' => ∀ w', Ext w w' → F w' → Q .normal a' w') l a) : (Code.region id l.toArray draw).wp P Q a w := by
  have hd : dstApart l.toArray = true := by simp only [fixedOk, Bool.and_eq_true] at hok; exact hok.1
  have hl : looksOk l.toArray = true := by simp only [fixedOk, Bool.and_eq_true] at hok; exact hok.2
  obtain ⟨vs, _, hK, hst⟩ := Fixed.values (a0 := a) l 0 (fun _ => undef) (by simp) (by simp) h
  cases draw with
  | true =>
    refine wp_region_any hm ?_
    have := wpAny_fixed (Q := Q) hd hl hcl (fun i o ho => hst i o (Nat.zero_le _) ho) hK l.toArray.size (Array.replicate l.toArray.size false) w.drew (by simp) (by
      have := List.length_filter_le (fun j => !(Array.replicate l.toArray.size false).getD j true) (List.range l.toArray.size)
      simpa using this) (fun i j hi => by rw [repl_false] at hi; cases hi) (hcl w w.drew hF ((Ext.refl w).drew)) ((Ext.refl w).drew)
    rw [frame_congr (M := fun _ => false) l.toArray.size (fun j hj => repl_false _ _)] at this
    rw [show frameOf l.toArray vs (fun _ => false) a l.toArray.size = a from by
      generalize l.toArray.size = n
      induction n with
      | zero => rfl
      | succ n ih => unfold frameOf; simpa using ih] at this
    exact this
  | false =>
    refine wp_region ?_
    have key : ∀ (n : Nat) (w' : World), n ≤ l.toArray.size → Ext w w' → F w' → wpOps P l.toArray Q (List.range' (l.toArray.size - n) n) (frameTo l.toArray vs a (l.toArray.size - n)) w' := by
      intro n
      induction n with
      | zero => intro w' _ hx hF'; exact hK w' hx hF'
      | succ n ih =>
        intro w' hn hx hF'
        rw [List.range'_succ, wpOps_cons]
        have hlt : l.toArray.size - (n + 1) < l.toArray.size := by omega
        have ho : l.toArray[l.toArray.size - (n + 1)]? = some l.toArray[l.toArray.size - (n + 1)] := Array.getElem?_eq_getElem hlt
        have hsel : isSelect l.toArray[l.toArray.size - (n + 1)] = false := by
          have hl' := hl
          unfold looksOk at hl'
          rw [List.all_eq_true] at hl'
          have h1 := hl' _ (List.mem_range.2 hlt)
          rw [ho] at h1
          simp only [Bool.and_eq_true, Bool.not_eq_true'] at h1
          exact h1.1.1
        refine wpOp_fixed ho hsel (fun _ _ => rfl) hF' (hst _ _ (Nat.zero_le _) ho) fun w'' hx' => ?_
        have := ih w'' (by omega) (hx.trans hx') (hcl _ _ hF' hx')
        rw [show l.toArray.size - n = l.toArray.size - (n + 1) + 1 by omega] at this
        unfold frameTo at this
        conv at this => arg 5; unfold frameOf
        rw [if_pos rfl, ho] at this
        exact this
    have := key l.toArray.size w (Nat.le_refl _) (Ext.refl w) hF
    rw [Nat.sub_self] at this
    rw [List.range_eq_range']
    exact this
end
end Go.Proofs.YtcpllhjhnfmepaaGreatDoor

/- Which texts a value may have: what the library's search for a letter finds. Plain. -/
namespace Go.Proofs.YtcpllhjhnfmepaaGreatDoor
set_option linter.all false

/-- a letter that may not be -/
def badL (r : Nat) : Bool := decide (r < 32) || decide (126 < r) || decide (r = 39)
/-- all letters of a text may be -/
def okText (s : ByteArray) : Bool := s.data.toList.all fun c => !badL c.toNat

theorem idx_from (s : ByteArray) : ∀ (f pos : Nat), s.size ≤ pos + f →
    (Lib.idxFuncFrom badL true s f pos < 0 ↔ ∀ j (h : j < s.size), pos ≤ j → badL (s[j]'h).toNat = false) := by
  intro f
  induction f with
  | zero =>
    intro pos hp
    simp only [Lib.idxFuncFrom]
    constructor
    · intro _ j h hj; omega
    · intro _; omega
  | succ f ih =>
    intro pos hp
    unfold Lib.idxFuncFrom
    by_cases hps : pos < s.size
    · rw [if_pos hps]
      by_cases ha : (s[pos]'hps).toNat < 128
      · rw [decode_ascii s pos hps ha]
        cases hb : badL (s[pos]'hps).toNat with
        | true =>
          simp only [if_true]
          constructor
          · intro h; omega
          · intro h; have := h pos hps (Nat.le_refl _); rw [hb] at this; cases this
        | false =>
          simp only [Bool.false_eq_true, if_false]
          rw [ih (pos + 1) (by omega)]
          constructor
          · intro h j hj hpj
            rcases Nat.eq_or_lt_of_le hpj with rfl | hlt
            · exact hb
            · exact h j hj hlt
          · intro h j hj hpj; exact h j hj (by omega)
      · have hd := decode_high s pos hps (by omega)
        have h1 : badL (Utf8.decode s pos).1 = true := by
          have := hd.1
          simp [badL]; omega
        have h2 : badL (s[pos]'hps).toNat = true := by simp [badL]; omega
        rw [if_pos h1]
        constructor
        · intro h; omega
        · intro h; have := h pos hps (Nat.le_refl _); rw [h2] at this; cases this
    · rw [if_neg hps]
      constructor
      · intro _ j h hj; omega
      · intro _; omega
theorem idx_ok (s : ByteArray) : decide (Lib.idxFunc badL true s < 0) = okText s := by
  rw [Bool.eq_iff_iff]
  rw [decide_eq_true_eq, Lib.idxFunc, idx_from s s.size 0 (by omega)]
  unfold okText
  rw [List.all_eq_true]
  constructor
  · intro h c hc
    obtain ⟨j, hj, rfl⟩ := List.getElem_of_mem hc
    have hb := h j (by simpa using hj) (Nat.zero_le _)
    have e : s.data.toList[j] = s[j]'(by simpa using hj) := by simp; rfl
    rw [e, hb]; rfl
  · intro h j hj _
    have := h (s[j]) (by
      have : s[j] = s.data.toList[j]'(by simpa using hj) := by simp; rfl
      rw [this]; exact List.getElem_mem _)
    simpa using this
end Go.Proofs.YtcpllhjhnfmepaaGreatDoor
