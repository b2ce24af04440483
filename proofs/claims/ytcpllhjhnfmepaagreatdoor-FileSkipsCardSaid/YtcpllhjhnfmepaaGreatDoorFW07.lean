/- value.Holds: what it answers of a condition that lies in memory as a tree, by whatever function that tells a column's value; all that was there is as it was. -/
import Derived.Test.YtcpllhjhnfmepaaGreatDoorFW02
import Derived.Test.YtcpllhjhnfmepaaGreatDoorFW01
namespace Go.Proofs.YtcpllhjhnfmepaaGreatDoor
set_option linter.all false
set_option linter.unusedSimpArgs false
set_option linter.unusedVariables false
open Go.RowKit

/-- a value's fields -/
@[go_sem] theorem run_field_kind (k n : Int) (s : ByteArray) (w : World) : (Instr.field 45 (.agg #[.int .i64 k, .int .i64 n, .string s]) 0).run Tryz.prog w = .ok (.int .i64 k) w := by kernel_rfl
@[go_sem] theorem run_field_num (k n : Int) (s : ByteArray) (w : World) : (Instr.field 45 (.agg #[.int .i64 k, .int .i64 n, .string s]) 1).run Tryz.prog w = .ok (.int .i64 n) w := by kernel_rfl
@[go_sem] theorem run_field_text (k n : Int) (s : ByteArray) (w : World) : (Instr.field 45 (.agg #[.int .i64 k, .int .i64 n, .string s]) 2).run Tryz.prog w = .ok (.string s) w := by kernel_rfl

/-- a condition -/
inductive CT where
  | nil
  | node (code : Int) (col : ByteArray) (v : GV) (l r : CT)

/-- a condition lies at a pointer -/
def CondAt (w : World) : Value → CT → Prop
  | v, .nil => v = .pointer none
  | v, .node c col x l r => ∃ b lv rv, v = .pointer (some ⟨b, 0, none⟩) ∧ w.heap[b]? = some (.cells #[.int .i64 c, .string col, .int .i64 x.kind, .int .i64 x.num, .string x.text, lv, rv] 116 (0, 0)) ∧ CondAt w lv l ∧ CondAt w rv r
theorem CondAt.ext {w w' : World} (hx : Ext w w') : ∀ {t : CT} {v : Value}, CondAt w v t → CondAt w' v t
  | .nil, v, h => h
  | .node c col x l r, v, h => by
    obtain ⟨b, lv, rv, rfl, hb, hl, hr⟩ := h
    have hlt : b < w.heap.size := by
      rcases Nat.lt_or_ge b w.heap.size with h | h
      · exact h
      · rw [Array.getElem?_eq_none h] at hb; cases hb
    exact ⟨b, lv, rv, rfl, (hx.block b hlt).trans hb, hl.ext hx, hr.ext hx⟩

/-- what a condition comes to: 1, 0, -1 -/
def evalC (f : ByteArray → GV) : CT → Int
  | .nil => 1
  | .node c col x l r =>
    if c = 7 then (if (f col).kind = 0 then 1 else 0)
    else if c = 8 then (if (f col).kind = 0 then 0 else 1)
    else if c = 11 then (if evalC f l < 0 then evalC f l else 1 - evalC f l)
    else if c = 9 then (if evalC f l = 0 ∨ evalC f r = 0 then 0 else if evalC f l < 0 ∨ evalC f r < 0 then -1 else 1)
    else if c = 10 then (if evalC f l = 1 ∨ evalC f r = 1 then 1 else if evalC f l < 0 ∨ evalC f r < 0 then -1 else 0)
    else isV c (f col).kind (f col).num (f col).text x.kind x.num x.text
theorem evalC_range (f : ByteArray → GV) : ∀ t, evalC f t = -1 ∨ evalC f t = 0 ∨ evalC f t = 1
  | .nil => .inr (.inr rfl)
  | .node c col x l r => by
    have h1 := evalC_range f l
    have h2 := evalC_range f r
    unfold evalC isV isCode
    repeat' split
    all_goals omega

/-- what is asked of the function that tells a column's value: from world w0 on -/
def GetOk (w0 : World) (g : Nat) (lb : Array Value) (f : ByteArray → GV) : Prop :=
  ∀ W, Ext w0 W → ∀ s, Calls Tryz.prog g (#[.string s] ++ lb) W fun e w' => e = .returned (.agg #[.int .i64 (f s).kind, .int .i64 (f s).num, .string (f s).text]) ∧ Ext W w'

theorem GetOk.at {w0 : World} {g : Nat} {lb : Array Value} {f : ByteArray → GV} (h : GetOk w0 g lb f) (W : World) (hx : Ext w0 W) (s : ByteArray) :
    Calls Tryz.prog g (#[.string s] ++ lb) W fun e w' => e = .returned (.agg #[.int .i64 (f s).kind, .int .i64 (f s).num, .string (f s).text]) ∧ Ext W w' := h W hx s

end Go.Proofs.YtcpllhjhnfmepaaGreatDoor
