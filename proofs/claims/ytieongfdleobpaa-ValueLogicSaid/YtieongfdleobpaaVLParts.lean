/- The function values of millpondkeep.ValueLogic: a column's value, the rank of a condition, not. -/
import Derived.Test.YtieongfdleobpaaCond
import Derived.Shelf.Abstract
namespace Go.Proofs.Ytieongfdleobpaa
open Go.RowKit

/-- the column a has the value a, every other one b -/
def pickV (a b : GV) (s : ByteArray) : GV := if s.toList == [97] then a else b
def rankI (n : Int) : Int := if n = -1 then 1 else if n = 0 then 0 else 2

theorem enters_vl1 : ∀ (args : Array Value) (w : World), (callFunc 14 args).run Try.prog w = .ok (.enter 14 args) w := by
  exact Go.Proofs.enters_of Try.func14 (by kernel_rfl) rfl

set_option maxHeartbeats 1000000 in
theorem vl1_any (a b : GV) (pa pb : Nat) (s : ByteArray) (w : World)
    (a0 : w.cell? ⟨pa, 0, none⟩ = some (.int .i64 a.kind)) (a1 : w.cell? ⟨pa, 1, none⟩ = some (.int .i64 a.num)) (a2 : w.cell? ⟨pa, 2, none⟩ = some (.string a.text))
    (b0 : w.cell? ⟨pb, 0, none⟩ = some (.int .i64 b.kind)) (b1 : w.cell? ⟨pb, 1, none⟩ = some (.int .i64 b.num)) (b2 : w.cell? ⟨pb, 2, none⟩ = some (.string b.text)) :
    Calls Try.prog 14 #[.string s, .pointer (some ⟨pa, 0, none⟩), .pointer (some ⟨pb, 0, none⟩)] w fun e w' => e = .returned (.agg #[.int .i64 (pickV a b s).kind, .int .i64 (pickV a b s).num, .string (pickV a b s).text]) ∧ Ext w w' := by
  have na := lt_of_cell a0
  have nb := lt_of_cell b0
  simp only at na nb
  cases h : (s.toList == [97]) with
  | true =>
    have fin : pickV a b s = a := by simp only [pickV, h, if_true]
    rw [fin]
    clear fin
    go_enter Try.func14, Try.ntmps14
    go_wp2
    refine bodyPost_ret (v := .agg #[.int .i64 a.kind, .int .i64 a.num, .string a.text]) (by simp [results, Try.results14, go_sem]) rfl ⟨rfl, ?_⟩
    (repeat (first | exact Ext.refl _ | assumption | refine Ext.drew ?_ | refine Ext.alloc ?_ _ | refine Ext.drewN ?_ _ | refine Ext.trans ?_ (by assumption)))
  | false =>
    have fin : pickV a b s = b := by simp only [pickV, h, Bool.false_eq_true, if_false]
    rw [fin]
    clear fin
    go_enter Try.func14, Try.ntmps14
    go_wp2
    refine bodyPost_ret (v := .agg #[.int .i64 b.kind, .int .i64 b.num, .string b.text]) (by simp [results, Try.results14, go_sem]) rfl ⟨rfl, ?_⟩
    (repeat (first | exact Ext.refl _ | assumption | refine Ext.drew ?_ | refine Ext.alloc ?_ _ | refine Ext.drewN ?_ _ | refine Ext.trans ?_ (by assumption)))

set_option maxHeartbeats 1000000 in
theorem vl3_any (v : Option Addr) (t : CT) (w : World) (h : CondAt w (.pointer v) t) :
    Calls Try.prog 17 #[.pointer v] w fun e w' => (∃ p, e = .returned (.pointer p) ∧ CondAt w' (.pointer p) (opC 11 t .nil)) ∧ Ext w w' := by
  have H := Lib.hid h
  clear h
  go_enter Try.func17, Try.ntmps17
  go_wp2
  go_ret
  exact ⟨⟨_, rfl, ⟨w.heap.size, .pointer v, .pointer none, rfl, heap_alloc_new _ _, H.out.ext ((Ext.refl _).alloc _), rfl⟩⟩, (Ext.refl _).alloc _⟩

set_option maxHeartbeats 1000000 in
theorem vl2_any (w0 : World) (g : Nat) (lb : Array Value) (f : ByteArray → GV) (eg : ∀ args w, (callFunc g args).run Try.prog w = .ok (.enter g args) w) (hget : GetOk w0 g lb f) (pg : Nat)
    (t : CT) (v : Option Addr) (w : World) (hc : CondAt w (.pointer v) t) (hx : Ext w0 w) (hp : w.cell? ⟨pg, 0, none⟩ = some (.func (.func g) #[] lb)) :
    Calls Try.prog 15 #[.pointer v, .pointer (some ⟨pg, 0, none⟩)] w fun e w' => e = .returned (.int .i64 (rankI (evalC f t))) ∧ Ext w w' := by
  have h1 := holds_any w0 g lb f eg hget t (.pointer v) w hc hx
  have hr := evalC_range f t
  obtain ⟨n, hn⟩ : ∃ n, evalC f t = n := ⟨_, rfl⟩
  rw [hn] at h1 hr ⊢
  have H := Lib.hid h1
  clear h1 hget hc hx hn eg
  have i0 : ∀ w, (Instr.index 35 (.agg #[.int .i64 1, .int .i64 0, .int .i64 2]) (.int .i64 0)).run Try.prog w = .ok (.int .i64 1) w := fun _ => by kernel_rfl
  have i1 : ∀ w, (Instr.index 35 (.agg #[.int .i64 1, .int .i64 0, .int .i64 2]) (.int .i64 1)).run Try.prog w = .ok (.int .i64 0) w := fun _ => by kernel_rfl
  have i2 : ∀ w, (Instr.index 35 (.agg #[.int .i64 1, .int .i64 0, .int .i64 2]) (.int .i64 2)).run Try.prog w = .ok (.int .i64 2) w := fun _ => by kernel_rfl
  rcases hr with rfl | rfl | rfl
  all_goals
    go_enter Try.func15, Try.ntmps15
    go_wp2_with (go_at_call 16; refine H.out.mono ?_; rintro e w1 ⟨rfl, hw1⟩)
    go_ret
    exact ⟨rfl, hw1⟩
end Go.Proofs.Ytieongfdleobpaa
