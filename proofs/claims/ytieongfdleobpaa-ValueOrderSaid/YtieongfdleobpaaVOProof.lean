/- VALUES STAND IN A ROW: millpondkeep.ValueOrder answers true at every three values, and leaves what was there as it was. Conditions: none beyond the statement's own. -/
import Derived.Test.YtieongfdleobpaaVOrder
import Derived.Test.YtieongfdleobpaaOpen
namespace Go.Proofs.Ytieongfdleobpaa
open Go.RowKit
open Go.ChangeShapes Go.WideShapes Go.ChangeAt Go.Joins

set_option maxRecDepth 100000 in
set_option maxHeartbeats 2000000 in
theorem order_long (a b c : GV) (w : World) (sa : a.text.size ≤ 140737488355328) (sb : b.text.size ≤ 140737488355328) (sc : c.text.size ≤ 140737488355328) (hsum : ¬ (a.text.size : Int) + b.text.size + c.text.size ≤ 300) :
    Calls Try.prog 3 #[.agg #[.int .i64 a.kind, .int .i64 a.num, .string a.text], .agg #[.int .i64 b.kind, .int .i64 b.num, .string b.text], .agg #[.int .i64 c.kind, .int .i64 c.num, .string c.text]] w
      fun e w' => e = .returned (.bool true) ∧ Ext w w' := by
  go_enter Try.func3, Try.ntmps3
  go_wp2
  go_ret
  refine ⟨rfl, ?_⟩
  (repeat (first | exact Ext.refl _ | assumption | refine Ext.drew ?_ | refine Ext.alloc ?_ _ | refine Ext.drewN ?_ _ | refine Ext.trans ?_ (by assumption)))
set_option maxRecDepth 100000 in
set_option maxHeartbeats 2000000 in
theorem order_wrong (a b c : GV) (w : World) (hsum : (a.text.size : Int) + b.text.size + c.text.size ≤ 300) (hall : [a, b, c].all okV = false) :
    Calls Try.prog 3 #[.agg #[.int .i64 a.kind, .int .i64 a.num, .string a.text], .agg #[.int .i64 b.kind, .int .i64 b.num, .string b.text], .agg #[.int .i64 c.kind, .int .i64 c.num, .string c.text]] w
      fun e w' => e = .returned (.bool true) ∧ Ext w w' := by
  have HALL := Lib.hid hall
  clear hall
  go_enter Try.func3, Try.ntmps3
  go_wp2_with (first | (go_at_call 7; refine (ordered_any _).mono ?_; rintro e w1 ⟨rfl, hw1⟩; have A0 := hw1.keeps (p := ⟨w.heap.size, 0, none⟩) (v := .int .i64 a.kind) (by go_simp); have A1 := hw1.keeps (p := ⟨w.heap.size, 1, none⟩) (v := .int .i64 a.num) (by go_simp); have A2 := hw1.keeps (p := ⟨w.heap.size, 2, none⟩) (v := .string a.text) (by go_simp); have B0 := hw1.keeps (p := ⟨w.heap.size + 1, 0, none⟩) (v := .int .i64 b.kind) (by go_simp); have B1 := hw1.keeps (p := ⟨w.heap.size + 1, 1, none⟩) (v := .int .i64 b.num) (by go_simp); have B2 := hw1.keeps (p := ⟨w.heap.size + 1, 2, none⟩) (v := .string b.text) (by go_simp); have C0 := hw1.keeps (p := ⟨w.heap.size + 1 + 1, 0, none⟩) (v := .int .i64 c.kind) (by go_simp); have C1 := hw1.keeps (p := ⟨w.heap.size + 1 + 1, 1, none⟩) (v := .int .i64 c.num) (by go_simp); have C2 := hw1.keeps (p := ⟨w.heap.size + 1 + 1, 2, none⟩) (v := .string c.text) (by go_simp)) | (go_at_call 8; go_must (refine (right_list [a, b, c] _ _ _ (RV.block (heap_alloc_new w1 _) rfl) (by simp)).mono ?_); rw [HALL.out]; rintro e w2 ⟨rfl, hw2⟩; have hw3 := (Ext.refl w1).alloc (.cells (cellsV [a, b, c]).toArray 23) |>.trans hw2))
  go_ret
  refine ⟨rfl, ?_⟩
  (repeat (first | exact Ext.refl _ | assumption | refine Ext.drew ?_ | refine Ext.alloc ?_ _ | refine Ext.drewN ?_ _ | refine Ext.trans ?_ (by assumption)))
theorem order_any (a b c : GV) (w : World) (ia : i64 a.num) (ib : i64 b.num) (sa : a.text.size ≤ 140737488355328) (sb : b.text.size ≤ 140737488355328) (sc : c.text.size ≤ 140737488355328) :
    Calls Try.prog 3 #[.agg #[.int .i64 a.kind, .int .i64 a.num, .string a.text], .agg #[.int .i64 b.kind, .int .i64 b.num, .string b.text], .agg #[.int .i64 c.kind, .int .i64 c.num, .string c.text]] w
      fun e w' => e = .returned (.bool true) ∧ Ext w w' := by
  by_cases hsum : (a.text.size : Int) + b.text.size + c.text.size ≤ 300
  · by_cases hall : [a, b, c].all okV = true
    · have h := hall
      simp only [List.all_cons, List.all_nil, Bool.and_true, Bool.and_eq_true] at h
      exact order_main a b c w (by omega) h.1 h.2.1 h.2.2 ia ib
    · exact order_wrong a b c w hsum (by simpa using hall)
  · exact order_long a b c w sa sb sc hsum

set_option maxRecDepth 100000 in
theorem valueOrder_lifted (os : Os) (started : os.Started) (H : Type) (enc : TypeId × Value → H) :
    ReturnsInHanded {} Try.checked os 3 .any (Rows.valueOrderSpec.pre6 enc Try.prog Try.f3 Rows.valueOrderRow.domain false) (Rows.valueOrderSpec.post enc Try.prog Try.f3 false true false false) := by
  refine returnsInHanded_of_change_sized (C := Try.checked) Try.own started (by kernel_rfl) Try.func3
    (ChangeSpec.witness6 (enc := enc) (C := Try.checked) false ⟨#[], #[.agg #[.int .i64 0, .int .i64 0, .string ⟨#[]⟩], .agg #[.int .i64 0, .int .i64 0, .string ⟨#[]⟩], .agg #[.int .i64 0, .int .i64 0, .string ⟨#[]⟩]], []⟩ 8 (by kernel_rfl) (by kernel_rfl) (by kernel_rfl) (by kernel_rfl)) ?_
  intro W base args ds gs before hval0 hW hcnd hsz0 _
  have hval : ∀ (j : Nat) t v, Try.f3.params[j]? = some t → args[j]? = some v → Value.okWide Try.prog W .any base t v := hval0
  have hsz1 : (DataW.weightsEach Try.prog (Try.f3.params.toList ++ Rows.valueOrderSpec.plain.varTypes Try.prog) (ds ++ gs)).all (· ≤ reachBytes) = true := hsz0
  have hW' := hW
  obtain ⟨p, q, hA0, hV, rfl, hfz, hnd⟩ := hW
  have hA : DataW.TrodAll enc Try.prog W 0 (fun _ => true) true Try.f3.params.toList args.toList ds p := hA0
  rw [Try.params3] at hA hval hsz1
  have hAk := hA
  obtain ⟨v0, vs0, d0, ds0, p0, q0, hargs, rfl, hp0, h0, r0⟩ := trodAll_cons hA
  obtain ⟨v1, vs1, d1, ds1, p1, q1, rfl, rfl, rfl, h1, r1⟩ := trodAll_cons r0
  obtain ⟨v2, vs2, d2, ds2, p2, q2, rfl, rfl, rfl, h2, r2⟩ := trodAll_cons r1
  obtain ⟨rfl, rfl, rfl⟩ := trodAll_nil r2
  obtain rfl : args = #[v0, v1, v2] := by cases args; simp_all
  obtain ⟨rfl, rfl⟩ := trodVars_none hV
  clear hA0 hval0 hsz0
  have hlt : ∀ x ∈ p, x.block < W.heap.size := fun x hx => by simpa using hW'.lt x (by simp [hx])
  have main : Calls Try.prog 3 #[v0, v1, v2] W fun e W' => e = .returned (.bool true) ∧ Ext W W' := by
    obtain ⟨a, rfl, _, ia, sa⟩ := open_gv (hval 0 23 v0 rfl rfl) h0 (weights_of hsz1 (j := 0) rfl rfl)
    obtain ⟨b, rfl, _, ib, sb⟩ := open_gv (hval 1 23 v1 rfl rfl) h1 (weights_of hsz1 (j := 1) rfl rfl)
    obtain ⟨c, rfl, _, _, sc⟩ := open_gv (hval 2 23 v2 rfl rfl) h2 (weights_of hsz1 (j := 2) rfl rfl)
    exact order_any a b c W ia ib sa sb sc
  refine main.mono fun e W' ⟨he, hx⟩ => ?_
  subst he
  refine ⟨_, rfl, _, _, _, [], p, [], hW', trodAll_mk1 (shut_bool Try.underlying4 _), trodAll_ext Try.laidOut hx _ _ _ _ ?_ hAk hlt, rfl, hx.out.frame _, fun h => by cases h⟩
  rw [Try.params3]
  exact List.forall_mem_cons.2 ⟨⟨by kernel_rfl, of_decide_eq_true (by kernel_rfl)⟩, List.forall_mem_cons.2 ⟨⟨by kernel_rfl, of_decide_eq_true (by kernel_rfl)⟩, List.forall_mem_cons.2 ⟨⟨by kernel_rfl, of_decide_eq_true (by kernel_rfl)⟩, (fun _ h => by cases h)⟩⟩⟩

theorem valueOrder_holds : Rows.ValueOrderSaid :=
  OpenClaim.holds_of_wide 3 Try.f3 rfl rfl rfl rfl rfl rfl rfl ⟨rfl, rfl, rfl, rfl, rfl⟩ rfl rfl rfl rfl rfl (by kernel_rfl) Try.func3 (by kernel_rfl)
    (of_decide_eq_true (by kernel_rfl)) (by unfold Func.isWrapper; first | (rw [if_pos (by decide +kernel)]; kernel_rfl) | (rw [if_neg (by decide +kernel)]; exact ⟨rfl, rfl⟩))
    (fun os started H enc _ => valueOrder_lifted os started H enc)
#print axioms valueOrder_holds

end Go.Proofs.Ytieongfdleobpaa
