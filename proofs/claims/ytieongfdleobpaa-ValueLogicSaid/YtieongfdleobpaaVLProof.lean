/- VALUES AND CONDITIONS: millpondkeep.ValueLogic answers true at every list of parts and every value, and leaves what was there as it was. Conditions: none beyond the statement's own. -/
import Derived.Test.YtieongfdleobpaaVLogic
import Derived.Test.YtieongfdleobpaaOpenParts
namespace Go.Proofs.Ytieongfdleobpaa
open Go.RowKit
open Go.ChangeShapes Go.WideShapes Go.ChangeAt Go.Joins

set_option maxRecDepth 100000 in
theorem valueLogic_lifted (os : Os) (started : os.Started) (H : Type) (enc : TypeId × Value → H) :
    ReturnsInHanded {} Try.checked os 4 .any (Rows.valueLogicSpec.pre6 enc Try.prog Try.f4 Rows.valueLogicRow.domain false) (Rows.valueLogicSpec.post enc Try.prog Try.f4 false true false false) := by
  refine returnsInHanded_of_change_sized (C := Try.checked) Try.own started (by kernel_rfl) Try.func4
    (ChangeSpec.witness6 (enc := enc) (C := Try.checked) false ⟨#[], #[.slice none 0 0, .slice none 0 0, .agg #[.int .i64 0, .int .i64 0, .string ⟨#[]⟩], .agg #[.int .i64 0, .int .i64 0, .string ⟨#[]⟩]], []⟩ 8 (by kernel_rfl) (by kernel_rfl) (by kernel_rfl) (by kernel_rfl)) ?_
  intro W base args ds gs before hval0 hW hcnd hsz0 _
  have hval : ∀ (j : Nat) t v, Try.f4.params[j]? = some t → args[j]? = some v → Value.okWide Try.prog W .any base t v := hval0
  have hsz1 : (DataW.weightsEach Try.prog (Try.f4.params.toList ++ Rows.valueLogicSpec.plain.varTypes Try.prog) (ds ++ gs)).all (· ≤ reachBytes) = true := hsz0
  have hW' := hW
  obtain ⟨p, q, hA0, hV, rfl, hfz, hnd⟩ := hW
  have hA : DataW.TrodAll enc Try.prog W 0 (fun _ => true) true Try.f4.params.toList args.toList ds p := hA0
  rw [Try.params4] at hA hval hsz1
  have hAk := hA
  obtain ⟨v0, vs0, d0, ds0, p0, q0, hargs, rfl, hp0, h0, r0⟩ := trodAll_cons hA
  obtain ⟨v1, vs1, d1, ds1, p1, q1, rfl, rfl, rfl, h1, r1⟩ := trodAll_cons r0
  obtain ⟨v2, vs2, d2, ds2, p2, q2, rfl, rfl, rfl, h2, r2⟩ := trodAll_cons r1
  obtain ⟨v3, vs3, d3, ds3, p3, q3, rfl, rfl, rfl, h3, r3⟩ := trodAll_cons r2
  obtain ⟨rfl, rfl, rfl⟩ := trodAll_nil r3
  obtain rfl : args = #[v0, v1, v2, v3] := by cases args; simp_all
  obtain ⟨rfl, rfl⟩ := trodVars_none hV
  clear hA0 hval0 hsz0
  have hlt : ∀ x ∈ p, x.block < W.heap.size := fun x hx => by simpa using hW'.lt x (by simp [hx])
  have main : Calls Try.prog 4 #[v0, v1, v2, v3] W fun e W' => e = .returned (.bool true) ∧ Ext W W' := by
    obtain ⟨l, A, cl, rfl, hl, sl⟩ := open_parts (hval 0 31 v0 rfl rfl) h0 (weights_of hsz1 (j := 0) rfl rfl)
    obtain ⟨m, B, cm, rfl, hm, sm⟩ := open_parts (hval 1 31 v1 rfl rfl) h1 (weights_of hsz1 (j := 1) rfl rfl)
    obtain ⟨a, rfl, _, _, sa⟩ := open_gv (hval 2 23 v2 rfl rfl) h2 (weights_of hsz1 (j := 2) rfl rfl)
    obtain ⟨b, rfl, _, _, sb⟩ := open_gv (hval 3 23 v3 rfl rfl) h3 (weights_of hsz1 (j := 3) rfl rfl)
    by_cases hsum : (a.text.size : Int) + b.text.size ≤ 200
    · exact logic_main l m A B cl cm a b W hsum hl hm sl sm
    · exact logic_long l m A B cl cm a b W sa sb hsum
  refine main.mono fun e W' ⟨he, hx⟩ => ?_
  subst he
  refine ⟨_, rfl, _, _, _, [], p, [], hW', trodAll_mk1 (shut_bool Try.underlying4 _), trodAll_ext Try.laidOut hx _ _ _ _ ?_ hAk hlt, rfl, hx.out.frame _, fun h => by cases h⟩
  rw [Try.params4]
  exact List.forall_mem_cons.2 ⟨⟨by kernel_rfl, of_decide_eq_true (by kernel_rfl)⟩, List.forall_mem_cons.2 ⟨⟨by kernel_rfl, of_decide_eq_true (by kernel_rfl)⟩, List.forall_mem_cons.2 ⟨⟨by kernel_rfl, of_decide_eq_true (by kernel_rfl)⟩, List.forall_mem_cons.2 ⟨⟨by kernel_rfl, of_decide_eq_true (by kernel_rfl)⟩, (fun _ h => by cases h)⟩⟩⟩⟩

theorem valueLogic_holds : Rows.ValueLogicSaid :=
  OpenClaim.holds_of_wide 4 Try.f4 rfl rfl rfl rfl rfl rfl rfl ⟨rfl, rfl, rfl, rfl, rfl⟩ rfl rfl rfl rfl rfl (by kernel_rfl) Try.func4 (by kernel_rfl)
    (of_decide_eq_true (by kernel_rfl)) (by unfold Func.isWrapper; first | (rw [if_pos (by decide +kernel)]; kernel_rfl) | (rw [if_neg (by decide +kernel)]; exact ⟨rfl, rfl⟩))
    (fun os started H enc _ => valueLogic_lifted os started H enc)
#print axioms valueLogic_holds

end Go.Proofs.Ytieongfdleobpaa
