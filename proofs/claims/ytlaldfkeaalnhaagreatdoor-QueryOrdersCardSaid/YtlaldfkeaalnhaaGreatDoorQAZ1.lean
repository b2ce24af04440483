/- IN ORDER, AND NO MORE: millpondkeep.QueryOrders answers true at all columns, all rows, every number of a column and every limit, and leaves what was there as it was. Conditions: the tables that the card lists (the marks, the words and the functions of package ask, the words that a name may not be, the tables of numbers and letters, the two errors of strconv, the error type's handle) read as the card ties them to the program's text. -/
import Derived.Test.YtlaldfkeaalnhaaGreatDoorQA31
import Derived.Test.YtlaldfkeaalnhaaGreatDoorQA29
import Derived.Test.YtlaldfkeaalnhaaGreatDoorQA11
import Derived.ChangeMaps5
namespace Go.Proofs.YtlaldfkeaalnhaaGreatDoor
set_option linter.unusedSimpArgs false
set_option linter.unusedVariables false
open Go.RowKit
set_option linter.all false
open Go.ChangeShapes Go.WideShapes Go.ChangeAt Go.Joins
/-- a world that meets the condition -/
theorem door_met (os : Os) (args : Array Value) : laidMetH Tryz.prog laidQ ((startQ os).forCall (fun _ _ => 0) ⟨#[], args, []⟩).memory :=
 startQ_met os args
set_option maxRecDepth 100000 in
theorem queryOrders_lifted (os : Os) (started : os.Started) (H : Type) (enc : TypeId × Value → H) :
  ReturnsInHanded {} Tryz.checked os 4 .any (fun w args => (Rows.queryOrdersSpec.pre enc Tryz.prog Tryz.f4 [] false w args ∧ laidMetH Tryz.prog laidQ w) ∧ sizedMet enc Tryz.prog Tryz.f4 (OpenSpec.ofChange Rows.queryOrdersSpec) false w args)
   (Rows.queryOrdersSpec.post enc Tryz.prog Tryz.f4 false true false false) := by
 refine returnsInHanded_of_change_and (C := Tryz.checked) (X := fun w _ => laidMetH Tryz.prog laidQ w) (fun _ _ _ hh h => h.of_heap hh) Tryz.own started (by kernel_rfl) Tryz.func4
  (ChangeSpec.witness_shaped (enc := enc) (C := Tryz.checked) (os := os) (X := fun w _ => laidMetH Tryz.prog laidQ w) false (startQ os) #[.slice none 0 0, .slice none 0 0, .int .i64 0, .int .i64 0] 8 (startQ_os os) (World.shaped_of_ZipB (by kernel_rfl) (by kernel_rfl)) (by kernel_rfl) (by kernel_rfl) (by kernel_rfl) (door_met os _)) ?_
 intro W base args ds gs before hval0 hW hcnd hsz0 hL _
 have hval : ∀ (j : Nat) t v, Tryz.f4.params[j]? = some t → args[j]? = some v → Value.okWide Tryz.prog W .any base t v := hval0
 have hsz1 : (DataW.weightsEach Tryz.prog (Tryz.f4.params.toList ++ Rows.queryOrdersSpec.plain.varTypes Tryz.prog) (ds ++ gs)).all (· ≤ reachBytes) = true := hsz0
 have hW' := hW
 obtain ⟨p, q, hA0, hV, rfl, hfz, hnd⟩ := hW
 have hA : DataW.TrodAll enc Tryz.prog W 0 (fun _ => true) true Tryz.f4.params.toList args.toList ds p := hA0
 rw [Tryz.params4] at hA hval hsz1
 have hAk := hA
 obtain ⟨v0, vs0, d0, ds0, p0, q0, hargs, rfl, hp0, h0, r0⟩ := trodAll_cons hA
 obtain ⟨v1, vs1, d1, ds1, p1, q1, rfl, rfl, rfl, h1, r1⟩ := trodAll_cons r0
 obtain ⟨v2, vs2, d2, ds2, p2, q2, rfl, rfl, rfl, h2, r2⟩ := trodAll_cons r1
 obtain ⟨v3, vs3, d3, ds3, p3, q3, rfl, rfl, rfl, h3, r3⟩ := trodAll_cons r2
 obtain ⟨rfl, rfl, rfl⟩ := trodAll_nil r3
 obtain rfl : args = #[v0, v1, v2, v3] := by cases args; simp_all
 obtain ⟨rfl, rfl⟩ := trodVars_none hV
 clear hA0 hval0 hsz0
 have hlt : ∀ x ∈ p, x.block < W.heap.size := fun x hx => by simpa using hW'.lt x (by simp [hx])
 have main : Calls Tryz.prog 4 #[v0, v1, v2, v3] W fun e W' => e = .returned (.bool true) ∧ Ext W W' := by
  obtain ⟨cs, A, c, rfl, hc, hcap, hi⟩ := open_cols (hval 0 22 v0 rfl rfl) h0
  obtain ⟨rs, A2, c2, rfl, hr, hcap2, hcap3, hv⟩ := open_rows (hval 1 23 v1 rfl rfl) h1 (weights_of hsz1 (j := 1) rfl rfl)
  obtain ⟨fuel2, hf2⟩ := h2
  obtain ⟨a, rfl, _, _, _⟩ := open_int Tryz.underlying3 (hval 2 3 v2 rfl rfl) ⟨fuel2, hf2⟩
  obtain ⟨fuel3, hf3⟩ := h3
  obtain ⟨b, rfl, _, _, _⟩ := open_int Tryz.underlying3 (hval 3 3 v3 rfl rfl) ⟨fuel3, hf3⟩
  obtain ⟨hk, ht, he⟩ := of_laidQ hL
  exact orders_any cs rs A A2 cs.length rs.length c c2 a b W rfl rfl hc hr hcap hcap2 hcap3 hi hv (fun W' hx => hk.ext hx) ht he
 refine main.mono fun e W' ⟨he, hx⟩ => ?_
 subst he
 refine ⟨_, rfl, _, _, _, [], p, [], hW', trodAll_mk1 (shut_bool Tryz.underlying4 _), trodAll_ext Tryz.laidOut hx _ _ _ _ ?_ hAk hlt, rfl, hx.out.frame _, fun h => by cases h⟩
 rw [Tryz.params4]
 exact List.forall_mem_cons.2 ⟨⟨by kernel_rfl, of_decide_eq_true (by kernel_rfl)⟩, List.forall_mem_cons.2 ⟨⟨by kernel_rfl, of_decide_eq_true (by kernel_rfl)⟩, List.forall_mem_cons.2 ⟨⟨by kernel_rfl, of_decide_eq_true (by kernel_rfl)⟩, List.forall_mem_cons.2 ⟨⟨by kernel_rfl, of_decide_eq_true (by kernel_rfl)⟩, (fun _ h => by cases h)⟩⟩⟩⟩

theorem queryOrders_row_holds : Rows.QueryOrdersSaid :=
 OpenClaim.holds_of_wide 4 Tryz.f4 rfl rfl rfl rfl rfl rfl rfl ⟨rfl, rfl, rfl, rfl, rfl⟩ rfl rfl rfl rfl rfl (by kernel_rfl) Tryz.func4 (by kernel_rfl)
  (of_decide_eq_true (by kernel_rfl)) (by unfold Func.isWrapper; first | (rw [if_pos (by decide +kernel)]; kernel_rfl) | (rw [if_neg (by decide +kernel)]; exact ⟨rfl, rfl⟩))
  (fun os started H enc _ => queryOrders_lifted os started H enc)
theorem queryOrders_holds : Rows.QueryOrdersCardSaid :=
 Claim7.holds_tied_plain_at .later [] [.data, .data, .data, .data, .handle, .sentinel, .sentinel, .widerDeep, .data, .widerDeep, .widerDeep, .pinned] true Rows.queryOrdersCard.stood.harness Rows.queryOrdersCard.stood.looks
  queryOrders_row_holds (fun _ h => by cases h) (by kernel_rfl) (fun _ h => by cases h) queryOrders_row_tie rfl ⟨rfl, rfl⟩ (by kernel_rfl) rfl
  (fun f fn hf hfn => by
   obtain rfl : f = 4 := Option.some.inj ((show Tryz.prog.funcNamed "millpond/millpondkeep.QueryOrders" = some 4 by kernel_rfl).symm.trans hf) |>.symm
   obtain rfl : fn = Tryz.f4 := (Option.some.inj (Tryz.func4.symm.trans hfn)).symm
   exact ⟨by kernel_rfl, fun j t ht => by
    have hall : (Tryz.f4.params.toList.all fun u => !Tryz.prog.wantsStandIn u) = true := by kernel_rfl
    have hm : t ∈ Tryz.f4.params.toList := by simpa using Array.mem_of_getElem? ht
    exact (show Tryz.prog.wantsStandIn t = false by simpa using List.all_eq_true.1 hall t hm)⟩)
  (by kernel_rfl)
#print axioms queryOrders_holds

end Go.Proofs.YtlaldfkeaalnhaaGreatDoor
