/- THE SCHEMA'S NUMBERS: millpondkeep.SchemaNumbers answers true at every list of changes of columns, and leaves what was there as it was. Conditions: the tables that the card lists (the words that a name may not be, the error type's handle) read as the card ties them to the program's text. -/
import Derived.Test.YthikjhdobnllhaaDoorSchWalk
import Derived.Test.YthikjhdobnllhaaDoorOpenCh
import Derived.Test.YthikjhdobnllhaaDoorCards
import Derived.Test.YthikjhdobnllhaaDoorTie
import Derived.LaidMore
import Derived.LaidHandle
import Derived.Lay
import Derived.OpenShut
import Derived.Stop.Joined
import Derived.SevenTiedAt
namespace Go.Proofs.YthikjhdobnllhaaDoor
set_option linter.unusedSimpArgs false
set_option linter.unusedVariables false
open Go.RowKit
set_option linter.all false
open Go.ChangeShapes Go.WideShapes Go.ChangeAt Go.Joins
theorem gKept : Tryd.prog.globalNamed "millpond/schema.kept" = some 0 := by kernel_rfl
theorem tKept : (Tryd.prog.globals[0]?).map (·.type) = some 52 := by kernel_rfl
theorem gErr : Tryd.prog.globalNamed "errors.errorType" = some 1 := by kernel_rfl
theorem rtTy : (Tryd.prog.cutTypes.find? (·.1 == "internal/reflectlite.rtype")).map (·.2) = some 83 := by kernel_rfl
theorem oneRow : ((List.range 139).filter fun t => Tryd.prog.rowNamed t [101, 114, 114, 111, 114]) = [34] := by kernel_rfl
theorem szTypes : Tryd.prog.types.size = 139 := by kernel_rfl
def laidL : List (String × DataW Unit) := [("unicode/utf8.acceptRanges", Rows.laid_unicode_utf8_acceptRanges), ("errors.errorType", Rows.laid_errors_errorType), ("millpond/schema.kept", Rows.laid_millpond_schema_kept), ("unicode/utf8.first", Rows.laid_unicode_utf8_first)]
def laidT : List (String × DataW Unit) := [("unicode/utf8.acceptRanges", Rows.laid_unicode_utf8_acceptRanges), ("millpond/schema.kept", Rows.laid_millpond_schema_kept), ("unicode/utf8.first", Rows.laid_unicode_utf8_first)]
theorem laid_split {W : World} (h : laidMetH Tryd.prog laidL W) : laidMet Tryd.prog laidT W ∧ handlesMet Tryd.prog [("errors.errorType", Rows.laid_errors_errorType)] W := h
theorem of_laid {W : World} (h : laidMetH Tryd.prog laidL W) : KeptAt W ∧ ErrAt W := by
  obtain ⟨h1, h2⟩ := laid_split h
  constructor
  · obtain ⟨ps, ⟨_, _, _, _, _, _, _, _, _, _, ⟨g0, t0, cs0, f0, p0, q0, hg0, ht0, hv0, hd0, _, _⟩, _⟩, _, _⟩ := h1
    obtain rfl := Option.some.inj (gKept.symm.trans hg0)
    obtain rfl := Option.some.inj (tKept.symm.trans ht0)
    obtain ⟨xs, m1, rfl, hx1, hlen, hn3, hel⟩ := DataW.trod_array Tryd.underlying52 hd0
    have hx : xs.map (·.1) = [.lit (.string [97, 110, 100]), .lit (.string [105, 115]), .lit (.string [110, 111, 116]), .lit (.string [110, 117, 108, 108]), .lit (.string [111, 114])] := by
      have := (Prod.mk.inj hx1).1
      simpa [Rows.laid_millpond_schema_kept, eq_comm] using this
    intro j hj
    have hj' := hel j hj
    rw [Tryd.cellsString] at hj'
    obtain ⟨xj, hxj⟩ : ∃ x, xs[j]? = some x := ⟨_, List.getElem?_eq_getElem (by omega)⟩
    rw [hxj] at hj'
    obtain ⟨k, e1, e2, _⟩ := DataW.trod_string Tryd.underlying9 hj'
    have hc := World.var?_cell hg0 hv0 j
    have hk : (xs.map (·.1))[j]? = some (.lit (.string k.data.toList)) := by rw [List.getElem?_map, hxj, e2]; rfl
    rw [hx] at hk
    have e3 := congrArg List.head? e1
    simp [List.head?_take, List.head?_drop] at e3
    rw [hc, e3]
    have : k = keptL.getD j ByteArray.empty := by
      have hkd : ∀ l, k.data.toList = l → k = ⟨⟨l⟩⟩ := fun l hl => by
        obtain ⟨⟨d⟩⟩ := k
        simp at hl
        subst hl
        rfl
      rcases (by omega : j = 0 ∨ j = 1 ∨ j = 2 ∨ j = 3 ∨ j = 4) with rfl | rfl | rfl | rfl | rfl <;> simp at hk <;> exact hkd _ hk.symm
    rw [this]
  · obtain ⟨name, u, ty, e1, e2, e3, e4, e5⟩ := h2 _ (List.mem_singleton.2 rfl)
    have en : name = [101, 114, 114, 111, 114] := (Option.some.inj e1).symm
    subst en
    obtain rfl := Option.some.inj (rtTy.symm.trans e2)
    have hm : ty ∈ (List.range 139).filter fun t => Tryd.prog.rowNamed t [101, 114, 114, 111, 114] := List.mem_filter.2 ⟨List.mem_range.2 (by rw [← szTypes]; exact e3), e4⟩
    rw [oneRow] at hm
    obtain rfl := List.mem_singleton.1 hm
    have hh : typeHandle Tryd.prog 34 = .pointer (some ⟨5, 34, none⟩) := by kernel_rfl
    rw [hh] at e5
    have e6 := World.var?_cell gErr e5 0
    simpa [ErrAt] using e6
/-- a start: the settled world, the handle's cell laid -/
noncomputable def baseW (os : Os) : World :=
  let w0 := World.holding Tryd.prog os ⟨#[], #[], []⟩
  { w0 with heap := w0.heap.modify 1 fun
      | .cells _ t frozen => .cells #[.iface 83 (.agg #[.pointer (some ⟨5, 34, none⟩)])] t frozen
      | o => o }
noncomputable def startW (os : Os) : World := (baseW os).layVars Tryd.prog laidT
theorem startW_os (os : Os) : (startW os).os = os := World.layVars_os _ _ _
theorem startW_data (os : Os) (args : Array Value) : laidMet Tryd.prog laidT ((startW os).forCall (fun _ _ => 0) ⟨#[], args, []⟩).memory := by
  have e1 : (laidT.filter fun x => (laidT.map (·.1)).contains x.1) = laidT := List.filter_eq_self.2 fun x hx => List.contains_iff_mem.2 (List.mem_map.2 ⟨x, hx, rfl⟩)
  have e2 : (laidT.filter fun x => !(laidT.map (·.1)).contains x.1) = [] := List.filter_eq_nil_iff.2 fun x hx => by rw [List.contains_iff_mem.2 (List.mem_map.2 ⟨x, hx, rfl⟩)]; simp
  have hf : (baseW os).layFits Tryd.prog laidT [] = true := by kernel_rfl
  have hi : (baseW os).layIfaces Tryd.prog laidT (startW os) = true := by kernel_rfl
  have h : laidMet Tryd.prog laidT (startW os) := laidMet_layVars (w0 := baseW os) (laidT.map (·.1)) [] (by rw [e1]; rfl) (by rw [e1]; exact hf) (by rw [e1]; exact hi) (by rw [e2]; exact LaidIn.none)
  exact h.of_heap (by simp [World.memory, World.forCall, Input.heap])
theorem startW_met (os : Os) (args : Array Value) : laidMetH Tryd.prog laidL ((startW os).forCall (fun _ _ => 0) ⟨#[], args, []⟩).memory :=
  laidMetH_of_parts3 (fuel := 8) (startW_data os args) (by kernel_rfl) (by kernel_rfl)
/-- a world that meets the condition -/
theorem door_met (os : Os) (args : Array Value) : laidMetH Tryd.prog laidL ((startW os).forCall (fun _ _ => 0) ⟨#[], args, []⟩).memory :=
  startW_met os args
set_option maxRecDepth 100000 in
theorem schemaNumbers_lifted (os : Os) (started : os.Started) (H : Type) (enc : TypeId × Value → H) :
    ReturnsInHanded {} Tryd.checked os 3 .any (fun w args => (Rows.schemaNumbersSpec.pre enc Tryd.prog Tryd.f3 [] false w args ∧ laidMetH Tryd.prog laidL w) ∧ sizedMet enc Tryd.prog Tryd.f3 (OpenSpec.ofChange Rows.schemaNumbersSpec) false w args)
      (Rows.schemaNumbersSpec.post enc Tryd.prog Tryd.f3 false true false false) := by
  refine returnsInHanded_of_change_and (C := Tryd.checked) (X := fun w _ => laidMetH Tryd.prog laidL w) (fun _ _ _ hh h => h.of_heap hh) Tryd.own started (by kernel_rfl) Tryd.func3
    (ChangeSpec.witness_shaped (enc := enc) (C := Tryd.checked) (os := os) (X := fun w _ => laidMetH Tryd.prog laidL w) false (startW os) #[.slice none 0 0] 8 (startW_os os) (World.shaped_of_ZipB (by kernel_rfl) (by kernel_rfl)) (by kernel_rfl) (by kernel_rfl) (by kernel_rfl) (door_met os _)) ?_
  intro W base args ds gs before hval0 hW hcnd hsz0 hL _
  have hval : ∀ (j : Nat) t v, Tryd.f3.params[j]? = some t → args[j]? = some v → Value.okWide Tryd.prog W .any base t v := hval0
  have hsz1 : (DataW.weightsEach Tryd.prog (Tryd.f3.params.toList ++ Rows.schemaNumbersSpec.plain.varTypes Tryd.prog) (ds ++ gs)).all (· ≤ reachBytes) = true := hsz0
  have hW' := hW
  obtain ⟨p, q, hA0, hV, rfl, hfz, hnd⟩ := hW
  have hA : DataW.TrodAll enc Tryd.prog W 0 (fun _ => true) true Tryd.f3.params.toList args.toList ds p := hA0
  rw [Tryd.params3] at hA hval hsz1
  have hAk := hA
  obtain ⟨v0, vs0, d0, ds0, p0, q0, hargs, rfl, hp0, h0, r0⟩ := trodAll_cons hA
  obtain ⟨rfl, rfl, rfl⟩ := trodAll_nil r0
  obtain rfl : args = #[v0] := by cases args; simp_all
  obtain ⟨rfl, rfl⟩ := trodVars_none hV
  clear hA0 hval0 hsz0
  have hlt : ∀ x ∈ p, x.block < W.heap.size := fun x hx => by simpa using hW'.lt x (by simp [hx])
  have main : Calls Tryd.prog 3 #[v0] W fun e W' => e = .returned (.bool true) ∧ Ext W W' := by
    obtain ⟨l, A, c, rfl, hl⟩ := open_changes (hval 0 22 v0 rfl rfl) h0
    obtain ⟨hk, he⟩ := of_laid hL
    exact numbers_any l A c W hl hk he
  refine main.mono fun e W' ⟨he, hx⟩ => ?_
  subst he
  refine ⟨_, rfl, _, _, _, [], p, [], hW', trodAll_mk1 (shut_bool Tryd.underlying4 _), trodAll_ext Tryd.laidOut hx _ _ _ _ ?_ hAk hlt, rfl, hx.out.frame _, fun h => by cases h⟩
  rw [Tryd.params3]
  exact List.forall_mem_cons.2 ⟨⟨by kernel_rfl, of_decide_eq_true (by kernel_rfl)⟩, (fun _ h => by cases h)⟩

theorem schemaNumbers_row_holds : Rows.SchemaNumbersSaid :=
  OpenClaim.holds_of_wide 3 Tryd.f3 rfl rfl rfl rfl rfl rfl rfl ⟨rfl, rfl, rfl, rfl, rfl⟩ rfl rfl rfl rfl rfl (by kernel_rfl) Tryd.func3 (by kernel_rfl)
    (of_decide_eq_true (by kernel_rfl)) (by unfold Func.isWrapper; first | (rw [if_pos (by decide +kernel)]; kernel_rfl) | (rw [if_neg (by decide +kernel)]; exact ⟨rfl, rfl⟩))
    (fun os started H enc _ => schemaNumbers_lifted os started H enc)
theorem schemaNumbers_holds : Rows.SchemaNumbersCardSaid :=
  Claim7.holds_tied_plain_at .later [] [.data, .handle, .widerDeep, .pinned] true Rows.schemaNumbersCard.stood.harness Rows.schemaNumbersCard.stood.looks
    schemaNumbers_row_holds (fun _ h => by cases h) (by kernel_rfl) (fun _ h => by cases h) schemaNumbers_row_tie rfl ⟨rfl, rfl⟩ (by kernel_rfl) rfl
    (fun f fn hf hfn => by
      obtain rfl : f = 3 := Option.some.inj ((show Tryd.prog.funcNamed "millpond/millpondkeep.SchemaNumbers" = some 3 by kernel_rfl).symm.trans hf) |>.symm
      obtain rfl : fn = Tryd.f3 := (Option.some.inj (Tryd.func3.symm.trans hfn)).symm
      exact ⟨by kernel_rfl, fun j t ht => by
        have hall : (Tryd.f3.params.toList.all fun u => !Tryd.prog.wantsStandIn u) = true := by kernel_rfl
        have hm : t ∈ Tryd.f3.params.toList := by simpa using Array.mem_of_getElem? ht
        exact (show Tryd.prog.wantsStandIn t = false by simpa using List.all_eq_true.1 hall t hm)⟩)
    (by kernel_rfl)
#print axioms schemaNumbers_holds

end Go.Proofs.YthikjhdobnllhaaDoor
