/- Texts joined: The tables that a row lists (the words that a name may not be, the error type's handle, utf8's tables): what they tell of the world; a world that has them. slices.Repeat of one value. Slices of columns: what their cells hold; IndexFunc, ContainsFunc, Find. a change of columns as Go has it. schema.Right. slices of columns: Clone, Delete, Equal of the same. -/
import Derived.Test.YtcpllhjhnfmepaaGreatDoorFX07
import Derived.Test.YtcpllhjhnfmepaaGreatDoorFX04
import Derived.Test.YtcpllhjhnfmepaaGreatDoorFX01
import Derived.Test.YtcpllhjhnfmepaaGreatDoorCards
import Derived.Test.YtcpllhjhnfmepaaGreatDoorTie
import Derived.LaidMore
import Derived.LaidHandle
import Derived.Lay
import Derived.OpenShut
import Derived.Stop.Joined
import Derived.SevenTiedAt
import Derived.Test.YtcpllhjhnfmepaaGreatDoorFX05
import Derived.Test.YtcpllhjhnfmepaaGreatDoorFX03
import Derived.Test.YtcpllhjhnfmepaaGreatDoorFX08
/- The tables that a row lists (the words that a name may not be, the error type's handle, utf8's tables): what they tell of the world; a world that has them. -/
namespace Go.Proofs.YtcpllhjhnfmepaaGreatDoor
set_option linter.unusedSimpArgs false
set_option linter.unusedVariables false
open Go.RowKit
set_option linter.all false
open Go.ChangeShapes Go.WideShapes Go.ChangeAt Go.Joins
theorem gKept : Tryz.prog.globalNamed "millpond/schema.kept" = some 0 := by kernel_rfl
theorem tKept : (Tryz.prog.globals[0]?).map (·.type) = some 111 := by kernel_rfl
theorem gErr : Tryz.prog.globalNamed "errors.errorType" = some 1 := by kernel_rfl
theorem rtTy : (Tryz.prog.cutTypes.find? (·.1 == "internal/reflectlite.rtype")).map (·.2) = some 186 := by kernel_rfl
theorem oneRow : ((List.range 235).filter fun t => Tryz.prog.rowNamed t [101, 114, 114, 111, 114]) = [31] := by kernel_rfl
theorem szTypes : Tryz.prog.types.size = 235 := by kernel_rfl
def laidL : List (String × DataW Unit) := [("unicode/utf8.acceptRanges", Rows.laid_unicode_utf8_acceptRanges), ("errors.errorType", Rows.laid_errors_errorType), ("millpond/schema.kept", Rows.laid_millpond_schema_kept), ("unicode/utf8.first", Rows.laid_unicode_utf8_first)]
def laidT : List (String × DataW Unit) := [("unicode/utf8.acceptRanges", Rows.laid_unicode_utf8_acceptRanges), ("millpond/schema.kept", Rows.laid_millpond_schema_kept), ("unicode/utf8.first", Rows.laid_unicode_utf8_first)]
theorem laid_split {W : World} (h : laidMetH Tryz.prog laidL W) : laidMet Tryz.prog laidT W ∧ handlesMet Tryz.prog [("errors.errorType", Rows.laid_errors_errorType)] W := h
theorem of_laid {W : World} (h : laidMetH Tryz.prog laidL W) : KeptAt W ∧ ErrAt W := by
  obtain ⟨h1, h2⟩ := laid_split h
  constructor
  · obtain ⟨ps, ⟨_, _, _, _, _, _, _, _, _, _, ⟨g0, t0, cs0, f0, p0, q0, hg0, ht0, hv0, hd0, _, _⟩, _⟩, _, _⟩ := h1
    obtain rfl := Option.some.inj (gKept.symm.trans hg0)
    obtain rfl := Option.some.inj (tKept.symm.trans ht0)
    obtain ⟨xs, m1, rfl, hx1, hlen, hn3, hel⟩ := DataW.trod_array Tryz.underlying111 hd0
    have hx : xs.map (·.1) = [.lit (.string [97, 110, 100]), .lit (.string [105, 115]), .lit (.string [110, 111, 116]), .lit (.string [110, 117, 108, 108]), .lit (.string [111, 114])] := by
      have := (Prod.mk.inj hx1).1
      simpa [Rows.laid_millpond_schema_kept, eq_comm] using this
    intro j hj
    have hj' := hel j hj
    rw [Tryz.cellsString] at hj'
    obtain ⟨xj, hxj⟩ : ∃ x, xs[j]? = some x := ⟨_, List.getElem?_eq_getElem (by omega)⟩
    rw [hxj] at hj'
    obtain ⟨k, e1, e2, _⟩ := DataW.trod_string Tryz.underlying9 hj'
    have hc := World.var?_cell hg0 hv0 j
    have hk : (xs.map (·.1))[j]? = some (.lit (.string k.data.toList)) := by rw [List.getElem?_map, hxj, e2]; rfl
    rw [hx] at hk
    have e3 := congrArg List.head? e1
    simp [List.head?_take, List.head?_drop] at e3
    rw [hc, e3]
    have : k = keptL.getD j ByteArray.empty := by
      have hkd : ∀ l, k.data.toList = l → k = ⟨⟨l⟩⟩ := fun l hl => by
        obtain ⟨⟨d⟩⟩ := k
        simp at hl
        subst hl
        rfl
      rcases (by omega : j = 0 ∨ j = 1 ∨ j = 2 ∨ j = 3 ∨ j = 4) with rfl | rfl | rfl | rfl | rfl <;> simp at hk <;> exact hkd _ hk.symm
    rw [this]
  · obtain ⟨name, u, ty, e1, e2, e3, e4, e5⟩ := h2 _ (List.mem_singleton.2 rfl)
    have en : name = [101, 114, 114, 111, 114] := (Option.some.inj e1).symm
    subst en
    obtain rfl := Option.some.inj (rtTy.symm.trans e2)
    have hm : ty ∈ (List.range 235).filter fun t => Tryz.prog.rowNamed t [101, 114, 114, 111, 114] := List.mem_filter.2 ⟨List.mem_range.2 (by rw [← szTypes]; exact e3), e4⟩
    rw [oneRow] at hm
    obtain rfl := List.mem_singleton.1 hm
    have hh : typeHandle Tryz.prog 31 = .pointer (some ⟨6, 31, none⟩) := by kernel_rfl
    rw [hh] at e5
    have e6 := World.var?_cell gErr e5 0
    simpa [ErrAt] using e6
/-- a start: the settled world, the handle's cell laid -/
noncomputable def baseW (os : Os) : World :=
  let w0 := World.holding Tryz.prog os ⟨#[], #[], []⟩
  { w0 with heap := w0.heap.modify 1 fun
      | .cells _ t frozen => .cells #[.iface 186 (.agg #[.pointer (some ⟨6, 31, none⟩)])] t frozen
      | o => o }
noncomputable def startW (os : Os) : World := (baseW os).layVars Tryz.prog laidT
theorem startW_os (os : Os) : (startW os).os = os := World.layVars_os _ _ _
theorem startW_data (os : Os) (args : Array Value) : laidMet Tryz.prog laidT ((startW os).forCall (fun _ _ => 0) ⟨#[], args, []⟩).memory := by
  have e1 : (laidT.filter fun x => (laidT.map (·.1)).contains x.1) = laidT := List.filter_eq_self.2 fun x hx => List.contains_iff_mem.2 (List.mem_map.2 ⟨x, hx, rfl⟩)
  have e2 : (laidT.filter fun x => !(laidT.map (·.1)).contains x.1) = [] := List.filter_eq_nil_iff.2 fun x hx => by rw [List.contains_iff_mem.2 (List.mem_map.2 ⟨x, hx, rfl⟩)]; simp
  have hf : (baseW os).layFits Tryz.prog laidT [] = true := by kernel_rfl
  have hi : (baseW os).layIfaces Tryz.prog laidT (startW os) = true := by kernel_rfl
  have h : laidMet Tryz.prog laidT (startW os) := laidMet_layVars (w0 := baseW os) (laidT.map (·.1)) [] (by rw [e1]; rfl) (by rw [e1]; exact hf) (by rw [e1]; exact hi) (by rw [e2]; exact LaidIn.none)
  exact h.of_heap (by simp [World.memory, World.forCall, Input.heap])
theorem startW_met (os : Os) (args : Array Value) : laidMetH Tryz.prog laidL ((startW os).forCall (fun _ _ => 0) ⟨#[], args, []⟩).memory :=
  laidMetH_of_parts3 (fuel := 8) (startW_data os args) (by kernel_rfl) (by kernel_rfl)
end Go.Proofs.YtcpllhjhnfmepaaGreatDoor

/- slices.Repeat of one value. -/
namespace Go.Proofs.YtcpllhjhnfmepaaGreatDoor
set_option linter.all false
set_option linter.unusedSimpArgs false
set_option linter.unusedVariables false
open Go.RowKit
theorem cellsV_rep_add (x : GV) (n m : Nat) : cellsV (List.replicate (n + m) x) = cellsV (List.replicate n x) ++ cellsV (List.replicate m x) := by
  rw [← List.replicate_append_replicate, cellsV_append]
theorem cellsV_one : ∀ (l : List GV), ∀ u ∈ cellsV l, u.oneCell' = true
  | [], u, h => by cases h
  | x :: l, u, h => by
    simp only [cellsV, List.mem_cons] at h
    rcases h with rfl | rfl | rfl | h
    · rfl
    · rfl
    · rfl
    · exact cellsV_one l u h
theorem rep_step {x : GV} {xs : List Value} {n m : Nat} (h : xs.take (n * 3) = cellsV (List.replicate n x)) (hl : (n + m) * 3 ≤ xs.length) :
    (splice xs (n * 3) (cellsV (List.replicate m x))).take ((n + m) * 3) = cellsV (List.replicate (n + m) x) := by
  have hm : (cellsV (List.replicate m x)).length = m * 3 := by rw [cellsV_len, List.length_replicate]
  unfold splice
  rw [cellsV_rep_add, ← h, ← List.append_assoc, List.take_left' (by rw [List.length_append, List.length_take, hm]; omega)]
set_option maxRecDepth 100000 in
set_option maxHeartbeats 8000000 in
theorem repeat_any (x : GV) (A : Option Addr) (c : Nat) (k : Nat) (hk : k ≤ 1000) (w : World) (hr : RV w A [x]) :
    Calls Tryz.prog 53 #[.slice A 1 c, .int .i64 k] w fun e w' => ∃ g cap, e = .returned (.slice (some ⟨g, 0, none⟩) k cap) ∧ Hp w.heap.size w w' [.row 45 3 (some ⟨g, 0, none⟩) k cap (cellsV (List.replicate k x))] := by
  obtain ⟨b, o, rfl, c0, c1, c2⟩ := hr 0 x rfl
  simp only [Nat.zero_mul, Nat.add_zero] at c0 c1 c2
  have hR := Reads.cell c0 (Reads.cell c1 (Reads.cell c2 (Reads.nil w)))
  clear c0 c1 c2 hr
  have hS := Hp.init w
  have w1 : IntKind.u64.wrap (k : Int) = k := by rw [IntKind.wrap_u64]; omega
  have w2 : IntKind.i64.wrap (k : Int) = k := by rw [IntKind.wrap_i64]; omega
  have HM := Lib.hid (show ∀ W : World, Calls Tryz.prog 78 #[.int .u64 1, .int .u64 k] W fun e w' => e = .returned (.tuple #[.int .u64 0, .int .u64 k]) ∧ w' = W from fun W => by
    have := Tryz.bits_Mul 1 k (by decide) (by omega) W
    rw [Nat.one_mul, Nat.div_eq_of_lt (by omega), Nat.mod_eq_of_lt (by omega)] at this
    exact this)
  ((try clear hF); (first | have hF := And.intro hS.facts (hR.at hS.ext) | have hF := hS.facts); simp only [HFacts, cellFacts, RFacts, cellOnly, and_true, true_and, Nat.zero_add, Nat.reduceAdd] at hF)
  go_enter Tryz.func53, Tryz.ntmps53
  obtain ⟨m0, hm0⟩ : ∃ m, m = min 1 k := ⟨_, rfl⟩
  have hm1 : m0 ≤ k := by omega
  have HM0 := Lib.hid hm0
  clear hm0
  go_wp2_with (first | ((with_reducible first | refine nhLa ?_ | refine nhLs ?_ | refine nhLd ?_ | refine nhCa ?_ | refine nhCs ?_ | refine nhCd ?_ | refine nhPa ?_ | refine nhPs ?_ | refine nhPd ?_ | refine nhKa ?_ | refine nhKs ?_ | refine nhKd ?_); ((try clear hF); clear hS; intro wk hS; (try simp only [List.set_cons_zero, List.set_cons_succ, heap_size, heap_set_size] at hS); ((try clear hF); (first | have hF := And.intro hS.facts (hR.at hS.ext) | have hF := hS.facts); simp only [HFacts, cellFacts, RFacts, cellOnly, and_true, true_and, Nat.zero_add, Nat.reduceAdd] at hF))) | (go_at_call 78; (with_reducible refine (HM.out _).mono ?_); rintro e wk ⟨rfl, hw⟩; replace hw := hw.symm; subst hw) | (at_make; refine wpList_makeN_hp Tryz.elem_vals rfl (.tmp 29) (.tmp 29) rfl hS .i64 .i64 _ _ rfl rfl (m := k) rfl rfl (by omega) (by omega) ?_; clear hS; intro g wk xs hxl hS; ((try clear hF); (first | have hF := And.intro hS.facts (hR.at hS.ext) | have hF := hS.facts); simp only [HFacts, cellFacts, RFacts, cellOnly, and_true, true_and, Nat.zero_add, Nat.reduceAdd] at hF)) | (refine wpList_copy_hp Tryz.elem_vals rfl (.tmp 31) (.tmp 32) rfl hS 0 k k ⟨b, o, none⟩ 1 c m0 rfl rfl HM0.out (cellsV (List.replicate m0 x)) (by rw [cellsV_len, List.length_replicate]) (by omega) ?hsrc (cellsV_one _) ?_; rotate_left; clear hS; intro wk hS; ((try clear hF); (first | have hF := And.intro hS.facts (hR.at hS.ext) | have hF := hS.facts); simp only [HFacts, cellFacts, RFacts, cellOnly, and_true, true_and, Nat.zero_add, Nat.reduceAdd] at hF)))
  case hsrc =>
    intro j v hj
    have h01 : m0 = 0 ∨ m0 = 1 := by have := HM0.out; omega
    clear hS
    rcases h01 with rfl | rfl
    · simp [cellsV] at hj
    · have hj' : [Value.int .i64 x.kind, .int .i64 x.num, .string x.text][j]? = some v := hj
      match j, hj' with
      | 0, hj' => simp at hj'; subst hj'; simpa [Addr.add] using hF.1
      | 1, hj' => simp at hj'; subst hj'; simpa [Addr.add] using hF.2.1
      | 2, hj' => simp at hj'; subst hj'; simpa [Addr.add] using hF.2.2
      | j + 3, hj' => simp at hj'
  have hx0 : (splice xs (0 * 3) (cellsV (List.replicate m0 x))).take (m0 * 3) = cellsV (List.replicate m0 x) := by
    have := rep_step (x := x) (xs := xs) (n := 0) (m := m0) (by simp [cellsV]) (by omega)
    rwa [Nat.zero_add] at this
  have hl0 : (splice xs (0 * 3) (cellsV (List.replicate m0 x))).length = k * 3 := by rw [length_splice _ _ _ (by rw [cellsV_len, List.length_replicate]; omega)]; exact hxl
  have HX0 := Lib.hid hx0
  have HL0 := Lib.hid hl0
  clear hx0 hl0 hxl
  generalize splice xs (0 * 3) (cellsV (List.replicate m0 x)) = ys at HX0 HL0 hS
  go_loopw [8] (fun nv wr => ∃ (n : Nat) (zs : List Value), nv = .int .i64 n ∧ n ≤ k ∧ (0 < k → 0 < n) ∧ Hid (zs.take (n * 3) = cellsV (List.replicate n x)) ∧ Hid (zs.length = k * 3) ∧ Hp w.heap.size w wr [.row 45 3 (some ⟨g, 0, none⟩) k k zs]) (fun nv _ => k - (intOf nv).toNat)
  case atStart => exact ⟨m0, ys, rfl, hm1, (by have := HM0.out; omega), HX0, HL0, hS⟩
  case round =>
    clear hS hF HM0 hm1 HX0 HL0
    obtain ⟨n, zs, rfl, hn, hpos, hz, hzl, hS⟩ := hrel
    by_cases hlt : n < k
    · obtain ⟨m, hm⟩ : ∃ m, m = min n (k - n) := ⟨_, rfl⟩
      have hm2 : n + m ≤ k := by omega
      have hm3 : 0 < m := by have := hpos (by omega); omega
      have hm4 : m ≤ n := by omega
      have HM1 := Lib.hid (show m = Nat.min n (k - n) from hm)
      clear hm hpos
      have f1 : (n : Int) ≤ k := by omega
      have f2 : (0 : Int) ≤ n := by omega
      have f3 : IntKind.i64.wrap ((n : Int) + (m : Int)) = (n : Int) + m := IntWalk.i64_in _ (by omega)
      have f5 : ¬ k = n := by omega
      ((try clear hF); (first | have hF := And.intro hS.facts (hR.at hS.ext) | have hF := hS.facts); simp only [HFacts, cellFacts, RFacts, cellOnly, and_true, true_and, Nat.zero_add, Nat.reduceAdd] at hF)
      go_wp2_with fail
      ((with_reducible refine wp_region_chain_hp [.q, .q, .q, .q, .q, .q, .q, .t, .t, .t] [] (by kernel_rfl) rfl (by kernel_rfl) hS (fun w h => h.sub (by simp)) ?_); clear hS; (repeat ((with_reducible refine Walk.here ?_); (first | ((with_reducible apply Walk.skipQ); (first | rfl | exact wanted_false rfl rfl rfl (by assumption)); (try simp only [Mark.isQ, if_true, Bool.false_eq_true, if_false, Act.put, List.setIfInBounds_toArray, List.set_cons_zero, List.set_cons_succ])) | ((with_reducible apply Walk.val); (first | rfl | exact wanted_true rfl rfl rfl (by assumption)); (rintro w hS; ((try clear hF); (first | have hF := And.intro hS.facts (hR.at hS.ext) | have hF := hS.facts); simp only [HFacts, cellFacts, RFacts, cellOnly, and_true, true_and, Nat.zero_add, Nat.reduceAdd] at hF); go_simp; with_reducible rfl); (try simp only [Mark.isQ, if_true, Bool.false_eq_true, if_false, Act.put, List.setIfInBounds_toArray, List.set_cons_zero, List.set_cons_succ])) | ((with_reducible apply Walk.tail); (try simp only [Mark.isQ, if_true, Bool.false_eq_true, if_false, Act.put, List.setIfInBounds_toArray, List.set_cons_zero, List.set_cons_succ])) | ((with_reducible apply Walk.guardT); rfl; rfl; rfl; (all_goals intro hg)) | ((with_reducible apply Walk.guardF); rfl; rfl; rfl; (all_goals intro hg))))); refine Walk.done ?_; simp only [chainOf, Mark.isT, if_true, Bool.false_eq_true, if_false])
      refine Chain.copy Tryz.elem_vals rfl (.tmp 41) (.tmp 44) rfl n (k - n) (k - n) ⟨g, 0, none⟩ n k m rfl rfl HM1.out (cellsV (List.replicate m x)) (by rw [cellsV_len, List.length_replicate]) hm2 ?_ (cellsV_one _) (fun w h => h.sub (by simp)) ?_
      · intro W hW j v hj
        have hj3 : j < m * 3 := by
          have := (List.getElem?_eq_some_iff.1 hj).1
          rwa [cellsV_len, List.length_replicate] at this
        have e : (cellsV (List.replicate n x))[j]? = some v := by
          rw [show n = m + (n - m) by omega, cellsV_rep_add, List.getElem?_append_left (by rw [cellsV_len, List.length_replicate]; exact hj3)]
          exact hj
        rw [← hz.out, List.getElem?_take_of_lt (by omega)] at e
        obtain ⟨g', hg', hc, _⟩ := hW.rowCell 0 rfl e
        obtain rfl : g = g' := by simpa using hg'
        have e2 : (⟨g, 0, none⟩ : Addr).add j = ⟨g, j, none⟩ := by unfold Addr.add; split <;> simp_all
        rw [e2]; exact hc
      try simp only [Act.put, List.setIfInBounds_toArray, List.set_cons_zero, List.set_cons_succ]
      (refine Chain.val (by (first | rfl | exact wanted_true rfl rfl rfl (by assumption))) (fun w h => h.sub (by simp)) (by rintro w hS; ((try clear hF); (first | have hF := And.intro hS.facts (hR.at hS.ext) | have hF := hS.facts); simp only [HFacts, cellFacts, RFacts, cellOnly, and_true, true_and, Nat.zero_add, Nat.reduceAdd] at hF); go_simp; with_reducible rfl) ?_; try simp only [Act.put, List.setIfInBounds_toArray, List.set_cons_zero, List.set_cons_succ])
      (refine Chain.val (by (first | rfl | exact wanted_true rfl rfl rfl (by assumption))) (fun w h => h.sub (by simp)) (by rintro w hS; ((try clear hF); (first | have hF := And.intro hS.facts (hR.at hS.ext) | have hF := hS.facts); simp only [HFacts, cellFacts, RFacts, cellOnly, and_true, true_and, Nat.zero_add, Nat.reduceAdd] at hF); go_simp; with_reducible rfl) ?_; try simp only [Act.put, List.setIfInBounds_toArray, List.set_cons_zero, List.set_cons_succ])
      (refine Chain.done ?_; (try clear hF); intro wk hS; ((try clear hF); (first | have hF := And.intro hS.facts (hR.at hS.ext) | have hF := hS.facts); simp only [HFacts, cellFacts, RFacts, cellOnly, and_true, true_and, Nat.zero_add, Nat.reduceAdd] at hF))
      go_wp2_with fail
      go_roundw
      case rel => exact ⟨n + m, splice zs (n * 3) (cellsV (List.replicate m x)), by go_num, hm2, by omega, Lib.hid (rep_step hz.out (by rw [hzl.out]; omega)), Lib.hid (by rw [length_splice _ _ _ (by rw [cellsV_len, List.length_replicate, hzl.out]; omega)]; exact hzl.out), hS⟩
      case measure => simp [intOf]; omega
    · obtain rfl : n = k := by omega
      ((try clear hF); (first | have hF := And.intro hS.facts (hR.at hS.ext) | have hF := hS.facts); simp only [HFacts, cellFacts, RFacts, cellOnly, and_true, true_and, Nat.zero_add, Nat.reduceAdd] at hF)
      go_wp2_with fail
      go_ret
      refine ⟨g, n, rfl, ?_⟩
      have e : zs = cellsV (List.replicate n x) := by rw [← hz.out, List.take_of_length_le (by rw [hzl.out]; exact Nat.le_refl _)]
      rw [e] at hS
      exact hS
end Go.Proofs.YtcpllhjhnfmepaaGreatDoor

/- Slices of columns: what their cells hold; IndexFunc, ContainsFunc, Find. -/
namespace Go.Proofs.YtcpllhjhnfmepaaGreatDoor
set_option linter.all false
set_option linter.unusedSimpArgs false
set_option linter.unusedVariables false
open Go.RowKit
def cellsC : List CG → List Value
  | [] => []
  | c :: l => .int .i64 c.id :: .string c.name :: .int .i64 c.kind :: .bool c.must :: .int .i64 c.d.kind :: .int .i64 c.d.num :: .string c.d.text :: cellsC l
/-- the slice at A reads as the columns l -/
def RC (w : World) (A : Option Addr) (l : List CG) : Prop :=
  ∀ (i : Nat) (c : CG), l[i]? = some c → ∃ b o : Nat, A = some ⟨b, o, none⟩ ∧ w.cell? ⟨b, o + i * 7, none⟩ = some (.int .i64 c.id) ∧ w.cell? ⟨b, o + i * 7 + 1, none⟩ = some (.string c.name) ∧ w.cell? ⟨b, o + i * 7 + 2, none⟩ = some (.int .i64 c.kind) ∧ w.cell? ⟨b, o + i * 7 + 3, none⟩ = some (.bool c.must) ∧ w.cell? ⟨b, o + i * 7 + 4, none⟩ = some (.int .i64 c.d.kind) ∧ w.cell? ⟨b, o + i * 7 + 5, none⟩ = some (.int .i64 c.d.num) ∧ w.cell? ⟨b, o + i * 7 + 6, none⟩ = some (.string c.d.text)
theorem RC.ext {w w' : World} {A : Option Addr} {l : List CG} (h : RC w A l) (hx : Ext w w') : RC w' A l := fun i c hi => by
  obtain ⟨b, o, hA, h0, h1, h2, h3, h4, h5, h6⟩ := h i c hi
  exact ⟨b, o, hA, hx.keeps h0, hx.keeps h1, hx.keeps h2, hx.keeps h3, hx.keeps h4, hx.keeps h5, hx.keeps h6⟩
theorem cellsC_len : ∀ l : List CG, (cellsC l).length = l.length * 7
  | [] => rfl
  | x :: l => by simp [cellsC, cellsC_len l]; omega
theorem cellsC_append : ∀ l m : List CG, cellsC (l ++ m) = cellsC l ++ cellsC m
  | [], m => rfl
  | x :: l, m => by simp [cellsC, cellsC_append l m]
theorem cellsC_one : ∀ (l : List CG), ∀ u ∈ cellsC l, u.oneCell' = true
  | [], u, h => by cases h
  | x :: l, u, h => by
    simp only [cellsC, List.mem_cons] at h
    rcases h with rfl | rfl | rfl | rfl | rfl | rfl | rfl | h
    all_goals first | rfl | exact cellsC_one l u h
theorem cellsC_at : ∀ (l : List CG) (i : Nat) (c : CG), l[i]? = some c → (cellsC l)[i * 7]? = some (.int .i64 c.id) ∧ (cellsC l)[i * 7 + 1]? = some (.string c.name) ∧ (cellsC l)[i * 7 + 2]? = some (.int .i64 c.kind) ∧ (cellsC l)[i * 7 + 3]? = some (.bool c.must) ∧ (cellsC l)[i * 7 + 4]? = some (.int .i64 c.d.kind) ∧ (cellsC l)[i * 7 + 5]? = some (.int .i64 c.d.num) ∧ (cellsC l)[i * 7 + 6]? = some (.string c.d.text)
  | [], i, x, h => by simp at h
  | y :: l, 0, x, h => by simp at h; subst h; simp [cellsC]
  | y :: l, i + 1, x, h => by
    have := cellsC_at l i x (by simpa using h)
    rw [show (i + 1) * 7 = i * 7 + 7 by omega]
    simpa [cellsC] using this
theorem RC.block {w : World} {l : List CG} {g : Nat} {cs : Array Value} {t : TypeId} {fr : Nat × Nat} (h : w.heap[g]? = some (.cells cs t fr)) (hcs : cs = (cellsC l).toArray) : RC w (some ⟨g, 0, none⟩) l := fun i x hi => by
  subst hcs
  obtain ⟨h0, h1, h2, h3, h4, h5, h6⟩ := cellsC_at l i x hi
  refine ⟨g, 0, rfl, ?_, ?_, ?_, ?_, ?_, ?_, ?_⟩ <;> simp [World.cell?, h, *]
theorem Tryz.elem_cols : Elem Tryz.prog 22 47 7 72 := by
  obtain ⟨i0, hi0, hz0, hz1, hz2⟩ := info_parts (show (Tryz.prog.info? 47).map (fun i => (i.zero, i.size, i.bytes)) = some (some (.agg #[.int .i64 0, .string ⟨#[]⟩, .int .i64 0, .bool false, .int .i64 0, .int .i64 0, .string ⟨#[]⟩]), 7, 72) by kernel_rfl)
  exact ⟨Tryz.underlying22, ⟨i0, _, hi0, hz0, hz1, hz2, rfl⟩, by omega⟩
abbrev cRow (A : Option Addr) (cap : Nat) (l : List CG) : Item := .row 47 7 A l.length cap (cellsC l)
theorem Hp.rc {B : Nat} {w0 w : World} {L : List Item} {A : Option Addr} {cap n : Nat} {l : List CG} (h : Hp B w0 w L) (i : Nat) (hi : L[i]? = some (.row 47 7 A n cap (cellsC l))) : RC w A l := fun j x hj => by
  obtain ⟨h0, h1, h2, h3, h4, h5, h6⟩ := cellsC_at l j x hj
  obtain ⟨g, hg, c0, _⟩ := h.rowCell i hi h0
  obtain ⟨g1, hg1, c1, _⟩ := h.rowCell i hi h1
  obtain ⟨g2, hg2, c2, _⟩ := h.rowCell i hi h2
  obtain ⟨g3, hg3, c3, _⟩ := h.rowCell i hi h3
  obtain ⟨g4, hg4, c4, _⟩ := h.rowCell i hi h4
  obtain ⟨g5, hg5, c5, _⟩ := h.rowCell i hi h5
  obtain ⟨g6, hg6, c6, _⟩ := h.rowCell i hi h6
  rw [hg] at hg1 hg2 hg3 hg4 hg5 hg6
  simp only [Option.some.injEq, Addr.mk.injEq, and_true] at hg1 hg2 hg3 hg4 hg5 hg6
  subst hg1 hg2 hg3 hg4 hg5 hg6
  refine ⟨g, 0, hg, ?_, ?_, ?_, ?_, ?_, ?_, ?_⟩ <;> rw [Nat.zero_add] <;> assumption
/-- the first place, from k on, where p holds; or -1 -/
def idxC (p : CG → Bool) : Nat → List CG → Int
  | _, [] => -1
  | k, x :: l => if p x then k else idxC p (k + 1) l
theorem idxC_any (p : CG → Bool) : ∀ (l : List CG) (k : Nat), decide (0 ≤ idxC p k l) = l.any p
  | [], k => rfl
  | x :: l, k => by
    unfold idxC
    rw [List.any_cons]
    cases h : p x with
    | true => simp
    | false => simpa using idxC_any p l (k + 1)
theorem dropC_at {l : List CG} {k : Nat} {x : CG} (h : l[k]? = some x) : l.drop k = x :: l.drop (k + 1) := by
  obtain ⟨h1, e⟩ := List.getElem?_eq_some_iff.1 h
  rw [List.drop_eq_getElem_cons h1, e]
/-- a function that is called: it answers p of a column, and leaves all as it was -/
def PredC (w0 : World) (g : Nat) (lb : Array Value) (p : CG → Bool) : Prop :=
  ∀ W, Ext w0 W → ∀ c : CG, Calls Tryz.prog g (#[.agg #[.int .i64 c.id, .string c.name, .int .i64 c.kind, .bool c.must, .int .i64 c.d.kind, .int .i64 c.d.num, .string c.d.text]] ++ lb) W fun e w' => e = .returned (.bool (p c)) ∧ Ext W w'
theorem PredC.at {w0 : World} {g : Nat} {lb : Array Value} {p : CG → Bool} (h : PredC w0 g lb p) (W : World) (hx : Ext w0 W) (c : CG) : Calls Tryz.prog g (#[.agg #[.int .i64 c.id, .string c.name, .int .i64 c.kind, .bool c.must, .int .i64 c.d.kind, .int .i64 c.d.num, .string c.d.text]] ++ lb) W fun e w' => e = .returned (.bool (p c)) ∧ Ext W w' := h W hx c
set_option maxRecDepth 100000 in
set_option maxHeartbeats 8000000 in
theorem cindexFunc_any (l : List CG) (A : Option Addr) (cap : Nat) (g : Nat) (lb : Array Value) (p : CG → Bool) (w : World) (hr : RC w A l) (hl : l.length ≤ 140737488355328) (eg : ∀ args w, (callFunc g args).run Tryz.prog w = .ok (.enter g args) w) (hp : PredC w g lb p) :
    Calls Tryz.prog 19 #[.slice A l.length cap, .func (.func g) #[] lb] w fun e w' => e = .returned (.int .i64 (idxC p 0 l)) ∧ Ext w w' := by
  obtain ⟨n, hn⟩ : ∃ n, n = l.length := ⟨_, rfl⟩
  rw [← hn]
  have Hn := Lib.hid hn
  rw [← hn] at hl
  clear hn
  have HP := Lib.hid hp
  clear hp
  have hS := Hp.init w
  have hR := Reads.nil w
  go_enter Tryz.func19, Tryz.ntmps19
  go_wp2_with (first | ((with_reducible first | refine nhLa ?_ | refine nhLs ?_ | refine nhLd ?_ | refine nhCa ?_ | refine nhCs ?_ | refine nhCd ?_ | refine nhPa ?_ | refine nhPs ?_ | refine nhPd ?_ | refine nhKa ?_ | refine nhKs ?_ | refine nhKd ?_); ((try clear hF); clear hS; intro wk hS; (try simp only [List.set_cons_zero, List.set_cons_succ, heap_size, heap_set_size] at hS); ((try clear hF); (first | have hF := And.intro hS.facts (hR.at hS.ext) | have hF := hS.facts); simp only [HFacts, cellFacts, RFacts, cellOnly, and_true, true_and, Nat.zero_add, Nat.reduceAdd] at hF))) | fail)
  go_loopw [8, 5] (fun i _ wr => ∃ k : Nat, i = .int .i64 k ∧ k ≤ n ∧ Hid (idxC p 0 l = idxC p k (l.drop k)) ∧ Hp w.heap.size w wr []) (fun i _ _ => n - (intOf i).toNat)
  case atStart => exact ⟨0, rfl, Nat.zero_le _, Lib.hid rfl, hS⟩
  case round =>
    clear hS
    obtain ⟨k, rfl, hk, hf, hS⟩ := hrel
    by_cases hlt : k < n
    · have hlt' : k < l.length := by rw [← Hn.out]; exact hlt
      obtain ⟨x, hx'⟩ : ∃ x, l[k]? = some x := ⟨l[k], List.getElem?_eq_getElem hlt'⟩
      obtain ⟨b, o, rfl, c0, c1, c2, c3, c4, c5, c6⟩ := hr k x hx'
      have hR := Reads.cell c0 (Reads.cell c1 (Reads.cell c2 (Reads.cell c3 (Reads.cell c4 (Reads.cell c5 (Reads.cell c6 (Reads.nil w)))))))
      have HD := Lib.hid (dropC_at hx')
      clear hx' hlt' c0 c1 c2 c3 c4 c5 c6 hr
      ((try clear hF); (first | have hF := And.intro hS.facts (hR.at hS.ext) | have hF := hS.facts); simp only [HFacts, cellFacts, RFacts, cellOnly, and_true, true_and, Nat.zero_add, Nat.reduceAdd] at hF)
      go_wp2_with (first | ((with_reducible first | refine nhLa ?_ | refine nhLs ?_ | refine nhLd ?_ | refine nhCa ?_ | refine nhCs ?_ | refine nhCd ?_ | refine nhPa ?_ | refine nhPs ?_ | refine nhPd ?_ | refine nhKa ?_ | refine nhKs ?_ | refine nhKd ?_); ((try clear hF); clear hS; intro wk hS; (try simp only [List.set_cons_zero, List.set_cons_succ, heap_size, heap_set_size] at hS); ((try clear hF); (first | have hF := And.intro hS.facts (hR.at hS.ext) | have hF := hS.facts); simp only [HFacts, cellFacts, RFacts, cellOnly, and_true, true_and, Nat.zero_add, Nat.reduceAdd] at hF))) | ((with_reducible refine (HP.out.at _ hS.ext x).mono ?_); rintro e wk ⟨rfl, hX⟩; replace hS := hS.step hX; clear hX; ((try clear hF); (first | have hF := And.intro hS.facts (hR.at hS.ext) | have hF := hS.facts); simp only [HFacts, cellFacts, RFacts, cellOnly, and_true, true_and, Nat.zero_add, Nat.reduceAdd] at hF)))
      · go_ret
        refine ⟨?_, hS.ext⟩
        have hc : p x = true := by assumption
        rw [hf.out, HD.out, idxC, if_pos hc]; first | done | rfl
      · go_roundw
        case rel =>
          have hc : p x = false := by assumption
          exact ⟨k + 1, by go_num, by omega, Lib.hid (by rw [hf.out, HD.out, idxC, if_neg (by rw [hc]; simp)]), hS⟩
        case measure => simp [intOf]; omega
    · obtain rfl : k = n := by omega
      ((try clear hF); (first | have hF := And.intro hS.facts (hR.at hS.ext) | have hF := hS.facts); simp only [HFacts, cellFacts, RFacts, cellOnly, and_true, true_and, Nat.zero_add, Nat.reduceAdd] at hF)
      go_wp2_with (first | ((with_reducible first | refine nhLa ?_ | refine nhLs ?_ | refine nhLd ?_ | refine nhCa ?_ | refine nhCs ?_ | refine nhCd ?_ | refine nhPa ?_ | refine nhPs ?_ | refine nhPd ?_ | refine nhKa ?_ | refine nhKs ?_ | refine nhKd ?_); ((try clear hF); clear hS; intro wk hS; (try simp only [List.set_cons_zero, List.set_cons_succ, heap_size, heap_set_size] at hS); ((try clear hF); (first | have hF := And.intro hS.facts (hR.at hS.ext) | have hF := hS.facts); simp only [HFacts, cellFacts, RFacts, cellOnly, and_true, true_and, Nat.zero_add, Nat.reduceAdd] at hF))) | fail)
      go_ret
      exact ⟨by rw [hf.out, Hn.out, List.drop_length]; rfl, hS.ext⟩
set_option maxRecDepth 100000 in
set_option maxHeartbeats 8000000 in
theorem ccontainsFunc_any (l : List CG) (A : Option Addr) (cap : Nat) (g : Nat) (lb : Array Value) (p : CG → Bool) (w : World) (hr : RC w A l) (hl : l.length ≤ 140737488355328) (eg : ∀ args w, (callFunc g args).run Tryz.prog w = .ok (.enter g args) w) (hp : PredC w g lb p) :
    Calls Tryz.prog 64 #[.slice A l.length cap, .func (.func g) #[] lb] w fun e w' => e = .returned (.bool (l.any p)) ∧ Ext w w' := by
  have hI := fun (W : World) (hx : Ext w W) => cindexFunc_any l A cap g lb p W (hr.ext hx) hl eg (fun W' hx' => hp W' (hx.trans hx'))
  have HI := Lib.hid hI
  have HA := Lib.hid (idxC_any p l 0)
  clear hI hr hp
  have hS := Hp.init w
  have hR := Reads.nil w
  go_enter Tryz.func64, Tryz.ntmps64
  go_wp2_with (first | ((with_reducible first | refine nhLa ?_ | refine nhLs ?_ | refine nhLd ?_ | refine nhCa ?_ | refine nhCs ?_ | refine nhCd ?_ | refine nhPa ?_ | refine nhPs ?_ | refine nhPd ?_ | refine nhKa ?_ | refine nhKs ?_ | refine nhKd ?_); ((try clear hF); clear hS; intro wk hS; (try simp only [List.set_cons_zero, List.set_cons_succ, heap_size, heap_set_size] at hS); ((try clear hF); (first | have hF := And.intro hS.facts (hR.at hS.ext) | have hF := hS.facts); simp only [HFacts, cellFacts, RFacts, cellOnly, and_true, true_and, Nat.zero_add, Nat.reduceAdd] at hF))) | (go_at_call 19; (with_reducible refine (HI.out _ hS.ext).mono ?_); rintro e wk ⟨rfl, hX⟩; replace hS := hS.step hX; clear hX; ((try clear hF); (first | have hF := And.intro hS.facts (hR.at hS.ext) | have hF := hS.facts); simp only [HFacts, cellFacts, RFacts, cellOnly, and_true, true_and, Nat.zero_add, Nat.reduceAdd] at hF)))
  go_ret
  exact ⟨by rw [HA.out]; first | done | rfl, hS.ext⟩
def nmEq (nm : ByteArray) (c : CG) : Bool := c.name.toList == nm.toList
set_option maxRecDepth 100000 in
set_option maxHeartbeats 8000000 in
theorem find1_any (nm : ByteArray) (c : CG) (bk : Nat) (w : World) (h : w.cell? ⟨bk, 0, none⟩ = some (.string nm)) :
    Calls Tryz.prog 57 #[.agg #[.int .i64 c.id, .string c.name, .int .i64 c.kind, .bool c.must, .int .i64 c.d.kind, .int .i64 c.d.num, .string c.d.text], .pointer (some ⟨bk, 0, none⟩)] w fun e w' => e = .returned (.bool (nmEq nm c)) ∧ Ext w w' := by
  have hS := Hp.init w
  have hR := Reads.cell h (Reads.nil w)
  clear h
  unfold nmEq
  ((try clear hF); (first | have hF := And.intro hS.facts (hR.at hS.ext) | have hF := hS.facts); simp only [HFacts, cellFacts, RFacts, cellOnly, and_true, true_and, Nat.zero_add, Nat.reduceAdd] at hF)
  go_enter Tryz.func57, Tryz.ntmps57
  go_wp2_with (first | ((with_reducible first | refine nhLa ?_ | refine nhLs ?_ | refine nhLd ?_ | refine nhCa ?_ | refine nhCs ?_ | refine nhCd ?_ | refine nhPa ?_ | refine nhPs ?_ | refine nhPd ?_ | refine nhKa ?_ | refine nhKs ?_ | refine nhKd ?_); ((try clear hF); clear hS; intro wk hS; (try simp only [List.set_cons_zero, List.set_cons_succ, heap_size, heap_set_size] at hS); ((try clear hF); (first | have hF := And.intro hS.facts (hR.at hS.ext) | have hF := hS.facts); simp only [HFacts, cellFacts, RFacts, cellOnly, and_true, true_and, Nat.zero_add, Nat.reduceAdd] at hF))) | fail)
  go_ret
  exact ⟨rfl, hS.ext⟩
theorem eg_find1 : ∀ args w, (callFunc 57 args).run Tryz.prog w = .ok (.enter 57 args) w := fun _ _ => by kernel_rfl
set_option maxRecDepth 100000 in
set_option maxHeartbeats 8000000 in
theorem find_any (l : List CG) (A : Option Addr) (cap : Nat) (nm : ByteArray) (w : World) (hr : RC w A l) (hl : l.length ≤ 140737488355328) :
    Calls Tryz.prog 27 #[.slice A l.length cap, .string nm] w fun e w' => e = .returned (.int .i64 (idxC (nmEq nm) 0 l)) ∧ Ext w w' := by
  have HI := Lib.hid (fun (W : World) bk (hx : Ext w W) (h : W.cell? ⟨bk, 0, none⟩ = some (.string nm)) => cindexFunc_any l A cap 57 #[.pointer (some ⟨bk, 0, none⟩)] (nmEq nm) W (hr.ext hx) hl eg_find1 (fun W' hx' c => find1_any nm c bk W' (hx'.keeps h)))
  clear hr
  have hS := Hp.init w
  have hR := Reads.nil w
  go_enter Tryz.func27, Tryz.ntmps27
  go_wp2_with (first | ((with_reducible first | refine nhLa ?_ | refine nhLs ?_ | refine nhLd ?_ | refine nhCa ?_ | refine nhCs ?_ | refine nhCd ?_ | refine nhPa ?_ | refine nhPs ?_ | refine nhPd ?_ | refine nhKa ?_ | refine nhKs ?_ | refine nhKd ?_); ((try clear hF); clear hS; intro wk hS; (try simp only [List.set_cons_zero, List.set_cons_succ, heap_size, heap_set_size] at hS); ((try clear hF); (first | have hF := And.intro hS.facts (hR.at hS.ext) | have hF := hS.facts); simp only [HFacts, cellFacts, RFacts, cellOnly, and_true, true_and, Nat.zero_add, Nat.reduceAdd] at hF))) | (go_at_call 19; (with_reducible refine (HI.out _ _ hS.ext hF.1).mono ?_); rintro e wk ⟨rfl, hX⟩; replace hS := hS.step hX; clear hX; ((try clear hF); (first | have hF := And.intro hS.facts (hR.at hS.ext) | have hF := hS.facts); simp only [HFacts, cellFacts, RFacts, cellOnly, and_true, true_and, Nat.zero_add, Nat.reduceAdd] at hF)))
  go_ret
  exact ⟨rfl, hS.ext⟩
def clashC (c d : CG) : Bool := d.id == c.id || d.name.toList == c.name.toList
set_option maxRecDepth 100000 in
set_option maxHeartbeats 8000000 in
theorem right1c_any (c d : CG) (bk : Nat) (w : World) (h : w.cell? ⟨bk, 0, none⟩ = some (.int .i64 c.id)) (h1 : w.cell? ⟨bk, 1, none⟩ = some (.string c.name)) :
    Calls Tryz.prog 66 #[.agg #[.int .i64 d.id, .string d.name, .int .i64 d.kind, .bool d.must, .int .i64 d.d.kind, .int .i64 d.d.num, .string d.d.text], .pointer (some ⟨bk, 0, none⟩)] w fun e w' => e = .returned (.bool (clashC c d)) ∧ Ext w w' := by
  have hS := Hp.init w
  have hR := Reads.cell h (Reads.cell h1 (Reads.nil w))
  clear h h1
  unfold clashC
  by_cases hid : d.id = c.id
  · ((try clear hF); (first | have hF := And.intro hS.facts (hR.at hS.ext) | have hF := hS.facts); simp only [HFacts, cellFacts, RFacts, cellOnly, and_true, true_and, Nat.zero_add, Nat.reduceAdd] at hF)
    go_enter Tryz.func66, Tryz.ntmps66
    go_wp2_with (first | ((with_reducible first | refine nhLa ?_ | refine nhLs ?_ | refine nhLd ?_ | refine nhCa ?_ | refine nhCs ?_ | refine nhCd ?_ | refine nhPa ?_ | refine nhPs ?_ | refine nhPd ?_ | refine nhKa ?_ | refine nhKs ?_ | refine nhKd ?_); ((try clear hF); clear hS; intro wk hS; (try simp only [List.set_cons_zero, List.set_cons_succ, heap_size, heap_set_size] at hS); ((try clear hF); (first | have hF := And.intro hS.facts (hR.at hS.ext) | have hF := hS.facts); simp only [HFacts, cellFacts, RFacts, cellOnly, and_true, true_and, Nat.zero_add, Nat.reduceAdd] at hF))) | fail)
    go_ret
    refine ⟨?_, hS.ext⟩
    simp [hid]
  · ((try clear hF); (first | have hF := And.intro hS.facts (hR.at hS.ext) | have hF := hS.facts); simp only [HFacts, cellFacts, RFacts, cellOnly, and_true, true_and, Nat.zero_add, Nat.reduceAdd] at hF)
    go_enter Tryz.func66, Tryz.ntmps66
    go_wp2_with (first | ((with_reducible first | refine nhLa ?_ | refine nhLs ?_ | refine nhLd ?_ | refine nhCa ?_ | refine nhCs ?_ | refine nhCd ?_ | refine nhPa ?_ | refine nhPs ?_ | refine nhPd ?_ | refine nhKa ?_ | refine nhKs ?_ | refine nhKd ?_); ((try clear hF); clear hS; intro wk hS; (try simp only [List.set_cons_zero, List.set_cons_succ, heap_size, heap_set_size] at hS); ((try clear hF); (first | have hF := And.intro hS.facts (hR.at hS.ext) | have hF := hS.facts); simp only [HFacts, cellFacts, RFacts, cellOnly, and_true, true_and, Nat.zero_add, Nat.reduceAdd] at hF))) | fail)
    go_ret
    refine ⟨?_, hS.ext⟩
    simp [hid]
theorem eg_right1 : ∀ args w, (callFunc 66 args).run Tryz.prog w = .ok (.enter 66 args) w := fun _ _ => by kernel_rfl
end Go.Proofs.YtcpllhjhnfmepaaGreatDoor

/- a change of columns as Go has it. -/
namespace Go.Proofs.YtcpllhjhnfmepaaGreatDoor
set_option linter.all false
set_option linter.unusedSimpArgs false
set_option linter.unusedVariables false
open Go.RowKit
/-- a change as Go has it -/
structure HG where
  what : Int
  c : CG
  name : ByteArray
  tgt : ByteArray
abbrev hV (h : HG) : Value := .agg #[.int .i64 h.what, .int .i64 h.c.id, .string h.c.name, .int .i64 h.c.kind, .bool h.c.must, .int .i64 h.c.d.kind, .int .i64 h.c.d.num, .string h.c.d.text, .string h.name, .string h.tgt]
/-- the slice at A reads as the changes l -/
def RH (w : World) (A : Option Addr) (l : List HG) : Prop :=
  ∀ (i : Nat) (h : HG), l[i]? = some h → ∃ b o : Nat, A = some ⟨b, o, none⟩ ∧ w.cell? ⟨b, o + i * 10, none⟩ = some (.int .i64 h.what) ∧ w.cell? ⟨b, o + i * 10 + 1, none⟩ = some (.int .i64 h.c.id) ∧ w.cell? ⟨b, o + i * 10 + 2, none⟩ = some (.string h.c.name) ∧ w.cell? ⟨b, o + i * 10 + 3, none⟩ = some (.int .i64 h.c.kind) ∧ w.cell? ⟨b, o + i * 10 + 4, none⟩ = some (.bool h.c.must) ∧ w.cell? ⟨b, o + i * 10 + 5, none⟩ = some (.int .i64 h.c.d.kind) ∧ w.cell? ⟨b, o + i * 10 + 6, none⟩ = some (.int .i64 h.c.d.num) ∧ w.cell? ⟨b, o + i * 10 + 7, none⟩ = some (.string h.c.d.text) ∧ w.cell? ⟨b, o + i * 10 + 8, none⟩ = some (.string h.name) ∧ w.cell? ⟨b, o + i * 10 + 9, none⟩ = some (.string h.tgt)
end Go.Proofs.YtcpllhjhnfmepaaGreatDoor

/- schema.Right. -/
namespace Go.Proofs.YtcpllhjhnfmepaaGreatDoor
set_option linter.all false
set_option linter.unusedSimpArgs false
set_option linter.unusedVariables false
open Go.RowKit
theorem RC.take {w : World} {A : Option Addr} {l : List CG} (h : RC w A l) (k : Nat) : RC w A (l.take k) := fun i c hi => by
  rw [List.getElem?_take] at hi
  split at hi
  · exact h i c hi
  · cases hi
def rgt (next : Int) : List CG → List CG → Bool
  | _, [] => true
  | pre, c :: r => colB c && decide (c.id < next) && !pre.any (clashC c) && rgt next (pre ++ [c]) r
/-- whether columns may be a table's -/
def rightC (l : List CG) (next : Int) : Bool := rgt next [] l && (decide (1 ≤ l.length) && decide (l.length ≤ 8))
set_option maxRecDepth 100000 in
set_option maxHeartbeats 8000000 in
theorem sright_any (l : List CG) (A : Option Addr) (cap : Nat) (next : Int) (w : World) (hr : RC w A l) (hl : l.length ≤ 140737488355328) (hcap : l.length ≤ cap) (hK : KeptAt w) :
    Calls Tryz.prog 37 #[.slice A l.length cap, .int .i64 next] w fun e w' => e = .returned (.bool (rightC l next)) ∧ Ext w w' := by
  obtain ⟨n, hn⟩ : ∃ n, n = l.length := ⟨_, rfl⟩
  unfold rightC
  rw [← hn]
  have Hn := Lib.hid hn
  rw [← hn] at hl hcap
  clear hn
  have hS := Hp.init w
  have hR := Reads.nil w
  go_enter Tryz.func37, Tryz.ntmps37
  go_wp2_with (first | ((with_reducible first | refine nhLa ?_ | refine nhLs ?_ | refine nhLd ?_ | refine nhCa ?_ | refine nhCs ?_ | refine nhCd ?_ | refine nhPa ?_ | refine nhPs ?_ | refine nhPd ?_ | refine nhKa ?_ | refine nhKs ?_ | refine nhKd ?_); ((try clear hF); clear hS; intro wk hS; (try simp only [List.set_cons_zero, List.set_cons_succ, heap_size, heap_set_size] at hS); ((try clear hF); (first | have hF := And.intro hS.facts (hR.at hS.ext) | have hF := hS.facts); simp only [HFacts, cellFacts, RFacts, cellOnly, and_true, true_and, Nat.zero_add, Nat.reduceAdd] at hF))) | fail)
  go_loopw [9] (fun i wr => ∃ k : Nat, i = .int .i64 k ∧ k ≤ n ∧ Hid (rgt next [] l = rgt next (l.take k) (l.drop k)) ∧ Hp w.heap.size w wr []) (fun i _ => n - (intOf i).toNat)
  case atStart => exact ⟨0, rfl, Nat.zero_le _, Lib.hid rfl, hS⟩
  case round =>
    clear hS
    obtain ⟨k, rfl, hk, hf, hS⟩ := hrel
    by_cases hlt : k < n
    · have hlt' : k < l.length := by rw [← Hn.out]; exact hlt
      obtain ⟨c, hx'⟩ : ∃ x, l[k]? = some x := ⟨l[k], List.getElem?_eq_getElem hlt'⟩
      obtain ⟨cb, hcb⟩ : ∃ b, b = colB c := ⟨_, rfl⟩
      obtain ⟨ib, hib⟩ : ∃ b, b = decide (c.id < next) := ⟨_, rfl⟩
      obtain ⟨xb, hxb⟩ : ∃ b, b = (l.take k).any (clashC c) := ⟨_, rfl⟩
      have HCB := Lib.hid (fun (W : World) hx => column_any c W (hK.ext (w' := W) hx))
      have HXB := Lib.hid (fun (W : World) bk (hx : Ext w W) (h0 : W.cell? ⟨bk, 0, none⟩ = some (.int .i64 c.id)) (h1 : W.cell? ⟨bk, 1, none⟩ = some (.string c.name)) => show Calls Tryz.prog 64 #[.slice A k cap, .func (.func 66) #[] #[.pointer (some ⟨bk, 0, none⟩)]] W fun e w' => e = .returned (.bool ((l.take k).any (clashC c))) ∧ Ext W w' from by
        have := ccontainsFunc_any (l.take k) A cap 66 #[.pointer (some ⟨bk, 0, none⟩)] (clashC c) W ((hr.ext hx).take k) (by rw [List.length_take]; omega) eg_right1 (fun W' hx' d => right1c_any c d bk W' (hx'.keeps h0) (hx'.keeps h1))
        rw [List.length_take, Nat.min_eq_left (by omega)] at this
        exact this)
      have HST := Lib.hid (show rgt next (l.take k) (l.drop k) = (colB c && decide (c.id < next) && !(l.take k).any (clashC c) && rgt next (l.take (k + 1)) (l.drop (k + 1))) by
        rw [dropC_at hx', rgt, List.take_add_one, hx']; rfl)
      obtain ⟨b, o, rfl, c0, c1, c2, c3, c4, c5, c6⟩ := hr k c hx'
      have hR := Reads.cell c0 (Reads.cell c1 (Reads.cell c2 (Reads.cell c3 (Reads.cell c4 (Reads.cell c5 (Reads.cell c6 (Reads.nil w)))))))
      rw [← hcb] at HCB HST
      rw [← hxb] at HXB HST
      clear hx' hlt' c0 c1 c2 c3 c4 c5 c6 hr hcb hxb
      by_cases hid : next ≤ c.id
      · have hdi : decide (next ≤ c.id) = true := by simp [hid]
        have hdf : decide (c.id < next) = false := by simp; omega
        rw [hdf] at HST
        clear hid hdf hib ib
        cases cb with
        | false =>
          ((try clear hF); (first | have hF := And.intro hS.facts (hR.at hS.ext) | have hF := hS.facts); simp only [HFacts, cellFacts, RFacts, cellOnly, and_true, true_and, Nat.zero_add, Nat.reduceAdd] at hF)
          go_wp2_with (first | ((with_reducible first | refine nhLa ?_ | refine nhLs ?_ | refine nhLd ?_ | refine nhCa ?_ | refine nhCs ?_ | refine nhCd ?_ | refine nhPa ?_ | refine nhPs ?_ | refine nhPd ?_ | refine nhKa ?_ | refine nhKs ?_ | refine nhKd ?_); ((try clear hF); clear hS; intro wk hS; (try simp only [List.set_cons_zero, List.set_cons_succ, heap_size, heap_set_size] at hS); ((try clear hF); (first | have hF := And.intro hS.facts (hR.at hS.ext) | have hF := hS.facts); simp only [HFacts, cellFacts, RFacts, cellOnly, and_true, true_and, Nat.zero_add, Nat.reduceAdd] at hF))) | (go_at_call 47; (with_reducible refine (HCB.out _ hS.ext).mono ?_); rintro e wk ⟨rfl, hX⟩; replace hS := hS.step hX; clear hX; ((try clear hF); (first | have hF := And.intro hS.facts (hR.at hS.ext) | have hF := hS.facts); simp only [HFacts, cellFacts, RFacts, cellOnly, and_true, true_and, Nat.zero_add, Nat.reduceAdd] at hF)) | (go_at_call 64; (with_reducible refine (HXB.out _ _ hS.ext hF.1.1.1 hF.1.2.1.1).mono ?_); rintro e wk ⟨rfl, hX⟩; replace hS := hS.step hX; clear hX; ((try clear hF); (first | have hF := And.intro hS.facts (hR.at hS.ext) | have hF := hS.facts); simp only [HFacts, cellFacts, RFacts, cellOnly, and_true, true_and, Nat.zero_add, Nat.reduceAdd] at hF)))
          go_ret
          exact ⟨by rw [hf.out, HST.out]; rfl, hS.ext⟩
        | true =>
          ((try clear hF); (first | have hF := And.intro hS.facts (hR.at hS.ext) | have hF := hS.facts); simp only [HFacts, cellFacts, RFacts, cellOnly, and_true, true_and, Nat.zero_add, Nat.reduceAdd] at hF)
          go_wp2_with (first | ((with_reducible first | refine nhLa ?_ | refine nhLs ?_ | refine nhLd ?_ | refine nhCa ?_ | refine nhCs ?_ | refine nhCd ?_ | refine nhPa ?_ | refine nhPs ?_ | refine nhPd ?_ | refine nhKa ?_ | refine nhKs ?_ | refine nhKd ?_); ((try clear hF); clear hS; intro wk hS; (try simp only [List.set_cons_zero, List.set_cons_succ, heap_size, heap_set_size] at hS); ((try clear hF); (first | have hF := And.intro hS.facts (hR.at hS.ext) | have hF := hS.facts); simp only [HFacts, cellFacts, RFacts, cellOnly, and_true, true_and, Nat.zero_add, Nat.reduceAdd] at hF))) | (go_at_call 47; (with_reducible refine (HCB.out _ hS.ext).mono ?_); rintro e wk ⟨rfl, hX⟩; replace hS := hS.step hX; clear hX; ((try clear hF); (first | have hF := And.intro hS.facts (hR.at hS.ext) | have hF := hS.facts); simp only [HFacts, cellFacts, RFacts, cellOnly, and_true, true_and, Nat.zero_add, Nat.reduceAdd] at hF)) | (go_at_call 64; (with_reducible refine (HXB.out _ _ hS.ext hF.1.1.1 hF.1.2.1.1).mono ?_); rintro e wk ⟨rfl, hX⟩; replace hS := hS.step hX; clear hX; ((try clear hF); (first | have hF := And.intro hS.facts (hR.at hS.ext) | have hF := hS.facts); simp only [HFacts, cellFacts, RFacts, cellOnly, and_true, true_and, Nat.zero_add, Nat.reduceAdd] at hF)))
          go_ret
          exact ⟨by rw [hf.out, HST.out]; rfl, hS.ext⟩
      · have hdi : decide (next ≤ c.id) = false := by simp; omega
        have hdf : decide (c.id < next) = true := by simp; omega
        rw [hdf] at HST
        clear hid hdf hib ib
        cases cb with
        | false =>
          ((try clear hF); (first | have hF := And.intro hS.facts (hR.at hS.ext) | have hF := hS.facts); simp only [HFacts, cellFacts, RFacts, cellOnly, and_true, true_and, Nat.zero_add, Nat.reduceAdd] at hF)
          go_wp2_with (first | ((with_reducible first | refine nhLa ?_ | refine nhLs ?_ | refine nhLd ?_ | refine nhCa ?_ | refine nhCs ?_ | refine nhCd ?_ | refine nhPa ?_ | refine nhPs ?_ | refine nhPd ?_ | refine nhKa ?_ | refine nhKs ?_ | refine nhKd ?_); ((try clear hF); clear hS; intro wk hS; (try simp only [List.set_cons_zero, List.set_cons_succ, heap_size, heap_set_size] at hS); ((try clear hF); (first | have hF := And.intro hS.facts (hR.at hS.ext) | have hF := hS.facts); simp only [HFacts, cellFacts, RFacts, cellOnly, and_true, true_and, Nat.zero_add, Nat.reduceAdd] at hF))) | (go_at_call 47; (with_reducible refine (HCB.out _ hS.ext).mono ?_); rintro e wk ⟨rfl, hX⟩; replace hS := hS.step hX; clear hX; ((try clear hF); (first | have hF := And.intro hS.facts (hR.at hS.ext) | have hF := hS.facts); simp only [HFacts, cellFacts, RFacts, cellOnly, and_true, true_and, Nat.zero_add, Nat.reduceAdd] at hF)) | (go_at_call 64; (with_reducible refine (HXB.out _ _ hS.ext hF.1.1.1 hF.1.2.1.1).mono ?_); rintro e wk ⟨rfl, hX⟩; replace hS := hS.step hX; clear hX; ((try clear hF); (first | have hF := And.intro hS.facts (hR.at hS.ext) | have hF := hS.facts); simp only [HFacts, cellFacts, RFacts, cellOnly, and_true, true_and, Nat.zero_add, Nat.reduceAdd] at hF)))
          go_ret
          exact ⟨by rw [hf.out, HST.out]; rfl, hS.ext⟩
        | true =>
          cases xb with
          | false =>
            ((try clear hF); (first | have hF := And.intro hS.facts (hR.at hS.ext) | have hF := hS.facts); simp only [HFacts, cellFacts, RFacts, cellOnly, and_true, true_and, Nat.zero_add, Nat.reduceAdd] at hF)
            go_wp2_with (first | ((with_reducible first | refine nhLa ?_ | refine nhLs ?_ | refine nhLd ?_ | refine nhCa ?_ | refine nhCs ?_ | refine nhCd ?_ | refine nhPa ?_ | refine nhPs ?_ | refine nhPd ?_ | refine nhKa ?_ | refine nhKs ?_ | refine nhKd ?_); ((try clear hF); clear hS; intro wk hS; (try simp only [List.set_cons_zero, List.set_cons_succ, heap_size, heap_set_size] at hS); ((try clear hF); (first | have hF := And.intro hS.facts (hR.at hS.ext) | have hF := hS.facts); simp only [HFacts, cellFacts, RFacts, cellOnly, and_true, true_and, Nat.zero_add, Nat.reduceAdd] at hF))) | (go_at_call 47; (with_reducible refine (HCB.out _ hS.ext).mono ?_); rintro e wk ⟨rfl, hX⟩; replace hS := hS.step hX; clear hX; ((try clear hF); (first | have hF := And.intro hS.facts (hR.at hS.ext) | have hF := hS.facts); simp only [HFacts, cellFacts, RFacts, cellOnly, and_true, true_and, Nat.zero_add, Nat.reduceAdd] at hF)) | (go_at_call 64; (with_reducible refine (HXB.out _ _ hS.ext hF.1.1.1 hF.1.2.1.1).mono ?_); rintro e wk ⟨rfl, hX⟩; replace hS := hS.step hX; clear hX; ((try clear hF); (first | have hF := And.intro hS.facts (hR.at hS.ext) | have hF := hS.facts); simp only [HFacts, cellFacts, RFacts, cellOnly, and_true, true_and, Nat.zero_add, Nat.reduceAdd] at hF)))
            go_roundw
            case rel => exact ⟨k + 1, by go_num, by omega, Lib.hid (by rw [hf.out, HST.out]; rfl), hS.sub (by simp)⟩
            case measure => simp [intOf]; omega
          | true =>
            ((try clear hF); (first | have hF := And.intro hS.facts (hR.at hS.ext) | have hF := hS.facts); simp only [HFacts, cellFacts, RFacts, cellOnly, and_true, true_and, Nat.zero_add, Nat.reduceAdd] at hF)
            go_wp2_with (first | ((with_reducible first | refine nhLa ?_ | refine nhLs ?_ | refine nhLd ?_ | refine nhCa ?_ | refine nhCs ?_ | refine nhCd ?_ | refine nhPa ?_ | refine nhPs ?_ | refine nhPd ?_ | refine nhKa ?_ | refine nhKs ?_ | refine nhKd ?_); ((try clear hF); clear hS; intro wk hS; (try simp only [List.set_cons_zero, List.set_cons_succ, heap_size, heap_set_size] at hS); ((try clear hF); (first | have hF := And.intro hS.facts (hR.at hS.ext) | have hF := hS.facts); simp only [HFacts, cellFacts, RFacts, cellOnly, and_true, true_and, Nat.zero_add, Nat.reduceAdd] at hF))) | (go_at_call 47; (with_reducible refine (HCB.out _ hS.ext).mono ?_); rintro e wk ⟨rfl, hX⟩; replace hS := hS.step hX; clear hX; ((try clear hF); (first | have hF := And.intro hS.facts (hR.at hS.ext) | have hF := hS.facts); simp only [HFacts, cellFacts, RFacts, cellOnly, and_true, true_and, Nat.zero_add, Nat.reduceAdd] at hF)) | (go_at_call 64; (with_reducible refine (HXB.out _ _ hS.ext hF.1.1.1 hF.1.2.1.1).mono ?_); rintro e wk ⟨rfl, hX⟩; replace hS := hS.step hX; clear hX; ((try clear hF); (first | have hF := And.intro hS.facts (hR.at hS.ext) | have hF := hS.facts); simp only [HFacts, cellFacts, RFacts, cellOnly, and_true, true_and, Nat.zero_add, Nat.reduceAdd] at hF)))
            go_ret
            exact ⟨by rw [hf.out, HST.out]; rfl, hS.ext⟩
    · obtain rfl : k = n := by omega
      have hfin : rgt next [] l = true := by rw [hf.out, Hn.out, List.drop_length]; rfl
      have HFIN := Lib.hid hfin
      clear hfin hf
      by_cases h1 : 1 ≤ k
      · by_cases h8 : k ≤ 8
        · ((try clear hF); (first | have hF := And.intro hS.facts (hR.at hS.ext) | have hF := hS.facts); simp only [HFacts, cellFacts, RFacts, cellOnly, and_true, true_and, Nat.zero_add, Nat.reduceAdd] at hF)
          go_wp2_with (first | ((with_reducible first | refine nhLa ?_ | refine nhLs ?_ | refine nhLd ?_ | refine nhCa ?_ | refine nhCs ?_ | refine nhCd ?_ | refine nhPa ?_ | refine nhPs ?_ | refine nhPd ?_ | refine nhKa ?_ | refine nhKs ?_ | refine nhKd ?_); ((try clear hF); clear hS; intro wk hS; (try simp only [List.set_cons_zero, List.set_cons_succ, heap_size, heap_set_size] at hS); ((try clear hF); (first | have hF := And.intro hS.facts (hR.at hS.ext) | have hF := hS.facts); simp only [HFacts, cellFacts, RFacts, cellOnly, and_true, true_and, Nat.zero_add, Nat.reduceAdd] at hF))) | fail)
          go_ret
          exact ⟨by rw [HFIN.out, decide_eq_true h1, decide_eq_true h8]; show Ending.returned (.bool (decide ((k : Int) ≤ 8))) = _; rw [decide_eq_true (by omega : (k : Int) ≤ 8)]; rfl, hS.ext⟩
        · ((try clear hF); (first | have hF := And.intro hS.facts (hR.at hS.ext) | have hF := hS.facts); simp only [HFacts, cellFacts, RFacts, cellOnly, and_true, true_and, Nat.zero_add, Nat.reduceAdd] at hF)
          go_wp2_with (first | ((with_reducible first | refine nhLa ?_ | refine nhLs ?_ | refine nhLd ?_ | refine nhCa ?_ | refine nhCs ?_ | refine nhCd ?_ | refine nhPa ?_ | refine nhPs ?_ | refine nhPd ?_ | refine nhKa ?_ | refine nhKs ?_ | refine nhKd ?_); ((try clear hF); clear hS; intro wk hS; (try simp only [List.set_cons_zero, List.set_cons_succ, heap_size, heap_set_size] at hS); ((try clear hF); (first | have hF := And.intro hS.facts (hR.at hS.ext) | have hF := hS.facts); simp only [HFacts, cellFacts, RFacts, cellOnly, and_true, true_and, Nat.zero_add, Nat.reduceAdd] at hF))) | fail)
          go_ret
          exact ⟨by rw [HFIN.out, decide_eq_true h1, decide_eq_false h8]; show Ending.returned (.bool (decide ((k : Int) ≤ 8))) = _; rw [decide_eq_false (by omega : ¬(k : Int) ≤ 8)]; rfl, hS.ext⟩
      · ((try clear hF); (first | have hF := And.intro hS.facts (hR.at hS.ext) | have hF := hS.facts); simp only [HFacts, cellFacts, RFacts, cellOnly, and_true, true_and, Nat.zero_add, Nat.reduceAdd] at hF)
        go_wp2_with (first | ((with_reducible first | refine nhLa ?_ | refine nhLs ?_ | refine nhLd ?_ | refine nhCa ?_ | refine nhCs ?_ | refine nhCd ?_ | refine nhPa ?_ | refine nhPs ?_ | refine nhPd ?_ | refine nhKa ?_ | refine nhKs ?_ | refine nhKd ?_); ((try clear hF); clear hS; intro wk hS; (try simp only [List.set_cons_zero, List.set_cons_succ, heap_size, heap_set_size] at hS); ((try clear hF); (first | have hF := And.intro hS.facts (hR.at hS.ext) | have hF := hS.facts); simp only [HFacts, cellFacts, RFacts, cellOnly, and_true, true_and, Nat.zero_add, Nat.reduceAdd] at hF))) | fail)
        go_ret
        exact ⟨by first | rfl | (rw [HFIN.out, decide_eq_false h1]; rfl), hS.ext⟩
end Go.Proofs.YtcpllhjhnfmepaaGreatDoor

/- slices of columns: Clone, Delete, Equal of the same. -/
namespace Go.Proofs.YtcpllhjhnfmepaaGreatDoor
set_option linter.all false
set_option linter.unusedSimpArgs false
set_option linter.unusedVariables false
open Go.RowKit
theorem RC.cells {w : World} {b o : Nat} {l : List CG} (h : RC w (some ⟨b, o, none⟩) l) : ∀ (j : Nat) (u : Value), (cellsC l)[j]? = some u → w.cell? ⟨b, o + j, none⟩ = some u := fun j u hj => by
  have hlt : j < l.length * 7 := by rw [← cellsC_len]; exact (List.getElem?_eq_some_iff.1 hj).1
  obtain ⟨c, hc⟩ : ∃ c, l[j / 7]? = some c := ⟨_, List.getElem?_eq_getElem (by omega)⟩
  obtain ⟨b', o', hb, c0, c1, c2, c3, c4, c5, c6⟩ := h _ c hc
  obtain ⟨d0, d1, d2, d3, d4, d5, d6⟩ := cellsC_at l _ c hc
  simp only [Option.some.injEq, Addr.mk.injEq, and_true] at hb
  obtain ⟨rfl, rfl⟩ := hb
  have hm : j % 7 < 7 := Nat.mod_lt _ (by decide)
  have e : j = j / 7 * 7 + j % 7 := by omega
  generalize j % 7 = r at *
  generalize j / 7 = q at *
  subst e
  rcases (by omega : r = 0 ∨ r = 1 ∨ r = 2 ∨ r = 3 ∨ r = 4 ∨ r = 5 ∨ r = 6) with rfl | rfl | rfl | rfl | rfl | rfl | rfl
  · rw [Nat.add_zero] at hj ⊢; rw [d0] at hj; cases hj; exact c0
  · rw [d1] at hj; cases hj; rw [← Nat.add_assoc]; exact c1
  · rw [d2] at hj; cases hj; rw [← Nat.add_assoc]; exact c2
  · rw [d3] at hj; cases hj; rw [← Nat.add_assoc]; exact c3
  · rw [d4] at hj; cases hj; rw [← Nat.add_assoc]; exact c4
  · rw [d5] at hj; cases hj; rw [← Nat.add_assoc]; exact c5
  · rw [d6] at hj; cases hj; rw [← Nat.add_assoc]; exact c6
theorem addr_add (b o j : Nat) : (⟨b, o, none⟩ : Addr).add j = ⟨b, o + j, none⟩ := by unfold Addr.add; split <;> simp_all
set_option maxRecDepth 100000 in
set_option maxHeartbeats 8000000 in
theorem clone_any (l : List CG) (b o cap : Nat) (w : World) (hr : RC w (some ⟨b, o, none⟩) l) (hl : l.length ≤ 1000) :
    Calls Tryz.prog 40 #[.slice (some ⟨b, o, none⟩) l.length cap] w fun e w' => ∃ A' cap', e = .returned (.slice A' l.length cap') ∧ Hp w.heap.size w w' [cRow A' cap' l] := by
  have HC := Lib.hid (fun (W : World) (hx : Ext w W) => (hr.ext hx).cells)
  have HL := Lib.hid (cellsC_len l)
  have H1 := Lib.hid (cellsC_one l)
  unfold cRow
  obtain ⟨n, hn⟩ : ∃ n, n = l.length := ⟨_, rfl⟩
  rw [← hn] at hl HL ⊢
  clear hn hr
  have hS := Hp.init w
  have hR := Reads.nil w
  have he : ∀ w : World, (binOp .eql 22 (.slice (some ⟨b, o, none⟩) n cap) (.slice none 0 0)).run Tryz.prog w = .ok (.bool false) w := fun _ => rfl
  go_enter Tryz.func40, Tryz.ntmps40
  go_wp2_with (first | ((with_reducible first | refine nhLa ?_ | refine nhLs ?_ | refine nhLd ?_ | refine nhCa ?_ | refine nhCs ?_ | refine nhCd ?_ | refine nhPa ?_ | refine nhPs ?_ | refine nhPd ?_ | refine nhKa ?_ | refine nhKs ?_ | refine nhKd ?_); ((try clear hF); clear hS; intro wk hS; (try simp only [List.set_cons_zero, List.set_cons_succ, heap_size, heap_set_size] at hS); ((try clear hF); (first | have hF := And.intro hS.facts (hR.at hS.ext) | have hF := hS.facts); simp only [HFacts, cellFacts, RFacts, cellOnly, and_true, true_and, Nat.zero_add, Nat.reduceAdd] at hF))) | (at_builtin; refine wpList_append_hp Tryz.elem_cols rfl (.tmp 5) (.tmp 6) rfl (hS.blkRow (size := 7) (n := 0) rfl (by omega)) rfl ⟨b, o, none⟩ rfl (news := cellsC l) HL.out (fun j u hu => by rw [addr_add]; exact HC.out _ hS.ext j u hu) H1.out (by omega) (by omega) ?_; clear hS; intro A' cap' wk hS; ((try clear hF); (first | have hF := And.intro hS.facts (hR.at hS.ext) | have hF := hS.facts); simp only [HFacts, cellFacts, RFacts, cellOnly, and_true, true_and, Nat.zero_add, Nat.reduceAdd] at hF)))
  go_ret
  exact ⟨A', cap', rfl, by simpa using hS⟩
theorem zero_col : ∀ w, (zeroValue 47).run Tryz.prog w = .ok (.agg #[.int .i64 0, .string ⟨#[]⟩, .int .i64 0, .bool false, .int .i64 0, .int .i64 0, .string ⟨#[]⟩]) w := fun _ => by kernel_rfl
set_option maxRecDepth 100000 in
set_option maxHeartbeats 8000000 in
/-- the k-th element is taken out, in place -/
theorem delete_any {B : Nat} {w0 w : World} {L : List Item} (l : List CG) (g n cap k : Nat) (hn : l.length = n) (hk : k < n) (hc : n ≤ cap) (hl : cap ≤ 9223372036854775807) (hS : Hp B w0 w (.row 47 7 (some ⟨g, 0, none⟩) n cap (cellsC l) :: L)) :
    Calls Tryz.prog 48 #[.slice (some ⟨g, 0, none⟩) n cap, .int .i64 k, .int .i64 ((k : Int) + 1)] w fun e w' => e = .returned (.slice (some ⟨g, 0, none⟩) (n - 1 : Nat) cap) ∧ Hp B w0 w' (.row 47 7 (some ⟨g, 0, none⟩) (n - 1) cap (cellsC (l.eraseIdx k)) :: L) := by
  obtain ⟨m, rfl⟩ : ∃ m, n = k + 1 + m := ⟨n - (k + 1), by omega⟩
  have HL := Lib.hid (show (cellsC (l.drop (k + 1))).length = m * 7 by rw [cellsC_len, List.length_drop, hn]; omega)
  have H1 := Lib.hid (cellsC_one (l.drop (k + 1)))
  have HER := Lib.hid (show (cellsC l).take (k * 7) ++ cellsC (l.drop (k + 1)) = cellsC (l.eraseIdx k) by
    rw [List.eraseIdx_eq_take_drop_succ, cellsC_append]
    congr 1
    have : cellsC l = cellsC (l.take k) ++ cellsC (l.drop k) := by rw [← cellsC_append, List.take_append_drop]
    rw [this, List.take_left' (by rw [cellsC_len, List.length_take]; omega)])
  have HSRC := Lib.hid (show ∀ W, Hp B w0 W (.row 47 7 (some ⟨g, 0, none⟩) (k + 1 + m) cap (cellsC l) :: L) → ∀ j u, (cellsC (l.drop (k + 1)))[j]? = some u → W.cell? ⟨g, (k + 1) * 7 + j, none⟩ = some u from fun W hW j u hu => by
    have e : (cellsC l)[(k + 1) * 7 + j]? = some u := by
      have : cellsC l = cellsC (l.take (k + 1)) ++ cellsC (l.drop (k + 1)) := by rw [← cellsC_append, List.take_append_drop]
      rw [this, List.getElem?_append_right (by rw [cellsC_len, List.length_take]; omega), cellsC_len, List.length_take, Nat.min_eq_left (by omega), Nat.add_sub_cancel_left]
      exact hu
    obtain ⟨g', hg, hcell, _⟩ := hW.rowCell 0 rfl e
    obtain rfl : g = g' := by simpa using hg
    exact hcell)
  clear hn
  have f1 : (k : Int) + 1 ≤ (k : Int) + 1 + m := by omega
  have f2 : (k : Int) ≤ cap := by omega
  have f3 : (k : Int) + 1 + m ≤ cap := by omega
  have f4 : ¬ cap = k + m := by omega
  have f5 : (0 : Int) ≤ (k : Int) + 1 := by omega
  have f6 : (k : Int) ≤ (k : Int) + 1 := by omega
  by_cases hcj : cap = k + 1
  · obtain rfl : m = 0 := by omega
    subst hcj
    ((try clear hF); (first | have hF := And.intro hS.facts (hR.at hS.ext) | have hF := hS.facts); simp only [HFacts, cellFacts, RFacts, cellOnly, and_true, true_and, Nat.zero_add, Nat.reduceAdd] at hF)
    go_enter Tryz.func48, Tryz.ntmps48
    go_wp2_with (first | ((with_reducible first | refine nhLa ?_ | refine nhLs ?_ | refine nhLd ?_ | refine nhCa ?_ | refine nhCs ?_ | refine nhCd ?_ | refine nhPa ?_ | refine nhPs ?_ | refine nhPd ?_ | refine nhKa ?_ | refine nhKs ?_ | refine nhKd ?_); ((try clear hF); clear hS; intro wk hS; (try simp only [List.set_cons_zero, List.set_cons_succ, heap_size, heap_set_size] at hS); ((try clear hF); (first | have hF := And.intro hS.facts (hR.at hS.ext) | have hF := hS.facts); simp only [HFacts, cellFacts, RFacts, cellOnly, and_true, true_and, Nat.zero_add, Nat.reduceAdd] at hF))) | fail)
    ((with_reducible refine wp_region_chain_hp [.q, .q, .q, .q, .q, .q, .t, .t] [] (by kernel_rfl) rfl (by kernel_rfl) hS (fun w h => h.sub (by simp)) ?_); clear hS; (repeat ((with_reducible refine Walk.here ?_); (first | ((with_reducible apply Walk.skipQ); (first | rfl | exact wanted_false rfl rfl rfl (by assumption)); (try simp only [Mark.isQ, if_true, Bool.false_eq_true, if_false, Act.put, List.setIfInBounds_toArray, List.set_cons_zero, List.set_cons_succ])) | ((with_reducible apply Walk.val); (first | rfl | exact wanted_true rfl rfl rfl (by assumption)); (rintro w hS; ((try clear hF); (first | have hF := And.intro hS.facts (hR.at hS.ext) | have hF := hS.facts); simp only [HFacts, cellFacts, RFacts, cellOnly, and_true, true_and, Nat.zero_add, Nat.reduceAdd] at hF); go_simp; with_reducible rfl); (try simp only [Mark.isQ, if_true, Bool.false_eq_true, if_false, Act.put, List.setIfInBounds_toArray, List.set_cons_zero, List.set_cons_succ])) | ((with_reducible apply Walk.tail); (try simp only [Mark.isQ, if_true, Bool.false_eq_true, if_false, Act.put, List.setIfInBounds_toArray, List.set_cons_zero, List.set_cons_succ])) | ((with_reducible apply Walk.guardT); rfl; rfl; rfl; (all_goals intro hg)) | ((with_reducible apply Walk.guardF); rfl; rfl; rfl; (all_goals intro hg))))); refine Walk.done ?_; simp only [chainOf, Mark.isT, if_true, Bool.false_eq_true, if_false])
    refine Chain.appendSpare (news := cellsC (l.drop (k + 1))) Tryz.elem_cols rfl (.tmp 22) (.tmp 25) rfl rfl ⟨g, 0, none⟩ rfl HL.out (by omega) (by omega) (fun W hW j u hu => by
      have := HL.out
      rw [Nat.zero_mul] at this
      rw [List.eq_nil_of_length_eq_zero this] at hu
      cases hu) H1.out (fun w h => h.sub (by simp)) ?_
    try simp only [Act.put, List.setIfInBounds_toArray, List.set_cons_zero, List.set_cons_succ]
    (refine Chain.val (by (first | rfl | exact wanted_true rfl rfl rfl (by assumption))) (fun w h => h.sub (by simp)) (by rintro w hS; ((try clear hF); (first | have hF := And.intro hS.facts (hR.at hS.ext) | have hF := hS.facts); simp only [HFacts, cellFacts, RFacts, cellOnly, and_true, true_and, Nat.zero_add, Nat.reduceAdd] at hF); go_simp; with_reducible rfl) ?_; try simp only [Act.put, List.setIfInBounds_toArray, List.set_cons_zero, List.set_cons_succ])
    (refine Chain.done ?_; (try clear hF); intro wk hS; ((try clear hF); (first | have hF := And.intro hS.facts (hR.at hS.ext) | have hF := hS.facts); simp only [HFacts, cellFacts, RFacts, cellOnly, and_true, true_and, Nat.zero_add, Nat.reduceAdd] at hF))
    rw [HER.out] at hS
    ((try clear hF); (first | have hF := And.intro hS.facts (hR.at hS.ext) | have hF := hS.facts); simp only [HFacts, cellFacts, RFacts, cellOnly, and_true, true_and, Nat.zero_add, Nat.reduceAdd] at hF)
    go_wp2_with (first | ((with_reducible first | refine nhLa ?_ | refine nhLs ?_ | refine nhLd ?_ | refine nhCa ?_ | refine nhCs ?_ | refine nhCd ?_ | refine nhPa ?_ | refine nhPs ?_ | refine nhPd ?_ | refine nhKa ?_ | refine nhKs ?_ | refine nhKd ?_); ((try clear hF); clear hS; intro wk hS; (try simp only [List.set_cons_zero, List.set_cons_succ, heap_size, heap_set_size] at hS); ((try clear hF); (first | have hF := And.intro hS.facts (hR.at hS.ext) | have hF := hS.facts); simp only [HFacts, cellFacts, RFacts, cellOnly, and_true, true_and, Nat.zero_add, Nat.reduceAdd] at hF))) | (refine wpList_clear_hp Tryz.underlying22 zero_col rfl (by simp [Value.cells, Value.oneCell']) rfl (.tmp 31) rfl hS rfl (by omega) ?_; clear hS; intro wk hS; ((try clear hF); (first | have hF := And.intro hS.facts (hR.at hS.ext) | have hF := hS.facts); simp only [HFacts, cellFacts, RFacts, cellOnly, and_true, true_and, Nat.zero_add, Nat.reduceAdd] at hF)))
    go_ret
    exact ⟨rfl, hS⟩
  · skip
    ((try clear hF); (first | have hF := And.intro hS.facts (hR.at hS.ext) | have hF := hS.facts); simp only [HFacts, cellFacts, RFacts, cellOnly, and_true, true_and, Nat.zero_add, Nat.reduceAdd] at hF)
    go_enter Tryz.func48, Tryz.ntmps48
    go_wp2_with (first | ((with_reducible first | refine nhLa ?_ | refine nhLs ?_ | refine nhLd ?_ | refine nhCa ?_ | refine nhCs ?_ | refine nhCd ?_ | refine nhPa ?_ | refine nhPs ?_ | refine nhPd ?_ | refine nhKa ?_ | refine nhKs ?_ | refine nhKd ?_); ((try clear hF); clear hS; intro wk hS; (try simp only [List.set_cons_zero, List.set_cons_succ, heap_size, heap_set_size] at hS); ((try clear hF); (first | have hF := And.intro hS.facts (hR.at hS.ext) | have hF := hS.facts); simp only [HFacts, cellFacts, RFacts, cellOnly, and_true, true_and, Nat.zero_add, Nat.reduceAdd] at hF))) | fail)
    ((with_reducible refine wp_region_chain_hp [.q, .q, .q, .q, .q, .q, .t, .t] [] (by kernel_rfl) rfl (by kernel_rfl) hS (fun w h => h.sub (by simp)) ?_); clear hS; (repeat ((with_reducible refine Walk.here ?_); (first | ((with_reducible apply Walk.skipQ); (first | rfl | exact wanted_false rfl rfl rfl (by assumption)); (try simp only [Mark.isQ, if_true, Bool.false_eq_true, if_false, Act.put, List.setIfInBounds_toArray, List.set_cons_zero, List.set_cons_succ])) | ((with_reducible apply Walk.val); (first | rfl | exact wanted_true rfl rfl rfl (by assumption)); (rintro w hS; ((try clear hF); (first | have hF := And.intro hS.facts (hR.at hS.ext) | have hF := hS.facts); simp only [HFacts, cellFacts, RFacts, cellOnly, and_true, true_and, Nat.zero_add, Nat.reduceAdd] at hF); go_simp; with_reducible rfl); (try simp only [Mark.isQ, if_true, Bool.false_eq_true, if_false, Act.put, List.setIfInBounds_toArray, List.set_cons_zero, List.set_cons_succ])) | ((with_reducible apply Walk.tail); (try simp only [Mark.isQ, if_true, Bool.false_eq_true, if_false, Act.put, List.setIfInBounds_toArray, List.set_cons_zero, List.set_cons_succ])) | ((with_reducible apply Walk.guardT); rfl; rfl; rfl; (all_goals intro hg)) | ((with_reducible apply Walk.guardF); rfl; rfl; rfl; (all_goals intro hg))))); refine Walk.done ?_; simp only [chainOf, Mark.isT, if_true, Bool.false_eq_true, if_false])
    refine Chain.appendSpare (news := cellsC (l.drop (k + 1))) Tryz.elem_cols rfl (.tmp 22) (.tmp 25) rfl rfl ⟨g, (k + 1) * 7, none⟩ rfl HL.out (by omega) (by omega) (fun W hW j u hu => by rw [addr_add]; exact HSRC.out W hW j u hu) H1.out (fun w h => h.sub (by simp)) ?_
    try simp only [Act.put, List.setIfInBounds_toArray, List.set_cons_zero, List.set_cons_succ]
    (refine Chain.val (by (first | rfl | exact wanted_true rfl rfl rfl (by assumption))) (fun w h => h.sub (by simp)) (by rintro w hS; ((try clear hF); (first | have hF := And.intro hS.facts (hR.at hS.ext) | have hF := hS.facts); simp only [HFacts, cellFacts, RFacts, cellOnly, and_true, true_and, Nat.zero_add, Nat.reduceAdd] at hF); go_simp; with_reducible rfl) ?_; try simp only [Act.put, List.setIfInBounds_toArray, List.set_cons_zero, List.set_cons_succ])
    (refine Chain.done ?_; (try clear hF); intro wk hS; ((try clear hF); (first | have hF := And.intro hS.facts (hR.at hS.ext) | have hF := hS.facts); simp only [HFacts, cellFacts, RFacts, cellOnly, and_true, true_and, Nat.zero_add, Nat.reduceAdd] at hF))
    rw [HER.out] at hS
    ((try clear hF); (first | have hF := And.intro hS.facts (hR.at hS.ext) | have hF := hS.facts); simp only [HFacts, cellFacts, RFacts, cellOnly, and_true, true_and, Nat.zero_add, Nat.reduceAdd] at hF)
    have f7 : k + 1 + m - (k + m) = 1 := by omega
    go_wp2_with (first | ((with_reducible first | refine nhLa ?_ | refine nhLs ?_ | refine nhLd ?_ | refine nhCa ?_ | refine nhCs ?_ | refine nhCd ?_ | refine nhPa ?_ | refine nhPs ?_ | refine nhPd ?_ | refine nhKa ?_ | refine nhKs ?_ | refine nhKd ?_); ((try clear hF); clear hS; intro wk hS; (try simp only [List.set_cons_zero, List.set_cons_succ, heap_size, heap_set_size] at hS); ((try clear hF); (first | have hF := And.intro hS.facts (hR.at hS.ext) | have hF := hS.facts); simp only [HFacts, cellFacts, RFacts, cellOnly, and_true, true_and, Nat.zero_add, Nat.reduceAdd] at hF))) | (refine wpList_clear_hp Tryz.underlying22 zero_col rfl (by simp [Value.cells, Value.oneCell']) rfl (.tmp 31) rfl hS (show Value.slice (some ⟨g, (k + m) * 7, none⟩) (k + 1 + m - (k + m)) (cap - (k + m)) = Value.slice (some ⟨g, (k + m) * 7, none⟩) 1 (cap - (k + m)) by rw [f7]) (by omega) ?_; clear hS; intro wk hS; ((try clear hF); (first | have hF := And.intro hS.facts (hR.at hS.ext) | have hF := hS.facts); simp only [HFacts, cellFacts, RFacts, cellOnly, and_true, true_and, Nat.zero_add, Nat.reduceAdd] at hF)))
    go_ret
    have e : k + 1 + m - 1 = k + m := by omega
    rw [e]
    exact ⟨rfl, hS⟩
end Go.Proofs.YtcpllhjhnfmepaaGreatDoor
