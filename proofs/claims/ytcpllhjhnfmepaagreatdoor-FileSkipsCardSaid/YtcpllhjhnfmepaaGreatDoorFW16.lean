/- Texts joined: stats.may, stats.May The tables that a row lists (the words that a name may not be, the error type's handle, utf8's tables): with the table of opposites: what they tell of the world; a world that has them. stats.May. reader.values: the four ways of reading values. -/
import Derived.Test.YtcpllhjhnfmepaaGreatDoorFW15
import Derived.Test.YtcpllhjhnfmepaaGreatDoorFW08
import Derived.Test.YtcpllhjhnfmepaaGreatDoorFW05
import Derived.Test.YtcpllhjhnfmepaaGreatDoorFW01
import Derived.Test.YtcpllhjhnfmepaaGreatDoorCards
import Derived.Test.YtcpllhjhnfmepaaGreatDoorTie
import Derived.LaidMore
import Derived.LaidHandle
import Derived.Lay
import Derived.OpenShut
import Derived.Stop.Joined
import Derived.SevenTiedAt
import Derived.Test.YtcpllhjhnfmepaaGreatDoorFW10
import Derived.Deep.LoopGhost
/- stats.may, stats.May -/
namespace Go.Proofs.YtcpllhjhnfmepaaGreatDoor
set_option linter.all false
set_option linter.unusedSimpArgs false
set_option linter.unusedVariables false
open Go.RowKit
/-- the table stats.opposites -/
def OppAt (w : World) : Prop := ∀ j : Nat, j < 9 → w.cell? ⟨2, j, none⟩ = some (.int .i64 (oppI j))
theorem OppAt.ext {w w' : World} (h : OppAt w) (hx : Ext w w') : OppAt w' := fun j hj => hx.keeps (h j hj)
/-- what is asked of the function that tells what is known of a column: from world w0 on -/
def KnowOk (w0 : World) (g : Nat) (lb : Array Value) (f : ByteArray → ST) : Prop :=
  ∀ W, Ext w0 W → ∀ s, Calls Tryz.prog g (#[.string s] ++ lb) W fun e w' => e = .returned (stV (f s)) ∧ Ext W w'
theorem KnowOk.at {w0 : World} {g : Nat} {lb : Array Value} {f : ByteArray → ST} (h : KnowOk w0 g lb f) (W : World) (hx : Ext w0 W) (s : ByteArray) :
    Calls Tryz.prog g (#[.string s] ++ lb) W fun e w' => e = .returned (.agg #[.int .i64 (f s).count, .int .i64 (f s).nulls, .int .i64 (f s).mn.kind, .int .i64 (f s).mn.num, .string (f s).mn.text, .int .i64 (f s).mx.kind, .int .i64 (f s).mx.num, .string (f s).mx.text]) ∧ Ext W w' := h W hx s
theorem oneA (c : Int) (s : ST) (v : GV) (w : World) : Calls Tryz.prog 107 #[.int .i64 c, .agg #[.int .i64 s.count, .int .i64 s.nulls, .int .i64 s.mn.kind, .int .i64 s.mn.num, .string s.mn.text, .int .i64 s.mx.kind, .int .i64 s.mx.num, .string s.mx.text], .agg #[.int .i64 v.kind, .int .i64 v.num, .string v.text]] w fun e w' => e = .returned (.bool (oneS c s v)) ∧ Ext w w' := one_any c s v w

theorem CondAt.ptr {w : World} {v : Value} {t : CT} (h : CondAt w v t) : ∃ p, v = .pointer p := by
  cases t with
  | nil => exact ⟨_, h⟩
  | node => obtain ⟨b, _, _, h, _⟩ := h; exact ⟨_, h⟩

set_option maxRecDepth 100000 in
set_option maxHeartbeats 8000000 in
theorem may_any (w0 : World) (g : Nat) (lb : Array Value) (f : ByteArray → ST) (eg : ∀ args w, (callFunc g args).run Tryz.prog w = .ok (.enter g args) w) (hget : KnowOk w0 g lb f) (hopp : OppAt w0) :
    ∀ (t : CT) (n : Bool) (v : Value) (w : World), GoodC t → CondAt w v t → Ext w0 w → Calls Tryz.prog 79 #[v, .bool n, .func (.func g) #[] lb] w fun e w' => e = .returned (.bool (mayS f n t)) ∧ Ext w w' := by
  intro t
  have GET := Lib.hid hget
  have OPP := Lib.hid hopp
  clear hget hopp
  induction t with
  | nil =>
    intro n v w _ hc hx
    have hc : v = .pointer none := hc
    subst hc
    go_enter Tryz.func79, Tryz.ntmps79
    go_wp2
    go_ret
    exact ⟨rfl, Ext.refl _⟩
  | node c col x l r ihl ihr =>
    intro n v w hgood hc hx
    obtain ⟨b, lv, rv, rfl, hb, hl, hr⟩ := hc
    obtain ⟨pl, rfl⟩ := hl.ptr
    obtain ⟨pr, rfl⟩ := hr.ptr
    obtain ⟨gc1, gc2, gl, gr⟩ := hgood
    have hS := St.init w
    have hR0 := Reads.blk hb (Reads.nil w)
    have IHL := Lib.hid (fun n W (hX : Ext w W) => ihl n _ W gl (hl.ext hX) (hx.trans hX))
    have IHR := Lib.hid (fun n W (hX : Ext w W) => ihr n _ W gr (hr.ext hX) (hx.trans hX))
    have HX := Lib.hid hx
    have opp := OPP.out.ext hx
    clear ihl ihr hl hr hb hx
    by_cases h8 : c ≤ 8
    · have h9 : c < 9 := by omega
      have h0 : 0 ≤ c := by omega
      have hR := Reads.cell (opp c.toNat (by omega)) hR0
      rw [Int.toNat_of_nonneg h0] at hR
      clear opp hR0
      ((try clear hF); have hF := And.intro hS.facts (hR.at hS.ext); simp only [Facts, cellFacts, RFacts, cellOnly, and_true, true_and, Nat.zero_add, Nat.reduceAdd] at hF)
      go_enter Tryz.func79, Tryz.ntmps79
      go_wp2_with (first | ((first | with_reducible refine abs_list_alloc (by (repeat (first | with_reducible exact hS | with_reducible apply St.drew | with_reducible apply St.alloc | with_reducible apply St.put | with_reducible apply atS | with_reducible exact at0 | with_reducible exact at1 | with_reducible exact at2 | with_reducible exact at3 | with_reducible exact at4 | with_reducible exact at5))) ?_ | with_reducible refine abs_list_set (by (repeat (first | with_reducible exact hS | with_reducible apply St.drew | with_reducible apply St.alloc | with_reducible apply St.put | with_reducible apply atS | with_reducible exact at0 | with_reducible exact at1 | with_reducible exact at2 | with_reducible exact at3 | with_reducible exact at4 | with_reducible exact at5))) ?_ | with_reducible refine abs_list_drew (by (repeat (first | with_reducible exact hS | with_reducible apply St.drew | with_reducible apply St.alloc | with_reducible apply St.put | with_reducible apply atS | with_reducible exact at0 | with_reducible exact at1 | with_reducible exact at2 | with_reducible exact at3 | with_reducible exact at4 | with_reducible exact at5))) ?_ | with_reducible refine abs_code_alloc (by (repeat (first | with_reducible exact hS | with_reducible apply St.drew | with_reducible apply St.alloc | with_reducible apply St.put | with_reducible apply atS | with_reducible exact at0 | with_reducible exact at1 | with_reducible exact at2 | with_reducible exact at3 | with_reducible exact at4 | with_reducible exact at5))) ?_ | with_reducible refine abs_code_set (by (repeat (first | with_reducible exact hS | with_reducible apply St.drew | with_reducible apply St.alloc | with_reducible apply St.put | with_reducible apply atS | with_reducible exact at0 | with_reducible exact at1 | with_reducible exact at2 | with_reducible exact at3 | with_reducible exact at4 | with_reducible exact at5))) ?_ | with_reducible refine abs_code_drew (by (repeat (first | with_reducible exact hS | with_reducible apply St.drew | with_reducible apply St.alloc | with_reducible apply St.put | with_reducible apply atS | with_reducible exact at0 | with_reducible exact at1 | with_reducible exact at2 | with_reducible exact at3 | with_reducible exact at4 | with_reducible exact at5))) ?_ | with_reducible refine abs_post_alloc (by (repeat (first | with_reducible exact hS | with_reducible apply St.drew | with_reducible apply St.alloc | with_reducible apply St.put | with_reducible apply atS | with_reducible exact at0 | with_reducible exact at1 | with_reducible exact at2 | with_reducible exact at3 | with_reducible exact at4 | with_reducible exact at5))) ?_ | with_reducible refine abs_post_set (by (repeat (first | with_reducible exact hS | with_reducible apply St.drew | with_reducible apply St.alloc | with_reducible apply St.put | with_reducible apply atS | with_reducible exact at0 | with_reducible exact at1 | with_reducible exact at2 | with_reducible exact at3 | with_reducible exact at4 | with_reducible exact at5))) ?_ | with_reducible refine abs_post_drew (by (repeat (first | with_reducible exact hS | with_reducible apply St.drew | with_reducible apply St.alloc | with_reducible apply St.put | with_reducible apply atS | with_reducible exact at0 | with_reducible exact at1 | with_reducible exact at2 | with_reducible exact at3 | with_reducible exact at4 | with_reducible exact at5))) ?_ | with_reducible refine abs_calls_alloc (by (repeat (first | with_reducible exact hS | with_reducible apply St.drew | with_reducible apply St.alloc | with_reducible apply St.put | with_reducible apply atS | with_reducible exact at0 | with_reducible exact at1 | with_reducible exact at2 | with_reducible exact at3 | with_reducible exact at4 | with_reducible exact at5))) ?_ | with_reducible refine abs_calls_set (by (repeat (first | with_reducible exact hS | with_reducible apply St.drew | with_reducible apply St.alloc | with_reducible apply St.put | with_reducible apply atS | with_reducible exact at0 | with_reducible exact at1 | with_reducible exact at2 | with_reducible exact at3 | with_reducible exact at4 | with_reducible exact at5))) ?_ | with_reducible refine abs_calls_drew (by (repeat (first | with_reducible exact hS | with_reducible apply St.drew | with_reducible apply St.alloc | with_reducible apply St.put | with_reducible apply atS | with_reducible exact at0 | with_reducible exact at1 | with_reducible exact at2 | with_reducible exact at3 | with_reducible exact at4 | with_reducible exact at5))) ?_); ((try clear hF); clear hS; intro wk hS; (try simp only [List.set_cons_zero, List.set_cons_succ, heap_size, heap_set_size] at hS); ((try clear hF); have hF := And.intro hS.facts (hR.at hS.ext); simp only [Facts, cellFacts, RFacts, cellOnly, and_true, true_and, Nat.zero_add, Nat.reduceAdd] at hF))) | (go_at_call 79; (with_reducible refine (IHL.out _ _ hS.ext).mono ?_); rintro e wk ⟨rfl, hX⟩; replace hS := hS.step hX; clear hX; ((try clear hF); have hF := And.intro hS.facts (hR.at hS.ext); simp only [Facts, cellFacts, RFacts, cellOnly, and_true, true_and, Nat.zero_add, Nat.reduceAdd] at hF)) | (go_at_call 79; (with_reducible refine (IHR.out _ _ hS.ext).mono ?_); rintro e wk ⟨rfl, hX⟩; replace hS := hS.step hX; clear hX; ((try clear hF); have hF := And.intro hS.facts (hR.at hS.ext); simp only [Facts, cellFacts, RFacts, cellOnly, and_true, true_and, Nat.zero_add, Nat.reduceAdd] at hF)) | (first | (with_reducible refine wp_region_st (draw := true) (by kernel_rfl) (by kernel_rfl) hS ?_) | ((with_reducible refine Fixed.here ?_); (first | ((with_reducible apply Fixed.skip); (first | rfl | exact wanted_false rfl rfl rfl (by assumption)); try simp only [Act.put, List.setIfInBounds_toArray, List.set_cons_zero, List.set_cons_succ]) | ((with_reducible apply Fixed.val); (first | rfl | exact wanted_true rfl rfl rfl (by assumption)); (rintro w hS; have hF := And.intro hS.facts (hR.at hS.ext); (try simp only [Facts, cellFacts, RFacts, cellOnly, and_true, true_and, Nat.zero_add, Nat.reduceAdd] at hF); go_simp; with_reducible rfl); try simp only [Act.put, List.setIfInBounds_toArray, List.set_cons_zero, List.set_cons_succ]) | ((with_reducible apply Fixed.call); (first | rfl | exact wanted_true rfl rfl rfl (by assumption)); (rintro w hS; have hF := And.intro hS.facts (hR.at hS.ext); (try simp only [Facts, cellFacts, RFacts, cellOnly, and_true, true_and, Nat.zero_add, Nat.reduceAdd] at hF); go_simp; exact ⟨rfl, rfl⟩); (rintro w hS; first | (with_reducible exact GET.out.at w (HX.out.trans hS.ext) col) | (with_reducible exact oneA _ _ _ w)); try simp only [Act.put, List.setIfInBounds_toArray, List.set_cons_zero, List.set_cons_succ]) | ((with_reducible apply Fixed.guardT); rfl; rfl; rfl; (all_goals intro hg)) | ((with_reducible apply Fixed.guardF); rfl; rfl; rfl; (all_goals intro hg)) | (with_reducible refine Fixed.done ?_; (try clear hF); clear hS; intro wk hS; ((try clear hF); have hF := And.intro hS.facts (hR.at hS.ext); simp only [Facts, cellFacts, RFacts, cellOnly, and_true, true_and, Nat.zero_add, Nat.reduceAdd] at hF))))))
      all_goals
        (go_ret; refine ⟨?_, hS.ext⟩; go_tidy; clear hS; (try clear hF); (try simp_all [int_beq, mayS]) <;> (first | rfl | exact decide_eq_decide.2 Iff.rfl | omega))
    · have hR := hR0
      have h7 : ¬ c = 7 := by omega
      clear opp
      ((try clear hF); have hF := And.intro hS.facts (hR.at hS.ext); simp only [Facts, cellFacts, RFacts, cellOnly, and_true, true_and, Nat.zero_add, Nat.reduceAdd] at hF)
      go_enter Tryz.func79, Tryz.ntmps79
      go_wp2_with (first | ((first | with_reducible refine abs_list_alloc (by (repeat (first | with_reducible exact hS | with_reducible apply St.drew | with_reducible apply St.alloc | with_reducible apply St.put | with_reducible apply atS | with_reducible exact at0 | with_reducible exact at1 | with_reducible exact at2 | with_reducible exact at3 | with_reducible exact at4 | with_reducible exact at5))) ?_ | with_reducible refine abs_list_set (by (repeat (first | with_reducible exact hS | with_reducible apply St.drew | with_reducible apply St.alloc | with_reducible apply St.put | with_reducible apply atS | with_reducible exact at0 | with_reducible exact at1 | with_reducible exact at2 | with_reducible exact at3 | with_reducible exact at4 | with_reducible exact at5))) ?_ | with_reducible refine abs_list_drew (by (repeat (first | with_reducible exact hS | with_reducible apply St.drew | with_reducible apply St.alloc | with_reducible apply St.put | with_reducible apply atS | with_reducible exact at0 | with_reducible exact at1 | with_reducible exact at2 | with_reducible exact at3 | with_reducible exact at4 | with_reducible exact at5))) ?_ | with_reducible refine abs_code_alloc (by (repeat (first | with_reducible exact hS | with_reducible apply St.drew | with_reducible apply St.alloc | with_reducible apply St.put | with_reducible apply atS | with_reducible exact at0 | with_reducible exact at1 | with_reducible exact at2 | with_reducible exact at3 | with_reducible exact at4 | with_reducible exact at5))) ?_ | with_reducible refine abs_code_set (by (repeat (first | with_reducible exact hS | with_reducible apply St.drew | with_reducible apply St.alloc | with_reducible apply St.put | with_reducible apply atS | with_reducible exact at0 | with_reducible exact at1 | with_reducible exact at2 | with_reducible exact at3 | with_reducible exact at4 | with_reducible exact at5))) ?_ | with_reducible refine abs_code_drew (by (repeat (first | with_reducible exact hS | with_reducible apply St.drew | with_reducible apply St.alloc | with_reducible apply St.put | with_reducible apply atS | with_reducible exact at0 | with_reducible exact at1 | with_reducible exact at2 | with_reducible exact at3 | with_reducible exact at4 | with_reducible exact at5))) ?_ | with_reducible refine abs_post_alloc (by (repeat (first | with_reducible exact hS | with_reducible apply St.drew | with_reducible apply St.alloc | with_reducible apply St.put | with_reducible apply atS | with_reducible exact at0 | with_reducible exact at1 | with_reducible exact at2 | with_reducible exact at3 | with_reducible exact at4 | with_reducible exact at5))) ?_ | with_reducible refine abs_post_set (by (repeat (first | with_reducible exact hS | with_reducible apply St.drew | with_reducible apply St.alloc | with_reducible apply St.put | with_reducible apply atS | with_reducible exact at0 | with_reducible exact at1 | with_reducible exact at2 | with_reducible exact at3 | with_reducible exact at4 | with_reducible exact at5))) ?_ | with_reducible refine abs_post_drew (by (repeat (first | with_reducible exact hS | with_reducible apply St.drew | with_reducible apply St.alloc | with_reducible apply St.put | with_reducible apply atS | with_reducible exact at0 | with_reducible exact at1 | with_reducible exact at2 | with_reducible exact at3 | with_reducible exact at4 | with_reducible exact at5))) ?_ | with_reducible refine abs_calls_alloc (by (repeat (first | with_reducible exact hS | with_reducible apply St.drew | with_reducible apply St.alloc | with_reducible apply St.put | with_reducible apply atS | with_reducible exact at0 | with_reducible exact at1 | with_reducible exact at2 | with_reducible exact at3 | with_reducible exact at4 | with_reducible exact at5))) ?_ | with_reducible refine abs_calls_set (by (repeat (first | with_reducible exact hS | with_reducible apply St.drew | with_reducible apply St.alloc | with_reducible apply St.put | with_reducible apply atS | with_reducible exact at0 | with_reducible exact at1 | with_reducible exact at2 | with_reducible exact at3 | with_reducible exact at4 | with_reducible exact at5))) ?_ | with_reducible refine abs_calls_drew (by (repeat (first | with_reducible exact hS | with_reducible apply St.drew | with_reducible apply St.alloc | with_reducible apply St.put | with_reducible apply atS | with_reducible exact at0 | with_reducible exact at1 | with_reducible exact at2 | with_reducible exact at3 | with_reducible exact at4 | with_reducible exact at5))) ?_); ((try clear hF); clear hS; intro wk hS; (try simp only [List.set_cons_zero, List.set_cons_succ, heap_size, heap_set_size] at hS); ((try clear hF); have hF := And.intro hS.facts (hR.at hS.ext); simp only [Facts, cellFacts, RFacts, cellOnly, and_true, true_and, Nat.zero_add, Nat.reduceAdd] at hF))) | (go_at_call 79; (with_reducible refine (IHL.out _ _ hS.ext).mono ?_); rintro e wk ⟨rfl, hX⟩; replace hS := hS.step hX; clear hX; ((try clear hF); have hF := And.intro hS.facts (hR.at hS.ext); simp only [Facts, cellFacts, RFacts, cellOnly, and_true, true_and, Nat.zero_add, Nat.reduceAdd] at hF)) | (go_at_call 79; (with_reducible refine (IHR.out _ _ hS.ext).mono ?_); rintro e wk ⟨rfl, hX⟩; replace hS := hS.step hX; clear hX; ((try clear hF); have hF := And.intro hS.facts (hR.at hS.ext); simp only [Facts, cellFacts, RFacts, cellOnly, and_true, true_and, Nat.zero_add, Nat.reduceAdd] at hF)))
      all_goals
        first
        | (go_ret; refine ⟨?_, hS.ext⟩; go_tidy; clear hS; (try clear hF); (try simp_all [int_beq, mayS]) <;> (first | rfl | exact decide_eq_decide.2 Iff.rfl | omega))
        | skip
      all_goals trace_state
end Go.Proofs.YtcpllhjhnfmepaaGreatDoor

/- The tables that a row lists (the words that a name may not be, the error type's handle, utf8's tables): with the table of opposites: what they tell of the world; a world that has them. -/
namespace Go.Proofs.YtcpllhjhnfmepaaGreatDoor
set_option linter.unusedSimpArgs false
set_option linter.unusedVariables false
open Go.RowKit
set_option linter.all false
open Go.ChangeShapes Go.WideShapes Go.ChangeAt Go.Joins
theorem gKept : Tryz.prog.globalNamed "millpond/schema.kept" = some 0 := by kernel_rfl
theorem tKept : (Tryz.prog.globals[0]?).map (·.type) = some 111 := by kernel_rfl
theorem gOpp : Tryz.prog.globalNamed "millpond/stats.opposites" = some 2 := by kernel_rfl
theorem tOpp : (Tryz.prog.globals[2]?).map (·.type) = some 181 := by kernel_rfl
theorem gErr : Tryz.prog.globalNamed "errors.errorType" = some 1 := by kernel_rfl
theorem rtTy : (Tryz.prog.cutTypes.find? (·.1 == "internal/reflectlite.rtype")).map (·.2) = some 186 := by kernel_rfl
theorem oneRow : ((List.range 235).filter fun t => Tryz.prog.rowNamed t [101, 114, 114, 111, 114]) = [31] := by kernel_rfl
theorem szTypes : Tryz.prog.types.size = 235 := by kernel_rfl
def laidL : List (String × DataW Unit) := [("unicode/utf8.acceptRanges", Rows.laid_unicode_utf8_acceptRanges), ("errors.errorType", Rows.laid_errors_errorType), ("millpond/schema.kept", Rows.laid_millpond_schema_kept), ("millpond/stats.opposites", Rows.laid_millpond_stats_opposites), ("unicode/utf8.first", Rows.laid_unicode_utf8_first)]
def laidT : List (String × DataW Unit) := [("unicode/utf8.acceptRanges", Rows.laid_unicode_utf8_acceptRanges), ("millpond/schema.kept", Rows.laid_millpond_schema_kept), ("millpond/stats.opposites", Rows.laid_millpond_stats_opposites), ("unicode/utf8.first", Rows.laid_unicode_utf8_first)]
theorem laid_split {W : World} (h : laidMetH Tryz.prog laidL W) : laidMet Tryz.prog laidT W ∧ handlesMet Tryz.prog [("errors.errorType", Rows.laid_errors_errorType)] W := h
theorem of_laid {W : World} (h : laidMetH Tryz.prog laidL W) : KeptAt W ∧ ErrAt W ∧ OppAt W := by
  obtain ⟨h1, h2⟩ := laid_split h
  refine ⟨?_, ?_, ?_⟩
  · obtain ⟨ps, ⟨_, _, _, _, _, _, _, _, _, _, ⟨g0, t0, cs0, f0, p0, q0, hg0, ht0, hv0, hd0, _, _⟩, _⟩, _, _⟩ := h1
    obtain rfl := Option.some.inj (gKept.symm.trans hg0)
    obtain rfl := Option.some.inj (tKept.symm.trans ht0)
    obtain ⟨xs, m1, rfl, hx1, hlen, hn3, hel⟩ := DataW.trod_array Tryz.underlying111 hd0
    have hx : xs.map (·.1) = [.lit (.string [97, 110, 100]), .lit (.string [105, 115]), .lit (.string [110, 111, 116]), .lit (.string [110, 117, 108, 108]), .lit (.string [111, 114])] := by
      have := (Prod.mk.inj hx1).1
      simpa [Rows.laid_millpond_schema_kept, eq_comm] using this
    intro j hj
    have hj' := hel j hj
    rw [Tryz.cellsString] at hj'
    obtain ⟨xj, hxj⟩ : ∃ x, xs[j]? = some x := ⟨_, List.getElem?_eq_getElem (by omega)⟩
    rw [hxj] at hj'
    obtain ⟨k, e1, e2, _⟩ := DataW.trod_string Tryz.underlying9 hj'
    have hc := World.var?_cell hg0 hv0 j
    have hk : (xs.map (·.1))[j]? = some (.lit (.string k.data.toList)) := by rw [List.getElem?_map, hxj, e2]; rfl
    rw [hx] at hk
    have e3 := congrArg List.head? e1
    simp [List.head?_take, List.head?_drop] at e3
    rw [hc, e3]
    have : k = keptL.getD j ByteArray.empty := by
      have hkd : ∀ l, k.data.toList = l → k = ⟨⟨l⟩⟩ := fun l hl => by
        obtain ⟨⟨d⟩⟩ := k
        simp at hl
        subst hl
        rfl
      rcases (by omega : j = 0 ∨ j = 1 ∨ j = 2 ∨ j = 3 ∨ j = 4) with rfl | rfl | rfl | rfl | rfl <;> simp at hk <;> exact hkd _ hk.symm
    rw [this]
  · obtain ⟨name, u, ty, e1, e2, e3, e4, e5⟩ := h2 _ (List.mem_singleton.2 rfl)
    have en : name = [101, 114, 114, 111, 114] := (Option.some.inj e1).symm
    subst en
    obtain rfl := Option.some.inj (rtTy.symm.trans e2)
    have hm : ty ∈ (List.range 235).filter fun t => Tryz.prog.rowNamed t [101, 114, 114, 111, 114] := List.mem_filter.2 ⟨List.mem_range.2 (by rw [← szTypes]; exact e3), e4⟩
    rw [oneRow] at hm
    obtain rfl := List.mem_singleton.1 hm
    have hh : typeHandle Tryz.prog 31 = .pointer (some ⟨6, 31, none⟩) := by kernel_rfl
    rw [hh] at e5
    have e6 := World.var?_cell gErr e5 0
    simpa [ErrAt] using e6
  · obtain ⟨ps, ⟨_, _, _, _, _, _, _, _, _, _, ⟨_, _, _, _, _, _, _, _, _, _, ⟨g0, t0, cs0, f0, p0, q0, hg0, ht0, hv0, hd0, _, _⟩, _⟩, _⟩, _, _⟩ := h1
    obtain rfl := Option.some.inj (gOpp.symm.trans hg0)
    obtain rfl := Option.some.inj (tOpp.symm.trans ht0)
    obtain ⟨xs, m1, rfl, hx1, hlen, hn3, hel⟩ := DataW.trod_array Tryz.underlying181 hd0
    have hx : xs.map (·.1) = [.lit (.int .i64 0), .lit (.int .i64 2), .lit (.int .i64 1), .lit (.int .i64 6), .lit (.int .i64 5), .lit (.int .i64 4), .lit (.int .i64 3), .lit (.int .i64 8), .lit (.int .i64 7)] := by
      have := (Prod.mk.inj hx1).1
      simpa [Rows.laid_millpond_stats_opposites, eq_comm] using this
    intro j hj
    have hj' := hel j hj
    rw [Tryz.cellsInt] at hj'
    obtain ⟨xj, hxj⟩ : ∃ x, xs[j]? = some x := ⟨_, List.getElem?_eq_getElem (by omega)⟩
    rw [hxj] at hj'
    obtain ⟨k, e1, e2, _⟩ := DataW.trod_int Tryz.underlying3 hj'
    have hc := World.var?_cell hg0 hv0 j
    have hk : (xs.map (·.1))[j]? = some (.lit (.int .i64 k)) := by rw [List.getElem?_map, hxj, e2]; rfl
    rw [hx] at hk
    have e3 := congrArg List.head? e1
    simp [List.head?_take, List.head?_drop] at e3
    rw [hc, e3]
    have : k = oppI j := by
      rcases (by omega : j = 0 ∨ j = 1 ∨ j = 2 ∨ j = 3 ∨ j = 4 ∨ j = 5 ∨ j = 6 ∨ j = 7 ∨ j = 8) with rfl | rfl | rfl | rfl | rfl | rfl | rfl | rfl | rfl <;> simp at hk <;> subst hk <;> rfl
    rw [this]
/-- a start: the settled world, the handle's cell laid -/
noncomputable def baseW (os : Os) : World :=
  let w0 := World.holding Tryz.prog os ⟨#[], #[], []⟩
  { w0 with heap := w0.heap.modify 1 fun
      | .cells _ t frozen => .cells #[.iface 186 (.agg #[.pointer (some ⟨6, 31, none⟩)])] t frozen
      | o => o }
noncomputable def startW (os : Os) : World := (baseW os).layVars Tryz.prog laidT
theorem startW_os (os : Os) : (startW os).os = os := World.layVars_os _ _ _
theorem startW_data (os : Os) (args : Array Value) : laidMet Tryz.prog laidT ((startW os).forCall (fun _ _ => 0) ⟨#[], args, []⟩).memory := by
  have e1 : (laidT.filter fun x => (laidT.map (·.1)).contains x.1) = laidT := List.filter_eq_self.2 fun x hx => List.contains_iff_mem.2 (List.mem_map.2 ⟨x, hx, rfl⟩)
  have e2 : (laidT.filter fun x => !(laidT.map (·.1)).contains x.1) = [] := List.filter_eq_nil_iff.2 fun x hx => by rw [List.contains_iff_mem.2 (List.mem_map.2 ⟨x, hx, rfl⟩)]; simp
  have hf : (baseW os).layFits Tryz.prog laidT [] = true := by kernel_rfl
  have hi : (baseW os).layIfaces Tryz.prog laidT (startW os) = true := by kernel_rfl
  have h : laidMet Tryz.prog laidT (startW os) := laidMet_layVars (w0 := baseW os) (laidT.map (·.1)) [] (by rw [e1]; rfl) (by rw [e1]; exact hf) (by rw [e1]; exact hi) (by rw [e2]; exact LaidIn.none)
  exact h.of_heap (by simp [World.memory, World.forCall, Input.heap])
theorem startW_met (os : Os) (args : Array Value) : laidMetH Tryz.prog laidL ((startW os).forCall (fun _ _ => 0) ⟨#[], args, []⟩).memory :=
  laidMetH_of_parts3 (fuel := 8) (startW_data os args) (by kernel_rfl) (by kernel_rfl)
end Go.Proofs.YtcpllhjhnfmepaaGreatDoor

/- stats.May. -/
namespace Go.Proofs.YtcpllhjhnfmepaaGreatDoor
set_option linter.all false
set_option linter.unusedSimpArgs false
set_option linter.unusedVariables false
open Go.RowKit
set_option maxRecDepth 100000 in
set_option maxHeartbeats 8000000 in
theorem mayM_any (w : World) (g : Nat) (lb : Array Value) (f : ByteArray → ST) (eg : ∀ args w, (callFunc g args).run Tryz.prog w = .ok (.enter g args) w) (hget : KnowOk w g lb f) (hopp : OppAt w)
    (t : CT) (v : Value) (hg : GoodC t) (hc : CondAt w v t) : Calls Tryz.prog 54 #[v, .func (.func g) #[] lb] w fun e w' => e = .returned (.bool (mayS f false t)) ∧ Ext w w' := by
  have H := Lib.hid (may_any w g lb f eg hget hopp t false v w hg hc (Ext.refl w))
  clear hget hopp hg hc
  have hS := St.init w
  have hR := Reads.nil w
  go_enter Tryz.func54, Tryz.ntmps54
  go_wp2_with (first | ((first | with_reducible refine abs_list_alloc (by (repeat (first | with_reducible exact hS | with_reducible apply St.drew | with_reducible apply St.alloc | with_reducible apply St.put | with_reducible apply atS | with_reducible exact at0 | with_reducible exact at1 | with_reducible exact at2 | with_reducible exact at3 | with_reducible exact at4 | with_reducible exact at5))) ?_ | with_reducible refine abs_list_set (by (repeat (first | with_reducible exact hS | with_reducible apply St.drew | with_reducible apply St.alloc | with_reducible apply St.put | with_reducible apply atS | with_reducible exact at0 | with_reducible exact at1 | with_reducible exact at2 | with_reducible exact at3 | with_reducible exact at4 | with_reducible exact at5))) ?_ | with_reducible refine abs_list_drew (by (repeat (first | with_reducible exact hS | with_reducible apply St.drew | with_reducible apply St.alloc | with_reducible apply St.put | with_reducible apply atS | with_reducible exact at0 | with_reducible exact at1 | with_reducible exact at2 | with_reducible exact at3 | with_reducible exact at4 | with_reducible exact at5))) ?_ | with_reducible refine abs_code_alloc (by (repeat (first | with_reducible exact hS | with_reducible apply St.drew | with_reducible apply St.alloc | with_reducible apply St.put | with_reducible apply atS | with_reducible exact at0 | with_reducible exact at1 | with_reducible exact at2 | with_reducible exact at3 | with_reducible exact at4 | with_reducible exact at5))) ?_ | with_reducible refine abs_code_set (by (repeat (first | with_reducible exact hS | with_reducible apply St.drew | with_reducible apply St.alloc | with_reducible apply St.put | with_reducible apply atS | with_reducible exact at0 | with_reducible exact at1 | with_reducible exact at2 | with_reducible exact at3 | with_reducible exact at4 | with_reducible exact at5))) ?_ | with_reducible refine abs_code_drew (by (repeat (first | with_reducible exact hS | with_reducible apply St.drew | with_reducible apply St.alloc | with_reducible apply St.put | with_reducible apply atS | with_reducible exact at0 | with_reducible exact at1 | with_reducible exact at2 | with_reducible exact at3 | with_reducible exact at4 | with_reducible exact at5))) ?_ | with_reducible refine abs_post_alloc (by (repeat (first | with_reducible exact hS | with_reducible apply St.drew | with_reducible apply St.alloc | with_reducible apply St.put | with_reducible apply atS | with_reducible exact at0 | with_reducible exact at1 | with_reducible exact at2 | with_reducible exact at3 | with_reducible exact at4 | with_reducible exact at5))) ?_ | with_reducible refine abs_post_set (by (repeat (first | with_reducible exact hS | with_reducible apply St.drew | with_reducible apply St.alloc | with_reducible apply St.put | with_reducible apply atS | with_reducible exact at0 | with_reducible exact at1 | with_reducible exact at2 | with_reducible exact at3 | with_reducible exact at4 | with_reducible exact at5))) ?_ | with_reducible refine abs_post_drew (by (repeat (first | with_reducible exact hS | with_reducible apply St.drew | with_reducible apply St.alloc | with_reducible apply St.put | with_reducible apply atS | with_reducible exact at0 | with_reducible exact at1 | with_reducible exact at2 | with_reducible exact at3 | with_reducible exact at4 | with_reducible exact at5))) ?_ | with_reducible refine abs_calls_alloc (by (repeat (first | with_reducible exact hS | with_reducible apply St.drew | with_reducible apply St.alloc | with_reducible apply St.put | with_reducible apply atS | with_reducible exact at0 | with_reducible exact at1 | with_reducible exact at2 | with_reducible exact at3 | with_reducible exact at4 | with_reducible exact at5))) ?_ | with_reducible refine abs_calls_set (by (repeat (first | with_reducible exact hS | with_reducible apply St.drew | with_reducible apply St.alloc | with_reducible apply St.put | with_reducible apply atS | with_reducible exact at0 | with_reducible exact at1 | with_reducible exact at2 | with_reducible exact at3 | with_reducible exact at4 | with_reducible exact at5))) ?_ | with_reducible refine abs_calls_drew (by (repeat (first | with_reducible exact hS | with_reducible apply St.drew | with_reducible apply St.alloc | with_reducible apply St.put | with_reducible apply atS | with_reducible exact at0 | with_reducible exact at1 | with_reducible exact at2 | with_reducible exact at3 | with_reducible exact at4 | with_reducible exact at5))) ?_); ((try clear hF); clear hS; intro wk hS; (try simp only [List.set_cons_zero, List.set_cons_succ, heap_size, heap_set_size] at hS); ((try clear hF); have hF := And.intro hS.facts (hR.at hS.ext); simp only [Facts, cellFacts, RFacts, cellOnly, and_true, true_and, Nat.zero_add, Nat.reduceAdd] at hF))) | (go_at_call 79; (with_reducible refine (H.out).mono ?_); rintro e wk ⟨rfl, hX⟩; replace hS := hS.step hX; clear hX; ((try clear hF); have hF := And.intro hS.facts (hR.at hS.ext); simp only [Facts, cellFacts, RFacts, cellOnly, and_true, true_and, Nat.zero_add, Nat.reduceAdd] at hF)))
  go_ret
  exact ⟨rfl, hS.ext⟩
end Go.Proofs.YtcpllhjhnfmepaaGreatDoor

/- reader.values: the four ways of reading values. -/
namespace Go.Proofs.YtcpllhjhnfmepaaGreatDoor
set_option linter.all false
set_option linter.unusedSimpArgs false
set_option linter.unusedVariables false
open Go.RowKit
open Go.Lib (uvarint zigzag)
def rPlain (kind : Int) : Nat → RSt → List GV → List GV × RSt
  | 0, st, acc => (acc, st)
  | n + 1, st, acc => rPlain kind n (rOne kind st).2 (acc ++ [(rOne kind st).1])
def rRuns (kind : Int) (n : Nat) : Nat → RSt → List GV → List GV × RSt
  | 0, st, acc => (acc, st)
  | f + 1, st, acc => if acc.length < n ∧ st.2 = false then
      rRuns kind n f ((rOne kind (rSmall (n - acc.length) st).2).2.1, (rOne kind (rSmall (n - acc.length) st).2).2.2 || decide ((rSmall (n - acc.length) st).1 = 0)) (acc ++ List.replicate (rSmall (n - acc.length) st).1 (rOne kind (rSmall (n - acc.length) st).2).1)
    else (acc, st)
def rPick (all : List GV) : Nat → RSt → List GV → List GV × RSt
  | 0, st, acc => (acc, st)
  | n + 1, st, acc => match all[(rSmall 60 st).1]? with
    | some x => rPick all n (rSmall 60 st).2 (acc ++ [x])
    | none => rPick all n ((rSmall 60 st).2.1, true) acc
def rSteps : Nat → Int → RSt → List GV → List GV × RSt
  | 0, _, st, acc => (acc, st)
  | n + 1, last, st, acc => rSteps n (wrap64 (last + (rSigned st).1)) (rSigned st).2 (acc ++ [⟨1, wrap64 (last + (rSigned st).1), ⟨#[]⟩⟩])
def rValues (way : Nat) (kind : Int) (n : Nat) (st : RSt) : List GV × RSt :=
  if way = 0 then rPlain kind n st []
  else if way = 1 then rRuns kind n (n + 1) st []
  else if way = 2 then rPick (rPlain kind (rSmall n st).1 (rSmall n st).2 []).1 n (rPlain kind (rSmall n st).1 (rSmall n st).2 []).2 []
  else if way = 3 then rSteps n 0 st []
  else ([], (st.1, true))
/-- the reader at the head has read on: it hands back values -/
def RResL (B : Nat) (w0 : World) (L : List Item) (g : Nat) (r : List GV × RSt) (e : Ending) (w' : World) : Prop :=
  ∃ (A : Option Addr) (cap : Nat) (out : List GV) (s : ByteArray) (b : Bool), e = .returned (.slice A out.length cap) ∧ Hid (out = r.1) ∧ Hid ((s.data.toList, b) = r.2) ∧ Hp B w0 w' (vRow A cap out :: .blk g [.string s, .bool b] 126 :: L)
theorem size_le {s' s : ByteArray} {l : List UInt8} (h : s'.data.toList = l) (hl : l.length ≤ s.data.toList.length) (hs : s.size ≤ 100000) : s'.size ≤ 100000 := by
  have := congrArg List.length h
  rw [size_cast] at this hl
  omega
set_option maxRecDepth 100000 in
set_option maxHeartbeats 8000000 in
theorem values0 {B : Nat} {w0 w : World} {L : List Item} (g : Nat) (s : ByteArray) (b : Bool) (kind : Int) (n : Nat) (hn : n ≤ 1000) (hl : s.size ≤ 100000) (hS : Hp B w0 w (.blk g [.string s, .bool b] 126 :: L)) :
    Calls Tryz.prog 63 #[.pointer (some ⟨g, 0, none⟩), .int .i64 0, .int .i64 kind, .int .i64 n] w (RResL B w0 L g (rPlain kind n (s.data.toList, b) [])) := by
  obtain ⟨R, hR0⟩ : ∃ R, R = rPlain kind n (s.data.toList, b) [] := ⟨_, rfl⟩
  rw [← hR0]
  have HR := Lib.hid hR0
  clear hR0
  replace hS := hS.nilRow 45 3
  ((try clear hF); (first | have hF := And.intro hS.facts (hR.at hS.ext) | have hF := hS.facts); simp only [HFacts, cellFacts, RFacts, cellOnly, and_true, true_and, Nat.zero_add, Nat.reduceAdd] at hF)
  go_enter Tryz.func63, Tryz.ntmps63
  go_wp2_with (first | ((with_reducible first | refine nhLa ?_ | refine nhLs ?_ | refine nhLd ?_ | refine nhCa ?_ | refine nhCs ?_ | refine nhCd ?_ | refine nhPa ?_ | refine nhPs ?_ | refine nhPd ?_ | refine nhKa ?_ | refine nhKs ?_ | refine nhKd ?_); ((try clear hF); clear hS; intro wk hS; (try simp only [List.set_cons_zero, List.set_cons_succ, heap_size, heap_set_size] at hS); ((try clear hF); (first | have hF := And.intro hS.facts (hR.at hS.ext) | have hF := hS.facts); simp only [HFacts, cellFacts, RFacts, cellOnly, and_true, true_and, Nat.zero_add, Nat.reduceAdd] at hF))) | fail)
  go_loopw [21, 9] (fun i v wr => ∃ (k : Nat) (A : Option Addr) (cap : Nat) (out : List GV) (s' : ByteArray) (b' : Bool), i = .int .i64 k ∧ k ≤ n ∧ v = .slice A out.length cap ∧ Hid (R = rPlain kind (n - k) (s'.data.toList, b') out) ∧ out.length = k ∧ s'.size ≤ 100000 ∧ Hp B w0 wr (vRow A cap out :: .blk g [.string s', .bool b'] 126 :: L)) (fun i _ _ => n - (intOf i).toNat)
  case atStart => exact ⟨0, none, 0, [], s, b, rfl, Nat.zero_le _, rfl, HR, rfl, hl, hS⟩
  case round =>
    clear hS hF hl
    obtain ⟨k, A1, cap1, out, s', b', rfl, hk, rfl, hr, hol, hsl, hS⟩ := hrel
    have HOL := Lib.hid hol
    clear hol
    by_cases hlt : k < n
    · obtain ⟨r, hr0⟩ : ∃ r, r = rOne kind (s'.data.toList, b') := ⟨_, rfl⟩
      have HO := Lib.hid (fun (W : World) (L : List Item) hS => rone_any (w0 := w0) (w := W) (B := B) (L := L) g s' b' kind hsl hS)
      have hlen := rOne_len kind (s'.data.toList, b')
      rw [← hr0] at HO hlen
      have HR0 := Lib.hid hr0
      clear hr0
      have HLEN := Lib.hid hlen
      clear hlen
      have HST := Lib.hid (show rPlain kind (n - k) (s'.data.toList, b') out = rPlain kind (n - (k + 1)) r.2 (out ++ [r.1]) by rw [show n - k = n - (k + 1) + 1 by omega, rPlain, ← HR0.out])
      have hol : out.length ≤ 1000 := by have := HOL.out; omega
      ((try clear hF); (first | have hF := And.intro hS.facts (hR.at hS.ext) | have hF := hS.facts); simp only [HFacts, cellFacts, RFacts, cellOnly, and_true, true_and, Nat.zero_add, Nat.reduceAdd] at hF)
      go_wp2_with (first | ((with_reducible first | refine nhLa ?_ | refine nhLs ?_ | refine nhLd ?_ | refine nhCa ?_ | refine nhCs ?_ | refine nhCd ?_ | refine nhPa ?_ | refine nhPs ?_ | refine nhPd ?_ | refine nhKa ?_ | refine nhKs ?_ | refine nhKd ?_); ((try clear hF); clear hS; intro wk hS; (try simp only [List.set_cons_zero, List.set_cons_succ, heap_size, heap_set_size] at hS); ((try clear hF); (first | have hF := And.intro hS.facts (hR.at hS.ext) | have hF := hS.facts); simp only [HFacts, cellFacts, RFacts, cellOnly, and_true, true_and, Nat.zero_add, Nat.reduceAdd] at hF))) | (go_at_call 85; (with_reducible refine Calls.mono (HO.out _ _ (hS.front 1 rfl)) ?_); clear hS; rintro e wk ⟨s2, x, rfl, hx, hs2, hS⟩; (try simp only [List.eraseIdx_cons_zero, List.eraseIdx_cons_succ, List.set_cons_zero, List.set_cons_succ] at hS); ((try clear hF); (first | have hF := And.intro hS.facts (hR.at hS.ext) | have hF := hS.facts); simp only [HFacts, cellFacts, RFacts, cellOnly, and_true, true_and, Nat.zero_add, Nat.reduceAdd] at hF)) | (at_builtin; refine wpList_push_hp Tryz.elem_vals rfl (.tmp 23) (.tmp 27) rfl (hS.second 1 rfl) rfl rfl rfl (by simp [Value.oneCell']) (by omega) (by omega) ?_; clear hS; intro Ak capk wk hS; (try simp only [List.eraseIdx_cons_zero, List.eraseIdx_cons_succ, List.set_cons_zero, List.set_cons_succ] at hS); ((try clear hF); (first | have hF := And.intro hS.facts (hR.at hS.ext) | have hF := hS.facts); simp only [HFacts, cellFacts, RFacts, cellOnly, and_true, true_and, Nat.zero_add, Nat.reduceAdd] at hF)))
      go_roundw
      case rel =>
        refine ⟨k + 1, Ak, capk, out ++ [x], s2, r.2.2, by go_num, by omega, by simp, Lib.hid ?_, by simp [HOL.out], size_le hs2.out HLEN.out hsl, vRow_push hS⟩
        rw [hr.out, HST.out, hx.out, hs2.out]
      case measure => simp [intOf]; omega
    · obtain rfl : k = n := by omega
      ((try clear hF); (first | have hF := And.intro hS.facts (hR.at hS.ext) | have hF := hS.facts); simp only [HFacts, cellFacts, RFacts, cellOnly, and_true, true_and, Nat.zero_add, Nat.reduceAdd] at hF)
      go_wp2_with (first | ((with_reducible first | refine nhLa ?_ | refine nhLs ?_ | refine nhLd ?_ | refine nhCa ?_ | refine nhCs ?_ | refine nhCd ?_ | refine nhPa ?_ | refine nhPs ?_ | refine nhPd ?_ | refine nhKa ?_ | refine nhKs ?_ | refine nhKd ?_); ((try clear hF); clear hS; intro wk hS; (try simp only [List.set_cons_zero, List.set_cons_succ, heap_size, heap_set_size] at hS); ((try clear hF); (first | have hF := And.intro hS.facts (hR.at hS.ext) | have hF := hS.facts); simp only [HFacts, cellFacts, RFacts, cellOnly, and_true, true_and, Nat.zero_add, Nat.reduceAdd] at hF))) | fail)
      go_ret
      rw [Nat.sub_self, rPlain] at hr
      exact ⟨A1, cap1, out, s', b', rfl, Lib.hid (by rw [hr.out]), Lib.hid (by rw [hr.out]), hS⟩
set_option maxRecDepth 100000 in
set_option maxHeartbeats 8000000 in
theorem values_bad {B : Nat} {w0 w : World} {L : List Item} (g : Nat) (s : ByteArray) (b : Bool) (kind : Int) (way n : Nat) (hw : 4 ≤ way) (hS : Hp B w0 w (.blk g [.string s, .bool b] 126 :: L)) :
    Calls Tryz.prog 63 #[.pointer (some ⟨g, 0, none⟩), .int .i64 way, .int .i64 kind, .int .i64 n] w (RResL B w0 L g ([], (s.data.toList, true))) := by
  have b0 : ((way : Int) == 0) = false := by simp; omega
  have b1 : ((way : Int) == 1) = false := by simp; omega
  have b2 : ((way : Int) == 2) = false := by simp; omega
  have b3 : ((way : Int) == 3) = false := by simp; omega
  clear hw
  ((try clear hF); (first | have hF := And.intro hS.facts (hR.at hS.ext) | have hF := hS.facts); simp only [HFacts, cellFacts, RFacts, cellOnly, and_true, true_and, Nat.zero_add, Nat.reduceAdd] at hF)
  go_enter Tryz.func63, Tryz.ntmps63
  go_wp2_with (first | ((with_reducible first | refine nhLa ?_ | refine nhLs ?_ | refine nhLd ?_ | refine nhCa ?_ | refine nhCs ?_ | refine nhCd ?_ | refine nhPa ?_ | refine nhPs ?_ | refine nhPd ?_ | refine nhKa ?_ | refine nhKs ?_ | refine nhKd ?_); ((try clear hF); clear hS; intro wk hS; (try simp only [List.set_cons_zero, List.set_cons_succ, heap_size, heap_set_size] at hS); ((try clear hF); (first | have hF := And.intro hS.facts (hR.at hS.ext) | have hF := hS.facts); simp only [HFacts, cellFacts, RFacts, cellOnly, and_true, true_and, Nat.zero_add, Nat.reduceAdd] at hF))) | fail)
  go_ret
  exact ⟨none, 0, [], s, true, rfl, Lib.hid rfl, Lib.hid rfl, hS.nilRow _ _⟩
set_option maxRecDepth 100000 in
set_option maxHeartbeats 8000000 in
theorem values3 {B : Nat} {w0 w : World} {L : List Item} (g : Nat) (s : ByteArray) (b : Bool) (kind : Int) (n : Nat) (hn : n ≤ 1000) (hl : s.size ≤ 100000) (hS : Hp B w0 w (.blk g [.string s, .bool b] 126 :: L)) :
    Calls Tryz.prog 63 #[.pointer (some ⟨g, 0, none⟩), .int .i64 3, .int .i64 kind, .int .i64 n] w (RResL B w0 L g (rSteps n 0 (s.data.toList, b) [])) := by
  obtain ⟨R, hR0⟩ : ∃ R, R = rSteps n 0 (s.data.toList, b) [] := ⟨_, rfl⟩
  rw [← hR0]
  have HR := Lib.hid hR0
  clear hR0
  replace hS := hS.nilRow 45 3
  ((try clear hF); (first | have hF := And.intro hS.facts (hR.at hS.ext) | have hF := hS.facts); simp only [HFacts, cellFacts, RFacts, cellOnly, and_true, true_and, Nat.zero_add, Nat.reduceAdd] at hF)
  go_enter Tryz.func63, Tryz.ntmps63
  go_wp2_with (first | ((with_reducible first | refine nhLa ?_ | refine nhLs ?_ | refine nhLd ?_ | refine nhCa ?_ | refine nhCs ?_ | refine nhCd ?_ | refine nhPa ?_ | refine nhPs ?_ | refine nhPd ?_ | refine nhKa ?_ | refine nhKs ?_ | refine nhKd ?_); ((try clear hF); clear hS; intro wk hS; (try simp only [List.set_cons_zero, List.set_cons_succ, heap_size, heap_set_size] at hS); ((try clear hF); (first | have hF := And.intro hS.facts (hR.at hS.ext) | have hF := hS.facts); simp only [HFacts, cellFacts, RFacts, cellOnly, and_true, true_and, Nat.zero_add, Nat.reduceAdd] at hF))) | fail)
  go_loopw [105, 9, 13] (fun i v z wr => ∃ (k : Nat) (A : Option Addr) (cap : Nat) (out : List GV) (s' : ByteArray) (b' : Bool) (last : Int), i = .int .i64 k ∧ k ≤ n ∧ v = .slice A out.length cap ∧ z = .int .i64 last ∧ Hid (R = rSteps (n - k) last (s'.data.toList, b') out) ∧ out.length = k ∧ s'.size ≤ 100000 ∧ Hp B w0 wr (vRow A cap out :: .blk g [.string s', .bool b'] 126 :: L)) (fun i _ _ _ => n - (intOf i).toNat)
  case atStart => exact ⟨0, none, 0, [], s, b, 0, rfl, Nat.zero_le _, rfl, rfl, HR, rfl, hl, hS⟩
  case round =>
    clear hS hF hl
    obtain ⟨k, A1, cap1, out, s', b', last, rfl, hk, rfl, rfl, hr, hol, hsl, hS⟩ := hrel
    have HOL := Lib.hid hol
    clear hol
    by_cases hlt : k < n
    · obtain ⟨r, hr0⟩ : ∃ r, r = rSigned (s'.data.toList, b') := ⟨_, rfl⟩
      have HO := Lib.hid (fun (W : World) (L : List Item) hS => rsigned_any (w0 := w0) (w := W) (B := B) (L := L) g s' b' hsl hS)
      have hlen : (rSigned (s'.data.toList, b')).2.1.length ≤ s'.data.toList.length := rNumber_len (s'.data.toList, b')
      rw [← hr0] at HO hlen
      have HR0 := Lib.hid hr0
      clear hr0
      have HLEN := Lib.hid hlen
      clear hlen
      obtain ⟨dv, st⟩ := r
      have HST := Lib.hid (show rSteps (n - k) last (s'.data.toList, b') out = rSteps (n - (k + 1)) (wrap64 (last + dv)) st (out ++ [⟨1, wrap64 (last + dv), ⟨#[]⟩⟩]) by rw [show n - k = n - (k + 1) + 1 by omega, rSteps, ← HR0.out])
      have HO2 := Lib.hid (show ∀ (W : World) (L : List Item), Hp B w0 W (.blk g [.string s', .bool b'] 126 :: L) → Calls Tryz.prog 86 #[.pointer (some ⟨g, 0, none⟩)] W (RRes B w0 L g (.int .i64 dv) st) from HO.out)
      clear HO
      have hol : out.length ≤ 1000 := by have := HOL.out; omega
      ((try clear hF); (first | have hF := And.intro hS.facts (hR.at hS.ext) | have hF := hS.facts); simp only [HFacts, cellFacts, RFacts, cellOnly, and_true, true_and, Nat.zero_add, Nat.reduceAdd] at hF)
      go_wp2_with (first | ((with_reducible first | refine nhLa ?_ | refine nhLs ?_ | refine nhLd ?_ | refine nhCa ?_ | refine nhCs ?_ | refine nhCd ?_ | refine nhPa ?_ | refine nhPs ?_ | refine nhPd ?_ | refine nhKa ?_ | refine nhKs ?_ | refine nhKd ?_); ((try clear hF); clear hS; intro wk hS; (try simp only [List.set_cons_zero, List.set_cons_succ, heap_size, heap_set_size] at hS); ((try clear hF); (first | have hF := And.intro hS.facts (hR.at hS.ext) | have hF := hS.facts); simp only [HFacts, cellFacts, RFacts, cellOnly, and_true, true_and, Nat.zero_add, Nat.reduceAdd] at hF))) | (go_at_call 86; (with_reducible refine Calls.mono (HO2.out _ _ (hS.front 1 rfl)) ?_); clear hS; rintro e wk ⟨s2, rfl, hs2, hS⟩; (try simp only [List.eraseIdx_cons_zero, List.eraseIdx_cons_succ, List.set_cons_zero, List.set_cons_succ] at hS); ((try clear hF); (first | have hF := And.intro hS.facts (hR.at hS.ext) | have hF := hS.facts); simp only [HFacts, cellFacts, RFacts, cellOnly, and_true, true_and, Nat.zero_add, Nat.reduceAdd] at hF)) | (at_builtin; refine wpList_push_hp Tryz.elem_vals rfl (.tmp 111) (.tmp 114) rfl (hS.second 1 rfl) rfl rfl rfl (by simp [Value.oneCell']) (by omega) (by omega) ?_; clear hS; intro Ak capk wk hS; (try simp only [List.eraseIdx_cons_zero, List.eraseIdx_cons_succ, List.set_cons_zero, List.set_cons_succ] at hS); ((try clear hF); (first | have hF := And.intro hS.facts (hR.at hS.ext) | have hF := hS.facts); simp only [HFacts, cellFacts, RFacts, cellOnly, and_true, true_and, Nat.zero_add, Nat.reduceAdd] at hF)))
      go_roundw
      case rel =>
        refine ⟨k + 1, Ak, capk, out ++ [⟨1, wrap64 (last + dv), ⟨#[]⟩⟩], s2, st.2, wrap64 (last + dv), by go_num, by omega, by simp, rfl, Lib.hid ?_, by simp [HOL.out], size_le hs2.out HLEN.out hsl, vRow_push hS⟩
        rw [hr.out, HST.out, hs2.out]
      case measure => simp [intOf]; omega
    · obtain rfl : k = n := by omega
      ((try clear hF); (first | have hF := And.intro hS.facts (hR.at hS.ext) | have hF := hS.facts); simp only [HFacts, cellFacts, RFacts, cellOnly, and_true, true_and, Nat.zero_add, Nat.reduceAdd] at hF)
      go_wp2_with (first | ((with_reducible first | refine nhLa ?_ | refine nhLs ?_ | refine nhLd ?_ | refine nhCa ?_ | refine nhCs ?_ | refine nhCd ?_ | refine nhPa ?_ | refine nhPs ?_ | refine nhPd ?_ | refine nhKa ?_ | refine nhKs ?_ | refine nhKd ?_); ((try clear hF); clear hS; intro wk hS; (try simp only [List.set_cons_zero, List.set_cons_succ, heap_size, heap_set_size] at hS); ((try clear hF); (first | have hF := And.intro hS.facts (hR.at hS.ext) | have hF := hS.facts); simp only [HFacts, cellFacts, RFacts, cellOnly, and_true, true_and, Nat.zero_add, Nat.reduceAdd] at hF))) | fail)
      go_ret
      rw [Nat.sub_self, rSteps] at hr
      exact ⟨A1, cap1, out, s', b', rfl, Lib.hid (by rw [hr.out]), Lib.hid (by rw [hr.out]), hS⟩
set_option maxRecDepth 100000 in
set_option maxHeartbeats 8000000 in
theorem values2 {B : Nat} {w0 w : World} {L : List Item} (g : Nat) (s : ByteArray) (b : Bool) (kind : Int) (n : Nat) (hn : n ≤ 1000) (hl : s.size ≤ 100000) (hS : Hp B w0 w (.blk g [.string s, .bool b] 126 :: L)) :
    Calls Tryz.prog 63 #[.pointer (some ⟨g, 0, none⟩), .int .i64 2, .int .i64 kind, .int .i64 n] w (RResL B w0 L g (rPick (rPlain kind (rSmall n (s.data.toList, b)).1 (rSmall n (s.data.toList, b)).2 []).1 n (rPlain kind (rSmall n (s.data.toList, b)).1 (rSmall n (s.data.toList, b)).2 []).2 [])) := by
  obtain ⟨q, hq⟩ : ∃ q, q = rSmall n (s.data.toList, b) := ⟨_, rfl⟩
  have HO := Lib.hid (fun (W : World) (L : List Item) hS => rsmall_any (w0 := w0) (w := W) (B := B) (L := L) g s b n hl (by omega) hS)
  have hlen := rSmall_len n (s.data.toList, b)
  have hle := rSmall_le n (s.data.toList, b)
  rw [← hq] at HO hlen hle ⊢
  clear hq
  obtain ⟨m, st⟩ := q
  have HLEN := Lib.hid hlen
  have hle : m ≤ n := hle
  have HO2 := Lib.hid (show ∀ (W : World) (L : List Item), Hp B w0 W (.blk g [.string s, .bool b] 126 :: L) → Calls Tryz.prog 60 #[.pointer (some ⟨g, 0, none⟩), .int .i64 n] W (RRes B w0 L g (.int .i64 (m : Int)) st) from HO.out)
  clear HO hlen
  obtain ⟨T, hT0⟩ : ∃ T, T = rPlain kind m st [] := ⟨_, rfl⟩
  have HT := Lib.hid hT0
  show Calls _ _ _ _ (RResL B w0 L g (rPick (rPlain kind m st []).1 n (rPlain kind m st []).2 []))
  rw [← hT0]
  clear hT0
  obtain ⟨R, hR0⟩ : ∃ R, R = rPick T.1 n T.2 [] := ⟨_, rfl⟩
  rw [← hR0]
  have HR := Lib.hid hR0
  clear hR0
  replace hS := hS.nilRow 45 3
  ((try clear hF); (first | have hF := And.intro hS.facts (hR.at hS.ext) | have hF := hS.facts); simp only [HFacts, cellFacts, RFacts, cellOnly, and_true, true_and, Nat.zero_add, Nat.reduceAdd] at hF)
  go_enter Tryz.func63, Tryz.ntmps63
  go_wp2_with (first | ((with_reducible first | refine nhLa ?_ | refine nhLs ?_ | refine nhLd ?_ | refine nhCa ?_ | refine nhCs ?_ | refine nhCd ?_ | refine nhPa ?_ | refine nhPs ?_ | refine nhPd ?_ | refine nhKa ?_ | refine nhKs ?_ | refine nhKd ?_); ((try clear hF); clear hS; intro wk hS; (try simp only [List.set_cons_zero, List.set_cons_succ, heap_size, heap_set_size] at hS); ((try clear hF); (first | have hF := And.intro hS.facts (hR.at hS.ext) | have hF := hS.facts); simp only [HFacts, cellFacts, RFacts, cellOnly, and_true, true_and, Nat.zero_add, Nat.reduceAdd] at hF))) | (go_at_call 60; (with_reducible refine Calls.mono (HO2.out _ _ (hS.front 1 rfl)) ?_); clear hS; rintro e wk ⟨s0, rfl, hs0, hS⟩; (try simp only [List.eraseIdx_cons_zero, List.eraseIdx_cons_succ, List.set_cons_zero, List.set_cons_succ] at hS); ((try clear hF); (first | have hF := And.intro hS.facts (hR.at hS.ext) | have hF := hS.facts); simp only [HFacts, cellFacts, RFacts, cellOnly, and_true, true_and, Nat.zero_add, Nat.reduceAdd] at hF)))
  replace hS := (hS.front 1 rfl).sub (M := [.row 45 3 none 0 0 [], .blk g [.string s0, .bool st.2] 126] ++ L) (by simp)
  simp only [List.cons_append, List.nil_append] at hS
  have hsl0 : s0.size ≤ 100000 := size_le hs0.out HLEN.out hl
  have HST0 := Lib.hid (show T = rPlain kind m (s0.data.toList, st.2) [] by rw [HT.out, hs0.out])
  clear hl hs0 HT HLEN
  go_loopw [73, 11] (fun i v wr => ∃ (k : Nat) (A : Option Addr) (cap : Nat) (out : List GV) (s' : ByteArray) (b' : Bool), i = .int .i64 k ∧ k ≤ m ∧ v = .slice A out.length cap ∧ Hid (T = rPlain kind (m - k) (s'.data.toList, b') out) ∧ out.length = k ∧ s'.size ≤ 100000 ∧ Hp B w0 wr (vRow A cap out :: .blk g [.string s', .bool b'] 126 :: L)) (fun i _ _ => m - (intOf i).toNat)
  case atStart => exact ⟨0, none, 0, [], s0, st.2, rfl, Nat.zero_le _, rfl, HST0, rfl, hsl0, hS⟩
  case round =>
    clear hS hF hsl0 HST0
    obtain ⟨k, A1, cap1, out, s', b', rfl, hk, rfl, hr, hol, hsl, hS⟩ := hrel
    have HOL := Lib.hid hol
    have hol2 : out.length ≤ 1000 := by omega
    clear hol
    by_cases hlt : k < m
    · obtain ⟨r, hr0⟩ : ∃ r, r = rOne kind (s'.data.toList, b') := ⟨_, rfl⟩
      have HO := Lib.hid (fun (W : World) (L : List Item) hS => rone_any (w0 := w0) (w := W) (B := B) (L := L) g s' b' kind hsl hS)
      have hlen := rOne_len kind (s'.data.toList, b')
      rw [← hr0] at HO hlen
      have HR0 := Lib.hid hr0
      clear hr0
      have HLEN := Lib.hid hlen
      clear hlen
      have HST := Lib.hid (show rPlain kind (m - k) (s'.data.toList, b') out = rPlain kind (m - (k + 1)) r.2 (out ++ [r.1]) by rw [show m - k = m - (k + 1) + 1 by omega, rPlain, ← HR0.out])
      ((try clear hF); (first | have hF := And.intro hS.facts (hR.at hS.ext) | have hF := hS.facts); simp only [HFacts, cellFacts, RFacts, cellOnly, and_true, true_and, Nat.zero_add, Nat.reduceAdd] at hF)
      go_wp2_with (first | ((with_reducible first | refine nhLa ?_ | refine nhLs ?_ | refine nhLd ?_ | refine nhCa ?_ | refine nhCs ?_ | refine nhCd ?_ | refine nhPa ?_ | refine nhPs ?_ | refine nhPd ?_ | refine nhKa ?_ | refine nhKs ?_ | refine nhKd ?_); ((try clear hF); clear hS; intro wk hS; (try simp only [List.set_cons_zero, List.set_cons_succ, heap_size, heap_set_size] at hS); ((try clear hF); (first | have hF := And.intro hS.facts (hR.at hS.ext) | have hF := hS.facts); simp only [HFacts, cellFacts, RFacts, cellOnly, and_true, true_and, Nat.zero_add, Nat.reduceAdd] at hF))) | (go_at_call 85; (with_reducible refine Calls.mono (HO.out _ _ (hS.front 1 rfl)) ?_); clear hS; rintro e wk ⟨s2, x, rfl, hx, hs2, hS⟩; (try simp only [List.eraseIdx_cons_zero, List.eraseIdx_cons_succ, List.set_cons_zero, List.set_cons_succ] at hS); ((try clear hF); (first | have hF := And.intro hS.facts (hR.at hS.ext) | have hF := hS.facts); simp only [HFacts, cellFacts, RFacts, cellOnly, and_true, true_and, Nat.zero_add, Nat.reduceAdd] at hF)) | (at_builtin; refine wpList_push_hp Tryz.elem_vals rfl (.tmp 75) (.tmp 79) rfl (hS.second 1 rfl) rfl rfl rfl (by simp [Value.oneCell']) (by omega) (by omega) ?_; clear hS; intro Ak capk wk hS; (try simp only [List.eraseIdx_cons_zero, List.eraseIdx_cons_succ, List.set_cons_zero, List.set_cons_succ] at hS); ((try clear hF); (first | have hF := And.intro hS.facts (hR.at hS.ext) | have hF := hS.facts); simp only [HFacts, cellFacts, RFacts, cellOnly, and_true, true_and, Nat.zero_add, Nat.reduceAdd] at hF)))
      go_roundw
      case rel =>
        refine ⟨k + 1, Ak, capk, out ++ [x], s2, r.2.2, by go_num, by omega, by simp, Lib.hid ?_, by simp [HOL.out], size_le hs2.out HLEN.out hsl, vRow_push hS⟩
        rw [hr.out, HST.out, hx.out, hs2.out]
      case measure => simp [intOf]; omega
    · obtain rfl : k = m := by omega
      rw [Nat.sub_self, rPlain] at hr
      have HRT := Lib.hid (show R = rPick out n (s'.data.toList, b') [] by rw [HR.out, hr.out])
      clear HR hr
      replace hS := hS.nilRow 45 3
      ((try clear hF); (first | have hF := And.intro hS.facts (hR.at hS.ext) | have hF := hS.facts); simp only [HFacts, cellFacts, RFacts, cellOnly, and_true, true_and, Nat.zero_add, Nat.reduceAdd] at hF)
      go_wp2_with (first | ((with_reducible first | refine nhLa ?_ | refine nhLs ?_ | refine nhLd ?_ | refine nhCa ?_ | refine nhCs ?_ | refine nhCd ?_ | refine nhPa ?_ | refine nhPs ?_ | refine nhPd ?_ | refine nhKa ?_ | refine nhKs ?_ | refine nhKd ?_); ((try clear hF); clear hS; intro wk hS; (try simp only [List.set_cons_zero, List.set_cons_succ, heap_size, heap_set_size] at hS); ((try clear hF); (first | have hF := And.intro hS.facts (hR.at hS.ext) | have hF := hS.facts); simp only [HFacts, cellFacts, RFacts, cellOnly, and_true, true_and, Nat.zero_add, Nat.reduceAdd] at hF))) | fail)
      go_loopw [83, 9] (fun i v wr => ∃ (j : Nat) (A : Option Addr) (cap : Nat) (os : List GV) (s' : ByteArray) (b' : Bool), i = .int .i64 j ∧ j ≤ n ∧ v = .slice A os.length cap ∧ Hid (R = rPick out (n - j) (s'.data.toList, b') os) ∧ os.length ≤ j ∧ s'.size ≤ 100000 ∧ Hp B w0 wr (vRow A cap os :: vRow A1 cap1 out :: .blk g [.string s', .bool b'] 126 :: L)) (fun i _ _ => n - (intOf i).toNat)
      case atStart => exact ⟨0, none, 0, [], s', b', rfl, Nat.zero_le _, rfl, HRT, Nat.zero_le _, hsl, hS⟩
      case round =>
        clear hS hF hsl HRT
        obtain ⟨j, A2, cap2, os, s', b', rfl, hj, rfl, hr, hol, hsl, hS⟩ := hrel
        by_cases hlt : j < n
        · obtain ⟨r, hr0⟩ : ∃ r, r = rSmall 60 (s'.data.toList, b') := ⟨_, rfl⟩
          have HO := Lib.hid (fun (W : World) (L : List Item) hS => rsmall_any (w0 := w0) (w := W) (B := B) (L := L) g s' b' 60 hsl (by omega) hS)
          have hlen := rSmall_len 60 (s'.data.toList, b')
          rw [← hr0] at HO hlen
          have HR0 := Lib.hid hr0
          clear hr0
          have HLEN := Lib.hid hlen
          clear hlen
          obtain ⟨ix, st2⟩ := r
          have HO2 := Lib.hid (show ∀ (W : World) (L : List Item), Hp B w0 W (.blk g [.string s', .bool b'] 126 :: L) → Calls Tryz.prog 60 #[.pointer (some ⟨g, 0, none⟩), .int .i64 60] W (RRes B w0 L g (.int .i64 (ix : Int)) st2) from HO.out)
          clear HO
          by_cases hix : ix < out.length
          · obtain ⟨x, hx⟩ : ∃ x, out[ix]? = some x := ⟨out[ix], List.getElem?_eq_getElem hix⟩
            have HST := Lib.hid (show rPick out (n - j) (s'.data.toList, b') os = rPick out (n - (j + 1)) st2 (os ++ [x]) by rw [show n - j = n - (j + 1) + 1 by omega, rPick, ← HR0.out]; simp only [hx])
            have HX := Lib.hid hx
            clear hx
            ((try clear hF); (first | have hF := And.intro hS.facts (hR.at hS.ext) | have hF := hS.facts); simp only [HFacts, cellFacts, RFacts, cellOnly, and_true, true_and, Nat.zero_add, Nat.reduceAdd] at hF)
            go_wp2_with (first | ((with_reducible first | refine nhLa ?_ | refine nhLs ?_ | refine nhLd ?_ | refine nhCa ?_ | refine nhCs ?_ | refine nhCd ?_ | refine nhPa ?_ | refine nhPs ?_ | refine nhPd ?_ | refine nhKa ?_ | refine nhKs ?_ | refine nhKd ?_); ((try clear hF); clear hS; intro wk hS; (try simp only [List.set_cons_zero, List.set_cons_succ, heap_size, heap_set_size] at hS); ((try clear hF); (first | have hF := And.intro hS.facts (hR.at hS.ext) | have hF := hS.facts); simp only [HFacts, cellFacts, RFacts, cellOnly, and_true, true_and, Nat.zero_add, Nat.reduceAdd] at hF))) | ((go_at_call 60; (with_reducible refine Calls.mono (HO2.out _ _ (hS.front 2 rfl)) ?_); clear hS; rintro e wk ⟨s2, rfl, hs2, hS⟩; (try simp only [List.eraseIdx_cons_zero, List.eraseIdx_cons_succ, List.set_cons_zero, List.set_cons_succ] at hS); ((try clear hF); (first | have hF := And.intro hS.facts (hR.at hS.ext) | have hF := hS.facts); simp only [HFacts, cellFacts, RFacts, cellOnly, and_true, true_and, Nat.zero_add, Nat.reduceAdd] at hF)); (obtain ⟨bx, ox, hbx, c0, c1, c2⟩ := hS.rv 2 rfl ix x HX.out); (obtain rfl := hbx)) | (at_builtin; refine wpList_push_hp Tryz.elem_vals rfl (.tmp 91) (.tmp 96) rfl (hS.second 1 rfl) rfl rfl rfl (by simp [Value.oneCell']) (by omega) (by omega) ?_; clear hS; intro Ak capk wk hS; (try simp only [List.eraseIdx_cons_zero, List.eraseIdx_cons_succ, List.set_cons_zero, List.set_cons_succ] at hS); ((try clear hF); (first | have hF := And.intro hS.facts (hR.at hS.ext) | have hF := hS.facts); simp only [HFacts, cellFacts, RFacts, cellOnly, and_true, true_and, Nat.zero_add, Nat.reduceAdd] at hF)))
            go_roundw
            case rel =>
              refine ⟨j + 1, Ak, capk, os ++ [x], s2, st2.2, by go_num, by omega, by simp, Lib.hid ?_, by simp; omega, size_le hs2.out HLEN.out hsl, ?_⟩
              · rw [hr.out, HST.out, hs2.out]
              · have := (vRow_push hS).front 2 rfl
                simp only [List.eraseIdx_cons_zero, List.eraseIdx_cons_succ] at this
                exact (this.front 1 rfl).sub (by simp)
            case measure => simp [intOf]; omega
          · have HST := Lib.hid (show rPick out (n - j) (s'.data.toList, b') os = rPick out (n - (j + 1)) (st2.1, true) os by rw [show n - j = n - (j + 1) + 1 by omega, rPick, ← HR0.out]; simp only [List.getElem?_eq_none (show out.length ≤ ix by omega)])
            ((try clear hF); (first | have hF := And.intro hS.facts (hR.at hS.ext) | have hF := hS.facts); simp only [HFacts, cellFacts, RFacts, cellOnly, and_true, true_and, Nat.zero_add, Nat.reduceAdd] at hF)
            go_wp2_with (first | ((with_reducible first | refine nhLa ?_ | refine nhLs ?_ | refine nhLd ?_ | refine nhCa ?_ | refine nhCs ?_ | refine nhCd ?_ | refine nhPa ?_ | refine nhPs ?_ | refine nhPd ?_ | refine nhKa ?_ | refine nhKs ?_ | refine nhKd ?_); ((try clear hF); clear hS; intro wk hS; (try simp only [List.set_cons_zero, List.set_cons_succ, heap_size, heap_set_size] at hS); ((try clear hF); (first | have hF := And.intro hS.facts (hR.at hS.ext) | have hF := hS.facts); simp only [HFacts, cellFacts, RFacts, cellOnly, and_true, true_and, Nat.zero_add, Nat.reduceAdd] at hF))) | (go_at_call 60; (with_reducible refine Calls.mono (HO2.out _ _ (hS.front 2 rfl)) ?_); clear hS; rintro e wk ⟨s2, rfl, hs2, hS⟩; (try simp only [List.eraseIdx_cons_zero, List.eraseIdx_cons_succ, List.set_cons_zero, List.set_cons_succ] at hS); ((try clear hF); (first | have hF := And.intro hS.facts (hR.at hS.ext) | have hF := hS.facts); simp only [HFacts, cellFacts, RFacts, cellOnly, and_true, true_and, Nat.zero_add, Nat.reduceAdd] at hF)))
            go_roundw
            case rel =>
              refine ⟨j + 1, A2, cap2, os, s2, true, by go_num, by omega, rfl, Lib.hid ?_, by omega, size_le hs2.out HLEN.out hsl, ?_⟩
              · rw [hr.out, HST.out, hs2.out]
              · have := hS.front 1 rfl
                simp only [List.eraseIdx_cons_zero, List.eraseIdx_cons_succ] at this
                have := this.second 1 rfl
                simp only [List.eraseIdx_cons_zero, List.eraseIdx_cons_succ] at this
                exact this
            case measure => simp [intOf]; omega
        · obtain rfl : j = n := by omega
          ((try clear hF); (first | have hF := And.intro hS.facts (hR.at hS.ext) | have hF := hS.facts); simp only [HFacts, cellFacts, RFacts, cellOnly, and_true, true_and, Nat.zero_add, Nat.reduceAdd] at hF)
          go_wp2_with (first | ((with_reducible first | refine nhLa ?_ | refine nhLs ?_ | refine nhLd ?_ | refine nhCa ?_ | refine nhCs ?_ | refine nhCd ?_ | refine nhPa ?_ | refine nhPs ?_ | refine nhPd ?_ | refine nhKa ?_ | refine nhKs ?_ | refine nhKd ?_); ((try clear hF); clear hS; intro wk hS; (try simp only [List.set_cons_zero, List.set_cons_succ, heap_size, heap_set_size] at hS); ((try clear hF); (first | have hF := And.intro hS.facts (hR.at hS.ext) | have hF := hS.facts); simp only [HFacts, cellFacts, RFacts, cellOnly, and_true, true_and, Nat.zero_add, Nat.reduceAdd] at hF))) | fail)
          go_ret
          rw [Nat.sub_self, rPick] at hr
          exact ⟨A2, cap2, os, s', b', rfl, Lib.hid (by rw [hr.out]), Lib.hid (by rw [hr.out]), hS.sub (by simp)⟩
end Go.Proofs.YtcpllhjhnfmepaaGreatDoor
