/- millpondkeep.FileOlder: at all arguments. -/
import Derived.Test.YtcpllhjhnfmepaaGreatDoorFX33
namespace Go.Proofs.YtcpllhjhnfmepaaGreatDoor
set_option linter.unusedSimpArgs false
set_option linter.unusedVariables false
open Go.RowKit
set_option linter.all false
set_option maxRecDepth 100000 in
set_option maxHeartbeats 8000000 in
theorem older_long (n m q cap cap2 cap3 : Nat) (A A2 A3 : Option Addr) (w : World) (b1 b2 : Bool) (hb : (!b1 || !b2 || decide (12 < q)) = true)
    (H1 : Hid (∀ W : World, Ext w W → Calls Tryz.prog 6 #[.slice A n cap] W fun e w' => e = .returned (.bool b1) ∧ Ext W w'))
    (H2 : Hid (∀ W : World, Ext w W → Calls Tryz.prog 7 #[.slice A2 m cap2] W fun e w' => e = .returned (.bool b2) ∧ Ext W w')) :
    Calls Tryz.prog 4 #[.slice A n cap, .slice A2 m cap2, .slice A3 q cap3] w fun e w' => e = .returned (.bool true) ∧ Ext w w' := by
  have hS := Hp.init w
  have hR := Reads.nil w
  cases b1 with
  | false =>
    clear hb
    go_enter Tryz.func4, Tryz.ntmps4
    go_wp2_with (first | ((with_reducible first | refine nhLa ?_ | refine nhLs ?_ | refine nhLd ?_ | refine nhCa ?_ | refine nhCs ?_ | refine nhCd ?_ | refine nhPa ?_ | refine nhPs ?_ | refine nhPd ?_ | refine nhKa ?_ | refine nhKs ?_ | refine nhKd ?_); ((try clear hF); clear hS; intro wk hS; (try simp only [List.set_cons_zero, List.set_cons_succ, heap_size, heap_set_size] at hS); ((try clear hF); (first | have hF := And.intro hS.facts (hR.at hS.ext) | have hF := hS.facts); simp only [HFacts, cellFacts, RFacts, cellOnly, and_true, true_and, Nat.zero_add, Nat.reduceAdd] at hF))) | (go_at_call 6; (with_reducible refine (H1.out _ hS.ext).mono ?_); rintro e wk ⟨rfl, hX⟩; replace hS := hS.step hX; clear hX; ((try clear hF); (first | have hF := And.intro hS.facts (hR.at hS.ext) | have hF := hS.facts); simp only [HFacts, cellFacts, RFacts, cellOnly, and_true, true_and, Nat.zero_add, Nat.reduceAdd] at hF)))
    go_ret
    exact ⟨rfl, hS.ext⟩
  | true => cases b2 with
    | false =>
      clear hb
      go_enter Tryz.func4, Tryz.ntmps4
      go_wp2_with (first | ((with_reducible first | refine nhLa ?_ | refine nhLs ?_ | refine nhLd ?_ | refine nhCa ?_ | refine nhCs ?_ | refine nhCd ?_ | refine nhPa ?_ | refine nhPs ?_ | refine nhPd ?_ | refine nhKa ?_ | refine nhKs ?_ | refine nhKd ?_); ((try clear hF); clear hS; intro wk hS; (try simp only [List.set_cons_zero, List.set_cons_succ, heap_size, heap_set_size] at hS); ((try clear hF); (first | have hF := And.intro hS.facts (hR.at hS.ext) | have hF := hS.facts); simp only [HFacts, cellFacts, RFacts, cellOnly, and_true, true_and, Nat.zero_add, Nat.reduceAdd] at hF))) | (go_at_call 6; (with_reducible refine (H1.out _ hS.ext).mono ?_); rintro e wk ⟨rfl, hX⟩; replace hS := hS.step hX; clear hX; ((try clear hF); (first | have hF := And.intro hS.facts (hR.at hS.ext) | have hF := hS.facts); simp only [HFacts, cellFacts, RFacts, cellOnly, and_true, true_and, Nat.zero_add, Nat.reduceAdd] at hF)) | (go_at_call 7; (with_reducible refine (H2.out _ hS.ext).mono ?_); rintro e wk ⟨rfl, hX⟩; replace hS := hS.step hX; clear hX; ((try clear hF); (first | have hF := And.intro hS.facts (hR.at hS.ext) | have hF := hS.facts); simp only [HFacts, cellFacts, RFacts, cellOnly, and_true, true_and, Nat.zero_add, Nat.reduceAdd] at hF)))
      go_ret
      exact ⟨rfl, hS.ext⟩
    | true =>
      have h20 : 12 < q := by simpa using hb
      clear hb
      go_enter Tryz.func4, Tryz.ntmps4
      go_wp2_with (first | ((with_reducible first | refine nhLa ?_ | refine nhLs ?_ | refine nhLd ?_ | refine nhCa ?_ | refine nhCs ?_ | refine nhCd ?_ | refine nhPa ?_ | refine nhPs ?_ | refine nhPd ?_ | refine nhKa ?_ | refine nhKs ?_ | refine nhKd ?_); ((try clear hF); clear hS; intro wk hS; (try simp only [List.set_cons_zero, List.set_cons_succ, heap_size, heap_set_size] at hS); ((try clear hF); (first | have hF := And.intro hS.facts (hR.at hS.ext) | have hF := hS.facts); simp only [HFacts, cellFacts, RFacts, cellOnly, and_true, true_and, Nat.zero_add, Nat.reduceAdd] at hF))) | (go_at_call 6; (with_reducible refine (H1.out _ hS.ext).mono ?_); rintro e wk ⟨rfl, hX⟩; replace hS := hS.step hX; clear hX; ((try clear hF); (first | have hF := And.intro hS.facts (hR.at hS.ext) | have hF := hS.facts); simp only [HFacts, cellFacts, RFacts, cellOnly, and_true, true_and, Nat.zero_add, Nat.reduceAdd] at hF)) | (go_at_call 7; (with_reducible refine (H2.out _ hS.ext).mono ?_); rintro e wk ⟨rfl, hX⟩; replace hS := hS.step hX; clear hX; ((try clear hF); (first | have hF := And.intro hS.facts (hR.at hS.ext) | have hF := hS.facts); simp only [HFacts, cellFacts, RFacts, cellOnly, and_true, true_and, Nat.zero_add, Nat.reduceAdd] at hF)))
      go_ret
      exact ⟨rfl, hS.ext⟩
set_option maxRecDepth 100000 in
set_option maxHeartbeats 8000000 in
theorem older_bad (n m q : Nat) (A A2 A3 : Option Addr) (cap cap2 cap3 : Nat) (w : World) (hq : q ≤ 12)
    (H1 : Hid (∀ W : World, Ext w W → Calls Tryz.prog 6 #[.slice A n cap] W fun e w' => e = .returned (.bool true) ∧ Ext W w'))
    (H2 : Hid (∀ W : World, Ext w W → Calls Tryz.prog 7 #[.slice A2 m cap2] W fun e w' => e = .returned (.bool true) ∧ Ext W w'))
    (H3 : Hid (∀ W : World, Ext w W → Calls Tryz.prog 8 #[] W fun e w' => e = .returned (.bool true) ∧ Ext W w'))
    (er0 : Int) (HM : Hid (∀ W : World, Ext w W → Calls Tryz.prog 11 #[.slice A n cap, .slice A2 m cap2] W fun e w' => ∃ er, e = .returned (.tuple #[.agg #[.slice none 0 0, .slice none 0 0], er]) ∧ IsErr w' er er0 ∧ Ext W w')) :
    Calls Tryz.prog 4 #[.slice A n cap, .slice A2 m cap2, .slice A3 q cap3] w fun e w' => e = .returned (.bool true) ∧ Ext w w' := by
  have hS := Hp.init w
  have hR := Reads.nil w
  go_enter Tryz.func4, Tryz.ntmps4
  go_wp2_with (first | ((with_reducible first | refine nhLa ?_ | refine nhLs ?_ | refine nhLd ?_ | refine nhCa ?_ | refine nhCs ?_ | refine nhCd ?_ | refine nhPa ?_ | refine nhPs ?_ | refine nhPd ?_ | refine nhKa ?_ | refine nhKs ?_ | refine nhKd ?_); ((try clear hF); clear hS; intro wk hS; (try simp only [List.set_cons_zero, List.set_cons_succ, heap_size, heap_set_size] at hS); ((try clear hF); (first | have hF := And.intro hS.facts (hR.at hS.ext) | have hF := hS.facts); simp only [HFacts, cellFacts, RFacts, cellOnly, and_true, true_and, Nat.zero_add, Nat.reduceAdd] at hF))) | (go_at_call 6; (with_reducible refine (H1.out _ hS.ext).mono ?_); rintro e wk ⟨rfl, hX⟩; replace hS := hS.step hX; clear hX; ((try clear hF); (first | have hF := And.intro hS.facts (hR.at hS.ext) | have hF := hS.facts); simp only [HFacts, cellFacts, RFacts, cellOnly, and_true, true_and, Nat.zero_add, Nat.reduceAdd] at hF)) | (go_at_call 7; (with_reducible refine (H2.out _ hS.ext).mono ?_); rintro e wk ⟨rfl, hX⟩; replace hS := hS.step hX; clear hX; ((try clear hF); (first | have hF := And.intro hS.facts (hR.at hS.ext) | have hF := hS.facts); simp only [HFacts, cellFacts, RFacts, cellOnly, and_true, true_and, Nat.zero_add, Nat.reduceAdd] at hF)) | (go_at_call 8; (with_reducible refine (H3.out _ hS.ext).mono ?_); rintro e wk ⟨rfl, hX⟩; replace hS := hS.step hX; clear hX; ((try clear hF); (first | have hF := And.intro hS.facts (hR.at hS.ext) | have hF := hS.facts); simp only [HFacts, cellFacts, RFacts, cellOnly, and_true, true_and, Nat.zero_add, Nat.reduceAdd] at hF)) | (go_at_call 11; (with_reducible refine Calls.mono (HM.out _ hS.ext) ?_); (rintro e wk ⟨er, rfl, (rfl | ⟨gx, ix, rfl, _, _⟩), hX⟩ <;> (replace hS := hS.step hX; clear hX; ((try clear hF); (first | have hF := And.intro hS.facts (hR.at hS.ext) | have hF := hS.facts); simp only [HFacts, cellFacts, RFacts, cellOnly, and_true, true_and, Nat.zero_add, Nat.reduceAdd] at hF)))))
  all_goals (go_ret; exact ⟨rfl, hS.ext⟩)
theorem rr_some {W : World} {A : Option Addr} {M : List (List GV)} (h : RR W A M) (h1 : 1 ≤ M.length) : ∃ b o, A = some ⟨b, o, none⟩ := by
  obtain ⟨b, o, _, _, hA, _⟩ := h 0 (M[0]'(by omega)) (List.getElem?_eq_getElem _)
  exact ⟨b, o, hA⟩
theorem fileolder_any (cs : List CG) (rs : List (List GV)) (chs : List HG) (A A2 A3 : Option Addr) (cap cap2 cap3 : Nat) (w : World) (hc : RC w A cs) (hr : RR w A2 rs) (hh : RH w A3 chs) (hcap : cs.length ≤ cap) (hcap2 : rs.length ≤ cap2) (hcap3 : cap2 ≤ 140737488355328)
    (hi : ∀ c ∈ cs, i64 c.id) (hv : ∀ r ∈ rs, ∀ x ∈ r, i64 x.num) (hK : KeptAt w) (hE : ErrAt w) :
    Calls Tryz.prog 4 #[.slice A cs.length cap, .slice A2 rs.length cap2, .slice A3 chs.length cap3] w fun e w' => e = .returned (.bool true) ∧ Ext w w' := by
  have H1 := Lib.hid (fun (W : World) (hx : Ext w W) => columns_any cs A cs.length cap W rfl (hc.ext hx))
  have H2 := Lib.hid (fun (W : World) (hx : Ext w W) => rows_any rs A2 rs.length cap2 W rfl (hr.ext hx))
  by_cases hb : (!shortCs cs || !shortRs rs || decide (12 < chs.length)) = true
  · exact older_long _ _ _ _ _ _ _ _ _ w _ _ hb H1 H2
  simp only [Bool.or_eq_true, Bool.not_eq_true', decide_eq_true_eq, not_or, Bool.not_eq_false] at hb
  obtain ⟨⟨hb1, hb2⟩, hb3⟩ := hb
  rw [hb1] at H1
  rw [hb2] at H2
  have hl : cs.length ≤ 20 := by unfold shortCs at hb1; simp only [Bool.and_eq_true, decide_eq_true_eq] at hb1; exact hb1.1
  unfold shortRs at hb2
  simp only [Bool.and_eq_true, decide_eq_true_eq, List.all_eq_true] at hb2
  obtain ⟨hl2, hl3⟩ := hb2
  have hrl : ∀ r ∈ rs, r.length ≤ 20 := fun r hr => by
    have := hl3 r hr
    unfold shortR at this
    simp only [Bool.and_eq_true, decide_eq_true_eq] at this
    exact this.1
  have H3 := Lib.hid (fun (W : World) (hx : Ext w W) => filed_any W (hK.ext hx) (hE.ext hx))
  have HM0 := fun (W : World) (hx : Ext w W) => fmake_any cs rs A A2 cap cap2 W (hc.ext hx) (hr.ext hx) hcap hcap2 hcap3 (by omega) (by omega) (fun r h => by have := hrl r h; omega) hi hv (hK.ext hx) (hE.ext hx)
  by_cases hk : mkE cs rs = 0
  · obtain ⟨hok, hrow, _⟩ := make_ok hk hv
    have hlen := made_len hk hv
    have hgl : (makeF cs rs).groups.length = (rs.length + 5) / 6 := by unfold makeF; simp
    have hfine := fine_ok hok hlen
    obtain ⟨g1, g2, g3, g4⟩ := mk_good hk
    have hrows := mk_rows g4
    have hc1 : 1 ≤ cs.length := hok.r.c1
    have HM := Lib.hid (fun (W : World) (hx : Ext w W) => make_some rfl rfl hk hgl (HM0 W hx))
    have HI := Lib.hid (fun (c : CG) (hc : c ∈ cs) => show 1 ≤ c.id ∧ c.id ≤ 1099511627777 from by
      unfold rightC at g1
      simp only [Bool.and_eq_true, decide_eq_true_eq] at g1
      have h8 := (rgt_frC g1.1).2 c hc
      have h9 : nextM cs ≤ 1099511627777 := (nextM_bound cs 1 (by omega) (by omega)).2
      omega)
    have HA := Lib.hid (fun (W : World) (v : Value) (M : List CG) (N : Nat) (A' : Option Addr) (cap' : Nat) (hM : M.length = N) (hN : N ≤ 1000) (h : RF W v (makeF cs rs)) (hr : RC W A' M) => show Calls Tryz.prog 13 #[v, .slice A' N cap'] W (fun e w' => ∃ B cb, e = .returned (.tuple #[.slice B rs.length cb, .bool true]) ∧ Ext W w' ∧ Hid (RR w' B (rs.map (rowNow cs M)))) from by
      have := kall_any _ v M A' cap' W h hr hfine (by omega)
      rw [all_now hk hv M, hM] at this
      refine this.mono fun e w' ⟨B, cb, e1, e2, e3⟩ => ⟨B, cb, ?_, e2, Lib.hid e3⟩
      rw [List.length_map] at e1
      exact e1)
    obtain ⟨bA, oA, rfl⟩ := rc_some hc hc1
    obtain ⟨bR, oR, rfl⟩ := rr_some hr g2
    exact older_good cs rs chs _ _ _ _ _ bA oA bR oR A3 cap cap2 cap3 w _ (Lib.hid rfl) (Lib.hid rfl) (Lib.hid rfl) hc1 hl hl2 (by omega) HI (Lib.hid fun r hr => row_len (hrows r hr)) (Lib.hid hc) (Lib.hid hr) (Lib.hid hh) (Lib.hid hK) H1 H2 H3 HM HA
  · have HM := Lib.hid (fun (W : World) (hx : Ext w W) => show Calls Tryz.prog 11 #[.slice A cs.length cap, .slice A2 rs.length cap2] W (fun e w' => ∃ er, e = .returned (.tuple #[.agg #[.slice none 0 0, .slice none 0 0], er]) ∧ IsErr w' er (mkE cs rs) ∧ Ext W w') from by
      refine (HM0 W hx).mono fun e w' h => ?_
      unfold MkRes at h
      rw [if_neg hk] at h
      exact h)
    exact older_bad _ _ _ A A2 A3 cap cap2 cap3 w (by omega) H1 H2 H3 _ HM
end Go.Proofs.YtcpllhjhnfmepaaGreatDoor
