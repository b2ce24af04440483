/- millpondkeep.FileSkips: at all arguments. -/
import Derived.Test.YtcpllhjhnfmepaaGreatDoorFW32
namespace Go.Proofs.YtcpllhjhnfmepaaGreatDoor
set_option linter.unusedSimpArgs false
set_option linter.unusedVariables false
open Go.RowKit
set_option linter.all false
set_option maxRecDepth 100000 in
set_option maxHeartbeats 8000000 in
theorem skips_long (n m q cap cap2 cap3 : Nat) (A A2 A3 : Option Addr) (w : World) (b1 b2 : Bool) (hb : (!b1 || !b2) = true)
    (H1 : Hid (∀ W : World, Ext w W → Calls Tryz.prog 6 #[.slice A n cap] W fun e w' => e = .returned (.bool b1) ∧ Ext W w'))
    (H2 : Hid (∀ W : World, Ext w W → Calls Tryz.prog 7 #[.slice A2 m cap2] W fun e w' => e = .returned (.bool b2) ∧ Ext W w')) :
    Calls Tryz.prog 5 #[.slice A n cap, .slice A2 m cap2, .slice A3 q cap3] w fun e w' => e = .returned (.bool true) ∧ Ext w w' := by
  have hS := Hp.init w
  have hR := Reads.nil w
  cases b1 with
  | false =>
    clear hb
    go_enter Tryz.func5, Tryz.ntmps5
    go_wp2_with (first | ((with_reducible first | refine nhLa ?_ | refine nhLs ?_ | refine nhLd ?_ | refine nhCa ?_ | refine nhCs ?_ | refine nhCd ?_ | refine nhPa ?_ | refine nhPs ?_ | refine nhPd ?_ | refine nhKa ?_ | refine nhKs ?_ | refine nhKd ?_); ((try clear hF); clear hS; intro wk hS; (try simp only [List.set_cons_zero, List.set_cons_succ, heap_size, heap_set_size] at hS); ((try clear hF); (first | have hF := And.intro hS.facts (hR.at hS.ext) | have hF := hS.facts); simp only [HFacts, cellFacts, RFacts, cellOnly, and_true, true_and, Nat.zero_add, Nat.reduceAdd] at hF))) | (go_at_call 6; (with_reducible refine (H1.out _ hS.ext).mono ?_); rintro e wk ⟨rfl, hX⟩; replace hS := hS.step hX; clear hX; ((try clear hF); (first | have hF := And.intro hS.facts (hR.at hS.ext) | have hF := hS.facts); simp only [HFacts, cellFacts, RFacts, cellOnly, and_true, true_and, Nat.zero_add, Nat.reduceAdd] at hF)))
    go_ret
    exact ⟨rfl, hS.ext⟩
  | true => cases b2 with
    | false =>
      clear hb
      go_enter Tryz.func5, Tryz.ntmps5
      go_wp2_with (first | ((with_reducible first | refine nhLa ?_ | refine nhLs ?_ | refine nhLd ?_ | refine nhCa ?_ | refine nhCs ?_ | refine nhCd ?_ | refine nhPa ?_ | refine nhPs ?_ | refine nhPd ?_ | refine nhKa ?_ | refine nhKs ?_ | refine nhKd ?_); ((try clear hF); clear hS; intro wk hS; (try simp only [List.set_cons_zero, List.set_cons_succ, heap_size, heap_set_size] at hS); ((try clear hF); (first | have hF := And.intro hS.facts (hR.at hS.ext) | have hF := hS.facts); simp only [HFacts, cellFacts, RFacts, cellOnly, and_true, true_and, Nat.zero_add, Nat.reduceAdd] at hF))) | (go_at_call 6; (with_reducible refine (H1.out _ hS.ext).mono ?_); rintro e wk ⟨rfl, hX⟩; replace hS := hS.step hX; clear hX; ((try clear hF); (first | have hF := And.intro hS.facts (hR.at hS.ext) | have hF := hS.facts); simp only [HFacts, cellFacts, RFacts, cellOnly, and_true, true_and, Nat.zero_add, Nat.reduceAdd] at hF)) | (go_at_call 7; (with_reducible refine (H2.out _ hS.ext).mono ?_); rintro e wk ⟨rfl, hX⟩; replace hS := hS.step hX; clear hX; ((try clear hF); (first | have hF := And.intro hS.facts (hR.at hS.ext) | have hF := hS.facts); simp only [HFacts, cellFacts, RFacts, cellOnly, and_true, true_and, Nat.zero_add, Nat.reduceAdd] at hF)))
      go_ret
      exact ⟨rfl, hS.ext⟩
    | true => cases hb
set_option maxRecDepth 100000 in
set_option maxHeartbeats 8000000 in
theorem skips_bad (n m q : Nat) (t : CT) (A A2 A3 : Option Addr) (cap cap2 cap3 : Nat) (w : World)
    (H1 : Hid (∀ W : World, Ext w W → Calls Tryz.prog 6 #[.slice A n cap] W fun e w' => e = .returned (.bool true) ∧ Ext W w'))
    (H2 : Hid (∀ W : World, Ext w W → Calls Tryz.prog 7 #[.slice A2 m cap2] W fun e w' => e = .returned (.bool true) ∧ Ext W w'))
    (H3 : Hid (∀ W : World, Ext w W → Calls Tryz.prog 8 #[] W fun e w' => e = .returned (.bool true) ∧ Ext W w'))
    (HCO : Hid (∀ W : World, Ext w W → Calls Tryz.prog 21 #[.slice A3 q cap3] W fun e w' => (∃ v, e = .returned v ∧ CondAt w' v t) ∧ Ext W w'))
    (er0 : Int) (HM : Hid (∀ W : World, Ext w W → Calls Tryz.prog 11 #[.slice A n cap, .slice A2 m cap2] W fun e w' => ∃ er, e = .returned (.tuple #[.agg #[.slice none 0 0, .slice none 0 0], er]) ∧ IsErr w' er er0 ∧ Ext W w')) :
    Calls Tryz.prog 5 #[.slice A n cap, .slice A2 m cap2, .slice A3 q cap3] w fun e w' => e = .returned (.bool true) ∧ Ext w w' := by
  have hS := Hp.init w
  have hR := Reads.nil w
  go_enter Tryz.func5, Tryz.ntmps5
  go_wp2_with (first | ((with_reducible first | refine nhLa ?_ | refine nhLs ?_ | refine nhLd ?_ | refine nhCa ?_ | refine nhCs ?_ | refine nhCd ?_ | refine nhPa ?_ | refine nhPs ?_ | refine nhPd ?_ | refine nhKa ?_ | refine nhKs ?_ | refine nhKd ?_); ((try clear hF); clear hS; intro wk hS; (try simp only [List.set_cons_zero, List.set_cons_succ, heap_size, heap_set_size] at hS); ((try clear hF); (first | have hF := And.intro hS.facts (hR.at hS.ext) | have hF := hS.facts); simp only [HFacts, cellFacts, RFacts, cellOnly, and_true, true_and, Nat.zero_add, Nat.reduceAdd] at hF))) | (go_at_call 6; (with_reducible refine (H1.out _ hS.ext).mono ?_); rintro e wk ⟨rfl, hX⟩; replace hS := hS.step hX; clear hX; ((try clear hF); (first | have hF := And.intro hS.facts (hR.at hS.ext) | have hF := hS.facts); simp only [HFacts, cellFacts, RFacts, cellOnly, and_true, true_and, Nat.zero_add, Nat.reduceAdd] at hF)) | (go_at_call 7; (with_reducible refine (H2.out _ hS.ext).mono ?_); rintro e wk ⟨rfl, hX⟩; replace hS := hS.step hX; clear hX; ((try clear hF); (first | have hF := And.intro hS.facts (hR.at hS.ext) | have hF := hS.facts); simp only [HFacts, cellFacts, RFacts, cellOnly, and_true, true_and, Nat.zero_add, Nat.reduceAdd] at hF)) | (go_at_call 8; (with_reducible refine (H3.out _ hS.ext).mono ?_); rintro e wk ⟨rfl, hX⟩; replace hS := hS.step hX; clear hX; ((try clear hF); (first | have hF := And.intro hS.facts (hR.at hS.ext) | have hF := hS.facts); simp only [HFacts, cellFacts, RFacts, cellOnly, and_true, true_and, Nat.zero_add, Nat.reduceAdd] at hF)) | (go_at_call 21; (with_reducible refine Calls.mono (HCO.out _ hS.ext) ?_); rintro e wk ⟨⟨vc, rfl, hCT⟩, hX⟩; (obtain ⟨pc, rfl⟩ := hCT.pointer); clear hCT; replace hS := hS.step hX; clear hX; ((try clear hF); (first | have hF := And.intro hS.facts (hR.at hS.ext) | have hF := hS.facts); simp only [HFacts, cellFacts, RFacts, cellOnly, and_true, true_and, Nat.zero_add, Nat.reduceAdd] at hF)) | (go_at_call 11; (with_reducible refine Calls.mono (HM.out _ hS.ext) ?_); (rintro e wk ⟨er, rfl, (rfl | ⟨gx, ix, rfl, _, _⟩), hX⟩ <;> (replace hS := hS.step hX; clear hX; ((try clear hF); (first | have hF := And.intro hS.facts (hR.at hS.ext) | have hF := hS.facts); simp only [HFacts, cellFacts, RFacts, cellOnly, and_true, true_and, Nat.zero_add, Nat.reduceAdd] at hF)))))
  all_goals (go_ret; exact ⟨rfl, hS.ext⟩)
set_option maxRecDepth 100000 in
set_option maxHeartbeats 8000000 in
theorem skips_not (n m q nc1 ng1 : Nat) (t : CT) (ec : Int) (A A2 A3 : Option Addr) (cap cap2 cap3 : Nat) (w : World) (f : FG)
    (H1 : Hid (∀ W : World, Ext w W → Calls Tryz.prog 6 #[.slice A n cap] W fun e w' => e = .returned (.bool true) ∧ Ext W w'))
    (H2 : Hid (∀ W : World, Ext w W → Calls Tryz.prog 7 #[.slice A2 m cap2] W fun e w' => e = .returned (.bool true) ∧ Ext W w'))
    (H3 : Hid (∀ W : World, Ext w W → Calls Tryz.prog 8 #[] W fun e w' => e = .returned (.bool true) ∧ Ext W w'))
    (HCO : Hid (∀ W : World, Ext w W → Calls Tryz.prog 21 #[.slice A3 q cap3] W fun e w' => (∃ v, e = .returned v ∧ CondAt w' v t) ∧ Ext W w'))
    (HM : Hid (∀ W : World, Ext w W → Calls Tryz.prog 11 #[.slice A n cap, .slice A2 m cap2] W (FilRes W f nc1 ng1)))
    (HSC : Hid (∀ (W : World) (vc : Value), CondAt W vc t → Ext w W → Calls Tryz.prog 22 #[.slice A n cap, vc] W fun e w' => e = .returned (.iface 86 (.int .i64 ec)) ∧ Ext W w')) :
    Calls Tryz.prog 5 #[.slice A n cap, .slice A2 m cap2, .slice A3 q cap3] w fun e w' => e = .returned (.bool true) ∧ Ext w w' := by
  have HX := Lib.hid (Ext.refl w)
  have hS := Hp.init w
  have hR := Reads.nil w
  go_enter Tryz.func5, Tryz.ntmps5
  go_wp2_with (first | ((with_reducible first | refine nhLa ?_ | refine nhLs ?_ | refine nhLd ?_ | refine nhCa ?_ | refine nhCs ?_ | refine nhCd ?_ | refine nhPa ?_ | refine nhPs ?_ | refine nhPd ?_ | refine nhKa ?_ | refine nhKs ?_ | refine nhKd ?_); ((try clear hF); clear hS; intro wk hS; (try simp only [List.set_cons_zero, List.set_cons_succ, heap_size, heap_set_size] at hS); ((try clear hF); (first | have hF := And.intro hS.facts (hR.at hS.ext) | have hF := hS.facts); simp only [HFacts, cellFacts, RFacts, cellOnly, and_true, true_and, Nat.zero_add, Nat.reduceAdd] at hF))) | (go_at_call 6; (with_reducible refine (H1.out _ (HX.out.trans hS.ext)).mono ?_); rintro e wk ⟨rfl, hX⟩; replace hS := hS.step hX; clear hX; ((try clear hF); (first | have hF := And.intro hS.facts (hR.at hS.ext) | have hF := hS.facts); simp only [HFacts, cellFacts, RFacts, cellOnly, and_true, true_and, Nat.zero_add, Nat.reduceAdd] at hF)) | (go_at_call 7; (with_reducible refine (H2.out _ (HX.out.trans hS.ext)).mono ?_); rintro e wk ⟨rfl, hX⟩; replace hS := hS.step hX; clear hX; ((try clear hF); (first | have hF := And.intro hS.facts (hR.at hS.ext) | have hF := hS.facts); simp only [HFacts, cellFacts, RFacts, cellOnly, and_true, true_and, Nat.zero_add, Nat.reduceAdd] at hF)) | (go_at_call 8; (with_reducible refine (H3.out _ (HX.out.trans hS.ext)).mono ?_); rintro e wk ⟨rfl, hX⟩; replace hS := hS.step hX; clear hX; ((try clear hF); (first | have hF := And.intro hS.facts (hR.at hS.ext) | have hF := hS.facts); simp only [HFacts, cellFacts, RFacts, cellOnly, and_true, true_and, Nat.zero_add, Nat.reduceAdd] at hF)) | (go_at_call 21; (with_reducible refine Calls.mono (HCO.out _ (HX.out.trans hS.ext)) ?_); rintro e wk ⟨⟨vc, rfl, hCT⟩, hX⟩; (obtain ⟨pc, rfl⟩ := hCT.pointer); have CT := Lib.hid hCT; clear hCT; have hX2 := hS.ext.trans hX; replace hS := hS.step hX; clear hX; have hRn := Reads.blk (hS.blkAt 0 rfl) (Reads.nil wk); replace HX := Lib.hid (HX.out.trans hX2); skip; clear hX2 hS hR; (try clear hF); have hS := Hp.init wk; have hR := hRn; clear hRn; ((try clear hF); (first | have hF := And.intro hS.facts (hR.at hS.ext) | have hF := hS.facts); simp only [HFacts, cellFacts, RFacts, cellOnly, and_true, true_and, Nat.zero_add, Nat.reduceAdd] at hF)) | (go_at_call 11; (with_reducible refine Calls.mono (HM.out _ (HX.out.trans hS.ext)) ?_); rintro e wk ⟨Ac1, cc1, Ag1, cg1, rfl, hX, F1⟩; have hX2 := hS.ext.trans hX; replace hS := hS.step hX; clear hX; have hRn := hR.ext hX2; replace HX := Lib.hid (HX.out.trans hX2); (try replace CT := Lib.hid (CT.out.ext hX2)); clear hX2 hS hR; (try clear hF); have hS := Hp.init wk; have hR := hRn; clear hRn; ((try clear hF); (first | have hF := And.intro hS.facts (hR.at hS.ext) | have hF := hS.facts); simp only [HFacts, cellFacts, RFacts, cellOnly, and_true, true_and, Nat.zero_add, Nat.reduceAdd] at hF)) | (go_at_call 22; (with_reducible refine (HSC.out _ _ (CT.out.ext hS.ext) (HX.out.trans hS.ext)).mono ?_); rintro e wk ⟨rfl, hX⟩; replace hS := hS.step hX; clear hX; ((try clear hF); (first | have hF := And.intro hS.facts (hR.at hS.ext) | have hF := hS.facts); simp only [HFacts, cellFacts, RFacts, cellOnly, and_true, true_and, Nat.zero_add, Nat.reduceAdd] at hF)))
  all_goals (go_ret; exact ⟨rfl, HX.out.trans hS.ext⟩)
theorem fileskips_any (cs : List CG) (rs : List (List GV)) (ps : List PG) (A A2 A3 : Option Addr) (cap cap2 cap3 : Nat) (w : World) (hc : RC w A cs) (hr : RR w A2 rs) (hh : RP w A3 ps) (hpl : ps.length ≤ 140737488355328) (hcap : cs.length ≤ cap) (hcap2 : rs.length ≤ cap2) (hcap3 : cap2 ≤ 140737488355328)
    (hi : ∀ c ∈ cs, i64 c.id) (hv : ∀ r ∈ rs, ∀ x ∈ r, i64 x.num) (hK : KeptAt w) (hE : ErrAt w) (hO : OppAt w) :
    Calls Tryz.prog 5 #[.slice A cs.length cap, .slice A2 rs.length cap2, .slice A3 ps.length cap3] w fun e w' => e = .returned (.bool true) ∧ Ext w w' := by
  have H1 := Lib.hid (fun (W : World) (hx : Ext w W) => columns_any cs A cs.length cap W rfl (hc.ext hx))
  have H2 := Lib.hid (fun (W : World) (hx : Ext w W) => rows_any rs A2 rs.length cap2 W rfl (hr.ext hx))
  by_cases hb : (!shortCs cs || !shortRs rs) = true
  · exact skips_long _ _ _ _ _ _ _ _ _ w _ _ hb H1 H2
  simp only [Bool.or_eq_true, Bool.not_eq_true', not_or, Bool.not_eq_false] at hb
  obtain ⟨hb1, hb2⟩ := hb
  rw [hb1] at H1
  rw [hb2] at H2
  have hl : cs.length ≤ 20 := by unfold shortCs at hb1; simp only [Bool.and_eq_true, decide_eq_true_eq] at hb1; exact hb1.1
  unfold shortRs at hb2
  simp only [Bool.and_eq_true, decide_eq_true_eq, List.all_eq_true] at hb2
  obtain ⟨hl2, hl3⟩ := hb2
  have hrl : ∀ r ∈ rs, r.length ≤ 20 := fun r hr => by
    have := hl3 r hr
    unfold shortR at this
    simp only [Bool.and_eq_true, decide_eq_true_eq] at this
    exact this.1
  have H3 := Lib.hid (fun (W : World) (hx : Ext w W) => filed_any W (hK.ext hx) (hE.ext hx))
  have HCO := Lib.hid (fun (W : World) (hx : Ext w W) => cond_any ps A3 cap3 W (hh.ext hx) hpl)
  have hgood := good_cond ps
  have HM0 := fun (W : World) (hx : Ext w W) => fmake_any cs rs A A2 cap cap2 W (hc.ext hx) (hr.ext hx) hcap hcap2 hcap3 (by omega) (by omega) (fun r h => by have := hrl r h; omega) hi hv (hK.ext hx) (hE.ext hx)
  by_cases hk : mkE cs rs = 0
  · obtain ⟨hok, hrow, _⟩ := make_ok hk hv
    have hgl : (makeF cs rs).groups.length = (rs.length + 5) / 6 := by unfold makeF; simp
    obtain ⟨g1, g2, g3, g4⟩ := mk_good hk
    have hrows := mk_rows g4
    have hfine := fine_made hk hv
    have HM := Lib.hid (fun (W : World) (hx : Ext w W) => make_some rfl rfl hk hgl (HM0 W hx))
    have hgk : ∀ k, k < (rs.length + 5) / 6 → (makeF cs rs).groups[k]? = some (grpM cs (partM rs k)) := fun k hk => by
      unfold makeF
      simp [List.getElem?_map, List.getElem?_range, hk]
    have HS0 := fun (W : World) (vc : Value) (h : CondAt W vc (condT ps)) (hx : Ext w W) => scond_any cs A cs.length cap (Lib.hid rfl) (by omega) (condT ps) vc W h (Lib.hid (hc.ext hx))
    by_cases he : condE cs (condT ps) = 0
    · obtain ⟨bA, oA, rfl⟩ : ∃ b o, A = some ⟨b, o, none⟩ := by
        obtain ⟨b, o, hA, _⟩ := hc 0 (cs[0]'(by have := hok.r.c1; exact this)) (List.getElem?_eq_getElem _)
        exact ⟨b, o, hA⟩
      have HSC := Lib.hid (fun (W : World) (vc : Value) (h : CondAt W vc (condT ps)) (hx : Ext w W) => show Calls Tryz.prog 22 #[.slice (some ⟨bA, oA, none⟩) cs.length cap, vc] W (fun e w' => e = .returned .nilIface ∧ Ext W w') from by
        have := HS0 W vc h hx
        rw [he, errV_zero] at this
        exact this)
      have HP := Lib.hid (fun (k : Nat) => show (partM rs k).length ≤ 60 ∧ ∀ r ∈ partM rs k, r.length = cs.length from ⟨by rw [partM_len]; omega, fun r hr => row_len (hrows r (partM_mem hr))⟩)
      exact skips_good cs (partM rs) (fun k => mayS (knowN (makeF cs rs) (grpM cs (partM rs k)) cs) false (condT ps)) (condT ps) cs.length rs.length ps.length _ bA oA A2 A3 cap cap2 cap3 w (makeF cs rs) (Lib.hid rfl) hok.r.c1 hl (by omega) HP (Lib.hid (condE_all _ hgood he))
        (Lib.hid hc) (Lib.hid hO) (Lib.hid fun k hm r hr => skip_law hk hv k hgood he hm hr) H1 H2 H3 HCO HM HSC
        (Lib.hid fun W v k hkk hf hx => read_made hk hv hkk rfl (by omega) hf (hc.ext hx))
        (Lib.hid fun W v vc k hkk hf hct hx => by
          have h1 := hfine.g _ (List.mem_of_getElem? (hgk k hkk))
          exact fmay_any cs _ _ cap rfl (by omega) (makeF cs rs) v vc (condT ps) k _ W (hc.ext hx) hf (hgk k hkk) h1.1 h1.2.1 h1.2.2.2.1 hfine.c (by have := hfine.n; omega) hgood hct (hO.ext hx))
        (Lib.hid fun W v k j c hkk hj hf => by
          have h1 := hfine.g _ (List.mem_of_getElem? (hgk k hkk))
          have := fknown_any (makeF cs rs) v k _ c W hf (hgk k hkk) h1.1 h1.2.1 h1.2.2.2.1 hfine.c (by have := hfine.n; omega)
          rw [known_made hk hv k hj] at this
          exact this)
    · have HSC := Lib.hid (fun (W : World) (vc : Value) (h : CondAt W vc (condT ps)) (hx : Ext w W) => show Calls Tryz.prog 22 #[.slice A cs.length cap, vc] W (fun e w' => e = .returned (.iface 86 (.int .i64 (condE cs (condT ps)))) ∧ Ext W w') from by
        have := HS0 W vc h hx
        rw [errV_ne he] at this
        exact this)
      exact skips_not _ _ _ _ _ _ _ A A2 A3 cap cap2 cap3 w _ H1 H2 H3 HCO HM HSC
  · have HM := Lib.hid (fun (W : World) (hx : Ext w W) => show Calls Tryz.prog 11 #[.slice A cs.length cap, .slice A2 rs.length cap2] W (fun e w' => ∃ er, e = .returned (.tuple #[.agg #[.slice none 0 0, .slice none 0 0], er]) ∧ IsErr w' er (mkE cs rs) ∧ Ext W w') from by
      refine (HM0 W hx).mono fun e w' h => ?_
      unfold MkRes at h
      rw [if_neg hk] at h
      exact h)
    exact skips_bad _ _ _ _ A A2 A3 cap cap2 cap3 w H1 H2 H3 HCO _ HM
end Go.Proofs.YtcpllhjhnfmepaaGreatDoor
