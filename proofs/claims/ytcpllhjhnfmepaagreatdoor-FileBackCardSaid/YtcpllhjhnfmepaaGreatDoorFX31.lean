/- Texts joined: millpondkeep.FileBack: the walk. millpondkeep.FileBack: at all arguments. -/
import Derived.Test.YtcpllhjhnfmepaaGreatDoorFX30
import Derived.Test.YtcpllhjhnfmepaaGreatDoorFX22
import Derived.Test.YtcpllhjhnfmepaaGreatDoorFX21
import Derived.Test.YtcpllhjhnfmepaaGreatDoorFX02
/- millpondkeep.FileBack: the walk. -/
namespace Go.Proofs.YtcpllhjhnfmepaaGreatDoor
set_option linter.unusedSimpArgs false
set_option linter.unusedVariables false
open Go.RowKit
set_option linter.all false
set_option maxRecDepth 100000 in
set_option maxHeartbeats 8000000 in
theorem back_bad_none (s : ByteArray) (n m : Nat) (A A2 : Option Addr) (cap cap2 : Nat) (cut : Int) (w : World) (hs : s.size ≤ 2000) (hD : parseF s.data.toList = none)
    (H1 : Hid (∀ W : World, Ext w W → Calls Tryz.prog 6 #[.slice A n cap] W fun e w' => e = .returned (.bool true) ∧ Ext W w'))
    (H2 : Hid (∀ W : World, Ext w W → Calls Tryz.prog 7 #[.slice A2 m cap2] W fun e w' => e = .returned (.bool true) ∧ Ext W w'))
    (H3 : Hid (∀ W : World, Ext w W → Calls Tryz.prog 8 #[] W fun e w' => e = .returned (.bool true) ∧ Ext W w'))
    (er0 : Int) (HM : Hid (∀ W : World, Ext w W → Calls Tryz.prog 11 #[.slice A n cap, .slice A2 m cap2] W fun e w' => ∃ er, e = .returned (.tuple #[.agg #[.slice none 0 0, .slice none 0 0], er]) ∧ IsErr w' er er0 ∧ Ext W w')) :
    Calls Tryz.prog 3 #[.slice A n cap, .slice A2 m cap2, .string s, .int .i64 cut] w fun e w' => e = .returned (.bool true) ∧ Ext w w' := by
  have HP0 := Lib.hid (fun W : World => pars_none (by omega) hD W)
  clear hD
  have HX := Lib.hid (Ext.refl w)
  have hS := Hp.init w
  have hR := Reads.nil w
  go_enter Tryz.func3, Tryz.ntmps3
  go_wp2_with (first | ((with_reducible first | refine nhLa ?_ | refine nhLs ?_ | refine nhLd ?_ | refine nhCa ?_ | refine nhCs ?_ | refine nhCd ?_ | refine nhPa ?_ | refine nhPs ?_ | refine nhPd ?_ | refine nhKa ?_ | refine nhKs ?_ | refine nhKd ?_); ((try clear hF); clear hS; intro wk hS; (try simp only [List.set_cons_zero, List.set_cons_succ, heap_size, heap_set_size] at hS); ((try clear hF); (first | have hF := And.intro hS.facts (hR.at hS.ext) | have hF := hS.facts); simp only [HFacts, cellFacts, RFacts, cellOnly, and_true, true_and, Nat.zero_add, Nat.reduceAdd] at hF))) | (go_at_call 6; (with_reducible refine (H1.out _ (HX.out.trans hS.ext)).mono ?_); rintro e wk ⟨rfl, hX⟩; replace hS := hS.step hX; clear hX; ((try clear hF); (first | have hF := And.intro hS.facts (hR.at hS.ext) | have hF := hS.facts); simp only [HFacts, cellFacts, RFacts, cellOnly, and_true, true_and, Nat.zero_add, Nat.reduceAdd] at hF)) | (go_at_call 7; (with_reducible refine (H2.out _ (HX.out.trans hS.ext)).mono ?_); rintro e wk ⟨rfl, hX⟩; replace hS := hS.step hX; clear hX; ((try clear hF); (first | have hF := And.intro hS.facts (hR.at hS.ext) | have hF := hS.facts); simp only [HFacts, cellFacts, RFacts, cellOnly, and_true, true_and, Nat.zero_add, Nat.reduceAdd] at hF)) | (go_at_call 8; (with_reducible refine (H3.out _ (HX.out.trans hS.ext)).mono ?_); rintro e wk ⟨rfl, hX⟩; replace hS := hS.step hX; clear hX; ((try clear hF); (first | have hF := And.intro hS.facts (hR.at hS.ext) | have hF := hS.facts); simp only [HFacts, cellFacts, RFacts, cellOnly, and_true, true_and, Nat.zero_add, Nat.reduceAdd] at hF)) | (go_at_call 9; (with_reducible refine (HP0.out _).mono ?_); rintro e wk ⟨rfl, hX⟩; replace hS := hS.step hX; clear hX; ((try clear hF); (first | have hF := And.intro hS.facts (hR.at hS.ext) | have hF := hS.facts); simp only [HFacts, cellFacts, RFacts, cellOnly, and_true, true_and, Nat.zero_add, Nat.reduceAdd] at hF)) | (go_at_call 11; (with_reducible refine Calls.mono (HM.out _ (HX.out.trans hS.ext)) ?_); (rintro e wk ⟨er, rfl, (rfl | ⟨gx, ix, rfl, _, _⟩), hX⟩ <;> (replace hS := hS.step hX; clear hX; ((try clear hF); (first | have hF := And.intro hS.facts (hR.at hS.ext) | have hF := hS.facts); simp only [HFacts, cellFacts, RFacts, cellOnly, and_true, true_and, Nat.zero_add, Nat.reduceAdd] at hF)))))
  all_goals (go_ret; exact ⟨rfl, HX.out.trans hS.ext⟩)
set_option maxRecDepth 100000 in
set_option maxHeartbeats 8000000 in
theorem back_good_none (s : ByteArray) (n m nc1 ng1 nc2 ng2 : Nat) (A A2 : Option Addr) (cap cap2 : Nat) (cut : Int) (w : World) (hs : s.size ≤ 2000) (hD : parseF s.data.toList = none) (cs : List CG) (rs : List (List GV)) (f g : FG) (ts : ByteArray) (hm : m ≤ 70) (hng2 : ng2 = (m + 5) / 6) (hts : 0 < ts.size ∧ ts.size ≤ 100000)
    (H1 : Hid (∀ W : World, Ext w W → Calls Tryz.prog 6 #[.slice A n cap] W fun e w' => e = .returned (.bool true) ∧ Ext W w'))
    (H2 : Hid (∀ W : World, Ext w W → Calls Tryz.prog 7 #[.slice A2 m cap2] W fun e w' => e = .returned (.bool true) ∧ Ext W w'))
    (H3 : Hid (∀ W : World, Ext w W → Calls Tryz.prog 8 #[] W fun e w' => e = .returned (.bool true) ∧ Ext W w'))
    (HM : Hid (∀ W : World, Ext w W → Calls Tryz.prog 11 #[.slice A n cap, .slice A2 m cap2] W (FilRes W f nc1 ng1)))
    (HW1 : Hid (∀ (W : World) (v : Value), RF W v f → Calls Tryz.prog 10 #[v] W fun e w' => e = .returned (.tuple #[.string ts, .nilIface]) ∧ Ext W w'))
    (HP1 : Hid (∀ W : World, Calls Tryz.prog 9 #[.string ts] W (FilRes W g nc2 ng2)))
    (HR1 : Hid (∀ (W : World) (v : Value), RF W v g → Calls Tryz.prog 12 #[v] W fun e w' => e = .returned (.int .i64 m) ∧ Ext W w'))
    (HA1 : Hid (∀ (W : World) (v : Value), RF W v f → Ext w W → Calls Tryz.prog 13 #[v, .slice A n cap] W fun e w' => ∃ B cb, e = .returned (.tuple #[.slice B m cb, .bool true]) ∧ Ext W w' ∧ Hid (RR w' B rs)))
    (HA2 : Hid (∀ (W : World) (v : Value), RF W v g → Ext w W → Calls Tryz.prog 13 #[v, .slice A n cap] W fun e w' => ∃ B cb, e = .returned (.tuple #[.slice B m cb, .bool true]) ∧ Ext W w' ∧ Hid (RR w' B rs)))
    (HS : Hid (∀ (W : World) (B : Option Addr) (cb : Nat), RR W B rs → Ext w W → Calls Tryz.prog 14 #[.slice B m cb, .slice A2 m cap2] W fun e w' => e = .returned (.bool true) ∧ Ext W w'))
    (HC : Hid (∀ (W : World) (c : Nat), c < ts.size → Calls Tryz.prog 9 #[.string (ts.extract 0 c)] W fun e w' => e = .returned (.tuple #[.agg #[.slice none 0 0, .slice none 0 0], .iface 86 (.int .i64 3)]) ∧ Ext W w')) :
    Calls Tryz.prog 3 #[.slice A n cap, .slice A2 m cap2, .string s, .int .i64 cut] w fun e w' => e = .returned (.bool true) ∧ Ext w w' := by
  have HP0 := Lib.hid (fun W : World => pars_none (by omega) hD W)
  clear hD
  have PK := Lib.hid (fun W : World => pick_any cut ts.size W (by omega) (by omega))
  have hq6 : ((ng2 : Int) != ((m : Int) + 6 - 1) / 6) = false := by
    have : (ng2 : Int) = ((m : Int) + 6 - 1) / 6 := by omega
    rw [← this]
    simp
  have HTS := Lib.hid hts
  clear hts hng2
  have HX := Lib.hid (Ext.refl w)
  have hS := Hp.init w
  have hR := Reads.nil w
  go_enter Tryz.func3, Tryz.ntmps3
  go_wp2_with (first | ((with_reducible first | refine nhLa ?_ | refine nhLs ?_ | refine nhLd ?_ | refine nhCa ?_ | refine nhCs ?_ | refine nhCd ?_ | refine nhPa ?_ | refine nhPs ?_ | refine nhPd ?_ | refine nhKa ?_ | refine nhKs ?_ | refine nhKd ?_); ((try clear hF); clear hS; intro wk hS; (try simp only [List.set_cons_zero, List.set_cons_succ, heap_size, heap_set_size] at hS); ((try clear hF); (first | have hF := And.intro hS.facts (hR.at hS.ext) | have hF := hS.facts); simp only [HFacts, cellFacts, RFacts, cellOnly, and_true, true_and, Nat.zero_add, Nat.reduceAdd] at hF))) | (go_at_call 6; (with_reducible refine (H1.out _ (HX.out.trans hS.ext)).mono ?_); rintro e wk ⟨rfl, hX⟩; replace hS := hS.step hX; clear hX; ((try clear hF); (first | have hF := And.intro hS.facts (hR.at hS.ext) | have hF := hS.facts); simp only [HFacts, cellFacts, RFacts, cellOnly, and_true, true_and, Nat.zero_add, Nat.reduceAdd] at hF)) | (go_at_call 7; (with_reducible refine (H2.out _ (HX.out.trans hS.ext)).mono ?_); rintro e wk ⟨rfl, hX⟩; replace hS := hS.step hX; clear hX; ((try clear hF); (first | have hF := And.intro hS.facts (hR.at hS.ext) | have hF := hS.facts); simp only [HFacts, cellFacts, RFacts, cellOnly, and_true, true_and, Nat.zero_add, Nat.reduceAdd] at hF)) | (go_at_call 8; (with_reducible refine (H3.out _ (HX.out.trans hS.ext)).mono ?_); rintro e wk ⟨rfl, hX⟩; replace hS := hS.step hX; clear hX; ((try clear hF); (first | have hF := And.intro hS.facts (hR.at hS.ext) | have hF := hS.facts); simp only [HFacts, cellFacts, RFacts, cellOnly, and_true, true_and, Nat.zero_add, Nat.reduceAdd] at hF)) | (go_at_call 9; (with_reducible refine (HP0.out _).mono ?_); rintro e wk ⟨rfl, hX⟩; replace hS := hS.step hX; clear hX; ((try clear hF); (first | have hF := And.intro hS.facts (hR.at hS.ext) | have hF := hS.facts); simp only [HFacts, cellFacts, RFacts, cellOnly, and_true, true_and, Nat.zero_add, Nat.reduceAdd] at hF)) | (go_at_call 11; (with_reducible refine Calls.mono (HM.out _ (HX.out.trans hS.ext)) ?_); rintro e wk ⟨Ac1, cc1, Ag1, cg1, rfl, hX, F1⟩; have hX2 := hS.ext.trans hX; replace hS := hS.step hX; clear hX; have hRn := Reads.nil wk; replace HX := Lib.hid (HX.out.trans hX2); skip; clear hX2 hS hR; (try clear hF); have hS := Hp.init wk; have hR := hRn; clear hRn; ((try clear hF); (first | have hF := And.intro hS.facts (hR.at hS.ext) | have hF := hS.facts); simp only [HFacts, cellFacts, RFacts, cellOnly, and_true, true_and, Nat.zero_add, Nat.reduceAdd] at hF)) | (go_at_call 10; (with_reducible refine (HW1.out _ _ (F1.out.ext hS.ext)).mono ?_); rintro e wk ⟨rfl, hX⟩; replace hS := hS.step hX; clear hX; ((try clear hF); (first | have hF := And.intro hS.facts (hR.at hS.ext) | have hF := hS.facts); simp only [HFacts, cellFacts, RFacts, cellOnly, and_true, true_and, Nat.zero_add, Nat.reduceAdd] at hF)) | (go_at_call 9; (with_reducible refine Calls.mono (HP1.out _) ?_); rintro e wk ⟨Ac2, cc2, Ag2, cg2, rfl, hX, F2⟩; have hX2 := hS.ext.trans hX; replace hS := hS.step hX; clear hX; have hRn := Reads.blk (hS.blkAt 0 rfl) (Reads.nil wk); replace HX := Lib.hid (HX.out.trans hX2); (try replace F1 := Lib.hid (F1.out.ext hX2)); clear hX2 hS hR; (try clear hF); have hS := Hp.init wk; have hR := hRn; clear hRn; ((try clear hF); (first | have hF := And.intro hS.facts (hR.at hS.ext) | have hF := hS.facts); simp only [HFacts, cellFacts, RFacts, cellOnly, and_true, true_and, Nat.zero_add, Nat.reduceAdd] at hF)) | (go_at_call 12; (with_reducible refine (HR1.out _ _ (F2.out.ext hS.ext)).mono ?_); rintro e wk ⟨rfl, hX⟩; replace hS := hS.step hX; clear hX; ((try clear hF); (first | have hF := And.intro hS.facts (hR.at hS.ext) | have hF := hS.facts); simp only [HFacts, cellFacts, RFacts, cellOnly, and_true, true_and, Nat.zero_add, Nat.reduceAdd] at hF)) | (go_at_call 13; (with_reducible refine Calls.mono (HA1.out _ _ (F1.out.ext hS.ext) (HX.out.trans hS.ext)) ?_); rintro e wk ⟨Ax, cx, rfl, hX, X1⟩; have hX2 := hS.ext.trans hX; replace hS := hS.step hX; clear hX; have hRn := Reads.blk (hS.blkAt 0 rfl) (hR.ext hX2); replace HX := Lib.hid (HX.out.trans hX2); (try replace F1 := Lib.hid (F1.out.ext hX2)); (try replace F2 := Lib.hid (F2.out.ext hX2)); clear hX2 hS hR; (try clear hF); have hS := Hp.init wk; have hR := hRn; clear hRn; ((try clear hF); (first | have hF := And.intro hS.facts (hR.at hS.ext) | have hF := hS.facts); simp only [HFacts, cellFacts, RFacts, cellOnly, and_true, true_and, Nat.zero_add, Nat.reduceAdd] at hF)) | (go_at_call 13; (with_reducible refine Calls.mono (HA2.out _ _ (F2.out.ext hS.ext) (HX.out.trans hS.ext)) ?_); rintro e wk ⟨Ay, cy, rfl, hX, X2⟩; have hX2 := hS.ext.trans hX; replace hS := hS.step hX; clear hX; have hRn := (hR.ext hX2); replace HX := Lib.hid (HX.out.trans hX2); (try replace X1 := Lib.hid (X1.out.ext hX2)); clear hX2 hS hR; (try clear hF); have hS := Hp.init wk; have hR := hRn; clear hRn; ((try clear hF); (first | have hF := And.intro hS.facts (hR.at hS.ext) | have hF := hS.facts); simp only [HFacts, cellFacts, RFacts, cellOnly, and_true, true_and, Nat.zero_add, Nat.reduceAdd] at hF)) | (go_at_call 14; (with_reducible refine (HS.out _ _ _ (X1.out.ext hS.ext) (HX.out.trans hS.ext)).mono ?_); rintro e wk ⟨rfl, hX⟩; replace hS := hS.step hX; clear hX; ((try clear hF); (first | have hF := And.intro hS.facts (hR.at hS.ext) | have hF := hS.facts); simp only [HFacts, cellFacts, RFacts, cellOnly, and_true, true_and, Nat.zero_add, Nat.reduceAdd] at hF)) | (go_at_call 14; (with_reducible refine (HS.out _ _ _ (X2.out.ext hS.ext) (HX.out.trans hS.ext)).mono ?_); rintro e wk ⟨rfl, hX⟩; replace hS := hS.step hX; clear hX; ((try clear hF); (first | have hF := And.intro hS.facts (hR.at hS.ext) | have hF := hS.facts); simp only [HFacts, cellFacts, RFacts, cellOnly, and_true, true_and, Nat.zero_add, Nat.reduceAdd] at hF)) | (go_at_call 15; (with_reducible refine (PK.out _).mono ?_); rintro e wk ⟨⟨m, rfl, hm0, hm1⟩, hX⟩; (obtain ⟨c, rfl⟩ := Int.eq_ofNat_of_zero_le hm0); (have hcc : c < ts.size := by omega); replace hS := hS.step hX; clear hX; ((try clear hF); (first | have hF := And.intro hS.facts (hR.at hS.ext) | have hF := hS.facts); simp only [HFacts, cellFacts, RFacts, cellOnly, and_true, true_and, Nat.zero_add, Nat.reduceAdd] at hF)) | (go_at_call 9; (with_reducible refine (HC.out _ c hcc).mono ?_); rintro e wk ⟨rfl, hX⟩; replace hS := hS.step hX; clear hX; ((try clear hF); (first | have hF := And.intro hS.facts (hR.at hS.ext) | have hF := hS.facts); simp only [HFacts, cellFacts, RFacts, cellOnly, and_true, true_and, Nat.zero_add, Nat.reduceAdd] at hF)))
  all_goals (go_ret; exact ⟨rfl, HX.out.trans hS.ext⟩)

set_option maxRecDepth 100000 in
set_option maxHeartbeats 8000000 in
theorem back_bad_some (s : ByteArray) (g0 : FG) (n m : Nat) (A A2 : Option Addr) (cap cap2 : Nat) (cut : Int) (w : World) (hs : s.size ≤ 2000) (hD : parseF s.data.toList = some g0)
    (H1 : Hid (∀ W : World, Ext w W → Calls Tryz.prog 6 #[.slice A n cap] W fun e w' => e = .returned (.bool true) ∧ Ext W w'))
    (H2 : Hid (∀ W : World, Ext w W → Calls Tryz.prog 7 #[.slice A2 m cap2] W fun e w' => e = .returned (.bool true) ∧ Ext W w'))
    (H3 : Hid (∀ W : World, Ext w W → Calls Tryz.prog 8 #[] W fun e w' => e = .returned (.bool true) ∧ Ext W w'))
    (er0 : Int) (HM : Hid (∀ W : World, Ext w W → Calls Tryz.prog 11 #[.slice A n cap, .slice A2 m cap2] W fun e w' => ∃ er, e = .returned (.tuple #[.agg #[.slice none 0 0, .slice none 0 0], er]) ∧ IsErr w' er er0 ∧ Ext W w')) :
    Calls Tryz.prog 3 #[.slice A n cap, .slice A2 m cap2, .string s, .int .i64 cut] w fun e w' => e = .returned (.bool true) ∧ Ext w w' := by
  obtain ⟨nc0, hc0⟩ : ∃ n, n = g0.cols.length := ⟨_, rfl⟩
  obtain ⟨ng0, hg0⟩ : ∃ n, n = g0.groups.length := ⟨_, rfl⟩
  have HP0 := Lib.hid (fun W : World => pars_some (by omega) hD hc0.symm hg0.symm W)
  have HW0 := Lib.hid (fun (W : World) (v : Value) (h : RF W v g0) => show Calls Tryz.prog 10 #[v] W (fun e w' => e = .returned (.tuple #[.string s, .nilIface]) ∧ Ext W w') from by
    obtain ⟨h1, _, h3⟩ := parse_back hD
    have h4 : s.size = (writeF g0).length := by rw [h3]; simp
    have := fwrite_ok h h1 (by omega)
    rw [h3] at this
    exact this)
  clear hc0 hg0
  clear hD
  have HX := Lib.hid (Ext.refl w)
  have hS := Hp.init w
  have hR := Reads.nil w
  go_enter Tryz.func3, Tryz.ntmps3
  go_wp2_with (first | ((with_reducible first | refine nhLa ?_ | refine nhLs ?_ | refine nhLd ?_ | refine nhCa ?_ | refine nhCs ?_ | refine nhCd ?_ | refine nhPa ?_ | refine nhPs ?_ | refine nhPd ?_ | refine nhKa ?_ | refine nhKs ?_ | refine nhKd ?_); ((try clear hF); clear hS; intro wk hS; (try simp only [List.set_cons_zero, List.set_cons_succ, heap_size, heap_set_size] at hS); ((try clear hF); (first | have hF := And.intro hS.facts (hR.at hS.ext) | have hF := hS.facts); simp only [HFacts, cellFacts, RFacts, cellOnly, and_true, true_and, Nat.zero_add, Nat.reduceAdd] at hF))) | (go_at_call 6; (with_reducible refine (H1.out _ (HX.out.trans hS.ext)).mono ?_); rintro e wk ⟨rfl, hX⟩; replace hS := hS.step hX; clear hX; ((try clear hF); (first | have hF := And.intro hS.facts (hR.at hS.ext) | have hF := hS.facts); simp only [HFacts, cellFacts, RFacts, cellOnly, and_true, true_and, Nat.zero_add, Nat.reduceAdd] at hF)) | (go_at_call 7; (with_reducible refine (H2.out _ (HX.out.trans hS.ext)).mono ?_); rintro e wk ⟨rfl, hX⟩; replace hS := hS.step hX; clear hX; ((try clear hF); (first | have hF := And.intro hS.facts (hR.at hS.ext) | have hF := hS.facts); simp only [HFacts, cellFacts, RFacts, cellOnly, and_true, true_and, Nat.zero_add, Nat.reduceAdd] at hF)) | (go_at_call 8; (with_reducible refine (H3.out _ (HX.out.trans hS.ext)).mono ?_); rintro e wk ⟨rfl, hX⟩; replace hS := hS.step hX; clear hX; ((try clear hF); (first | have hF := And.intro hS.facts (hR.at hS.ext) | have hF := hS.facts); simp only [HFacts, cellFacts, RFacts, cellOnly, and_true, true_and, Nat.zero_add, Nat.reduceAdd] at hF)) | (go_at_call 9; (with_reducible refine Calls.mono (HP0.out _) ?_); rintro e wk ⟨Ac0, cc0, Ag0, cg0, rfl, hX, F0⟩; have hX2 := hS.ext.trans hX; replace hS := hS.step hX; clear hX; have hRn := Reads.nil wk; replace HX := Lib.hid (HX.out.trans hX2); skip; clear hX2 hS hR; (try clear hF); have hS := Hp.init wk; have hR := hRn; clear hRn; ((try clear hF); (first | have hF := And.intro hS.facts (hR.at hS.ext) | have hF := hS.facts); simp only [HFacts, cellFacts, RFacts, cellOnly, and_true, true_and, Nat.zero_add, Nat.reduceAdd] at hF)) | (go_at_call 10; (with_reducible refine (HW0.out _ _ (F0.out.ext hS.ext)).mono ?_); rintro e wk ⟨rfl, hX⟩; replace hS := hS.step hX; clear hX; ((try clear hF); (first | have hF := And.intro hS.facts (hR.at hS.ext) | have hF := hS.facts); simp only [HFacts, cellFacts, RFacts, cellOnly, and_true, true_and, Nat.zero_add, Nat.reduceAdd] at hF)) | (go_at_call 11; (with_reducible refine Calls.mono (HM.out _ (HX.out.trans hS.ext)) ?_); (rintro e wk ⟨er, rfl, (rfl | ⟨gx, ix, rfl, _, _⟩), hX⟩ <;> (replace hS := hS.step hX; clear hX; ((try clear hF); (first | have hF := And.intro hS.facts (hR.at hS.ext) | have hF := hS.facts); simp only [HFacts, cellFacts, RFacts, cellOnly, and_true, true_and, Nat.zero_add, Nat.reduceAdd] at hF)))))
  all_goals (go_ret; exact ⟨rfl, HX.out.trans hS.ext⟩)
set_option maxRecDepth 100000 in
set_option maxHeartbeats 8000000 in
theorem back_good_some (s : ByteArray) (g0 : FG) (n m nc1 ng1 nc2 ng2 : Nat) (A A2 : Option Addr) (cap cap2 : Nat) (cut : Int) (w : World) (hs : s.size ≤ 2000) (hD : parseF s.data.toList = some g0) (cs : List CG) (rs : List (List GV)) (f g : FG) (ts : ByteArray) (hm : m ≤ 70) (hng2 : ng2 = (m + 5) / 6) (hts : 0 < ts.size ∧ ts.size ≤ 100000)
    (H1 : Hid (∀ W : World, Ext w W → Calls Tryz.prog 6 #[.slice A n cap] W fun e w' => e = .returned (.bool true) ∧ Ext W w'))
    (H2 : Hid (∀ W : World, Ext w W → Calls Tryz.prog 7 #[.slice A2 m cap2] W fun e w' => e = .returned (.bool true) ∧ Ext W w'))
    (H3 : Hid (∀ W : World, Ext w W → Calls Tryz.prog 8 #[] W fun e w' => e = .returned (.bool true) ∧ Ext W w'))
    (HM : Hid (∀ W : World, Ext w W → Calls Tryz.prog 11 #[.slice A n cap, .slice A2 m cap2] W (FilRes W f nc1 ng1)))
    (HW1 : Hid (∀ (W : World) (v : Value), RF W v f → Calls Tryz.prog 10 #[v] W fun e w' => e = .returned (.tuple #[.string ts, .nilIface]) ∧ Ext W w'))
    (HP1 : Hid (∀ W : World, Calls Tryz.prog 9 #[.string ts] W (FilRes W g nc2 ng2)))
    (HR1 : Hid (∀ (W : World) (v : Value), RF W v g → Calls Tryz.prog 12 #[v] W fun e w' => e = .returned (.int .i64 m) ∧ Ext W w'))
    (HA1 : Hid (∀ (W : World) (v : Value), RF W v f → Ext w W → Calls Tryz.prog 13 #[v, .slice A n cap] W fun e w' => ∃ B cb, e = .returned (.tuple #[.slice B m cb, .bool true]) ∧ Ext W w' ∧ Hid (RR w' B rs)))
    (HA2 : Hid (∀ (W : World) (v : Value), RF W v g → Ext w W → Calls Tryz.prog 13 #[v, .slice A n cap] W fun e w' => ∃ B cb, e = .returned (.tuple #[.slice B m cb, .bool true]) ∧ Ext W w' ∧ Hid (RR w' B rs)))
    (HS : Hid (∀ (W : World) (B : Option Addr) (cb : Nat), RR W B rs → Ext w W → Calls Tryz.prog 14 #[.slice B m cb, .slice A2 m cap2] W fun e w' => e = .returned (.bool true) ∧ Ext W w'))
    (HC : Hid (∀ (W : World) (c : Nat), c < ts.size → Calls Tryz.prog 9 #[.string (ts.extract 0 c)] W fun e w' => e = .returned (.tuple #[.agg #[.slice none 0 0, .slice none 0 0], .iface 86 (.int .i64 3)]) ∧ Ext W w')) :
    Calls Tryz.prog 3 #[.slice A n cap, .slice A2 m cap2, .string s, .int .i64 cut] w fun e w' => e = .returned (.bool true) ∧ Ext w w' := by
  obtain ⟨nc0, hc0⟩ : ∃ n, n = g0.cols.length := ⟨_, rfl⟩
  obtain ⟨ng0, hg0⟩ : ∃ n, n = g0.groups.length := ⟨_, rfl⟩
  have HP0 := Lib.hid (fun W : World => pars_some (by omega) hD hc0.symm hg0.symm W)
  have HW0 := Lib.hid (fun (W : World) (v : Value) (h : RF W v g0) => show Calls Tryz.prog 10 #[v] W (fun e w' => e = .returned (.tuple #[.string s, .nilIface]) ∧ Ext W w') from by
    obtain ⟨h1, _, h3⟩ := parse_back hD
    have h4 : s.size = (writeF g0).length := by rw [h3]; simp
    have := fwrite_ok h h1 (by omega)
    rw [h3] at this
    exact this)
  clear hc0 hg0
  clear hD
  have PK := Lib.hid (fun W : World => pick_any cut ts.size W (by omega) (by omega))
  have hq6 : ((ng2 : Int) != ((m : Int) + 6 - 1) / 6) = false := by
    have : (ng2 : Int) = ((m : Int) + 6 - 1) / 6 := by omega
    rw [← this]
    simp
  have HTS := Lib.hid hts
  clear hts hng2
  have HX := Lib.hid (Ext.refl w)
  have hS := Hp.init w
  have hR := Reads.nil w
  go_enter Tryz.func3, Tryz.ntmps3
  go_wp2_with (first | ((with_reducible first | refine nhLa ?_ | refine nhLs ?_ | refine nhLd ?_ | refine nhCa ?_ | refine nhCs ?_ | refine nhCd ?_ | refine nhPa ?_ | refine nhPs ?_ | refine nhPd ?_ | refine nhKa ?_ | refine nhKs ?_ | refine nhKd ?_); ((try clear hF); clear hS; intro wk hS; (try simp only [List.set_cons_zero, List.set_cons_succ, heap_size, heap_set_size] at hS); ((try clear hF); (first | have hF := And.intro hS.facts (hR.at hS.ext) | have hF := hS.facts); simp only [HFacts, cellFacts, RFacts, cellOnly, and_true, true_and, Nat.zero_add, Nat.reduceAdd] at hF))) | (go_at_call 6; (with_reducible refine (H1.out _ (HX.out.trans hS.ext)).mono ?_); rintro e wk ⟨rfl, hX⟩; replace hS := hS.step hX; clear hX; ((try clear hF); (first | have hF := And.intro hS.facts (hR.at hS.ext) | have hF := hS.facts); simp only [HFacts, cellFacts, RFacts, cellOnly, and_true, true_and, Nat.zero_add, Nat.reduceAdd] at hF)) | (go_at_call 7; (with_reducible refine (H2.out _ (HX.out.trans hS.ext)).mono ?_); rintro e wk ⟨rfl, hX⟩; replace hS := hS.step hX; clear hX; ((try clear hF); (first | have hF := And.intro hS.facts (hR.at hS.ext) | have hF := hS.facts); simp only [HFacts, cellFacts, RFacts, cellOnly, and_true, true_and, Nat.zero_add, Nat.reduceAdd] at hF)) | (go_at_call 8; (with_reducible refine (H3.out _ (HX.out.trans hS.ext)).mono ?_); rintro e wk ⟨rfl, hX⟩; replace hS := hS.step hX; clear hX; ((try clear hF); (first | have hF := And.intro hS.facts (hR.at hS.ext) | have hF := hS.facts); simp only [HFacts, cellFacts, RFacts, cellOnly, and_true, true_and, Nat.zero_add, Nat.reduceAdd] at hF)) | (go_at_call 9; (with_reducible refine Calls.mono (HP0.out _) ?_); rintro e wk ⟨Ac0, cc0, Ag0, cg0, rfl, hX, F0⟩; have hX2 := hS.ext.trans hX; replace hS := hS.step hX; clear hX; have hRn := Reads.nil wk; replace HX := Lib.hid (HX.out.trans hX2); skip; clear hX2 hS hR; (try clear hF); have hS := Hp.init wk; have hR := hRn; clear hRn; ((try clear hF); (first | have hF := And.intro hS.facts (hR.at hS.ext) | have hF := hS.facts); simp only [HFacts, cellFacts, RFacts, cellOnly, and_true, true_and, Nat.zero_add, Nat.reduceAdd] at hF)) | (go_at_call 10; (with_reducible refine (HW0.out _ _ (F0.out.ext hS.ext)).mono ?_); rintro e wk ⟨rfl, hX⟩; replace hS := hS.step hX; clear hX; ((try clear hF); (first | have hF := And.intro hS.facts (hR.at hS.ext) | have hF := hS.facts); simp only [HFacts, cellFacts, RFacts, cellOnly, and_true, true_and, Nat.zero_add, Nat.reduceAdd] at hF)) | (go_at_call 11; (with_reducible refine Calls.mono (HM.out _ (HX.out.trans hS.ext)) ?_); rintro e wk ⟨Ac1, cc1, Ag1, cg1, rfl, hX, F1⟩; have hX2 := hS.ext.trans hX; replace hS := hS.step hX; clear hX; have hRn := Reads.nil wk; replace HX := Lib.hid (HX.out.trans hX2); skip; clear hX2 hS hR; (try clear hF); have hS := Hp.init wk; have hR := hRn; clear hRn; ((try clear hF); (first | have hF := And.intro hS.facts (hR.at hS.ext) | have hF := hS.facts); simp only [HFacts, cellFacts, RFacts, cellOnly, and_true, true_and, Nat.zero_add, Nat.reduceAdd] at hF)) | (go_at_call 10; (with_reducible refine (HW1.out _ _ (F1.out.ext hS.ext)).mono ?_); rintro e wk ⟨rfl, hX⟩; replace hS := hS.step hX; clear hX; ((try clear hF); (first | have hF := And.intro hS.facts (hR.at hS.ext) | have hF := hS.facts); simp only [HFacts, cellFacts, RFacts, cellOnly, and_true, true_and, Nat.zero_add, Nat.reduceAdd] at hF)) | (go_at_call 9; (with_reducible refine Calls.mono (HP1.out _) ?_); rintro e wk ⟨Ac2, cc2, Ag2, cg2, rfl, hX, F2⟩; have hX2 := hS.ext.trans hX; replace hS := hS.step hX; clear hX; have hRn := Reads.blk (hS.blkAt 0 rfl) (Reads.nil wk); replace HX := Lib.hid (HX.out.trans hX2); (try replace F1 := Lib.hid (F1.out.ext hX2)); clear hX2 hS hR; (try clear hF); have hS := Hp.init wk; have hR := hRn; clear hRn; ((try clear hF); (first | have hF := And.intro hS.facts (hR.at hS.ext) | have hF := hS.facts); simp only [HFacts, cellFacts, RFacts, cellOnly, and_true, true_and, Nat.zero_add, Nat.reduceAdd] at hF)) | (go_at_call 12; (with_reducible refine (HR1.out _ _ (F2.out.ext hS.ext)).mono ?_); rintro e wk ⟨rfl, hX⟩; replace hS := hS.step hX; clear hX; ((try clear hF); (first | have hF := And.intro hS.facts (hR.at hS.ext) | have hF := hS.facts); simp only [HFacts, cellFacts, RFacts, cellOnly, and_true, true_and, Nat.zero_add, Nat.reduceAdd] at hF)) | (go_at_call 13; (with_reducible refine Calls.mono (HA1.out _ _ (F1.out.ext hS.ext) (HX.out.trans hS.ext)) ?_); rintro e wk ⟨Ax, cx, rfl, hX, X1⟩; have hX2 := hS.ext.trans hX; replace hS := hS.step hX; clear hX; have hRn := Reads.blk (hS.blkAt 0 rfl) (hR.ext hX2); replace HX := Lib.hid (HX.out.trans hX2); (try replace F1 := Lib.hid (F1.out.ext hX2)); (try replace F2 := Lib.hid (F2.out.ext hX2)); clear hX2 hS hR; (try clear hF); have hS := Hp.init wk; have hR := hRn; clear hRn; ((try clear hF); (first | have hF := And.intro hS.facts (hR.at hS.ext) | have hF := hS.facts); simp only [HFacts, cellFacts, RFacts, cellOnly, and_true, true_and, Nat.zero_add, Nat.reduceAdd] at hF)) | (go_at_call 13; (with_reducible refine Calls.mono (HA2.out _ _ (F2.out.ext hS.ext) (HX.out.trans hS.ext)) ?_); rintro e wk ⟨Ay, cy, rfl, hX, X2⟩; have hX2 := hS.ext.trans hX; replace hS := hS.step hX; clear hX; have hRn := (hR.ext hX2); replace HX := Lib.hid (HX.out.trans hX2); (try replace X1 := Lib.hid (X1.out.ext hX2)); clear hX2 hS hR; (try clear hF); have hS := Hp.init wk; have hR := hRn; clear hRn; ((try clear hF); (first | have hF := And.intro hS.facts (hR.at hS.ext) | have hF := hS.facts); simp only [HFacts, cellFacts, RFacts, cellOnly, and_true, true_and, Nat.zero_add, Nat.reduceAdd] at hF)) | (go_at_call 14; (with_reducible refine (HS.out _ _ _ (X1.out.ext hS.ext) (HX.out.trans hS.ext)).mono ?_); rintro e wk ⟨rfl, hX⟩; replace hS := hS.step hX; clear hX; ((try clear hF); (first | have hF := And.intro hS.facts (hR.at hS.ext) | have hF := hS.facts); simp only [HFacts, cellFacts, RFacts, cellOnly, and_true, true_and, Nat.zero_add, Nat.reduceAdd] at hF)) | (go_at_call 14; (with_reducible refine (HS.out _ _ _ (X2.out.ext hS.ext) (HX.out.trans hS.ext)).mono ?_); rintro e wk ⟨rfl, hX⟩; replace hS := hS.step hX; clear hX; ((try clear hF); (first | have hF := And.intro hS.facts (hR.at hS.ext) | have hF := hS.facts); simp only [HFacts, cellFacts, RFacts, cellOnly, and_true, true_and, Nat.zero_add, Nat.reduceAdd] at hF)) | (go_at_call 15; (with_reducible refine (PK.out _).mono ?_); rintro e wk ⟨⟨m, rfl, hm0, hm1⟩, hX⟩; (obtain ⟨c, rfl⟩ := Int.eq_ofNat_of_zero_le hm0); (have hcc : c < ts.size := by omega); replace hS := hS.step hX; clear hX; ((try clear hF); (first | have hF := And.intro hS.facts (hR.at hS.ext) | have hF := hS.facts); simp only [HFacts, cellFacts, RFacts, cellOnly, and_true, true_and, Nat.zero_add, Nat.reduceAdd] at hF)) | (go_at_call 9; (with_reducible refine (HC.out _ c hcc).mono ?_); rintro e wk ⟨rfl, hX⟩; replace hS := hS.step hX; clear hX; ((try clear hF); (first | have hF := And.intro hS.facts (hR.at hS.ext) | have hF := hS.facts); simp only [HFacts, cellFacts, RFacts, cellOnly, and_true, true_and, Nat.zero_add, Nat.reduceAdd] at hF)))
  all_goals (go_ret; exact ⟨rfl, HX.out.trans hS.ext⟩)

end Go.Proofs.YtcpllhjhnfmepaaGreatDoor

/- millpondkeep.FileBack: at all arguments. -/
namespace Go.Proofs.YtcpllhjhnfmepaaGreatDoor
set_option linter.unusedSimpArgs false
set_option linter.unusedVariables false
open Go.RowKit
set_option linter.all false
set_option maxRecDepth 100000 in
set_option maxHeartbeats 8000000 in
theorem back_long (n m cap cap2 : Nat) (A A2 : Option Addr) (s : ByteArray) (cut : Int) (w : World) (b1 b2 : Bool) (hb : (!b1 || !b2 || decide (2000 < s.size)) = true)
    (H1 : Hid (∀ W : World, Ext w W → Calls Tryz.prog 6 #[.slice A n cap] W fun e w' => e = .returned (.bool b1) ∧ Ext W w'))
    (H2 : Hid (∀ W : World, Ext w W → Calls Tryz.prog 7 #[.slice A2 m cap2] W fun e w' => e = .returned (.bool b2) ∧ Ext W w')) :
    Calls Tryz.prog 3 #[.slice A n cap, .slice A2 m cap2, .string s, .int .i64 cut] w fun e w' => e = .returned (.bool true) ∧ Ext w w' := by
  have hS := Hp.init w
  have hR := Reads.nil w
  cases b1 with
  | false =>
    clear hb
    go_enter Tryz.func3, Tryz.ntmps3
    go_wp2_with (first | ((with_reducible first | refine nhLa ?_ | refine nhLs ?_ | refine nhLd ?_ | refine nhCa ?_ | refine nhCs ?_ | refine nhCd ?_ | refine nhPa ?_ | refine nhPs ?_ | refine nhPd ?_ | refine nhKa ?_ | refine nhKs ?_ | refine nhKd ?_); ((try clear hF); clear hS; intro wk hS; (try simp only [List.set_cons_zero, List.set_cons_succ, heap_size, heap_set_size] at hS); ((try clear hF); (first | have hF := And.intro hS.facts (hR.at hS.ext) | have hF := hS.facts); simp only [HFacts, cellFacts, RFacts, cellOnly, and_true, true_and, Nat.zero_add, Nat.reduceAdd] at hF))) | (go_at_call 6; (with_reducible refine (H1.out _ hS.ext).mono ?_); rintro e wk ⟨rfl, hX⟩; replace hS := hS.step hX; clear hX; ((try clear hF); (first | have hF := And.intro hS.facts (hR.at hS.ext) | have hF := hS.facts); simp only [HFacts, cellFacts, RFacts, cellOnly, and_true, true_and, Nat.zero_add, Nat.reduceAdd] at hF)))
    go_ret
    exact ⟨rfl, hS.ext⟩
  | true => cases b2 with
    | false =>
      clear hb
      go_enter Tryz.func3, Tryz.ntmps3
      go_wp2_with (first | ((with_reducible first | refine nhLa ?_ | refine nhLs ?_ | refine nhLd ?_ | refine nhCa ?_ | refine nhCs ?_ | refine nhCd ?_ | refine nhPa ?_ | refine nhPs ?_ | refine nhPd ?_ | refine nhKa ?_ | refine nhKs ?_ | refine nhKd ?_); ((try clear hF); clear hS; intro wk hS; (try simp only [List.set_cons_zero, List.set_cons_succ, heap_size, heap_set_size] at hS); ((try clear hF); (first | have hF := And.intro hS.facts (hR.at hS.ext) | have hF := hS.facts); simp only [HFacts, cellFacts, RFacts, cellOnly, and_true, true_and, Nat.zero_add, Nat.reduceAdd] at hF))) | (go_at_call 6; (with_reducible refine (H1.out _ hS.ext).mono ?_); rintro e wk ⟨rfl, hX⟩; replace hS := hS.step hX; clear hX; ((try clear hF); (first | have hF := And.intro hS.facts (hR.at hS.ext) | have hF := hS.facts); simp only [HFacts, cellFacts, RFacts, cellOnly, and_true, true_and, Nat.zero_add, Nat.reduceAdd] at hF)) | (go_at_call 7; (with_reducible refine (H2.out _ hS.ext).mono ?_); rintro e wk ⟨rfl, hX⟩; replace hS := hS.step hX; clear hX; ((try clear hF); (first | have hF := And.intro hS.facts (hR.at hS.ext) | have hF := hS.facts); simp only [HFacts, cellFacts, RFacts, cellOnly, and_true, true_and, Nat.zero_add, Nat.reduceAdd] at hF)))
      go_ret
      exact ⟨rfl, hS.ext⟩
    | true =>
      have h20 : 2000 < s.size := by simpa using hb
      clear hb
      go_enter Tryz.func3, Tryz.ntmps3
      go_wp2_with (first | ((with_reducible first | refine nhLa ?_ | refine nhLs ?_ | refine nhLd ?_ | refine nhCa ?_ | refine nhCs ?_ | refine nhCd ?_ | refine nhPa ?_ | refine nhPs ?_ | refine nhPd ?_ | refine nhKa ?_ | refine nhKs ?_ | refine nhKd ?_); ((try clear hF); clear hS; intro wk hS; (try simp only [List.set_cons_zero, List.set_cons_succ, heap_size, heap_set_size] at hS); ((try clear hF); (first | have hF := And.intro hS.facts (hR.at hS.ext) | have hF := hS.facts); simp only [HFacts, cellFacts, RFacts, cellOnly, and_true, true_and, Nat.zero_add, Nat.reduceAdd] at hF))) | (go_at_call 6; (with_reducible refine (H1.out _ hS.ext).mono ?_); rintro e wk ⟨rfl, hX⟩; replace hS := hS.step hX; clear hX; ((try clear hF); (first | have hF := And.intro hS.facts (hR.at hS.ext) | have hF := hS.facts); simp only [HFacts, cellFacts, RFacts, cellOnly, and_true, true_and, Nat.zero_add, Nat.reduceAdd] at hF)) | (go_at_call 7; (with_reducible refine (H2.out _ hS.ext).mono ?_); rintro e wk ⟨rfl, hX⟩; replace hS := hS.step hX; clear hX; ((try clear hF); (first | have hF := And.intro hS.facts (hR.at hS.ext) | have hF := hS.facts); simp only [HFacts, cellFacts, RFacts, cellOnly, and_true, true_and, Nat.zero_add, Nat.reduceAdd] at hF)))
      go_ret
      exact ⟨rfl, hS.ext⟩
theorem fileback_any (cs : List CG) (rs : List (List GV)) (A A2 : Option Addr) (cap cap2 : Nat) (s : ByteArray) (cut : Int) (w : World) (hc : RC w A cs) (hr : RR w A2 rs) (hcap : cs.length ≤ cap) (hcap2 : rs.length ≤ cap2) (hcap3 : cap2 ≤ 140737488355328)
    (hi : ∀ c ∈ cs, i64 c.id) (hv : ∀ r ∈ rs, ∀ x ∈ r, i64 x.num) (hK : KeptAt w) (hE : ErrAt w) :
    Calls Tryz.prog 3 #[.slice A cs.length cap, .slice A2 rs.length cap2, .string s, .int .i64 cut] w fun e w' => e = .returned (.bool true) ∧ Ext w w' := by
  have H1 := Lib.hid (fun (W : World) (hx : Ext w W) => columns_any cs A cs.length cap W rfl (hc.ext hx))
  have H2 := Lib.hid (fun (W : World) (hx : Ext w W) => rows_any rs A2 rs.length cap2 W rfl (hr.ext hx))
  by_cases hb : (!shortCs cs || !shortRs rs || decide (2000 < s.size)) = true
  · exact back_long _ _ _ _ _ _ s cut w _ _ hb H1 H2
  simp only [Bool.or_eq_true, Bool.not_eq_true', decide_eq_true_eq, not_or, Bool.not_eq_false] at hb
  obtain ⟨⟨hb1, hb2⟩, hb3⟩ := hb
  rw [hb1] at H1
  rw [hb2] at H2
  have hl : cs.length ≤ 20 := by unfold shortCs at hb1; simp only [Bool.and_eq_true, decide_eq_true_eq] at hb1; exact hb1.1
  unfold shortRs at hb2
  simp only [Bool.and_eq_true, decide_eq_true_eq, List.all_eq_true] at hb2
  obtain ⟨hl2, hl3⟩ := hb2
  have hrl : ∀ r ∈ rs, r.length ≤ 20 := fun r hr => by
    have := hl3 r hr
    unfold shortR at this
    simp only [Bool.and_eq_true, decide_eq_true_eq] at this
    exact this.1
  have H3 := Lib.hid (fun (W : World) (hx : Ext w W) => filed_any W (hK.ext hx) (hE.ext hx))
  have HM0 := fun (W : World) (hx : Ext w W) => fmake_any cs rs A A2 cap cap2 W (hc.ext hx) (hr.ext hx) hcap hcap2 hcap3 (by omega) (by omega) (fun r h => by have := hrl r h; omega) hi hv (hK.ext hx) (hE.ext hx)
  by_cases hk : mkE cs rs = 0
  · obtain ⟨hok, hrow, _⟩ := make_ok hk hv
    have hlen := made_len hk hv
    have hgl : (makeF cs rs).groups.length = (rs.length + 5) / 6 := by unfold makeF; simp
    have hpos : 0 < (writeF (makeF cs rs)).length := by
      unfold writeF
      rw [List.length_append, List.length_append, List.length_append]
      have : 0 < (Go.Lib.uvarint (makeF cs rs).cols.length).length := by
        have := hok.r.c8
        rw [Lib.uvarint_small (by omega)]
        simp
      omega
    obtain ⟨ts, hts⟩ : ∃ ts : ByteArray, ts = ⟨(writeF (makeF cs rs)).toArray⟩ := ⟨_, rfl⟩
    have htl : ts.data.toList = writeF (makeF cs rs) := by rw [hts]
    have hsz : ts.size = (writeF (makeF cs rs)).length := by rw [hts]; rfl
    have hfine := fine_ok hok hlen
    have hsr : rowsF (stripF (makeF cs rs)) = rs.length := hrow
    have hall := all_made hk hv
    have HM := Lib.hid (fun (W : World) (hx : Ext w W) => make_some rfl rfl hk hgl (HM0 W hx))
    have HW1 := Lib.hid (fun (W : World) (v : Value) (h : RF W v (makeF cs rs)) => show Calls Tryz.prog 10 #[v] W (fun e w' => e = .returned (.tuple #[.string ts, .nilIface]) ∧ Ext W w') from by
      rw [hts]
      exact fwrite_ok h hok hlen)
    have HP1 := Lib.hid (fun W : World => pars_some (by omega) (show parseF ts.data.toList = some (stripF (makeF cs rs)) by rw [htl]; exact parse_enc hok) rfl (show (stripF (makeF cs rs)).groups.length = (rs.length + 5) / 6 from hgl) W)
    have HR1 := Lib.hid (fun (W : World) (v : Value) (h : RF W v (stripF (makeF cs rs))) => show Calls Tryz.prog 12 #[v] W (fun e w' => e = .returned (.int .i64 rs.length) ∧ Ext W w') from by
      have := frows_any _ v W h (by have := hok.n; show (makeF cs rs).groups.length ≤ _; omega)
      rw [hsr] at this
      exact this)
    have HA1 := Lib.hid (fun (W : World) (v : Value) (h : RF W v (makeF cs rs)) (hx : Ext w W) => show Calls Tryz.prog 13 #[v, .slice A cs.length cap] W (fun e w' => ∃ B cb, e = .returned (.tuple #[.slice B rs.length cb, .bool true]) ∧ Ext W w' ∧ Hid (RR w' B rs)) from by
      have := kall_any _ v cs A cap W h (hc.ext hx) hfine (by omega)
      rw [hall] at this
      exact this.mono fun e w' ⟨B, cb, e1, e2, e3⟩ => ⟨B, cb, e1, e2, Lib.hid e3⟩)
    have hfine2 : FFine (stripF (makeF cs rs)) := ⟨by unfold stripF; simpa using hfine.c, hfine.n, fun g hg => by
      have h1 : (stripF (makeF cs rs)).cols.length = (makeF cs rs).cols.length := by unfold stripF; simp
      rw [h1]
      exact hfine.g g hg⟩
    have HA2 := Lib.hid (fun (W : World) (v : Value) (h : RF W v (stripF (makeF cs rs))) (hx : Ext w W) => show Calls Tryz.prog 13 #[v, .slice A cs.length cap] W (fun e w' => ∃ B cb, e = .returned (.tuple #[.slice B rs.length cb, .bool true]) ∧ Ext W w' ∧ Hid (RR w' B rs)) from by
      have := kall_any _ v cs A cap W h (hc.ext hx) hfine2 (by omega)
      rw [show (stripF (makeF cs rs)).groups = (makeF cs rs).groups from rfl, allF_strip, hall] at this
      exact this.mono fun e w' ⟨B, cb, e1, e2, e3⟩ => ⟨B, cb, e1, e2, Lib.hid e3⟩)
    have HS := Lib.hid (fun (W : World) (B : Option Addr) (cb : Nat) (h : RR W B rs) (hx : Ext w W) => ksame_any rs B A2 cb cap2 W h (hr.ext hx) (by omega) (fun r h => by have := hrl r h; omega))
    have HC := Lib.hid (fun (W : World) (c : Nat) (hcc : c < ts.size) => pars_none (s := ts.extract 0 c) (by have := congrArg List.length (ext_take ts c); rw [List.length_take, size_cast, size_cast] at this; omega) (by rw [ext_take, htl]; exact parse_cut hok c (by omega)) W)
    cases hD : parseF s.data.toList with
    | none => exact back_good_none s _ _ _ _ _ _ A A2 cap cap2 cut w (by omega) hD cs rs _ _ ts hl2 rfl (by omega) H1 H2 H3 HM HW1 HP1 HR1 HA1 HA2 HS HC
    | some g0 => exact back_good_some s g0 _ _ _ _ _ _ A A2 cap cap2 cut w (by omega) hD cs rs _ _ ts hl2 rfl (by omega) H1 H2 H3 HM HW1 HP1 HR1 HA1 HA2 HS HC
  · have HM := Lib.hid (fun (W : World) (hx : Ext w W) => show Calls Tryz.prog 11 #[.slice A cs.length cap, .slice A2 rs.length cap2] W (fun e w' => ∃ er, e = .returned (.tuple #[.agg #[.slice none 0 0, .slice none 0 0], er]) ∧ IsErr w' er (mkE cs rs) ∧ Ext W w') from by
      refine (HM0 W hx).mono fun e w' h => ?_
      unfold MkRes at h
      rw [if_neg hk] at h
      exact h)
    cases hD : parseF s.data.toList with
    | none => exact back_bad_none s _ _ A A2 cap cap2 cut w (by omega) hD H1 H2 H3 _ HM
    | some g0 => exact back_bad_some s g0 _ _ A A2 cap cap2 cut w (by omega) hD H1 H2 H3 _ HM
end Go.Proofs.YtcpllhjhnfmepaaGreatDoor
