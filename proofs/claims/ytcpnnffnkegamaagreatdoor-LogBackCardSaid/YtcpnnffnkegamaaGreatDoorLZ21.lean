/- millpondkeep.LogBack: the walk. -/
import Derived.Test.YtcpnnffnkegamaaGreatDoorLZ20
import Derived.Test.YtcpnnffnkegamaaGreatDoorLZ18
import Derived.Test.YtcpnnffnkegamaaGreatDoorLZ05
namespace Go.Proofs.YtcpnnffnkegamaaGreatDoor
set_option linter.unusedSimpArgs false
set_option linter.unusedVariables false
open Go.RowKit
set_option linter.all false
/-- what Parse answers, as it is only read -/
def PaOk (s : ByteArray) (W : World) (e : Ending) (w' : World) : Prop := ∃ d : CM, e = .returned (.tuple #[.agg #[.string d.tx, .bool d.rd, .slice d.a d.n d.cap], .nilIface]) ∧ Ext W w' ∧ CmPr w' d ∧ printC d.tx d.rd d.l = some s ∧ parseP s = some (d.tx, d.rd, d.l)
def PaNo (W : World) (e : Ending) (w' : World) : Prop := e = .returned (.tuple #[.agg #[.string ⟨#[]⟩, .bool false, .slice none 0 0], .iface 66 (.int .i64 3)]) ∧ Ext W w'
theorem parse_ok (s : ByteArray) (hs : s.size ≤ 13600) (x : ByteArray × Bool × List AN) (h : parseP s = some x) (W : World) (ht : TabAt W) (hy : SynAt W) (hr : RngAt W) (hkp : KeptAt W) (hmx : MaxAt W) : Calls Tryz.prog 15 #[.string s] W (PaOk s W) := by
  refine (parse_any s hs W ht hy hr hkp hmx).mono fun e w' hp => ?_
  obtain ⟨tx, rd, al⟩ := x
  unfold PaRes at hp
  rw [h] at hp
  obtain ⟨l, A, cap, M, rfl, he, hM, hc, hl⟩ := hp
  obtain ⟨h1, h2⟩ := parseP_bounds h
  rw [List.length_map] at h1
  exact ⟨⟨tx, rd, l, A, l.length, cap⟩, he, hM.ext, ⟨hc _ _ _ hM, (show l.length ≤ 100000 by omega), (show tx.size ≤ 100000 by omega), fun a v hm => (hl a v hm).pr (by omega)⟩, parseP_print h, h⟩
theorem parse_no (s : ByteArray) (hs : s.size ≤ 13600) (h : parseP s = none) (W : World) (ht : TabAt W) (hy : SynAt W) (hr : RngAt W) (hkp : KeptAt W) (hmx : MaxAt W) : Calls Tryz.prog 15 #[.string s] W (PaNo W) := by
  refine (parse_any s hs W ht hy hr hkp hmx).mono fun e w' hp => ?_
  unfold PaRes at hp
  rw [h] at hp
  exact hp
set_option maxRecDepth 100000 in
set_option maxHeartbeats 8000000 in
theorem back_any (c : CM) (s : ByteArray) (cut : Int) (w : World) (hc : CmAt w c) (hi : CmJ c) (hk : KeptAt w) (ht : TabAt w) (hy : SynAt w) (hr : RngAt w) (hm : MaxAt w) :
    Calls Tryz.prog 5 #[cmV c, .string s, .int .i64 cut] w fun e w' => e = .returned (.bool true) ∧ Ext w w' := by
  have HA := Lib.hid (fun (W : World) hx => cm_short hc W hx)
  have HLG := Lib.hid (fun (W : World) (hx : Ext w W) => logged_any W (hk.ext hx) (ht.ext hx))
  have HOK := Lib.hid (fun (t : ByteArray) (hz : t.size ≤ 13600) (x : ByteArray × Bool × List AN) (h : parseP t = some x) (W : World) (hx : Ext w W) => parse_ok t hz x h W (ht.ext hx) (hy.ext hx) (hr.ext hx) (hk.ext hx) (hm.ext hx))
  have HNO := Lib.hid (fun (t : ByteArray) (hz : t.size ≤ 13600) (h : parseP t = none) (W : World) (hx : Ext w W) => parse_no t hz h W (ht.ext hx) (hy.ext hx) (hr.ext hx) (hk.ext hx) (hm.ext hx))
  have HCP := Lib.hid (fun (d : CM) (W : World) (hx : Ext w W) (hd : CmPr W d) => cprint_any d W hd (ht.ext hx) (hk.ext hx))
  have HAL := Lib.hid (fun (a b : CM) (t : ByteArray) (W : World) (hx : Ext w W) ha hb h1 h2 h3 h4 h5 => alike_any a b t W ha hb h1 h2 h3 h4 h5 (ht.ext hx) (hk.ext hx))
  have HC := Lib.hid hc
  have HI := Lib.hid hi
  clear hc hi hk ht hy hr hm
  obtain ⟨sb, hsb⟩ : ∃ x, shortCo c.tx c.l = x := ⟨_, rfl⟩
  rw [hsb] at HA
  unfold cmV coV at HA ⊢
  have hS := Hp.init w
  have hR := Reads.nil w
  cases sb with
  | false => as_aux_lemma =>
    clear HLG HOK HNO HCP HAL HC HI hsb
    go_enter Tryz.func5, Tryz.ntmps5
    go_wp2_with (first | ((with_reducible first | refine nhLa ?_ | refine nhLs ?_ | refine nhLd ?_ | refine nhCa ?_ | refine nhCs ?_ | refine nhCd ?_ | refine nhPa ?_ | refine nhPs ?_ | refine nhPd ?_ | refine nhKa ?_ | refine nhKs ?_ | refine nhKd ?_); ((try clear hF); clear hS; intro wk hS; (try simp only [List.set_cons_zero, List.set_cons_succ, heap_size, heap_set_size] at hS); ((try clear hF); (first | have hF := And.intro hS.facts (HRD.out _ (hS.sub (by first | simp | ((repeat (first | exact List.nil_sublist _ | exact List.Sublist.refl _ | with_reducible apply List.Sublist.cons₂ | apply List.Sublist.cons)))))) | have hF := And.intro hS.facts (hR.at hS.ext) | have hF := hS.facts); simp only [HFacts, cellFacts, RFacts, cellOnly, and_true, true_and, Nat.zero_add, Nat.reduceAdd] at hF))) | (go_at_call 8; (with_reducible refine (HA.out _ hS.ext).mono ?_); rintro e wk ⟨rfl, hX⟩; replace hS := hS.step hX; clear hX; ((try clear hF); (first | have hF := And.intro hS.facts (HRD.out _ (hS.sub (by first | simp | ((repeat (first | exact List.nil_sublist _ | exact List.Sublist.refl _ | with_reducible apply List.Sublist.cons₂ | apply List.Sublist.cons)))))) | have hF := And.intro hS.facts (hR.at hS.ext) | have hF := hS.facts); simp only [HFacts, cellFacts, RFacts, cellOnly, and_true, true_and, Nat.zero_add, Nat.reduceAdd] at hF)))
    go_ret
    exact ⟨rfl, hS.ext⟩
  | true =>
  by_cases hbig : 1200 < s.size
  · as_aux_lemma =>
    clear HLG HOK HNO HCP HAL HC HI hsb
    have hbig' : (1200 : Int) < s.size := by omega
    go_enter Tryz.func5, Tryz.ntmps5
    go_wp2_with (first | ((with_reducible first | refine nhLa ?_ | refine nhLs ?_ | refine nhLd ?_ | refine nhCa ?_ | refine nhCs ?_ | refine nhCd ?_ | refine nhPa ?_ | refine nhPs ?_ | refine nhPd ?_ | refine nhKa ?_ | refine nhKs ?_ | refine nhKd ?_); ((try clear hF); clear hS; intro wk hS; (try simp only [List.set_cons_zero, List.set_cons_succ, heap_size, heap_set_size] at hS); ((try clear hF); (first | have hF := And.intro hS.facts (HRD.out _ (hS.sub (by first | simp | ((repeat (first | exact List.nil_sublist _ | exact List.Sublist.refl _ | with_reducible apply List.Sublist.cons₂ | apply List.Sublist.cons)))))) | have hF := And.intro hS.facts (hR.at hS.ext) | have hF := hS.facts); simp only [HFacts, cellFacts, RFacts, cellOnly, and_true, true_and, Nat.zero_add, Nat.reduceAdd] at hF))) | (go_at_call 8; (with_reducible refine (HA.out _ hS.ext).mono ?_); rintro e wk ⟨rfl, hX⟩; replace hS := hS.step hX; clear hX; ((try clear hF); (first | have hF := And.intro hS.facts (HRD.out _ (hS.sub (by first | simp | ((repeat (first | exact List.nil_sublist _ | exact List.Sublist.refl _ | with_reducible apply List.Sublist.cons₂ | apply List.Sublist.cons)))))) | have hF := And.intro hS.facts (hR.at hS.ext) | have hF := hS.facts); simp only [HFacts, cellFacts, RFacts, cellOnly, and_true, true_and, Nat.zero_add, Nat.reduceAdd] at hF)))
    go_ret
    exact ⟨rfl, hS.ext⟩
  have hbig' : ¬ (1200 : Int) < s.size := by omega
  have HSB := Lib.hid hsb
  clear hsb
  go_enter Tryz.func5, Tryz.ntmps5
  go_upto_region 5 with (first | ((with_reducible first | refine nhLa ?_ | refine nhLs ?_ | refine nhLd ?_ | refine nhCa ?_ | refine nhCs ?_ | refine nhCd ?_ | refine nhPa ?_ | refine nhPs ?_ | refine nhPd ?_ | refine nhKa ?_ | refine nhKs ?_ | refine nhKd ?_); ((try clear hF); clear hS; intro wk hS; (try simp only [List.set_cons_zero, List.set_cons_succ, heap_size, heap_set_size] at hS); ((try clear hF); (first | have hF := And.intro hS.facts (HRD.out _ (hS.sub (by first | simp | ((repeat (first | exact List.nil_sublist _ | exact List.Sublist.refl _ | with_reducible apply List.Sublist.cons₂ | apply List.Sublist.cons)))))) | have hF := And.intro hS.facts (hR.at hS.ext) | have hF := hS.facts); simp only [HFacts, cellFacts, RFacts, cellOnly, and_true, true_and, Nat.zero_add, Nat.reduceAdd] at hF))) | (go_at_call 8; (with_reducible refine (HA.out _ hS.ext).mono ?_); rintro e wk ⟨rfl, hX⟩; replace hS := hS.step hX; clear hX; ((try clear hF); (first | have hF := And.intro hS.facts (HRD.out _ (hS.sub (by first | simp | ((repeat (first | exact List.nil_sublist _ | exact List.Sublist.refl _ | with_reducible apply List.Sublist.cons₂ | apply List.Sublist.cons)))))) | have hF := And.intro hS.facts (hR.at hS.ext) | have hF := hS.facts); simp only [HFacts, cellFacts, RFacts, cellOnly, and_true, true_and, Nat.zero_add, Nat.reduceAdd] at hF)) | (go_at_call 6; (with_reducible refine (HLG.out _ hS.ext).mono ?_); rintro e wk ⟨rfl, hX⟩; replace hS := hS.step hX; clear hX; ((try clear hF); (first | have hF := And.intro hS.facts (HRD.out _ (hS.sub (by first | simp | ((repeat (first | exact List.nil_sublist _ | exact List.Sublist.refl _ | with_reducible apply List.Sublist.cons₂ | apply List.Sublist.cons)))))) | have hF := And.intro hS.facts (hR.at hS.ext) | have hF := hS.facts); simp only [HFacts, cellFacts, RFacts, cellOnly, and_true, true_and, Nat.zero_add, Nat.reduceAdd] at hF)))
  clear HA HLG
  have HX := Lib.hid (Ext.refl w)
  have hsz : s.size ≤ 13600 := by omega
  obtain ⟨P, hP⟩ : ∃ P, parseP s = P := ⟨_, rfl⟩
  cases P with
  | none =>
    have HP1 := Lib.hid (HNO.out s hsz hP)
    clear hP
    go_upto_region 10 with (first | ((with_reducible first | refine nhLa ?_ | refine nhLs ?_ | refine nhLd ?_ | refine nhCa ?_ | refine nhCs ?_ | refine nhCd ?_ | refine nhPa ?_ | refine nhPs ?_ | refine nhPd ?_ | refine nhKa ?_ | refine nhKs ?_ | refine nhKd ?_); ((try clear hF); clear hS; intro wk hS; (try simp only [List.set_cons_zero, List.set_cons_succ, heap_size, heap_set_size] at hS); ((try clear hF); (first | have hF := And.intro hS.facts (HRD.out _ (hS.sub (by first | simp | ((repeat (first | exact List.nil_sublist _ | exact List.Sublist.refl _ | with_reducible apply List.Sublist.cons₂ | apply List.Sublist.cons)))))) | have hF := And.intro hS.facts (hR.at hS.ext) | have hF := hS.facts); simp only [HFacts, cellFacts, RFacts, cellOnly, and_true, true_and, Nat.zero_add, Nat.reduceAdd] at hF))) | (go_at_call 15; (with_reducible refine Calls.mono (HP1.out _ (HX.out.trans hS.ext)) ?_); rintro e wk ⟨rfl, hX⟩; have hX2 := hS.ext.trans hX; replace hS := hS.step hX; clear hX; have hRn := Reads.blk (hS.blkAt 0 rfl) (Reads.nil wk); replace HX := Lib.hid (HX.out.trans hX2); skip; clear hX2 hS hR; (try clear hF); have hS := Hp.init wk; have hR := hRn; clear hRn; ((try clear hF); (first | have hF := And.intro hS.facts (HRD.out _ (hS.sub (by first | simp | ((repeat (first | exact List.nil_sublist _ | exact List.Sublist.refl _ | with_reducible apply List.Sublist.cons₂ | apply List.Sublist.cons)))))) | have hF := And.intro hS.facts (hR.at hS.ext) | have hF := hS.facts); simp only [HFacts, cellFacts, RFacts, cellOnly, and_true, true_and, Nat.zero_add, Nat.reduceAdd] at hF)))
    clear HP1
    obtain ⟨D, hD⟩ : ∃ D, printC c.tx c.rd c.l = D := ⟨_, rfl⟩
    have HD := Lib.hid hD
    clear hD
    have PC := Lib.hid (fun (W : World) (hx : Ext _ W) => show Calls Tryz.prog 16 #[.agg #[.string c.tx, .bool c.rd, .slice c.a c.n c.cap]] W fun e w' => PrRes D e ∧ Ext W w' from by
      have := HCP.out c W (HX.out.trans hx) ((short_pr HC.out HI.out HSB.out).ext (HX.out.trans hx))
      rw [HD.out] at this
      exact this)
    cases D with
    | none => as_aux_lemma =>
      clear HOK HNO HCP HAL HC HI HSB HD
      ((try clear hF); (first | have hF := And.intro hS.facts (HRD.out _ (hS.sub (by first | simp | ((repeat (first | exact List.nil_sublist _ | exact List.Sublist.refl _ | with_reducible apply List.Sublist.cons₂ | apply List.Sublist.cons)))))) | have hF := And.intro hS.facts (hR.at hS.ext) | have hF := hS.facts); simp only [HFacts, cellFacts, RFacts, cellOnly, and_true, true_and, Nat.zero_add, Nat.reduceAdd] at hF)
      go_wp2_with (first | ((with_reducible first | refine nhLa ?_ | refine nhLs ?_ | refine nhLd ?_ | refine nhCa ?_ | refine nhCs ?_ | refine nhCd ?_ | refine nhPa ?_ | refine nhPs ?_ | refine nhPd ?_ | refine nhKa ?_ | refine nhKs ?_ | refine nhKd ?_); ((try clear hF); clear hS; intro wk hS; (try simp only [List.set_cons_zero, List.set_cons_succ, heap_size, heap_set_size] at hS); ((try clear hF); (first | have hF := And.intro hS.facts (HRD.out _ (hS.sub (by first | simp | ((repeat (first | exact List.nil_sublist _ | exact List.Sublist.refl _ | with_reducible apply List.Sublist.cons₂ | apply List.Sublist.cons)))))) | have hF := And.intro hS.facts (hR.at hS.ext) | have hF := hS.facts); simp only [HFacts, cellFacts, RFacts, cellOnly, and_true, true_and, Nat.zero_add, Nat.reduceAdd] at hF))) | (go_at_call 16; (with_reducible refine (PC.out _ hS.ext).mono ?_); rintro e wk ⟨rfl, hX⟩; replace hS := hS.step hX; clear hX; ((try clear hF); (first | have hF := And.intro hS.facts (HRD.out _ (hS.sub (by first | simp | ((repeat (first | exact List.nil_sublist _ | exact List.Sublist.refl _ | with_reducible apply List.Sublist.cons₂ | apply List.Sublist.cons)))))) | have hF := And.intro hS.facts (hR.at hS.ext) | have hF := hS.facts); simp only [HFacts, cellFacts, RFacts, cellOnly, and_true, true_and, Nat.zero_add, Nat.reduceAdd] at hF)))
      go_ret
      exact ⟨rfl, HX.out.trans hS.ext⟩
    | some t =>
      have HTZ := Lib.hid (print_size HD.out HSB.out (fun a ha => by
        obtain ⟨⟨a', v⟩, hm, rfl⟩ := List.mem_map.1 ha
        obtain ⟨_, h2, _, h4⟩ := HI.out a' v hm
        exact ⟨h4, h2⟩))
      have HPP := Lib.hid (parse_print HD.out (fun a ha => by
        obtain ⟨⟨a', v⟩, hm, rfl⟩ := List.mem_map.1 ha
        obtain ⟨_, h2, _, h4⟩ := HI.out a' v hm
        exact ⟨h4, fun x hx => (h2 x hx).2.2⟩))
      have HPT := Lib.hid (HOK.out t HTZ.out.1 _ HPP.out)
      ((try clear hF); (first | have hF := And.intro hS.facts (HRD.out _ (hS.sub (by first | simp | ((repeat (first | exact List.nil_sublist _ | exact List.Sublist.refl _ | with_reducible apply List.Sublist.cons₂ | apply List.Sublist.cons)))))) | have hF := And.intro hS.facts (hR.at hS.ext) | have hF := hS.facts); simp only [HFacts, cellFacts, RFacts, cellOnly, and_true, true_and, Nat.zero_add, Nat.reduceAdd] at hF)
      go_upto_region 13 with (first | ((with_reducible first | refine nhLa ?_ | refine nhLs ?_ | refine nhLd ?_ | refine nhCa ?_ | refine nhCs ?_ | refine nhCd ?_ | refine nhPa ?_ | refine nhPs ?_ | refine nhPd ?_ | refine nhKa ?_ | refine nhKs ?_ | refine nhKd ?_); ((try clear hF); clear hS; intro wk hS; (try simp only [List.set_cons_zero, List.set_cons_succ, heap_size, heap_set_size] at hS); ((try clear hF); (first | have hF := And.intro hS.facts (HRD.out _ (hS.sub (by first | simp | ((repeat (first | exact List.nil_sublist _ | exact List.Sublist.refl _ | with_reducible apply List.Sublist.cons₂ | apply List.Sublist.cons)))))) | have hF := And.intro hS.facts (hR.at hS.ext) | have hF := hS.facts); simp only [HFacts, cellFacts, RFacts, cellOnly, and_true, true_and, Nat.zero_add, Nat.reduceAdd] at hF))) | (go_at_call 16; (with_reducible refine (PC.out _ hS.ext).mono ?_); rintro e wk ⟨rfl, hX⟩; replace hS := hS.step hX; clear hX; ((try clear hF); (first | have hF := And.intro hS.facts (HRD.out _ (hS.sub (by first | simp | ((repeat (first | exact List.nil_sublist _ | exact List.Sublist.refl _ | with_reducible apply List.Sublist.cons₂ | apply List.Sublist.cons)))))) | have hF := And.intro hS.facts (hR.at hS.ext) | have hF := hS.facts); simp only [HFacts, cellFacts, RFacts, cellOnly, and_true, true_and, Nat.zero_add, Nat.reduceAdd] at hF)))
      clear PC
      go_upto_region 14 with (first | ((with_reducible first | refine nhLa ?_ | refine nhLs ?_ | refine nhLd ?_ | refine nhCa ?_ | refine nhCs ?_ | refine nhCd ?_ | refine nhPa ?_ | refine nhPs ?_ | refine nhPd ?_ | refine nhKa ?_ | refine nhKs ?_ | refine nhKd ?_); ((try clear hF); clear hS; intro wk hS; (try simp only [List.set_cons_zero, List.set_cons_succ, heap_size, heap_set_size] at hS); ((try clear hF); (first | have hF := And.intro hS.facts (HRD.out _ (hS.sub (by first | simp | ((repeat (first | exact List.nil_sublist _ | exact List.Sublist.refl _ | with_reducible apply List.Sublist.cons₂ | apply List.Sublist.cons)))))) | have hF := And.intro hS.facts (hR.at hS.ext) | have hF := hS.facts); simp only [HFacts, cellFacts, RFacts, cellOnly, and_true, true_and, Nat.zero_add, Nat.reduceAdd] at hF))) | (go_at_call 15; (with_reducible refine Calls.mono (HPT.out _ (HX.out.trans hS.ext)) ?_); rintro e wk ⟨d2, rfl, hX, hd2, hpd2, hpp2⟩; have CD2 := Lib.hid hd2; have hX2 := hS.ext.trans hX; replace hS := hS.step hX; clear hX; have hRn := hR.ext hX2; replace HX := Lib.hid (HX.out.trans hX2); skip; clear hX2 hS hR; (try clear hF); have hS := Hp.init wk; have hR := hRn; clear hRn; ((try clear hF); (first | have hF := And.intro hS.facts (HRD.out _ (hS.sub (by first | simp | ((repeat (first | exact List.nil_sublist _ | exact List.Sublist.refl _ | with_reducible apply List.Sublist.cons₂ | apply List.Sublist.cons)))))) | have hF := And.intro hS.facts (hR.at hS.ext) | have hF := hS.facts); simp only [HFacts, cellFacts, RFacts, cellOnly, and_true, true_and, Nat.zero_add, Nat.reduceAdd] at hF)))
      have HAK := Lib.hid (fun (W : World) (hx : Ext _ W) => show Calls Tryz.prog 17 #[.agg #[.string c.tx, .bool c.rd, .slice c.a c.n c.cap], .agg #[.string d2.tx, .bool d2.rd, .slice d2.a d2.n d2.cap]] W fun e w' => e = .returned (.bool true) ∧ Ext W w' from by
        have h1 := hpp2
        rw [HPP.out] at h1
        obtain ⟨e1, e2, e3⟩ : c.tx = d2.tx ∧ c.rd = d2.rd ∧ c.l = d2.l := by simpa using Option.some.inj h1
        have e4 : c.n = d2.n := by
          have h2 := congrArg List.length e3
          unfold CM.l at h2
          rw [List.length_map, List.length_map, HC.out.len] at h2
          exact h2.trans hd2.1.len
        exact HAL.out c d2 t W (HX.out.trans hx) ((short_pr HC.out HI.out HSB.out).ext (HX.out.trans hx)) (CD2.out.ext hx) HD.out hpd2 e1 e2 e4)
      clear hd2 hpd2 hpp2
      have HPK := Lib.hid (fun (W : World) => pick_any cut t.size W (by have := HTZ.out.2; omega) (by have := HTZ.out.1; omega))
      have htz := HTZ.out.1
      clear HCP HAL HC HI HSB HD HPP HPT CD2 HTZ
      ((try clear hF); (first | have hF := And.intro hS.facts (HRD.out _ (hS.sub (by first | simp | ((repeat (first | exact List.nil_sublist _ | exact List.Sublist.refl _ | with_reducible apply List.Sublist.cons₂ | apply List.Sublist.cons)))))) | have hF := And.intro hS.facts (hR.at hS.ext) | have hF := hS.facts); simp only [HFacts, cellFacts, RFacts, cellOnly, and_true, true_and, Nat.zero_add, Nat.reduceAdd] at hF)
      go_upto_region 16 with (first | ((with_reducible first | refine nhLa ?_ | refine nhLs ?_ | refine nhLd ?_ | refine nhCa ?_ | refine nhCs ?_ | refine nhCd ?_ | refine nhPa ?_ | refine nhPs ?_ | refine nhPd ?_ | refine nhKa ?_ | refine nhKs ?_ | refine nhKd ?_); ((try clear hF); clear hS; intro wk hS; (try simp only [List.set_cons_zero, List.set_cons_succ, heap_size, heap_set_size] at hS); ((try clear hF); (first | have hF := And.intro hS.facts (HRD.out _ (hS.sub (by first | simp | ((repeat (first | exact List.nil_sublist _ | exact List.Sublist.refl _ | with_reducible apply List.Sublist.cons₂ | apply List.Sublist.cons)))))) | have hF := And.intro hS.facts (hR.at hS.ext) | have hF := hS.facts); simp only [HFacts, cellFacts, RFacts, cellOnly, and_true, true_and, Nat.zero_add, Nat.reduceAdd] at hF))) | (go_at_call 17; (with_reducible refine (HAK.out _ hS.ext).mono ?_); rintro e wk ⟨rfl, hX⟩; replace hS := hS.step hX; clear hX; ((try clear hF); (first | have hF := And.intro hS.facts (HRD.out _ (hS.sub (by first | simp | ((repeat (first | exact List.nil_sublist _ | exact List.Sublist.refl _ | with_reducible apply List.Sublist.cons₂ | apply List.Sublist.cons)))))) | have hF := And.intro hS.facts (hR.at hS.ext) | have hF := hS.facts); simp only [HFacts, cellFacts, RFacts, cellOnly, and_true, true_and, Nat.zero_add, Nat.reduceAdd] at hF)))
      clear HAK
      go_upto_region 17 with (first | ((with_reducible first | refine nhLa ?_ | refine nhLs ?_ | refine nhLd ?_ | refine nhCa ?_ | refine nhCs ?_ | refine nhCd ?_ | refine nhPa ?_ | refine nhPs ?_ | refine nhPd ?_ | refine nhKa ?_ | refine nhKs ?_ | refine nhKd ?_); ((try clear hF); clear hS; intro wk hS; (try simp only [List.set_cons_zero, List.set_cons_succ, heap_size, heap_set_size] at hS); ((try clear hF); (first | have hF := And.intro hS.facts (HRD.out _ (hS.sub (by first | simp | ((repeat (first | exact List.nil_sublist _ | exact List.Sublist.refl _ | with_reducible apply List.Sublist.cons₂ | apply List.Sublist.cons)))))) | have hF := And.intro hS.facts (hR.at hS.ext) | have hF := hS.facts); simp only [HFacts, cellFacts, RFacts, cellOnly, and_true, true_and, Nat.zero_add, Nat.reduceAdd] at hF))) | fail)
      with_reducible refine Calls.mono (HPK.out _) ?_
      rintro e wk ⟨⟨m, rfl, hm0, hm1⟩, hX⟩
      replace hS := hS.step hX
      clear hX
      obtain ⟨k, rfl⟩ := Int.eq_ofNat_of_zero_le hm0
      have hk : k ≤ t.size := by omega
      ((try clear hF); (first | have hF := And.intro hS.facts (HRD.out _ (hS.sub (by first | simp | ((repeat (first | exact List.nil_sublist _ | exact List.Sublist.refl _ | with_reducible apply List.Sublist.cons₂ | apply List.Sublist.cons)))))) | have hF := And.intro hS.facts (hR.at hS.ext) | have hF := hS.facts); simp only [HFacts, cellFacts, RFacts, cellOnly, and_true, true_and, Nat.zero_add, Nat.reduceAdd] at hF)
      go_simp
      go_upto_region 17 with (first | ((with_reducible first | refine nhLa ?_ | refine nhLs ?_ | refine nhLd ?_ | refine nhCa ?_ | refine nhCs ?_ | refine nhCd ?_ | refine nhPa ?_ | refine nhPs ?_ | refine nhPd ?_ | refine nhKa ?_ | refine nhKs ?_ | refine nhKd ?_); ((try clear hF); clear hS; intro wk hS; (try simp only [List.set_cons_zero, List.set_cons_succ, heap_size, heap_set_size] at hS); ((try clear hF); (first | have hF := And.intro hS.facts (HRD.out _ (hS.sub (by first | simp | ((repeat (first | exact List.nil_sublist _ | exact List.Sublist.refl _ | with_reducible apply List.Sublist.cons₂ | apply List.Sublist.cons)))))) | have hF := And.intro hS.facts (hR.at hS.ext) | have hF := hS.facts); simp only [HFacts, cellFacts, RFacts, cellOnly, and_true, true_and, Nat.zero_add, Nat.reduceAdd] at hF))) | fail)
      obtain ⟨T, hT⟩ : ∃ T, t.extract 0 k = T := ⟨_, rfl⟩
      have hTz : T.size ≤ 13600 := by rw [← hT, ByteArray.size_extract]; omega
      rw [hT]
      clear hT hk hm1
      obtain ⟨P2, hP2⟩ : ∃ P, parseP T = P := ⟨_, rfl⟩
      cases P2 with
      | none => as_aux_lemma =>
        have HP2 := Lib.hid (HNO.out T hTz hP2)
        clear hP2 HOK HNO
        ((try clear hF); (first | have hF := And.intro hS.facts (HRD.out _ (hS.sub (by first | simp | ((repeat (first | exact List.nil_sublist _ | exact List.Sublist.refl _ | with_reducible apply List.Sublist.cons₂ | apply List.Sublist.cons)))))) | have hF := And.intro hS.facts (hR.at hS.ext) | have hF := hS.facts); simp only [HFacts, cellFacts, RFacts, cellOnly, and_true, true_and, Nat.zero_add, Nat.reduceAdd] at hF)
        go_wp2_with (first | ((with_reducible first | refine nhLa ?_ | refine nhLs ?_ | refine nhLd ?_ | refine nhCa ?_ | refine nhCs ?_ | refine nhCd ?_ | refine nhPa ?_ | refine nhPs ?_ | refine nhPd ?_ | refine nhKa ?_ | refine nhKs ?_ | refine nhKd ?_); ((try clear hF); clear hS; intro wk hS; (try simp only [List.set_cons_zero, List.set_cons_succ, heap_size, heap_set_size] at hS); ((try clear hF); (first | have hF := And.intro hS.facts (HRD.out _ (hS.sub (by first | simp | ((repeat (first | exact List.nil_sublist _ | exact List.Sublist.refl _ | with_reducible apply List.Sublist.cons₂ | apply List.Sublist.cons)))))) | have hF := And.intro hS.facts (hR.at hS.ext) | have hF := hS.facts); simp only [HFacts, cellFacts, RFacts, cellOnly, and_true, true_and, Nat.zero_add, Nat.reduceAdd] at hF))) | (go_at_call 15; (with_reducible refine Calls.mono (HP2.out _ (HX.out.trans hS.ext)) ?_); rintro e wk ⟨rfl, hX⟩; replace hS := hS.step hX; clear hX; ((try clear hF); (first | have hF := And.intro hS.facts (HRD.out _ (hS.sub (by first | simp | ((repeat (first | exact List.nil_sublist _ | exact List.Sublist.refl _ | with_reducible apply List.Sublist.cons₂ | apply List.Sublist.cons)))))) | have hF := And.intro hS.facts (hR.at hS.ext) | have hF := hS.facts); simp only [HFacts, cellFacts, RFacts, cellOnly, and_true, true_and, Nat.zero_add, Nat.reduceAdd] at hF)))
        go_ret
        exact ⟨rfl, HX.out.trans hS.ext⟩
      | some x2 => as_aux_lemma =>
        have HP2 := Lib.hid (HOK.out T hTz x2 hP2)
        have HSF := Lib.hid (fun (W : World) => show Calls Tryz.prog 19 #[.string T, .string ⟨#[10]⟩] W fun e w' => e = .returned (.bool true) ∧ Ext W w' from by
          refine (Tryz.strings_HasSuffix T nlS W (by omega)).mono ?_
          rintro e w' ⟨rfl, rfl⟩
          exact ⟨by rw [show Lib.hasSuffix T.data.toList nlS.data.toList = true from (parseP_parts (tx := x2.1) (rd := x2.2.1) (al := x2.2.2) hP2).1], Ext.refl _⟩)
        clear hP2 HOK HNO
        ((try clear hF); (first | have hF := And.intro hS.facts (HRD.out _ (hS.sub (by first | simp | ((repeat (first | exact List.nil_sublist _ | exact List.Sublist.refl _ | with_reducible apply List.Sublist.cons₂ | apply List.Sublist.cons)))))) | have hF := And.intro hS.facts (hR.at hS.ext) | have hF := hS.facts); simp only [HFacts, cellFacts, RFacts, cellOnly, and_true, true_and, Nat.zero_add, Nat.reduceAdd] at hF)
        go_wp2_with (first | ((with_reducible first | refine nhLa ?_ | refine nhLs ?_ | refine nhLd ?_ | refine nhCa ?_ | refine nhCs ?_ | refine nhCd ?_ | refine nhPa ?_ | refine nhPs ?_ | refine nhPd ?_ | refine nhKa ?_ | refine nhKs ?_ | refine nhKd ?_); ((try clear hF); clear hS; intro wk hS; (try simp only [List.set_cons_zero, List.set_cons_succ, heap_size, heap_set_size] at hS); ((try clear hF); (first | have hF := And.intro hS.facts (HRD.out _ (hS.sub (by first | simp | ((repeat (first | exact List.nil_sublist _ | exact List.Sublist.refl _ | with_reducible apply List.Sublist.cons₂ | apply List.Sublist.cons)))))) | have hF := And.intro hS.facts (hR.at hS.ext) | have hF := hS.facts); simp only [HFacts, cellFacts, RFacts, cellOnly, and_true, true_and, Nat.zero_add, Nat.reduceAdd] at hF))) | (go_at_call 15; (with_reducible refine Calls.mono (HP2.out _ (HX.out.trans hS.ext)) ?_); rintro e wk ⟨d3, rfl, hX, _, _, _⟩; replace hS := hS.step hX; clear hX; ((try clear hF); (first | have hF := And.intro hS.facts (HRD.out _ (hS.sub (by first | simp | ((repeat (first | exact List.nil_sublist _ | exact List.Sublist.refl _ | with_reducible apply List.Sublist.cons₂ | apply List.Sublist.cons)))))) | have hF := And.intro hS.facts (hR.at hS.ext) | have hF := hS.facts); simp only [HFacts, cellFacts, RFacts, cellOnly, and_true, true_and, Nat.zero_add, Nat.reduceAdd] at hF)) | (go_at_call 19; (with_reducible refine (HSF.out _).mono ?_); rintro e wk ⟨rfl, hX⟩; replace hS := hS.step hX; clear hX; ((try clear hF); (first | have hF := And.intro hS.facts (HRD.out _ (hS.sub (by first | simp | ((repeat (first | exact List.nil_sublist _ | exact List.Sublist.refl _ | with_reducible apply List.Sublist.cons₂ | apply List.Sublist.cons)))))) | have hF := And.intro hS.facts (hR.at hS.ext) | have hF := hS.facts); simp only [HFacts, cellFacts, RFacts, cellOnly, and_true, true_and, Nat.zero_add, Nat.reduceAdd] at hF)))
        go_ret
        exact ⟨rfl, HX.out.trans hS.ext⟩
  | some x =>
    have HP1 := Lib.hid (HOK.out s hsz x hP)
    clear hP
    go_upto_region 6 with (first | ((with_reducible first | refine nhLa ?_ | refine nhLs ?_ | refine nhLd ?_ | refine nhCa ?_ | refine nhCs ?_ | refine nhCd ?_ | refine nhPa ?_ | refine nhPs ?_ | refine nhPd ?_ | refine nhKa ?_ | refine nhKs ?_ | refine nhKd ?_); ((try clear hF); clear hS; intro wk hS; (try simp only [List.set_cons_zero, List.set_cons_succ, heap_size, heap_set_size] at hS); ((try clear hF); (first | have hF := And.intro hS.facts (HRD.out _ (hS.sub (by first | simp | ((repeat (first | exact List.nil_sublist _ | exact List.Sublist.refl _ | with_reducible apply List.Sublist.cons₂ | apply List.Sublist.cons)))))) | have hF := And.intro hS.facts (hR.at hS.ext) | have hF := hS.facts); simp only [HFacts, cellFacts, RFacts, cellOnly, and_true, true_and, Nat.zero_add, Nat.reduceAdd] at hF))) | (go_at_call 15; (with_reducible refine Calls.mono (HP1.out _ (HX.out.trans hS.ext)) ?_); rintro e wk ⟨d, rfl, hX, hd, hpd, _⟩; have CD := Lib.hid hd; have hX2 := hS.ext.trans hX; replace hS := hS.step hX; clear hX; have hRn := Reads.blk (hS.blkAt 0 rfl) (Reads.nil wk); replace HX := Lib.hid (HX.out.trans hX2); skip; clear hX2 hS hR; (try clear hF); have hS := Hp.init wk; have hR := hRn; clear hRn; ((try clear hF); (first | have hF := And.intro hS.facts (HRD.out _ (hS.sub (by first | simp | ((repeat (first | exact List.nil_sublist _ | exact List.Sublist.refl _ | with_reducible apply List.Sublist.cons₂ | apply List.Sublist.cons)))))) | have hF := And.intro hS.facts (hR.at hS.ext) | have hF := hS.facts); simp only [HFacts, cellFacts, RFacts, cellOnly, and_true, true_and, Nat.zero_add, Nat.reduceAdd] at hF)))
    have PD := Lib.hid (fun (W : World) (hx : Ext _ W) => show Calls Tryz.prog 16 #[.agg #[.string d.tx, .bool d.rd, .slice d.a d.n d.cap]] W fun e w' => e = .returned (.tuple #[.string s, .nilIface]) ∧ Ext W w' from by
      have := HCP.out d W (HX.out.trans hx) (CD.out.ext hx)
      rw [hpd] at this
      exact this)
    clear HP1 hd hpd
    ((try clear hF); (first | have hF := And.intro hS.facts (HRD.out _ (hS.sub (by first | simp | ((repeat (first | exact List.nil_sublist _ | exact List.Sublist.refl _ | with_reducible apply List.Sublist.cons₂ | apply List.Sublist.cons)))))) | have hF := And.intro hS.facts (hR.at hS.ext) | have hF := hS.facts); simp only [HFacts, cellFacts, RFacts, cellOnly, and_true, true_and, Nat.zero_add, Nat.reduceAdd] at hF)
    go_upto_region 10 with (first | ((with_reducible first | refine nhLa ?_ | refine nhLs ?_ | refine nhLd ?_ | refine nhCa ?_ | refine nhCs ?_ | refine nhCd ?_ | refine nhPa ?_ | refine nhPs ?_ | refine nhPd ?_ | refine nhKa ?_ | refine nhKs ?_ | refine nhKd ?_); ((try clear hF); clear hS; intro wk hS; (try simp only [List.set_cons_zero, List.set_cons_succ, heap_size, heap_set_size] at hS); ((try clear hF); (first | have hF := And.intro hS.facts (HRD.out _ (hS.sub (by first | simp | ((repeat (first | exact List.nil_sublist _ | exact List.Sublist.refl _ | with_reducible apply List.Sublist.cons₂ | apply List.Sublist.cons)))))) | have hF := And.intro hS.facts (hR.at hS.ext) | have hF := hS.facts); simp only [HFacts, cellFacts, RFacts, cellOnly, and_true, true_and, Nat.zero_add, Nat.reduceAdd] at hF))) | (go_at_call 16; (with_reducible refine (PD.out _ hS.ext).mono ?_); rintro e wk ⟨rfl, hX⟩; replace hS := hS.step hX; clear hX; ((try clear hF); (first | have hF := And.intro hS.facts (HRD.out _ (hS.sub (by first | simp | ((repeat (first | exact List.nil_sublist _ | exact List.Sublist.refl _ | with_reducible apply List.Sublist.cons₂ | apply List.Sublist.cons)))))) | have hF := And.intro hS.facts (hR.at hS.ext) | have hF := hS.facts); simp only [HFacts, cellFacts, RFacts, cellOnly, and_true, true_and, Nat.zero_add, Nat.reduceAdd] at hF)))
    clear PD CD
    obtain ⟨D, hD⟩ : ∃ D, printC c.tx c.rd c.l = D := ⟨_, rfl⟩
    have HD := Lib.hid hD
    clear hD
    have PC := Lib.hid (fun (W : World) (hx : Ext _ W) => show Calls Tryz.prog 16 #[.agg #[.string c.tx, .bool c.rd, .slice c.a c.n c.cap]] W fun e w' => PrRes D e ∧ Ext W w' from by
      have := HCP.out c W (HX.out.trans hx) ((short_pr HC.out HI.out HSB.out).ext (HX.out.trans hx))
      rw [HD.out] at this
      exact this)
    cases D with
    | none => as_aux_lemma =>
      clear HOK HNO HCP HAL HC HI HSB HD
      ((try clear hF); (first | have hF := And.intro hS.facts (HRD.out _ (hS.sub (by first | simp | ((repeat (first | exact List.nil_sublist _ | exact List.Sublist.refl _ | with_reducible apply List.Sublist.cons₂ | apply List.Sublist.cons)))))) | have hF := And.intro hS.facts (hR.at hS.ext) | have hF := hS.facts); simp only [HFacts, cellFacts, RFacts, cellOnly, and_true, true_and, Nat.zero_add, Nat.reduceAdd] at hF)
      go_wp2_with (first | ((with_reducible first | refine nhLa ?_ | refine nhLs ?_ | refine nhLd ?_ | refine nhCa ?_ | refine nhCs ?_ | refine nhCd ?_ | refine nhPa ?_ | refine nhPs ?_ | refine nhPd ?_ | refine nhKa ?_ | refine nhKs ?_ | refine nhKd ?_); ((try clear hF); clear hS; intro wk hS; (try simp only [List.set_cons_zero, List.set_cons_succ, heap_size, heap_set_size] at hS); ((try clear hF); (first | have hF := And.intro hS.facts (HRD.out _ (hS.sub (by first | simp | ((repeat (first | exact List.nil_sublist _ | exact List.Sublist.refl _ | with_reducible apply List.Sublist.cons₂ | apply List.Sublist.cons)))))) | have hF := And.intro hS.facts (hR.at hS.ext) | have hF := hS.facts); simp only [HFacts, cellFacts, RFacts, cellOnly, and_true, true_and, Nat.zero_add, Nat.reduceAdd] at hF))) | (go_at_call 16; (with_reducible refine (PC.out _ hS.ext).mono ?_); rintro e wk ⟨rfl, hX⟩; replace hS := hS.step hX; clear hX; ((try clear hF); (first | have hF := And.intro hS.facts (HRD.out _ (hS.sub (by first | simp | ((repeat (first | exact List.nil_sublist _ | exact List.Sublist.refl _ | with_reducible apply List.Sublist.cons₂ | apply List.Sublist.cons)))))) | have hF := And.intro hS.facts (hR.at hS.ext) | have hF := hS.facts); simp only [HFacts, cellFacts, RFacts, cellOnly, and_true, true_and, Nat.zero_add, Nat.reduceAdd] at hF)))
      go_ret
      exact ⟨rfl, HX.out.trans hS.ext⟩
    | some t =>
      have HTZ := Lib.hid (print_size HD.out HSB.out (fun a ha => by
        obtain ⟨⟨a', v⟩, hm, rfl⟩ := List.mem_map.1 ha
        obtain ⟨_, h2, _, h4⟩ := HI.out a' v hm
        exact ⟨h4, h2⟩))
      have HPP := Lib.hid (parse_print HD.out (fun a ha => by
        obtain ⟨⟨a', v⟩, hm, rfl⟩ := List.mem_map.1 ha
        obtain ⟨_, h2, _, h4⟩ := HI.out a' v hm
        exact ⟨h4, fun x hx => (h2 x hx).2.2⟩))
      have HPT := Lib.hid (HOK.out t HTZ.out.1 _ HPP.out)
      ((try clear hF); (first | have hF := And.intro hS.facts (HRD.out _ (hS.sub (by first | simp | ((repeat (first | exact List.nil_sublist _ | exact List.Sublist.refl _ | with_reducible apply List.Sublist.cons₂ | apply List.Sublist.cons)))))) | have hF := And.intro hS.facts (hR.at hS.ext) | have hF := hS.facts); simp only [HFacts, cellFacts, RFacts, cellOnly, and_true, true_and, Nat.zero_add, Nat.reduceAdd] at hF)
      go_upto_region 13 with (first | ((with_reducible first | refine nhLa ?_ | refine nhLs ?_ | refine nhLd ?_ | refine nhCa ?_ | refine nhCs ?_ | refine nhCd ?_ | refine nhPa ?_ | refine nhPs ?_ | refine nhPd ?_ | refine nhKa ?_ | refine nhKs ?_ | refine nhKd ?_); ((try clear hF); clear hS; intro wk hS; (try simp only [List.set_cons_zero, List.set_cons_succ, heap_size, heap_set_size] at hS); ((try clear hF); (first | have hF := And.intro hS.facts (HRD.out _ (hS.sub (by first | simp | ((repeat (first | exact List.nil_sublist _ | exact List.Sublist.refl _ | with_reducible apply List.Sublist.cons₂ | apply List.Sublist.cons)))))) | have hF := And.intro hS.facts (hR.at hS.ext) | have hF := hS.facts); simp only [HFacts, cellFacts, RFacts, cellOnly, and_true, true_and, Nat.zero_add, Nat.reduceAdd] at hF))) | (go_at_call 16; (with_reducible refine (PC.out _ hS.ext).mono ?_); rintro e wk ⟨rfl, hX⟩; replace hS := hS.step hX; clear hX; ((try clear hF); (first | have hF := And.intro hS.facts (HRD.out _ (hS.sub (by first | simp | ((repeat (first | exact List.nil_sublist _ | exact List.Sublist.refl _ | with_reducible apply List.Sublist.cons₂ | apply List.Sublist.cons)))))) | have hF := And.intro hS.facts (hR.at hS.ext) | have hF := hS.facts); simp only [HFacts, cellFacts, RFacts, cellOnly, and_true, true_and, Nat.zero_add, Nat.reduceAdd] at hF)))
      clear PC
      go_upto_region 14 with (first | ((with_reducible first | refine nhLa ?_ | refine nhLs ?_ | refine nhLd ?_ | refine nhCa ?_ | refine nhCs ?_ | refine nhCd ?_ | refine nhPa ?_ | refine nhPs ?_ | refine nhPd ?_ | refine nhKa ?_ | refine nhKs ?_ | refine nhKd ?_); ((try clear hF); clear hS; intro wk hS; (try simp only [List.set_cons_zero, List.set_cons_succ, heap_size, heap_set_size] at hS); ((try clear hF); (first | have hF := And.intro hS.facts (HRD.out _ (hS.sub (by first | simp | ((repeat (first | exact List.nil_sublist _ | exact List.Sublist.refl _ | with_reducible apply List.Sublist.cons₂ | apply List.Sublist.cons)))))) | have hF := And.intro hS.facts (hR.at hS.ext) | have hF := hS.facts); simp only [HFacts, cellFacts, RFacts, cellOnly, and_true, true_and, Nat.zero_add, Nat.reduceAdd] at hF))) | (go_at_call 15; (with_reducible refine Calls.mono (HPT.out _ (HX.out.trans hS.ext)) ?_); rintro e wk ⟨d2, rfl, hX, hd2, hpd2, hpp2⟩; have CD2 := Lib.hid hd2; have hX2 := hS.ext.trans hX; replace hS := hS.step hX; clear hX; have hRn := hR.ext hX2; replace HX := Lib.hid (HX.out.trans hX2); skip; clear hX2 hS hR; (try clear hF); have hS := Hp.init wk; have hR := hRn; clear hRn; ((try clear hF); (first | have hF := And.intro hS.facts (HRD.out _ (hS.sub (by first | simp | ((repeat (first | exact List.nil_sublist _ | exact List.Sublist.refl _ | with_reducible apply List.Sublist.cons₂ | apply List.Sublist.cons)))))) | have hF := And.intro hS.facts (hR.at hS.ext) | have hF := hS.facts); simp only [HFacts, cellFacts, RFacts, cellOnly, and_true, true_and, Nat.zero_add, Nat.reduceAdd] at hF)))
      have HAK := Lib.hid (fun (W : World) (hx : Ext _ W) => show Calls Tryz.prog 17 #[.agg #[.string c.tx, .bool c.rd, .slice c.a c.n c.cap], .agg #[.string d2.tx, .bool d2.rd, .slice d2.a d2.n d2.cap]] W fun e w' => e = .returned (.bool true) ∧ Ext W w' from by
        have h1 := hpp2
        rw [HPP.out] at h1
        obtain ⟨e1, e2, e3⟩ : c.tx = d2.tx ∧ c.rd = d2.rd ∧ c.l = d2.l := by simpa using Option.some.inj h1
        have e4 : c.n = d2.n := by
          have h2 := congrArg List.length e3
          unfold CM.l at h2
          rw [List.length_map, List.length_map, HC.out.len] at h2
          exact h2.trans hd2.1.len
        exact HAL.out c d2 t W (HX.out.trans hx) ((short_pr HC.out HI.out HSB.out).ext (HX.out.trans hx)) (CD2.out.ext hx) HD.out hpd2 e1 e2 e4)
      clear hd2 hpd2 hpp2
      have HPK := Lib.hid (fun (W : World) => pick_any cut t.size W (by have := HTZ.out.2; omega) (by have := HTZ.out.1; omega))
      have htz := HTZ.out.1
      clear HCP HAL HC HI HSB HD HPP HPT CD2 HTZ
      ((try clear hF); (first | have hF := And.intro hS.facts (HRD.out _ (hS.sub (by first | simp | ((repeat (first | exact List.nil_sublist _ | exact List.Sublist.refl _ | with_reducible apply List.Sublist.cons₂ | apply List.Sublist.cons)))))) | have hF := And.intro hS.facts (hR.at hS.ext) | have hF := hS.facts); simp only [HFacts, cellFacts, RFacts, cellOnly, and_true, true_and, Nat.zero_add, Nat.reduceAdd] at hF)
      go_upto_region 16 with (first | ((with_reducible first | refine nhLa ?_ | refine nhLs ?_ | refine nhLd ?_ | refine nhCa ?_ | refine nhCs ?_ | refine nhCd ?_ | refine nhPa ?_ | refine nhPs ?_ | refine nhPd ?_ | refine nhKa ?_ | refine nhKs ?_ | refine nhKd ?_); ((try clear hF); clear hS; intro wk hS; (try simp only [List.set_cons_zero, List.set_cons_succ, heap_size, heap_set_size] at hS); ((try clear hF); (first | have hF := And.intro hS.facts (HRD.out _ (hS.sub (by first | simp | ((repeat (first | exact List.nil_sublist _ | exact List.Sublist.refl _ | with_reducible apply List.Sublist.cons₂ | apply List.Sublist.cons)))))) | have hF := And.intro hS.facts (hR.at hS.ext) | have hF := hS.facts); simp only [HFacts, cellFacts, RFacts, cellOnly, and_true, true_and, Nat.zero_add, Nat.reduceAdd] at hF))) | (go_at_call 17; (with_reducible refine (HAK.out _ hS.ext).mono ?_); rintro e wk ⟨rfl, hX⟩; replace hS := hS.step hX; clear hX; ((try clear hF); (first | have hF := And.intro hS.facts (HRD.out _ (hS.sub (by first | simp | ((repeat (first | exact List.nil_sublist _ | exact List.Sublist.refl _ | with_reducible apply List.Sublist.cons₂ | apply List.Sublist.cons)))))) | have hF := And.intro hS.facts (hR.at hS.ext) | have hF := hS.facts); simp only [HFacts, cellFacts, RFacts, cellOnly, and_true, true_and, Nat.zero_add, Nat.reduceAdd] at hF)))
      clear HAK
      go_upto_region 17 with (first | ((with_reducible first | refine nhLa ?_ | refine nhLs ?_ | refine nhLd ?_ | refine nhCa ?_ | refine nhCs ?_ | refine nhCd ?_ | refine nhPa ?_ | refine nhPs ?_ | refine nhPd ?_ | refine nhKa ?_ | refine nhKs ?_ | refine nhKd ?_); ((try clear hF); clear hS; intro wk hS; (try simp only [List.set_cons_zero, List.set_cons_succ, heap_size, heap_set_size] at hS); ((try clear hF); (first | have hF := And.intro hS.facts (HRD.out _ (hS.sub (by first | simp | ((repeat (first | exact List.nil_sublist _ | exact List.Sublist.refl _ | with_reducible apply List.Sublist.cons₂ | apply List.Sublist.cons)))))) | have hF := And.intro hS.facts (hR.at hS.ext) | have hF := hS.facts); simp only [HFacts, cellFacts, RFacts, cellOnly, and_true, true_and, Nat.zero_add, Nat.reduceAdd] at hF))) | fail)
      with_reducible refine Calls.mono (HPK.out _) ?_
      rintro e wk ⟨⟨m, rfl, hm0, hm1⟩, hX⟩
      replace hS := hS.step hX
      clear hX
      obtain ⟨k, rfl⟩ := Int.eq_ofNat_of_zero_le hm0
      have hk : k ≤ t.size := by omega
      ((try clear hF); (first | have hF := And.intro hS.facts (HRD.out _ (hS.sub (by first | simp | ((repeat (first | exact List.nil_sublist _ | exact List.Sublist.refl _ | with_reducible apply List.Sublist.cons₂ | apply List.Sublist.cons)))))) | have hF := And.intro hS.facts (hR.at hS.ext) | have hF := hS.facts); simp only [HFacts, cellFacts, RFacts, cellOnly, and_true, true_and, Nat.zero_add, Nat.reduceAdd] at hF)
      go_simp
      go_upto_region 17 with (first | ((with_reducible first | refine nhLa ?_ | refine nhLs ?_ | refine nhLd ?_ | refine nhCa ?_ | refine nhCs ?_ | refine nhCd ?_ | refine nhPa ?_ | refine nhPs ?_ | refine nhPd ?_ | refine nhKa ?_ | refine nhKs ?_ | refine nhKd ?_); ((try clear hF); clear hS; intro wk hS; (try simp only [List.set_cons_zero, List.set_cons_succ, heap_size, heap_set_size] at hS); ((try clear hF); (first | have hF := And.intro hS.facts (HRD.out _ (hS.sub (by first | simp | ((repeat (first | exact List.nil_sublist _ | exact List.Sublist.refl _ | with_reducible apply List.Sublist.cons₂ | apply List.Sublist.cons)))))) | have hF := And.intro hS.facts (hR.at hS.ext) | have hF := hS.facts); simp only [HFacts, cellFacts, RFacts, cellOnly, and_true, true_and, Nat.zero_add, Nat.reduceAdd] at hF))) | fail)
      obtain ⟨T, hT⟩ : ∃ T, t.extract 0 k = T := ⟨_, rfl⟩
      have hTz : T.size ≤ 13600 := by rw [← hT, ByteArray.size_extract]; omega
      rw [hT]
      clear hT hk hm1
      obtain ⟨P2, hP2⟩ : ∃ P, parseP T = P := ⟨_, rfl⟩
      cases P2 with
      | none => as_aux_lemma =>
        have HP2 := Lib.hid (HNO.out T hTz hP2)
        clear hP2 HOK HNO
        ((try clear hF); (first | have hF := And.intro hS.facts (HRD.out _ (hS.sub (by first | simp | ((repeat (first | exact List.nil_sublist _ | exact List.Sublist.refl _ | with_reducible apply List.Sublist.cons₂ | apply List.Sublist.cons)))))) | have hF := And.intro hS.facts (hR.at hS.ext) | have hF := hS.facts); simp only [HFacts, cellFacts, RFacts, cellOnly, and_true, true_and, Nat.zero_add, Nat.reduceAdd] at hF)
        go_wp2_with (first | ((with_reducible first | refine nhLa ?_ | refine nhLs ?_ | refine nhLd ?_ | refine nhCa ?_ | refine nhCs ?_ | refine nhCd ?_ | refine nhPa ?_ | refine nhPs ?_ | refine nhPd ?_ | refine nhKa ?_ | refine nhKs ?_ | refine nhKd ?_); ((try clear hF); clear hS; intro wk hS; (try simp only [List.set_cons_zero, List.set_cons_succ, heap_size, heap_set_size] at hS); ((try clear hF); (first | have hF := And.intro hS.facts (HRD.out _ (hS.sub (by first | simp | ((repeat (first | exact List.nil_sublist _ | exact List.Sublist.refl _ | with_reducible apply List.Sublist.cons₂ | apply List.Sublist.cons)))))) | have hF := And.intro hS.facts (hR.at hS.ext) | have hF := hS.facts); simp only [HFacts, cellFacts, RFacts, cellOnly, and_true, true_and, Nat.zero_add, Nat.reduceAdd] at hF))) | (go_at_call 15; (with_reducible refine Calls.mono (HP2.out _ (HX.out.trans hS.ext)) ?_); rintro e wk ⟨rfl, hX⟩; replace hS := hS.step hX; clear hX; ((try clear hF); (first | have hF := And.intro hS.facts (HRD.out _ (hS.sub (by first | simp | ((repeat (first | exact List.nil_sublist _ | exact List.Sublist.refl _ | with_reducible apply List.Sublist.cons₂ | apply List.Sublist.cons)))))) | have hF := And.intro hS.facts (hR.at hS.ext) | have hF := hS.facts); simp only [HFacts, cellFacts, RFacts, cellOnly, and_true, true_and, Nat.zero_add, Nat.reduceAdd] at hF)))
        go_ret
        exact ⟨rfl, HX.out.trans hS.ext⟩
      | some x2 => as_aux_lemma =>
        have HP2 := Lib.hid (HOK.out T hTz x2 hP2)
        have HSF := Lib.hid (fun (W : World) => show Calls Tryz.prog 19 #[.string T, .string ⟨#[10]⟩] W fun e w' => e = .returned (.bool true) ∧ Ext W w' from by
          refine (Tryz.strings_HasSuffix T nlS W (by omega)).mono ?_
          rintro e w' ⟨rfl, rfl⟩
          exact ⟨by rw [show Lib.hasSuffix T.data.toList nlS.data.toList = true from (parseP_parts (tx := x2.1) (rd := x2.2.1) (al := x2.2.2) hP2).1], Ext.refl _⟩)
        clear hP2 HOK HNO
        ((try clear hF); (first | have hF := And.intro hS.facts (HRD.out _ (hS.sub (by first | simp | ((repeat (first | exact List.nil_sublist _ | exact List.Sublist.refl _ | with_reducible apply List.Sublist.cons₂ | apply List.Sublist.cons)))))) | have hF := And.intro hS.facts (hR.at hS.ext) | have hF := hS.facts); simp only [HFacts, cellFacts, RFacts, cellOnly, and_true, true_and, Nat.zero_add, Nat.reduceAdd] at hF)
        go_wp2_with (first | ((with_reducible first | refine nhLa ?_ | refine nhLs ?_ | refine nhLd ?_ | refine nhCa ?_ | refine nhCs ?_ | refine nhCd ?_ | refine nhPa ?_ | refine nhPs ?_ | refine nhPd ?_ | refine nhKa ?_ | refine nhKs ?_ | refine nhKd ?_); ((try clear hF); clear hS; intro wk hS; (try simp only [List.set_cons_zero, List.set_cons_succ, heap_size, heap_set_size] at hS); ((try clear hF); (first | have hF := And.intro hS.facts (HRD.out _ (hS.sub (by first | simp | ((repeat (first | exact List.nil_sublist _ | exact List.Sublist.refl _ | with_reducible apply List.Sublist.cons₂ | apply List.Sublist.cons)))))) | have hF := And.intro hS.facts (hR.at hS.ext) | have hF := hS.facts); simp only [HFacts, cellFacts, RFacts, cellOnly, and_true, true_and, Nat.zero_add, Nat.reduceAdd] at hF))) | (go_at_call 15; (with_reducible refine Calls.mono (HP2.out _ (HX.out.trans hS.ext)) ?_); rintro e wk ⟨d3, rfl, hX, _, _, _⟩; replace hS := hS.step hX; clear hX; ((try clear hF); (first | have hF := And.intro hS.facts (HRD.out _ (hS.sub (by first | simp | ((repeat (first | exact List.nil_sublist _ | exact List.Sublist.refl _ | with_reducible apply List.Sublist.cons₂ | apply List.Sublist.cons)))))) | have hF := And.intro hS.facts (hR.at hS.ext) | have hF := hS.facts); simp only [HFacts, cellFacts, RFacts, cellOnly, and_true, true_and, Nat.zero_add, Nat.reduceAdd] at hF)) | (go_at_call 19; (with_reducible refine (HSF.out _).mono ?_); rintro e wk ⟨rfl, hX⟩; replace hS := hS.step hX; clear hX; ((try clear hF); (first | have hF := And.intro hS.facts (HRD.out _ (hS.sub (by first | simp | ((repeat (first | exact List.nil_sublist _ | exact List.Sublist.refl _ | with_reducible apply List.Sublist.cons₂ | apply List.Sublist.cons)))))) | have hF := And.intro hS.facts (hR.at hS.ext) | have hF := hS.facts); simp only [HFacts, cellFacts, RFacts, cellOnly, and_true, true_and, Nat.zero_add, Nat.reduceAdd] at hF)))
        go_ret
        exact ⟨rfl, HX.out.trans hS.ext⟩
end Go.Proofs.YtcpnnffnkegamaaGreatDoor
