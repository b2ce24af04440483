/- ask.written: the other conditions. -/
import Derived.Test.YtmfilblbofkmcaaDoorAX10
namespace Go.Proofs.YtmfilblbofkmcaaDoor
set_option linter.unusedSimpArgs false
set_option linter.unusedVariables false
open Go.RowKit
set_option linter.all false
set_option maxRecDepth 100000 in
set_option maxHeartbeats 8000000 in
theorem wr_or (x : GV) (col : ByteArray) (l r : CT) (b : Nat) (lv rv : Option Addr) (w : World) (C0 : w.cell? ⟨b, 0, none⟩ = some (.int .i64 10)) (C5 : w.cell? ⟨b, 5, none⟩ = some (.pointer lv)) (C6 : w.cell? ⟨b, 6, none⟩ = some (.pointer rv)) (hl : WrC w (.pointer lv) l) (hr : WrC w (.pointer rv) r)
    (least : Nat) (h2 : least ≤ 2) (hlen : (writL (.node 10 col x l r) least).length ≤ 100000) :
    Calls Tryd.prog 15 #[.pointer (some ⟨b, 0, none⟩), .int .i64 least] w fun e w' => e = .returned (.string ⟨(writL (.node 10 col x l r) least).toArray⟩) ∧ Ext w w' := by
  have e0 : writL (.node 10 col x l r) least = parL 0 least (writL l 0 ++ [32, 111, 114, 32] ++ writL r 1) := by
    conv => lhs; unfold writL
    rw [if_neg (by decide), if_neg (by decide), if_pos rfl]
  rw [e0] at hlen ⊢
  have hsum : (writL l 0).length + (writL r 1).length ≤ 100000 := by
    unfold parL at hlen
    split at hlen <;> simp only [List.length_append, List.length_cons, List.length_nil] at hlen <;> omega
  have HL := Lib.hid (fun (W : World) (hx : Ext w W) => show Calls Tryd.prog 15 #[.pointer lv, .int .i64 0] W _ from hl 0 W hx (by omega) (by omega))
  have HR := Lib.hid (fun (W : World) (hx : Ext w W) => show Calls Tryd.prog 15 #[.pointer rv, .int .i64 1] W _ from hr 1 W hx (by omega) (by omega))
  obtain ⟨sl, hsl⟩ : ∃ sl : ByteArray, sl = ⟨(writL l 0).toArray⟩ := ⟨_, rfl⟩
  obtain ⟨sr, hsr⟩ : ∃ sr : ByteArray, sr = ⟨(writL r 1).toArray⟩ := ⟨_, rfl⟩
  have zl : sl.size ≤ 100000 := by rw [Lib.size_eq, hsl]; simp only; omega
  have zr : sr.size ≤ 100000 := by rw [Lib.size_eq, hsr]; simp only; omega
  rw [← hsl] at HL
  rw [← hsr] at HR
  have e1 : (⟨(parL 0 least (writL l 0 ++ [32, 111, 114, 32] ++ writL r 1)).toArray⟩ : ByteArray) = parS 0 least (sl ++ ⟨#[32, 111, 114, 32]⟩ ++ sr) := (parS_list _ _ _ _ (by rw [hsl, hsr]; simp [ByteArray.data_append])).symm
  rw [e1]
  have zw : (⟨#[32, 111, 114, 32]⟩ : ByteArray).size = 4 := rfl
  have z1 : (sl ++ ⟨#[32, 111, 114, 32]⟩).size ≤ 100010 := by rw [ByteArray.size_append]; omega
  have z2 : (sl ++ ⟨#[32, 111, 114, 32]⟩ ++ sr).size ≤ 200010 := by rw [ByteArray.size_append]; omega
  have z3 : ((⟨#[40]⟩ : ByteArray) ++ (sl ++ ⟨#[32, 111, 114, 32]⟩ ++ sr)).size ≤ 200011 := by rw [ByteArray.size_append]; show 1 + _ ≤ _; omega
  obtain ⟨D, hD⟩ : ∃ D, D = parS 0 least (sl ++ ⟨#[32, 111, 114, 32]⟩ ++ sr) := ⟨_, rfl⟩
  rw [← hD]
  have hS := Hp.init w
  have hR := Reads.cell C0 (Reads.cell C5 (Reads.cell C6 (Reads.nil w)))
  clear C0 C5 C6 hl hr hlen e0 e1 hsum hsl hsr
  ((try clear hF); (first | have hF := And.intro hS.facts (HRD.out _ (hS.sub (by first | simp | ((repeat (first | exact List.nil_sublist _ | exact List.Sublist.refl _ | with_reducible apply List.Sublist.cons₂ | apply List.Sublist.cons)))))) | have hF := And.intro hS.facts (hR.at hS.ext) | have hF := hS.facts); simp only [HFacts, cellFacts, RFacts, cellOnly, and_true, true_and, Nat.zero_add, Nat.reduceAdd] at hF)
  go_enter Tryd.func15, Tryd.ntmps15
  go_wp2_with (first | ((with_reducible first | refine nhLa ?_ | refine nhLs ?_ | refine nhLd ?_ | refine nhCa ?_ | refine nhCs ?_ | refine nhCd ?_ | refine nhPa ?_ | refine nhPs ?_ | refine nhPd ?_ | refine nhKa ?_ | refine nhKs ?_ | refine nhKd ?_); ((try clear hF); clear hS; intro wk hS; (try simp only [List.set_cons_zero, List.set_cons_succ, heap_size, heap_set_size] at hS); ((try clear hF); (first | have hF := And.intro hS.facts (HRD.out _ (hS.sub (by first | simp | ((repeat (first | exact List.nil_sublist _ | exact List.Sublist.refl _ | with_reducible apply List.Sublist.cons₂ | apply List.Sublist.cons)))))) | have hF := And.intro hS.facts (hR.at hS.ext) | have hF := hS.facts); simp only [HFacts, cellFacts, RFacts, cellOnly, and_true, true_and, Nat.zero_add, Nat.reduceAdd] at hF))) | fail)
  ((with_reducible refine wp_region_chain_hp [.q, .q, .q, .q, .q, .q, .q, .q, .q, .q, .q, .q, .q, .t] [] (by kernel_rfl) rfl (by kernel_rfl) hS (fun w h => h.sub (by simp)) ?_); clear hS; (repeat ((with_reducible refine Walk.here ?_); (first | ((with_reducible apply Walk.skipQ); (first | rfl | exact wanted_false rfl rfl rfl (by assumption)); (try simp only [Mark.isQ, if_true, Bool.false_eq_true, if_false, Act.put, List.setIfInBounds_toArray, List.set_cons_zero, List.set_cons_succ])) | ((with_reducible apply Walk.val); (first | rfl | exact wanted_true rfl rfl rfl (by assumption)); (rintro w hS; ((try clear hF); (first | have hF := And.intro hS.facts (HRD.out _ (hS.sub (by first | simp | ((repeat (first | exact List.nil_sublist _ | exact List.Sublist.refl _ | with_reducible apply List.Sublist.cons₂ | apply List.Sublist.cons)))))) | have hF := And.intro hS.facts (hR.at hS.ext) | have hF := hS.facts); simp only [HFacts, cellFacts, RFacts, cellOnly, and_true, true_and, Nat.zero_add, Nat.reduceAdd] at hF); go_simp; first | with_reducible rfl | (rw [if_neg (by first | omega | (simp only [ByteArray.size_append]; omega) | (simp [ByteArray.size_append]; omega))]; try with_reducible rfl)); (try simp only [Mark.isQ, if_true, Bool.false_eq_true, if_false, Act.put, List.setIfInBounds_toArray, List.set_cons_zero, List.set_cons_succ])) | ((with_reducible apply Walk.call); (first | rfl | exact wanted_true rfl rfl rfl (by assumption)); (rintro w hS; ((try clear hF); (first | have hF := And.intro hS.facts (HRD.out _ (hS.sub (by first | simp | ((repeat (first | exact List.nil_sublist _ | exact List.Sublist.refl _ | with_reducible apply List.Sublist.cons₂ | apply List.Sublist.cons)))))) | have hF := And.intro hS.facts (hR.at hS.ext) | have hF := hS.facts); simp only [HFacts, cellFacts, RFacts, cellOnly, and_true, true_and, Nat.zero_add, Nat.reduceAdd] at hF); go_simp; exact ⟨rfl, rfl⟩); (rintro w hS; first | (with_reducible exact HL.out w hS.ext) | (with_reducible exact HR.out w hS.ext)); (try simp only [Mark.isQ, if_true, Bool.false_eq_true, if_false, Act.put, List.setIfInBounds_toArray, List.set_cons_zero, List.set_cons_succ])) | ((with_reducible apply Walk.tail); (try simp only [Mark.isQ, if_true, Bool.false_eq_true, if_false, Act.put, List.setIfInBounds_toArray, List.set_cons_zero, List.set_cons_succ])) | ((with_reducible apply Walk.guardT); rfl; rfl; rfl; (all_goals intro hg)) | ((with_reducible apply Walk.guardF); rfl; rfl; rfl; (all_goals intro hg))))); refine Walk.done ?_; simp only [chainOf, Mark.isT, if_true, Bool.false_eq_true, if_false])
  (refine Chain.val (by (first | rfl | exact wanted_true rfl rfl rfl (by assumption))) (fun w h => h.sub (by simp)) (by rintro w hS; ((try clear hF); (first | have hF := And.intro hS.facts (HRD.out _ (hS.sub (by first | simp | ((repeat (first | exact List.nil_sublist _ | exact List.Sublist.refl _ | with_reducible apply List.Sublist.cons₂ | apply List.Sublist.cons)))))) | have hF := And.intro hS.facts (hR.at hS.ext) | have hF := hS.facts); simp only [HFacts, cellFacts, RFacts, cellOnly, and_true, true_and, Nat.zero_add, Nat.reduceAdd] at hF); go_simp; with_reducible rfl) ?_; try simp only [Act.put, List.setIfInBounds_toArray, List.set_cons_zero, List.set_cons_succ])
  (refine Chain.done ?_; (try clear hF); intro wk hS; ((try clear hF); (first | have hF := And.intro hS.facts (HRD.out _ (hS.sub (by first | simp | ((repeat (first | exact List.nil_sublist _ | exact List.Sublist.refl _ | with_reducible apply List.Sublist.cons₂ | apply List.Sublist.cons)))))) | have hF := And.intro hS.facts (hR.at hS.ext) | have hF := hS.facts); simp only [HFacts, cellFacts, RFacts, cellOnly, and_true, true_and, Nat.zero_add, Nat.reduceAdd] at hF))
  by_cases hle : 0 < least
  · have q1 : decide ((0 : Int) < (least : Int)) = true := by simp; omega
    have HD := Lib.hid (show D = ⟨#[40]⟩ ++ (sl ++ ⟨#[32, 111, 114, 32]⟩ ++ sr) ++ ⟨#[41]⟩ by rw [hD]; unfold parS; rw [if_pos hle])
    clear hD
    go_wp2_with (first | ((with_reducible first | refine nhLa ?_ | refine nhLs ?_ | refine nhLd ?_ | refine nhCa ?_ | refine nhCs ?_ | refine nhCd ?_ | refine nhPa ?_ | refine nhPs ?_ | refine nhPd ?_ | refine nhKa ?_ | refine nhKs ?_ | refine nhKd ?_); ((try clear hF); clear hS; intro wk hS; (try simp only [List.set_cons_zero, List.set_cons_succ, heap_size, heap_set_size] at hS); ((try clear hF); (first | have hF := And.intro hS.facts (HRD.out _ (hS.sub (by first | simp | ((repeat (first | exact List.nil_sublist _ | exact List.Sublist.refl _ | with_reducible apply List.Sublist.cons₂ | apply List.Sublist.cons)))))) | have hF := And.intro hS.facts (hR.at hS.ext) | have hF := hS.facts); simp only [HFacts, cellFacts, RFacts, cellOnly, and_true, true_and, Nat.zero_add, Nat.reduceAdd] at hF))) | fail)
    go_ret
    exact WR_res _ _ HD.out hS.ext
  · have q1 : decide ((0 : Int) < (least : Int)) = false := by simp; omega
    have HD := Lib.hid (show D = sl ++ ⟨#[32, 111, 114, 32]⟩ ++ sr by rw [hD]; unfold parS; rw [if_neg hle])
    clear hD
    go_wp2_with (first | ((with_reducible first | refine nhLa ?_ | refine nhLs ?_ | refine nhLd ?_ | refine nhCa ?_ | refine nhCs ?_ | refine nhCd ?_ | refine nhPa ?_ | refine nhPs ?_ | refine nhPd ?_ | refine nhKa ?_ | refine nhKs ?_ | refine nhKd ?_); ((try clear hF); clear hS; intro wk hS; (try simp only [List.set_cons_zero, List.set_cons_succ, heap_size, heap_set_size] at hS); ((try clear hF); (first | have hF := And.intro hS.facts (HRD.out _ (hS.sub (by first | simp | ((repeat (first | exact List.nil_sublist _ | exact List.Sublist.refl _ | with_reducible apply List.Sublist.cons₂ | apply List.Sublist.cons)))))) | have hF := And.intro hS.facts (hR.at hS.ext) | have hF := hS.facts); simp only [HFacts, cellFacts, RFacts, cellOnly, and_true, true_and, Nat.zero_add, Nat.reduceAdd] at hF))) | fail)
    go_ret
    exact WR_res _ _ HD.out hS.ext
set_option maxRecDepth 100000 in
set_option maxHeartbeats 8000000 in
theorem wr_not (x : GV) (col : ByteArray) (l r : CT) (b : Nat) (lv : Option Addr) (w : World) (C0 : w.cell? ⟨b, 0, none⟩ = some (.int .i64 11)) (C5 : w.cell? ⟨b, 5, none⟩ = some (.pointer lv)) (hl : WrC w (.pointer lv) l)
    (least : Nat) (h2 : least ≤ 2) (hlen : (writL (.node 11 col x l r) least).length ≤ 100000) :
    Calls Tryd.prog 15 #[.pointer (some ⟨b, 0, none⟩), .int .i64 least] w fun e w' => e = .returned (.string ⟨(writL (.node 11 col x l r) least).toArray⟩) ∧ Ext w w' := by
  have e0 : writL (.node 11 col x l r) least = [110, 111, 116, 32] ++ writL l 2 := by
    conv => lhs; unfold writL
    rw [if_pos rfl, parL2 h2]
  rw [e0] at hlen ⊢
  simp only [List.length_append, List.length_cons, List.length_nil] at hlen
  have HL := Lib.hid (fun (W : World) (hx : Ext w W) => show Calls Tryd.prog 15 #[.pointer lv, .int .i64 2] W _ from hl 2 W hx (by omega) (by omega))
  obtain ⟨sl, hsl⟩ : ∃ sl : ByteArray, sl = ⟨(writL l 2).toArray⟩ := ⟨_, rfl⟩
  have zl : sl.size ≤ 100000 := by rw [Lib.size_eq, hsl]; simp only; omega
  rw [← hsl] at HL
  have e1 : (⟨([110, 111, 116, 32] ++ writL l 2).toArray⟩ : ByteArray) = ⟨#[110, 111, 116, 32]⟩ ++ sl := ba_ext (by rw [hsl]; simp [ByteArray.data_append])
  rw [e1]
  have z1 : ((⟨#[110, 111, 116, 32]⟩ : ByteArray) ++ sl).size ≤ 100010 := by rw [ByteArray.size_append]; show 4 + _ ≤ _; omega
  obtain ⟨D, hD⟩ : ∃ D, D = (⟨#[110, 111, 116, 32]⟩ : ByteArray) ++ sl := ⟨_, rfl⟩
  rw [← hD]
  have HD := Lib.hid hD
  have q1 : decide ((2 : Int) < (least : Int)) = false := by simp; omega
  have hS := Hp.init w
  have hR := Reads.cell C0 (Reads.cell C5 (Reads.nil w))
  clear C0 C5 hl hlen e0 e1 hsl hD
  ((try clear hF); (first | have hF := And.intro hS.facts (HRD.out _ (hS.sub (by first | simp | ((repeat (first | exact List.nil_sublist _ | exact List.Sublist.refl _ | with_reducible apply List.Sublist.cons₂ | apply List.Sublist.cons)))))) | have hF := And.intro hS.facts (hR.at hS.ext) | have hF := hS.facts); simp only [HFacts, cellFacts, RFacts, cellOnly, and_true, true_and, Nat.zero_add, Nat.reduceAdd] at hF)
  go_enter Tryd.func15, Tryd.ntmps15
  go_wp2_with (first | ((with_reducible first | refine nhLa ?_ | refine nhLs ?_ | refine nhLd ?_ | refine nhCa ?_ | refine nhCs ?_ | refine nhCd ?_ | refine nhPa ?_ | refine nhPs ?_ | refine nhPd ?_ | refine nhKa ?_ | refine nhKs ?_ | refine nhKd ?_); ((try clear hF); clear hS; intro wk hS; (try simp only [List.set_cons_zero, List.set_cons_succ, heap_size, heap_set_size] at hS); ((try clear hF); (first | have hF := And.intro hS.facts (HRD.out _ (hS.sub (by first | simp | ((repeat (first | exact List.nil_sublist _ | exact List.Sublist.refl _ | with_reducible apply List.Sublist.cons₂ | apply List.Sublist.cons)))))) | have hF := And.intro hS.facts (hR.at hS.ext) | have hF := hS.facts); simp only [HFacts, cellFacts, RFacts, cellOnly, and_true, true_and, Nat.zero_add, Nat.reduceAdd] at hF))) | (go_at_call 15; (with_reducible refine (HL.out _ hS.ext).mono ?_); rintro e wk ⟨rfl, hX⟩; replace hS := hS.step hX; clear hX; ((try clear hF); (first | have hF := And.intro hS.facts (HRD.out _ (hS.sub (by first | simp | ((repeat (first | exact List.nil_sublist _ | exact List.Sublist.refl _ | with_reducible apply List.Sublist.cons₂ | apply List.Sublist.cons)))))) | have hF := And.intro hS.facts (hR.at hS.ext) | have hF := hS.facts); simp only [HFacts, cellFacts, RFacts, cellOnly, and_true, true_and, Nat.zero_add, Nat.reduceAdd] at hF)))
  go_ret
  exact WR_res _ _ HD.out hS.ext
set_option maxRecDepth 100000 in
set_option maxHeartbeats 8000000 in
theorem wr_null (x : GV) (col : ByteArray) (l r : CT) (b : Nat) (w : World) (C0 : w.cell? ⟨b, 0, none⟩ = some (.int .i64 7)) (C1 : w.cell? ⟨b, 1, none⟩ = some (.string col))
    (least : Nat) (h2 : least ≤ 2) (hlen : (writL (.node 7 col x l r) least).length ≤ 100000) :
    Calls Tryd.prog 15 #[.pointer (some ⟨b, 0, none⟩), .int .i64 least] w fun e w' => e = .returned (.string ⟨(writL (.node 7 col x l r) least).toArray⟩) ∧ Ext w w' := by
  have e0 : writL (.node 7 col x l r) least = col.data.toList ++ [32, 105, 115, 32, 110, 117, 108, 108] := by
    unfold writL
    rw [if_neg (by decide), if_neg (by decide), if_neg (by decide), if_pos rfl, parL2 h2]
  rw [e0] at hlen ⊢
  simp only [List.length_append, List.length_cons, List.length_nil] at hlen
  have zl : col.size ≤ 100000 := by rw [Lib.size_eq]; omega
  have e1 : (⟨(col.data.toList ++ [32, 105, 115, 32, 110, 117, 108, 108]).toArray⟩ : ByteArray) = col ++ ⟨#[32, 105, 115, 32, 110, 117, 108, 108]⟩ := ba_ext (by simp [ByteArray.data_append])
  rw [e1]
  have z1 : (col ++ (⟨#[32, 105, 115, 32, 110, 117, 108, 108]⟩ : ByteArray)).size ≤ 100100 := by rw [ByteArray.size_append]; show _ + 8 ≤ _; omega
  obtain ⟨D, hD⟩ : ∃ D, D = col ++ (⟨#[32, 105, 115, 32, 110, 117, 108, 108]⟩ : ByteArray) := ⟨_, rfl⟩
  rw [← hD]
  have HD := Lib.hid hD
  have q1 : decide ((2 : Int) < (least : Int)) = false := by simp; omega
  have hS := Hp.init w
  have hR := Reads.cell C0 (Reads.cell C1 (Reads.nil w))
  clear C0 C1 hlen e0 e1 hD
  ((try clear hF); (first | have hF := And.intro hS.facts (HRD.out _ (hS.sub (by first | simp | ((repeat (first | exact List.nil_sublist _ | exact List.Sublist.refl _ | with_reducible apply List.Sublist.cons₂ | apply List.Sublist.cons)))))) | have hF := And.intro hS.facts (hR.at hS.ext) | have hF := hS.facts); simp only [HFacts, cellFacts, RFacts, cellOnly, and_true, true_and, Nat.zero_add, Nat.reduceAdd] at hF)
  go_enter Tryd.func15, Tryd.ntmps15
  go_wp2_with (first | ((with_reducible first | refine nhLa ?_ | refine nhLs ?_ | refine nhLd ?_ | refine nhCa ?_ | refine nhCs ?_ | refine nhCd ?_ | refine nhPa ?_ | refine nhPs ?_ | refine nhPd ?_ | refine nhKa ?_ | refine nhKs ?_ | refine nhKd ?_); ((try clear hF); clear hS; intro wk hS; (try simp only [List.set_cons_zero, List.set_cons_succ, heap_size, heap_set_size] at hS); ((try clear hF); (first | have hF := And.intro hS.facts (HRD.out _ (hS.sub (by first | simp | ((repeat (first | exact List.nil_sublist _ | exact List.Sublist.refl _ | with_reducible apply List.Sublist.cons₂ | apply List.Sublist.cons)))))) | have hF := And.intro hS.facts (hR.at hS.ext) | have hF := hS.facts); simp only [HFacts, cellFacts, RFacts, cellOnly, and_true, true_and, Nat.zero_add, Nat.reduceAdd] at hF))) | fail)
  go_ret
  exact WR_res _ _ HD.out hS.ext
set_option maxRecDepth 100000 in
set_option maxHeartbeats 8000000 in
theorem wr_notnull (x : GV) (col : ByteArray) (l r : CT) (b : Nat) (w : World) (C0 : w.cell? ⟨b, 0, none⟩ = some (.int .i64 8)) (C1 : w.cell? ⟨b, 1, none⟩ = some (.string col))
    (least : Nat) (h2 : least ≤ 2) (hlen : (writL (.node 8 col x l r) least).length ≤ 100000) :
    Calls Tryd.prog 15 #[.pointer (some ⟨b, 0, none⟩), .int .i64 least] w fun e w' => e = .returned (.string ⟨(writL (.node 8 col x l r) least).toArray⟩) ∧ Ext w w' := by
  have e0 : writL (.node 8 col x l r) least = col.data.toList ++ [32, 105, 115, 32, 110, 111, 116, 32, 110, 117, 108, 108] := by
    unfold writL
    rw [if_neg (by decide), if_neg (by decide), if_neg (by decide), if_neg (by decide), if_pos rfl, parL2 h2]
  rw [e0] at hlen ⊢
  simp only [List.length_append, List.length_cons, List.length_nil] at hlen
  have zl : col.size ≤ 100000 := by rw [Lib.size_eq]; omega
  have e1 : (⟨(col.data.toList ++ [32, 105, 115, 32, 110, 111, 116, 32, 110, 117, 108, 108]).toArray⟩ : ByteArray) = col ++ ⟨#[32, 105, 115, 32, 110, 111, 116, 32, 110, 117, 108, 108]⟩ := ba_ext (by simp [ByteArray.data_append])
  rw [e1]
  have z1 : (col ++ (⟨#[32, 105, 115, 32, 110, 111, 116, 32, 110, 117, 108, 108]⟩ : ByteArray)).size ≤ 100100 := by rw [ByteArray.size_append]; show _ + 12 ≤ _; omega
  obtain ⟨D, hD⟩ : ∃ D, D = col ++ (⟨#[32, 105, 115, 32, 110, 111, 116, 32, 110, 117, 108, 108]⟩ : ByteArray) := ⟨_, rfl⟩
  rw [← hD]
  have HD := Lib.hid hD
  have q1 : decide ((2 : Int) < (least : Int)) = false := by simp; omega
  have hS := Hp.init w
  have hR := Reads.cell C0 (Reads.cell C1 (Reads.nil w))
  clear C0 C1 hlen e0 e1 hD
  ((try clear hF); (first | have hF := And.intro hS.facts (HRD.out _ (hS.sub (by first | simp | ((repeat (first | exact List.nil_sublist _ | exact List.Sublist.refl _ | with_reducible apply List.Sublist.cons₂ | apply List.Sublist.cons)))))) | have hF := And.intro hS.facts (hR.at hS.ext) | have hF := hS.facts); simp only [HFacts, cellFacts, RFacts, cellOnly, and_true, true_and, Nat.zero_add, Nat.reduceAdd] at hF)
  go_enter Tryd.func15, Tryd.ntmps15
  go_wp2_with (first | ((with_reducible first | refine nhLa ?_ | refine nhLs ?_ | refine nhLd ?_ | refine nhCa ?_ | refine nhCs ?_ | refine nhCd ?_ | refine nhPa ?_ | refine nhPs ?_ | refine nhPd ?_ | refine nhKa ?_ | refine nhKs ?_ | refine nhKd ?_); ((try clear hF); clear hS; intro wk hS; (try simp only [List.set_cons_zero, List.set_cons_succ, heap_size, heap_set_size] at hS); ((try clear hF); (first | have hF := And.intro hS.facts (HRD.out _ (hS.sub (by first | simp | ((repeat (first | exact List.nil_sublist _ | exact List.Sublist.refl _ | with_reducible apply List.Sublist.cons₂ | apply List.Sublist.cons)))))) | have hF := And.intro hS.facts (hR.at hS.ext) | have hF := hS.facts); simp only [HFacts, cellFacts, RFacts, cellOnly, and_true, true_and, Nat.zero_add, Nat.reduceAdd] at hF))) | fail)
  go_ret
  exact WR_res _ _ HD.out hS.ext
set_option maxRecDepth 100000 in
set_option maxHeartbeats 8000000 in
theorem wr_op1 (x : GV) (col : ByteArray) (l r : CT) (b : Nat) (w : World) (C0 : w.cell? ⟨b, 0, none⟩ = some (.int .i64 1)) (C1 : w.cell? ⟨b, 1, none⟩ = some (.string col)) (C2 : w.cell? ⟨b, 2, none⟩ = some (.int .i64 x.kind)) (C3 : w.cell? ⟨b, 3, none⟩ = some (.int .i64 x.num)) (C4 : w.cell? ⟨b, 4, none⟩ = some (.string x.text))
    (hx : i64 x.num) (ht : x.text.size ≤ 1000) (least : Nat) (h2 : least ≤ 2) (hlen : (writL (.node 1 col x l r) least).length ≤ 100000) :
    Calls Tryd.prog 15 #[.pointer (some ⟨b, 0, none⟩), .int .i64 least] w fun e w' => e = .returned (.string ⟨(writL (.node 1 col x l r) least).toArray⟩) ∧ Ext w w' := by
  have e0 : writL (.node 1 col x l r) least = col.data.toList ++ [32] ++ [61] ++ [32] ++ printL x.kind x.num x.text := by
    unfold writL
    rw [if_neg (by decide), if_neg (by decide), if_neg (by decide), if_neg (by decide), if_neg (by decide), parL2 h2]
    rfl
  rw [e0] at hlen ⊢
  simp only [List.length_append, List.length_cons, List.length_nil] at hlen
  have HP := Lib.hid (fun (W : World) => print_any x.kind x.num x.text W hx.1 hx.2 (by omega))
  obtain ⟨P, hP⟩ : ∃ P, P = printS x.kind x.num x.text := ⟨_, rfl⟩
  rw [← hP] at HP
  have zp : P.size ≤ 100000 := by rw [Lib.size_eq, hP]; unfold printS; simp only; omega
  have zl : col.size ≤ 100000 := by rw [Lib.size_eq]; omega
  have e1 : (⟨(col.data.toList ++ [32] ++ [61] ++ [32] ++ printL x.kind x.num x.text).toArray⟩ : ByteArray) = col ++ ⟨#[32]⟩ ++ ⟨#[61]⟩ ++ ⟨#[32]⟩ ++ P := ba_ext (by rw [hP]; simp [ByteArray.data_append, printS])
  rw [e1]
  have z1 : (col ++ (⟨#[32]⟩ : ByteArray)).size ≤ 100001 := by rw [ByteArray.size_append]; show _ + 1 ≤ _; omega
  have z2 : (col ++ (⟨#[32]⟩ : ByteArray) ++ (⟨#[61]⟩ : ByteArray)).size ≤ 100003 := by rw [ByteArray.size_append]; show _ + 1 ≤ _; omega
  have z3 : (col ++ (⟨#[32]⟩ : ByteArray) ++ (⟨#[61]⟩ : ByteArray) ++ (⟨#[32]⟩ : ByteArray)).size ≤ 100004 := by rw [ByteArray.size_append]; show _ + 1 ≤ _; omega
  have z4 : (col ++ ⟨#[32]⟩ ++ ⟨#[61]⟩ ++ ⟨#[32]⟩ ++ P : ByteArray).size ≤ 200004 := by rw [ByteArray.size_append]; omega
  have y1 : (⟨#[32]⟩ : ByteArray).size = 1 := rfl
  have y2 : (⟨#[61]⟩ : ByteArray).size = 1 := rfl
  obtain ⟨D, hD⟩ : ∃ D, D = col ++ ⟨#[32]⟩ ++ ⟨#[61]⟩ ++ ⟨#[32]⟩ ++ P := ⟨_, rfl⟩
  rw [← hD]
  have HD := Lib.hid hD
  have q1 : decide ((2 : Int) < (least : Int)) = false := by simp; omega
  have w0 : IntKind.i64.wrap 0 = 0 := by decide
  have hS := Hp.init w
  have hR := Reads.cell C0 (Reads.cell C1 (Reads.cell C2 (Reads.cell C3 (Reads.cell C4 (Reads.nil w)))))
  clear C0 C1 C2 C3 C4 hlen e0 e1 hD hx ht hP
  ((try clear hF); (first | have hF := And.intro hS.facts (HRD.out _ (hS.sub (by first | simp | ((repeat (first | exact List.nil_sublist _ | exact List.Sublist.refl _ | with_reducible apply List.Sublist.cons₂ | apply List.Sublist.cons)))))) | have hF := And.intro hS.facts (hR.at hS.ext) | have hF := hS.facts); simp only [HFacts, cellFacts, RFacts, cellOnly, and_true, true_and, Nat.zero_add, Nat.reduceAdd] at hF)
  go_enter Tryd.func15, Tryd.ntmps15
  go_wp2_with (first | ((with_reducible first | refine nhLa ?_ | refine nhLs ?_ | refine nhLd ?_ | refine nhCa ?_ | refine nhCs ?_ | refine nhCd ?_ | refine nhPa ?_ | refine nhPs ?_ | refine nhPd ?_ | refine nhKa ?_ | refine nhKs ?_ | refine nhKd ?_); ((try clear hF); clear hS; intro wk hS; (try simp only [List.set_cons_zero, List.set_cons_succ, heap_size, heap_set_size] at hS); ((try clear hF); (first | have hF := And.intro hS.facts (HRD.out _ (hS.sub (by first | simp | ((repeat (first | exact List.nil_sublist _ | exact List.Sublist.refl _ | with_reducible apply List.Sublist.cons₂ | apply List.Sublist.cons)))))) | have hF := And.intro hS.facts (hR.at hS.ext) | have hF := hS.facts); simp only [HFacts, cellFacts, RFacts, cellOnly, and_true, true_and, Nat.zero_add, Nat.reduceAdd] at hF))) | fail)
  ((with_reducible refine wp_region_chain_hp [.q, .q, .q, .q, .q, .q, .q, .q, .q, .q, .q, .q, .q, .q, .q, .q, .q, .q, .q, .q, .t] [] (by kernel_rfl) rfl (by kernel_rfl) hS (fun w h => h.sub (by simp)) ?_); clear hS; (repeat ((with_reducible refine Walk.here ?_); (first | ((with_reducible apply Walk.skipQ); (first | rfl | exact wanted_false rfl rfl rfl (by assumption)); (try simp only [Mark.isQ, if_true, Bool.false_eq_true, if_false, Act.put, List.setIfInBounds_toArray, List.set_cons_zero, List.set_cons_succ])) | ((with_reducible apply Walk.val); (first | rfl | exact wanted_true rfl rfl rfl (by assumption)); (rintro w hS; ((try clear hF); (first | have hF := And.intro hS.facts (HRD.out _ (hS.sub (by first | simp | ((repeat (first | exact List.nil_sublist _ | exact List.Sublist.refl _ | with_reducible apply List.Sublist.cons₂ | apply List.Sublist.cons)))))) | have hF := And.intro hS.facts (hR.at hS.ext) | have hF := hS.facts); simp only [HFacts, cellFacts, RFacts, cellOnly, and_true, true_and, Nat.zero_add, Nat.reduceAdd] at hF); go_simp; first | with_reducible rfl | (rw [if_neg (by first | omega | (simp only [ByteArray.size_append]; omega) | (simp [ByteArray.size_append]; omega))]; try with_reducible rfl)); (try simp only [Mark.isQ, if_true, Bool.false_eq_true, if_false, Act.put, List.setIfInBounds_toArray, List.set_cons_zero, List.set_cons_succ])) | ((with_reducible apply Walk.call); (first | rfl | exact wanted_true rfl rfl rfl (by assumption)); (rintro w hS; ((try clear hF); (first | have hF := And.intro hS.facts (HRD.out _ (hS.sub (by first | simp | ((repeat (first | exact List.nil_sublist _ | exact List.Sublist.refl _ | with_reducible apply List.Sublist.cons₂ | apply List.Sublist.cons)))))) | have hF := And.intro hS.facts (hR.at hS.ext) | have hF := hS.facts); simp only [HFacts, cellFacts, RFacts, cellOnly, and_true, true_and, Nat.zero_add, Nat.reduceAdd] at hF); go_simp; exact ⟨rfl, rfl⟩); (rintro w hS; first | (with_reducible exact HP.out w)); (try simp only [Mark.isQ, if_true, Bool.false_eq_true, if_false, Act.put, List.setIfInBounds_toArray, List.set_cons_zero, List.set_cons_succ])) | ((with_reducible apply Walk.tail); (try simp only [Mark.isQ, if_true, Bool.false_eq_true, if_false, Act.put, List.setIfInBounds_toArray, List.set_cons_zero, List.set_cons_succ])) | ((with_reducible apply Walk.guardT); rfl; rfl; rfl; (all_goals intro hg)) | ((with_reducible apply Walk.guardF); rfl; rfl; rfl; (all_goals intro hg))))); refine Walk.done ?_; simp only [chainOf, Mark.isT, if_true, Bool.false_eq_true, if_false])
  (refine Chain.val (by (first | rfl | exact wanted_true rfl rfl rfl (by assumption))) (fun w h => h.sub (by simp)) (by rintro w hS; ((try clear hF); (first | have hF := And.intro hS.facts (HRD.out _ (hS.sub (by first | simp | ((repeat (first | exact List.nil_sublist _ | exact List.Sublist.refl _ | with_reducible apply List.Sublist.cons₂ | apply List.Sublist.cons)))))) | have hF := And.intro hS.facts (hR.at hS.ext) | have hF := hS.facts); simp only [HFacts, cellFacts, RFacts, cellOnly, and_true, true_and, Nat.zero_add, Nat.reduceAdd] at hF); go_simp; with_reducible rfl) ?_; try simp only [Act.put, List.setIfInBounds_toArray, List.set_cons_zero, List.set_cons_succ])
  (refine Chain.done ?_; (try clear hF); intro wk hS; ((try clear hF); (first | have hF := And.intro hS.facts (HRD.out _ (hS.sub (by first | simp | ((repeat (first | exact List.nil_sublist _ | exact List.Sublist.refl _ | with_reducible apply List.Sublist.cons₂ | apply List.Sublist.cons)))))) | have hF := And.intro hS.facts (hR.at hS.ext) | have hF := hS.facts); simp only [HFacts, cellFacts, RFacts, cellOnly, and_true, true_and, Nat.zero_add, Nat.reduceAdd] at hF))
  go_wp2_with (first | ((with_reducible first | refine nhLa ?_ | refine nhLs ?_ | refine nhLd ?_ | refine nhCa ?_ | refine nhCs ?_ | refine nhCd ?_ | refine nhPa ?_ | refine nhPs ?_ | refine nhPd ?_ | refine nhKa ?_ | refine nhKs ?_ | refine nhKd ?_); ((try clear hF); clear hS; intro wk hS; (try simp only [List.set_cons_zero, List.set_cons_succ, heap_size, heap_set_size] at hS); ((try clear hF); (first | have hF := And.intro hS.facts (HRD.out _ (hS.sub (by first | simp | ((repeat (first | exact List.nil_sublist _ | exact List.Sublist.refl _ | with_reducible apply List.Sublist.cons₂ | apply List.Sublist.cons)))))) | have hF := And.intro hS.facts (hR.at hS.ext) | have hF := hS.facts); simp only [HFacts, cellFacts, RFacts, cellOnly, and_true, true_and, Nat.zero_add, Nat.reduceAdd] at hF))) | fail)
  go_ret
  exact WR_res _ _ HD.out hS.ext
set_option maxRecDepth 100000 in
set_option maxHeartbeats 8000000 in
theorem wr_op2 (x : GV) (col : ByteArray) (l r : CT) (b : Nat) (w : World) (C0 : w.cell? ⟨b, 0, none⟩ = some (.int .i64 2)) (C1 : w.cell? ⟨b, 1, none⟩ = some (.string col)) (C2 : w.cell? ⟨b, 2, none⟩ = some (.int .i64 x.kind)) (C3 : w.cell? ⟨b, 3, none⟩ = some (.int .i64 x.num)) (C4 : w.cell? ⟨b, 4, none⟩ = some (.string x.text))
    (hx : i64 x.num) (ht : x.text.size ≤ 1000) (least : Nat) (h2 : least ≤ 2) (hlen : (writL (.node 2 col x l r) least).length ≤ 100000) :
    Calls Tryd.prog 15 #[.pointer (some ⟨b, 0, none⟩), .int .i64 least] w fun e w' => e = .returned (.string ⟨(writL (.node 2 col x l r) least).toArray⟩) ∧ Ext w w' := by
  have e0 : writL (.node 2 col x l r) least = col.data.toList ++ [32] ++ [60, 62] ++ [32] ++ printL x.kind x.num x.text := by
    unfold writL
    rw [if_neg (by decide), if_neg (by decide), if_neg (by decide), if_neg (by decide), if_neg (by decide), parL2 h2]
    rfl
  rw [e0] at hlen ⊢
  simp only [List.length_append, List.length_cons, List.length_nil] at hlen
  have HP := Lib.hid (fun (W : World) => print_any x.kind x.num x.text W hx.1 hx.2 (by omega))
  obtain ⟨P, hP⟩ : ∃ P, P = printS x.kind x.num x.text := ⟨_, rfl⟩
  rw [← hP] at HP
  have zp : P.size ≤ 100000 := by rw [Lib.size_eq, hP]; unfold printS; simp only; omega
  have zl : col.size ≤ 100000 := by rw [Lib.size_eq]; omega
  have e1 : (⟨(col.data.toList ++ [32] ++ [60, 62] ++ [32] ++ printL x.kind x.num x.text).toArray⟩ : ByteArray) = col ++ ⟨#[32]⟩ ++ ⟨#[60, 62]⟩ ++ ⟨#[32]⟩ ++ P := ba_ext (by rw [hP]; simp [ByteArray.data_append, printS])
  rw [e1]
  have z1 : (col ++ (⟨#[32]⟩ : ByteArray)).size ≤ 100001 := by rw [ByteArray.size_append]; show _ + 1 ≤ _; omega
  have z2 : (col ++ (⟨#[32]⟩ : ByteArray) ++ (⟨#[60, 62]⟩ : ByteArray)).size ≤ 100003 := by rw [ByteArray.size_append]; show _ + 2 ≤ _; omega
  have z3 : (col ++ (⟨#[32]⟩ : ByteArray) ++ (⟨#[60, 62]⟩ : ByteArray) ++ (⟨#[32]⟩ : ByteArray)).size ≤ 100004 := by rw [ByteArray.size_append]; show _ + 1 ≤ _; omega
  have z4 : (col ++ ⟨#[32]⟩ ++ ⟨#[60, 62]⟩ ++ ⟨#[32]⟩ ++ P : ByteArray).size ≤ 200004 := by rw [ByteArray.size_append]; omega
  have y1 : (⟨#[32]⟩ : ByteArray).size = 1 := rfl
  have y2 : (⟨#[60, 62]⟩ : ByteArray).size = 2 := rfl
  obtain ⟨D, hD⟩ : ∃ D, D = col ++ ⟨#[32]⟩ ++ ⟨#[60, 62]⟩ ++ ⟨#[32]⟩ ++ P := ⟨_, rfl⟩
  rw [← hD]
  have HD := Lib.hid hD
  have q1 : decide ((2 : Int) < (least : Int)) = false := by simp; omega
  have w0 : IntKind.i64.wrap 1 = 1 := by decide
  have hS := Hp.init w
  have hR := Reads.cell C0 (Reads.cell C1 (Reads.cell C2 (Reads.cell C3 (Reads.cell C4 (Reads.nil w)))))
  clear C0 C1 C2 C3 C4 hlen e0 e1 hD hx ht hP
  ((try clear hF); (first | have hF := And.intro hS.facts (HRD.out _ (hS.sub (by first | simp | ((repeat (first | exact List.nil_sublist _ | exact List.Sublist.refl _ | with_reducible apply List.Sublist.cons₂ | apply List.Sublist.cons)))))) | have hF := And.intro hS.facts (hR.at hS.ext) | have hF := hS.facts); simp only [HFacts, cellFacts, RFacts, cellOnly, and_true, true_and, Nat.zero_add, Nat.reduceAdd] at hF)
  go_enter Tryd.func15, Tryd.ntmps15
  go_wp2_with (first | ((with_reducible first | refine nhLa ?_ | refine nhLs ?_ | refine nhLd ?_ | refine nhCa ?_ | refine nhCs ?_ | refine nhCd ?_ | refine nhPa ?_ | refine nhPs ?_ | refine nhPd ?_ | refine nhKa ?_ | refine nhKs ?_ | refine nhKd ?_); ((try clear hF); clear hS; intro wk hS; (try simp only [List.set_cons_zero, List.set_cons_succ, heap_size, heap_set_size] at hS); ((try clear hF); (first | have hF := And.intro hS.facts (HRD.out _ (hS.sub (by first | simp | ((repeat (first | exact List.nil_sublist _ | exact List.Sublist.refl _ | with_reducible apply List.Sublist.cons₂ | apply List.Sublist.cons)))))) | have hF := And.intro hS.facts (hR.at hS.ext) | have hF := hS.facts); simp only [HFacts, cellFacts, RFacts, cellOnly, and_true, true_and, Nat.zero_add, Nat.reduceAdd] at hF))) | fail)
  ((with_reducible refine wp_region_chain_hp [.q, .q, .q, .q, .q, .q, .q, .q, .q, .q, .q, .q, .q, .q, .q, .q, .q, .q, .q, .q, .t] [] (by kernel_rfl) rfl (by kernel_rfl) hS (fun w h => h.sub (by simp)) ?_); clear hS; (repeat ((with_reducible refine Walk.here ?_); (first | ((with_reducible apply Walk.skipQ); (first | rfl | exact wanted_false rfl rfl rfl (by assumption)); (try simp only [Mark.isQ, if_true, Bool.false_eq_true, if_false, Act.put, List.setIfInBounds_toArray, List.set_cons_zero, List.set_cons_succ])) | ((with_reducible apply Walk.val); (first | rfl | exact wanted_true rfl rfl rfl (by assumption)); (rintro w hS; ((try clear hF); (first | have hF := And.intro hS.facts (HRD.out _ (hS.sub (by first | simp | ((repeat (first | exact List.nil_sublist _ | exact List.Sublist.refl _ | with_reducible apply List.Sublist.cons₂ | apply List.Sublist.cons)))))) | have hF := And.intro hS.facts (hR.at hS.ext) | have hF := hS.facts); simp only [HFacts, cellFacts, RFacts, cellOnly, and_true, true_and, Nat.zero_add, Nat.reduceAdd] at hF); go_simp; first | with_reducible rfl | (rw [if_neg (by first | omega | (simp only [ByteArray.size_append]; omega) | (simp [ByteArray.size_append]; omega))]; try with_reducible rfl)); (try simp only [Mark.isQ, if_true, Bool.false_eq_true, if_false, Act.put, List.setIfInBounds_toArray, List.set_cons_zero, List.set_cons_succ])) | ((with_reducible apply Walk.call); (first | rfl | exact wanted_true rfl rfl rfl (by assumption)); (rintro w hS; ((try clear hF); (first | have hF := And.intro hS.facts (HRD.out _ (hS.sub (by first | simp | ((repeat (first | exact List.nil_sublist _ | exact List.Sublist.refl _ | with_reducible apply List.Sublist.cons₂ | apply List.Sublist.cons)))))) | have hF := And.intro hS.facts (hR.at hS.ext) | have hF := hS.facts); simp only [HFacts, cellFacts, RFacts, cellOnly, and_true, true_and, Nat.zero_add, Nat.reduceAdd] at hF); go_simp; exact ⟨rfl, rfl⟩); (rintro w hS; first | (with_reducible exact HP.out w)); (try simp only [Mark.isQ, if_true, Bool.false_eq_true, if_false, Act.put, List.setIfInBounds_toArray, List.set_cons_zero, List.set_cons_succ])) | ((with_reducible apply Walk.tail); (try simp only [Mark.isQ, if_true, Bool.false_eq_true, if_false, Act.put, List.setIfInBounds_toArray, List.set_cons_zero, List.set_cons_succ])) | ((with_reducible apply Walk.guardT); rfl; rfl; rfl; (all_goals intro hg)) | ((with_reducible apply Walk.guardF); rfl; rfl; rfl; (all_goals intro hg))))); refine Walk.done ?_; simp only [chainOf, Mark.isT, if_true, Bool.false_eq_true, if_false])
  (refine Chain.val (by (first | rfl | exact wanted_true rfl rfl rfl (by assumption))) (fun w h => h.sub (by simp)) (by rintro w hS; ((try clear hF); (first | have hF := And.intro hS.facts (HRD.out _ (hS.sub (by first | simp | ((repeat (first | exact List.nil_sublist _ | exact List.Sublist.refl _ | with_reducible apply List.Sublist.cons₂ | apply List.Sublist.cons)))))) | have hF := And.intro hS.facts (hR.at hS.ext) | have hF := hS.facts); simp only [HFacts, cellFacts, RFacts, cellOnly, and_true, true_and, Nat.zero_add, Nat.reduceAdd] at hF); go_simp; with_reducible rfl) ?_; try simp only [Act.put, List.setIfInBounds_toArray, List.set_cons_zero, List.set_cons_succ])
  (refine Chain.done ?_; (try clear hF); intro wk hS; ((try clear hF); (first | have hF := And.intro hS.facts (HRD.out _ (hS.sub (by first | simp | ((repeat (first | exact List.nil_sublist _ | exact List.Sublist.refl _ | with_reducible apply List.Sublist.cons₂ | apply List.Sublist.cons)))))) | have hF := And.intro hS.facts (hR.at hS.ext) | have hF := hS.facts); simp only [HFacts, cellFacts, RFacts, cellOnly, and_true, true_and, Nat.zero_add, Nat.reduceAdd] at hF))
  go_wp2_with (first | ((with_reducible first | refine nhLa ?_ | refine nhLs ?_ | refine nhLd ?_ | refine nhCa ?_ | refine nhCs ?_ | refine nhCd ?_ | refine nhPa ?_ | refine nhPs ?_ | refine nhPd ?_ | refine nhKa ?_ | refine nhKs ?_ | refine nhKd ?_); ((try clear hF); clear hS; intro wk hS; (try simp only [List.set_cons_zero, List.set_cons_succ, heap_size, heap_set_size] at hS); ((try clear hF); (first | have hF := And.intro hS.facts (HRD.out _ (hS.sub (by first | simp | ((repeat (first | exact List.nil_sublist _ | exact List.Sublist.refl _ | with_reducible apply List.Sublist.cons₂ | apply List.Sublist.cons)))))) | have hF := And.intro hS.facts (hR.at hS.ext) | have hF := hS.facts); simp only [HFacts, cellFacts, RFacts, cellOnly, and_true, true_and, Nat.zero_add, Nat.reduceAdd] at hF))) | fail)
  go_ret
  exact WR_res _ _ HD.out hS.ext
set_option maxRecDepth 100000 in
set_option maxHeartbeats 8000000 in
theorem wr_op3 (x : GV) (col : ByteArray) (l r : CT) (b : Nat) (w : World) (C0 : w.cell? ⟨b, 0, none⟩ = some (.int .i64 3)) (C1 : w.cell? ⟨b, 1, none⟩ = some (.string col)) (C2 : w.cell? ⟨b, 2, none⟩ = some (.int .i64 x.kind)) (C3 : w.cell? ⟨b, 3, none⟩ = some (.int .i64 x.num)) (C4 : w.cell? ⟨b, 4, none⟩ = some (.string x.text))
    (hx : i64 x.num) (ht : x.text.size ≤ 1000) (least : Nat) (h2 : least ≤ 2) (hlen : (writL (.node 3 col x l r) least).length ≤ 100000) :
    Calls Tryd.prog 15 #[.pointer (some ⟨b, 0, none⟩), .int .i64 least] w fun e w' => e = .returned (.string ⟨(writL (.node 3 col x l r) least).toArray⟩) ∧ Ext w w' := by
  have e0 : writL (.node 3 col x l r) least = col.data.toList ++ [32] ++ [60] ++ [32] ++ printL x.kind x.num x.text := by
    unfold writL
    rw [if_neg (by decide), if_neg (by decide), if_neg (by decide), if_neg (by decide), if_neg (by decide), parL2 h2]
    rfl
  rw [e0] at hlen ⊢
  simp only [List.length_append, List.length_cons, List.length_nil] at hlen
  have HP := Lib.hid (fun (W : World) => print_any x.kind x.num x.text W hx.1 hx.2 (by omega))
  obtain ⟨P, hP⟩ : ∃ P, P = printS x.kind x.num x.text := ⟨_, rfl⟩
  rw [← hP] at HP
  have zp : P.size ≤ 100000 := by rw [Lib.size_eq, hP]; unfold printS; simp only; omega
  have zl : col.size ≤ 100000 := by rw [Lib.size_eq]; omega
  have e1 : (⟨(col.data.toList ++ [32] ++ [60] ++ [32] ++ printL x.kind x.num x.text).toArray⟩ : ByteArray) = col ++ ⟨#[32]⟩ ++ ⟨#[60]⟩ ++ ⟨#[32]⟩ ++ P := ba_ext (by rw [hP]; simp [ByteArray.data_append, printS])
  rw [e1]
  have z1 : (col ++ (⟨#[32]⟩ : ByteArray)).size ≤ 100001 := by rw [ByteArray.size_append]; show _ + 1 ≤ _; omega
  have z2 : (col ++ (⟨#[32]⟩ : ByteArray) ++ (⟨#[60]⟩ : ByteArray)).size ≤ 100003 := by rw [ByteArray.size_append]; show _ + 1 ≤ _; omega
  have z3 : (col ++ (⟨#[32]⟩ : ByteArray) ++ (⟨#[60]⟩ : ByteArray) ++ (⟨#[32]⟩ : ByteArray)).size ≤ 100004 := by rw [ByteArray.size_append]; show _ + 1 ≤ _; omega
  have z4 : (col ++ ⟨#[32]⟩ ++ ⟨#[60]⟩ ++ ⟨#[32]⟩ ++ P : ByteArray).size ≤ 200004 := by rw [ByteArray.size_append]; omega
  have y1 : (⟨#[32]⟩ : ByteArray).size = 1 := rfl
  have y2 : (⟨#[60]⟩ : ByteArray).size = 1 := rfl
  obtain ⟨D, hD⟩ : ∃ D, D = col ++ ⟨#[32]⟩ ++ ⟨#[60]⟩ ++ ⟨#[32]⟩ ++ P := ⟨_, rfl⟩
  rw [← hD]
  have HD := Lib.hid hD
  have q1 : decide ((2 : Int) < (least : Int)) = false := by simp; omega
  have w0 : IntKind.i64.wrap 2 = 2 := by decide
  have hS := Hp.init w
  have hR := Reads.cell C0 (Reads.cell C1 (Reads.cell C2 (Reads.cell C3 (Reads.cell C4 (Reads.nil w)))))
  clear C0 C1 C2 C3 C4 hlen e0 e1 hD hx ht hP
  ((try clear hF); (first | have hF := And.intro hS.facts (HRD.out _ (hS.sub (by first | simp | ((repeat (first | exact List.nil_sublist _ | exact List.Sublist.refl _ | with_reducible apply List.Sublist.cons₂ | apply List.Sublist.cons)))))) | have hF := And.intro hS.facts (hR.at hS.ext) | have hF := hS.facts); simp only [HFacts, cellFacts, RFacts, cellOnly, and_true, true_and, Nat.zero_add, Nat.reduceAdd] at hF)
  go_enter Tryd.func15, Tryd.ntmps15
  go_wp2_with (first | ((with_reducible first | refine nhLa ?_ | refine nhLs ?_ | refine nhLd ?_ | refine nhCa ?_ | refine nhCs ?_ | refine nhCd ?_ | refine nhPa ?_ | refine nhPs ?_ | refine nhPd ?_ | refine nhKa ?_ | refine nhKs ?_ | refine nhKd ?_); ((try clear hF); clear hS; intro wk hS; (try simp only [List.set_cons_zero, List.set_cons_succ, heap_size, heap_set_size] at hS); ((try clear hF); (first | have hF := And.intro hS.facts (HRD.out _ (hS.sub (by first | simp | ((repeat (first | exact List.nil_sublist _ | exact List.Sublist.refl _ | with_reducible apply List.Sublist.cons₂ | apply List.Sublist.cons)))))) | have hF := And.intro hS.facts (hR.at hS.ext) | have hF := hS.facts); simp only [HFacts, cellFacts, RFacts, cellOnly, and_true, true_and, Nat.zero_add, Nat.reduceAdd] at hF))) | fail)
  ((with_reducible refine wp_region_chain_hp [.q, .q, .q, .q, .q, .q, .q, .q, .q, .q, .q, .q, .q, .q, .q, .q, .q, .q, .q, .q, .t] [] (by kernel_rfl) rfl (by kernel_rfl) hS (fun w h => h.sub (by simp)) ?_); clear hS; (repeat ((with_reducible refine Walk.here ?_); (first | ((with_reducible apply Walk.skipQ); (first | rfl | exact wanted_false rfl rfl rfl (by assumption)); (try simp only [Mark.isQ, if_true, Bool.false_eq_true, if_false, Act.put, List.setIfInBounds_toArray, List.set_cons_zero, List.set_cons_succ])) | ((with_reducible apply Walk.val); (first | rfl | exact wanted_true rfl rfl rfl (by assumption)); (rintro w hS; ((try clear hF); (first | have hF := And.intro hS.facts (HRD.out _ (hS.sub (by first | simp | ((repeat (first | exact List.nil_sublist _ | exact List.Sublist.refl _ | with_reducible apply List.Sublist.cons₂ | apply List.Sublist.cons)))))) | have hF := And.intro hS.facts (hR.at hS.ext) | have hF := hS.facts); simp only [HFacts, cellFacts, RFacts, cellOnly, and_true, true_and, Nat.zero_add, Nat.reduceAdd] at hF); go_simp; first | with_reducible rfl | (rw [if_neg (by first | omega | (simp only [ByteArray.size_append]; omega) | (simp [ByteArray.size_append]; omega))]; try with_reducible rfl)); (try simp only [Mark.isQ, if_true, Bool.false_eq_true, if_false, Act.put, List.setIfInBounds_toArray, List.set_cons_zero, List.set_cons_succ])) | ((with_reducible apply Walk.call); (first | rfl | exact wanted_true rfl rfl rfl (by assumption)); (rintro w hS; ((try clear hF); (first | have hF := And.intro hS.facts (HRD.out _ (hS.sub (by first | simp | ((repeat (first | exact List.nil_sublist _ | exact List.Sublist.refl _ | with_reducible apply List.Sublist.cons₂ | apply List.Sublist.cons)))))) | have hF := And.intro hS.facts (hR.at hS.ext) | have hF := hS.facts); simp only [HFacts, cellFacts, RFacts, cellOnly, and_true, true_and, Nat.zero_add, Nat.reduceAdd] at hF); go_simp; exact ⟨rfl, rfl⟩); (rintro w hS; first | (with_reducible exact HP.out w)); (try simp only [Mark.isQ, if_true, Bool.false_eq_true, if_false, Act.put, List.setIfInBounds_toArray, List.set_cons_zero, List.set_cons_succ])) | ((with_reducible apply Walk.tail); (try simp only [Mark.isQ, if_true, Bool.false_eq_true, if_false, Act.put, List.setIfInBounds_toArray, List.set_cons_zero, List.set_cons_succ])) | ((with_reducible apply Walk.guardT); rfl; rfl; rfl; (all_goals intro hg)) | ((with_reducible apply Walk.guardF); rfl; rfl; rfl; (all_goals intro hg))))); refine Walk.done ?_; simp only [chainOf, Mark.isT, if_true, Bool.false_eq_true, if_false])
  (refine Chain.val (by (first | rfl | exact wanted_true rfl rfl rfl (by assumption))) (fun w h => h.sub (by simp)) (by rintro w hS; ((try clear hF); (first | have hF := And.intro hS.facts (HRD.out _ (hS.sub (by first | simp | ((repeat (first | exact List.nil_sublist _ | exact List.Sublist.refl _ | with_reducible apply List.Sublist.cons₂ | apply List.Sublist.cons)))))) | have hF := And.intro hS.facts (hR.at hS.ext) | have hF := hS.facts); simp only [HFacts, cellFacts, RFacts, cellOnly, and_true, true_and, Nat.zero_add, Nat.reduceAdd] at hF); go_simp; with_reducible rfl) ?_; try simp only [Act.put, List.setIfInBounds_toArray, List.set_cons_zero, List.set_cons_succ])
  (refine Chain.done ?_; (try clear hF); intro wk hS; ((try clear hF); (first | have hF := And.intro hS.facts (HRD.out _ (hS.sub (by first | simp | ((repeat (first | exact List.nil_sublist _ | exact List.Sublist.refl _ | with_reducible apply List.Sublist.cons₂ | apply List.Sublist.cons)))))) | have hF := And.intro hS.facts (hR.at hS.ext) | have hF := hS.facts); simp only [HFacts, cellFacts, RFacts, cellOnly, and_true, true_and, Nat.zero_add, Nat.reduceAdd] at hF))
  go_wp2_with (first | ((with_reducible first | refine nhLa ?_ | refine nhLs ?_ | refine nhLd ?_ | refine nhCa ?_ | refine nhCs ?_ | refine nhCd ?_ | refine nhPa ?_ | refine nhPs ?_ | refine nhPd ?_ | refine nhKa ?_ | refine nhKs ?_ | refine nhKd ?_); ((try clear hF); clear hS; intro wk hS; (try simp only [List.set_cons_zero, List.set_cons_succ, heap_size, heap_set_size] at hS); ((try clear hF); (first | have hF := And.intro hS.facts (HRD.out _ (hS.sub (by first | simp | ((repeat (first | exact List.nil_sublist _ | exact List.Sublist.refl _ | with_reducible apply List.Sublist.cons₂ | apply List.Sublist.cons)))))) | have hF := And.intro hS.facts (hR.at hS.ext) | have hF := hS.facts); simp only [HFacts, cellFacts, RFacts, cellOnly, and_true, true_and, Nat.zero_add, Nat.reduceAdd] at hF))) | fail)
  go_ret
  exact WR_res _ _ HD.out hS.ext
set_option maxRecDepth 100000 in
set_option maxHeartbeats 8000000 in
theorem wr_op4 (x : GV) (col : ByteArray) (l r : CT) (b : Nat) (w : World) (C0 : w.cell? ⟨b, 0, none⟩ = some (.int .i64 4)) (C1 : w.cell? ⟨b, 1, none⟩ = some (.string col)) (C2 : w.cell? ⟨b, 2, none⟩ = some (.int .i64 x.kind)) (C3 : w.cell? ⟨b, 3, none⟩ = some (.int .i64 x.num)) (C4 : w.cell? ⟨b, 4, none⟩ = some (.string x.text))
    (hx : i64 x.num) (ht : x.text.size ≤ 1000) (least : Nat) (h2 : least ≤ 2) (hlen : (writL (.node 4 col x l r) least).length ≤ 100000) :
    Calls Tryd.prog 15 #[.pointer (some ⟨b, 0, none⟩), .int .i64 least] w fun e w' => e = .returned (.string ⟨(writL (.node 4 col x l r) least).toArray⟩) ∧ Ext w w' := by
  have e0 : writL (.node 4 col x l r) least = col.data.toList ++ [32] ++ [60, 61] ++ [32] ++ printL x.kind x.num x.text := by
    unfold writL
    rw [if_neg (by decide), if_neg (by decide), if_neg (by decide), if_neg (by decide), if_neg (by decide), parL2 h2]
    rfl
  rw [e0] at hlen ⊢
  simp only [List.length_append, List.length_cons, List.length_nil] at hlen
  have HP := Lib.hid (fun (W : World) => print_any x.kind x.num x.text W hx.1 hx.2 (by omega))
  obtain ⟨P, hP⟩ : ∃ P, P = printS x.kind x.num x.text := ⟨_, rfl⟩
  rw [← hP] at HP
  have zp : P.size ≤ 100000 := by rw [Lib.size_eq, hP]; unfold printS; simp only; omega
  have zl : col.size ≤ 100000 := by rw [Lib.size_eq]; omega
  have e1 : (⟨(col.data.toList ++ [32] ++ [60, 61] ++ [32] ++ printL x.kind x.num x.text).toArray⟩ : ByteArray) = col ++ ⟨#[32]⟩ ++ ⟨#[60, 61]⟩ ++ ⟨#[32]⟩ ++ P := ba_ext (by rw [hP]; simp [ByteArray.data_append, printS])
  rw [e1]
  have z1 : (col ++ (⟨#[32]⟩ : ByteArray)).size ≤ 100001 := by rw [ByteArray.size_append]; show _ + 1 ≤ _; omega
  have z2 : (col ++ (⟨#[32]⟩ : ByteArray) ++ (⟨#[60, 61]⟩ : ByteArray)).size ≤ 100003 := by rw [ByteArray.size_append]; show _ + 2 ≤ _; omega
  have z3 : (col ++ (⟨#[32]⟩ : ByteArray) ++ (⟨#[60, 61]⟩ : ByteArray) ++ (⟨#[32]⟩ : ByteArray)).size ≤ 100004 := by rw [ByteArray.size_append]; show _ + 1 ≤ _; omega
  have z4 : (col ++ ⟨#[32]⟩ ++ ⟨#[60, 61]⟩ ++ ⟨#[32]⟩ ++ P : ByteArray).size ≤ 200004 := by rw [ByteArray.size_append]; omega
  have y1 : (⟨#[32]⟩ : ByteArray).size = 1 := rfl
  have y2 : (⟨#[60, 61]⟩ : ByteArray).size = 2 := rfl
  obtain ⟨D, hD⟩ : ∃ D, D = col ++ ⟨#[32]⟩ ++ ⟨#[60, 61]⟩ ++ ⟨#[32]⟩ ++ P := ⟨_, rfl⟩
  rw [← hD]
  have HD := Lib.hid hD
  have q1 : decide ((2 : Int) < (least : Int)) = false := by simp; omega
  have w0 : IntKind.i64.wrap 3 = 3 := by decide
  have hS := Hp.init w
  have hR := Reads.cell C0 (Reads.cell C1 (Reads.cell C2 (Reads.cell C3 (Reads.cell C4 (Reads.nil w)))))
  clear C0 C1 C2 C3 C4 hlen e0 e1 hD hx ht hP
  ((try clear hF); (first | have hF := And.intro hS.facts (HRD.out _ (hS.sub (by first | simp | ((repeat (first | exact List.nil_sublist _ | exact List.Sublist.refl _ | with_reducible apply List.Sublist.cons₂ | apply List.Sublist.cons)))))) | have hF := And.intro hS.facts (hR.at hS.ext) | have hF := hS.facts); simp only [HFacts, cellFacts, RFacts, cellOnly, and_true, true_and, Nat.zero_add, Nat.reduceAdd] at hF)
  go_enter Tryd.func15, Tryd.ntmps15
  go_wp2_with (first | ((with_reducible first | refine nhLa ?_ | refine nhLs ?_ | refine nhLd ?_ | refine nhCa ?_ | refine nhCs ?_ | refine nhCd ?_ | refine nhPa ?_ | refine nhPs ?_ | refine nhPd ?_ | refine nhKa ?_ | refine nhKs ?_ | refine nhKd ?_); ((try clear hF); clear hS; intro wk hS; (try simp only [List.set_cons_zero, List.set_cons_succ, heap_size, heap_set_size] at hS); ((try clear hF); (first | have hF := And.intro hS.facts (HRD.out _ (hS.sub (by first | simp | ((repeat (first | exact List.nil_sublist _ | exact List.Sublist.refl _ | with_reducible apply List.Sublist.cons₂ | apply List.Sublist.cons)))))) | have hF := And.intro hS.facts (hR.at hS.ext) | have hF := hS.facts); simp only [HFacts, cellFacts, RFacts, cellOnly, and_true, true_and, Nat.zero_add, Nat.reduceAdd] at hF))) | fail)
  ((with_reducible refine wp_region_chain_hp [.q, .q, .q, .q, .q, .q, .q, .q, .q, .q, .q, .q, .q, .q, .q, .q, .q, .q, .q, .q, .t] [] (by kernel_rfl) rfl (by kernel_rfl) hS (fun w h => h.sub (by simp)) ?_); clear hS; (repeat ((with_reducible refine Walk.here ?_); (first | ((with_reducible apply Walk.skipQ); (first | rfl | exact wanted_false rfl rfl rfl (by assumption)); (try simp only [Mark.isQ, if_true, Bool.false_eq_true, if_false, Act.put, List.setIfInBounds_toArray, List.set_cons_zero, List.set_cons_succ])) | ((with_reducible apply Walk.val); (first | rfl | exact wanted_true rfl rfl rfl (by assumption)); (rintro w hS; ((try clear hF); (first | have hF := And.intro hS.facts (HRD.out _ (hS.sub (by first | simp | ((repeat (first | exact List.nil_sublist _ | exact List.Sublist.refl _ | with_reducible apply List.Sublist.cons₂ | apply List.Sublist.cons)))))) | have hF := And.intro hS.facts (hR.at hS.ext) | have hF := hS.facts); simp only [HFacts, cellFacts, RFacts, cellOnly, and_true, true_and, Nat.zero_add, Nat.reduceAdd] at hF); go_simp; first | with_reducible rfl | (rw [if_neg (by first | omega | (simp only [ByteArray.size_append]; omega) | (simp [ByteArray.size_append]; omega))]; try with_reducible rfl)); (try simp only [Mark.isQ, if_true, Bool.false_eq_true, if_false, Act.put, List.setIfInBounds_toArray, List.set_cons_zero, List.set_cons_succ])) | ((with_reducible apply Walk.call); (first | rfl | exact wanted_true rfl rfl rfl (by assumption)); (rintro w hS; ((try clear hF); (first | have hF := And.intro hS.facts (HRD.out _ (hS.sub (by first | simp | ((repeat (first | exact List.nil_sublist _ | exact List.Sublist.refl _ | with_reducible apply List.Sublist.cons₂ | apply List.Sublist.cons)))))) | have hF := And.intro hS.facts (hR.at hS.ext) | have hF := hS.facts); simp only [HFacts, cellFacts, RFacts, cellOnly, and_true, true_and, Nat.zero_add, Nat.reduceAdd] at hF); go_simp; exact ⟨rfl, rfl⟩); (rintro w hS; first | (with_reducible exact HP.out w)); (try simp only [Mark.isQ, if_true, Bool.false_eq_true, if_false, Act.put, List.setIfInBounds_toArray, List.set_cons_zero, List.set_cons_succ])) | ((with_reducible apply Walk.tail); (try simp only [Mark.isQ, if_true, Bool.false_eq_true, if_false, Act.put, List.setIfInBounds_toArray, List.set_cons_zero, List.set_cons_succ])) | ((with_reducible apply Walk.guardT); rfl; rfl; rfl; (all_goals intro hg)) | ((with_reducible apply Walk.guardF); rfl; rfl; rfl; (all_goals intro hg))))); refine Walk.done ?_; simp only [chainOf, Mark.isT, if_true, Bool.false_eq_true, if_false])
  (refine Chain.val (by (first | rfl | exact wanted_true rfl rfl rfl (by assumption))) (fun w h => h.sub (by simp)) (by rintro w hS; ((try clear hF); (first | have hF := And.intro hS.facts (HRD.out _ (hS.sub (by first | simp | ((repeat (first | exact List.nil_sublist _ | exact List.Sublist.refl _ | with_reducible apply List.Sublist.cons₂ | apply List.Sublist.cons)))))) | have hF := And.intro hS.facts (hR.at hS.ext) | have hF := hS.facts); simp only [HFacts, cellFacts, RFacts, cellOnly, and_true, true_and, Nat.zero_add, Nat.reduceAdd] at hF); go_simp; with_reducible rfl) ?_; try simp only [Act.put, List.setIfInBounds_toArray, List.set_cons_zero, List.set_cons_succ])
  (refine Chain.done ?_; (try clear hF); intro wk hS; ((try clear hF); (first | have hF := And.intro hS.facts (HRD.out _ (hS.sub (by first | simp | ((repeat (first | exact List.nil_sublist _ | exact List.Sublist.refl _ | with_reducible apply List.Sublist.cons₂ | apply List.Sublist.cons)))))) | have hF := And.intro hS.facts (hR.at hS.ext) | have hF := hS.facts); simp only [HFacts, cellFacts, RFacts, cellOnly, and_true, true_and, Nat.zero_add, Nat.reduceAdd] at hF))
  go_wp2_with (first | ((with_reducible first | refine nhLa ?_ | refine nhLs ?_ | refine nhLd ?_ | refine nhCa ?_ | refine nhCs ?_ | refine nhCd ?_ | refine nhPa ?_ | refine nhPs ?_ | refine nhPd ?_ | refine nhKa ?_ | refine nhKs ?_ | refine nhKd ?_); ((try clear hF); clear hS; intro wk hS; (try simp only [List.set_cons_zero, List.set_cons_succ, heap_size, heap_set_size] at hS); ((try clear hF); (first | have hF := And.intro hS.facts (HRD.out _ (hS.sub (by first | simp | ((repeat (first | exact List.nil_sublist _ | exact List.Sublist.refl _ | with_reducible apply List.Sublist.cons₂ | apply List.Sublist.cons)))))) | have hF := And.intro hS.facts (hR.at hS.ext) | have hF := hS.facts); simp only [HFacts, cellFacts, RFacts, cellOnly, and_true, true_and, Nat.zero_add, Nat.reduceAdd] at hF))) | fail)
  go_ret
  exact WR_res _ _ HD.out hS.ext
set_option maxRecDepth 100000 in
set_option maxHeartbeats 8000000 in
theorem wr_op5 (x : GV) (col : ByteArray) (l r : CT) (b : Nat) (w : World) (C0 : w.cell? ⟨b, 0, none⟩ = some (.int .i64 5)) (C1 : w.cell? ⟨b, 1, none⟩ = some (.string col)) (C2 : w.cell? ⟨b, 2, none⟩ = some (.int .i64 x.kind)) (C3 : w.cell? ⟨b, 3, none⟩ = some (.int .i64 x.num)) (C4 : w.cell? ⟨b, 4, none⟩ = some (.string x.text))
    (hx : i64 x.num) (ht : x.text.size ≤ 1000) (least : Nat) (h2 : least ≤ 2) (hlen : (writL (.node 5 col x l r) least).length ≤ 100000) :
    Calls Tryd.prog 15 #[.pointer (some ⟨b, 0, none⟩), .int .i64 least] w fun e w' => e = .returned (.string ⟨(writL (.node 5 col x l r) least).toArray⟩) ∧ Ext w w' := by
  have e0 : writL (.node 5 col x l r) least = col.data.toList ++ [32] ++ [62] ++ [32] ++ printL x.kind x.num x.text := by
    unfold writL
    rw [if_neg (by decide), if_neg (by decide), if_neg (by decide), if_neg (by decide), if_neg (by decide), parL2 h2]
    rfl
  rw [e0] at hlen ⊢
  simp only [List.length_append, List.length_cons, List.length_nil] at hlen
  have HP := Lib.hid (fun (W : World) => print_any x.kind x.num x.text W hx.1 hx.2 (by omega))
  obtain ⟨P, hP⟩ : ∃ P, P = printS x.kind x.num x.text := ⟨_, rfl⟩
  rw [← hP] at HP
  have zp : P.size ≤ 100000 := by rw [Lib.size_eq, hP]; unfold printS; simp only; omega
  have zl : col.size ≤ 100000 := by rw [Lib.size_eq]; omega
  have e1 : (⟨(col.data.toList ++ [32] ++ [62] ++ [32] ++ printL x.kind x.num x.text).toArray⟩ : ByteArray) = col ++ ⟨#[32]⟩ ++ ⟨#[62]⟩ ++ ⟨#[32]⟩ ++ P := ba_ext (by rw [hP]; simp [ByteArray.data_append, printS])
  rw [e1]
  have z1 : (col ++ (⟨#[32]⟩ : ByteArray)).size ≤ 100001 := by rw [ByteArray.size_append]; show _ + 1 ≤ _; omega
  have z2 : (col ++ (⟨#[32]⟩ : ByteArray) ++ (⟨#[62]⟩ : ByteArray)).size ≤ 100003 := by rw [ByteArray.size_append]; show _ + 1 ≤ _; omega
  have z3 : (col ++ (⟨#[32]⟩ : ByteArray) ++ (⟨#[62]⟩ : ByteArray) ++ (⟨#[32]⟩ : ByteArray)).size ≤ 100004 := by rw [ByteArray.size_append]; show _ + 1 ≤ _; omega
  have z4 : (col ++ ⟨#[32]⟩ ++ ⟨#[62]⟩ ++ ⟨#[32]⟩ ++ P : ByteArray).size ≤ 200004 := by rw [ByteArray.size_append]; omega
  have y1 : (⟨#[32]⟩ : ByteArray).size = 1 := rfl
  have y2 : (⟨#[62]⟩ : ByteArray).size = 1 := rfl
  obtain ⟨D, hD⟩ : ∃ D, D = col ++ ⟨#[32]⟩ ++ ⟨#[62]⟩ ++ ⟨#[32]⟩ ++ P := ⟨_, rfl⟩
  rw [← hD]
  have HD := Lib.hid hD
  have q1 : decide ((2 : Int) < (least : Int)) = false := by simp; omega
  have w0 : IntKind.i64.wrap 4 = 4 := by decide
  have hS := Hp.init w
  have hR := Reads.cell C0 (Reads.cell C1 (Reads.cell C2 (Reads.cell C3 (Reads.cell C4 (Reads.nil w)))))
  clear C0 C1 C2 C3 C4 hlen e0 e1 hD hx ht hP
  ((try clear hF); (first | have hF := And.intro hS.facts (HRD.out _ (hS.sub (by first | simp | ((repeat (first | exact List.nil_sublist _ | exact List.Sublist.refl _ | with_reducible apply List.Sublist.cons₂ | apply List.Sublist.cons)))))) | have hF := And.intro hS.facts (hR.at hS.ext) | have hF := hS.facts); simp only [HFacts, cellFacts, RFacts, cellOnly, and_true, true_and, Nat.zero_add, Nat.reduceAdd] at hF)
  go_enter Tryd.func15, Tryd.ntmps15
  go_wp2_with (first | ((with_reducible first | refine nhLa ?_ | refine nhLs ?_ | refine nhLd ?_ | refine nhCa ?_ | refine nhCs ?_ | refine nhCd ?_ | refine nhPa ?_ | refine nhPs ?_ | refine nhPd ?_ | refine nhKa ?_ | refine nhKs ?_ | refine nhKd ?_); ((try clear hF); clear hS; intro wk hS; (try simp only [List.set_cons_zero, List.set_cons_succ, heap_size, heap_set_size] at hS); ((try clear hF); (first | have hF := And.intro hS.facts (HRD.out _ (hS.sub (by first | simp | ((repeat (first | exact List.nil_sublist _ | exact List.Sublist.refl _ | with_reducible apply List.Sublist.cons₂ | apply List.Sublist.cons)))))) | have hF := And.intro hS.facts (hR.at hS.ext) | have hF := hS.facts); simp only [HFacts, cellFacts, RFacts, cellOnly, and_true, true_and, Nat.zero_add, Nat.reduceAdd] at hF))) | fail)
  ((with_reducible refine wp_region_chain_hp [.q, .q, .q, .q, .q, .q, .q, .q, .q, .q, .q, .q, .q, .q, .q, .q, .q, .q, .q, .q, .t] [] (by kernel_rfl) rfl (by kernel_rfl) hS (fun w h => h.sub (by simp)) ?_); clear hS; (repeat ((with_reducible refine Walk.here ?_); (first | ((with_reducible apply Walk.skipQ); (first | rfl | exact wanted_false rfl rfl rfl (by assumption)); (try simp only [Mark.isQ, if_true, Bool.false_eq_true, if_false, Act.put, List.setIfInBounds_toArray, List.set_cons_zero, List.set_cons_succ])) | ((with_reducible apply Walk.val); (first | rfl | exact wanted_true rfl rfl rfl (by assumption)); (rintro w hS; ((try clear hF); (first | have hF := And.intro hS.facts (HRD.out _ (hS.sub (by first | simp | ((repeat (first | exact List.nil_sublist _ | exact List.Sublist.refl _ | with_reducible apply List.Sublist.cons₂ | apply List.Sublist.cons)))))) | have hF := And.intro hS.facts (hR.at hS.ext) | have hF := hS.facts); simp only [HFacts, cellFacts, RFacts, cellOnly, and_true, true_and, Nat.zero_add, Nat.reduceAdd] at hF); go_simp; first | with_reducible rfl | (rw [if_neg (by first | omega | (simp only [ByteArray.size_append]; omega) | (simp [ByteArray.size_append]; omega))]; try with_reducible rfl)); (try simp only [Mark.isQ, if_true, Bool.false_eq_true, if_false, Act.put, List.setIfInBounds_toArray, List.set_cons_zero, List.set_cons_succ])) | ((with_reducible apply Walk.call); (first | rfl | exact wanted_true rfl rfl rfl (by assumption)); (rintro w hS; ((try clear hF); (first | have hF := And.intro hS.facts (HRD.out _ (hS.sub (by first | simp | ((repeat (first | exact List.nil_sublist _ | exact List.Sublist.refl _ | with_reducible apply List.Sublist.cons₂ | apply List.Sublist.cons)))))) | have hF := And.intro hS.facts (hR.at hS.ext) | have hF := hS.facts); simp only [HFacts, cellFacts, RFacts, cellOnly, and_true, true_and, Nat.zero_add, Nat.reduceAdd] at hF); go_simp; exact ⟨rfl, rfl⟩); (rintro w hS; first | (with_reducible exact HP.out w)); (try simp only [Mark.isQ, if_true, Bool.false_eq_true, if_false, Act.put, List.setIfInBounds_toArray, List.set_cons_zero, List.set_cons_succ])) | ((with_reducible apply Walk.tail); (try simp only [Mark.isQ, if_true, Bool.false_eq_true, if_false, Act.put, List.setIfInBounds_toArray, List.set_cons_zero, List.set_cons_succ])) | ((with_reducible apply Walk.guardT); rfl; rfl; rfl; (all_goals intro hg)) | ((with_reducible apply Walk.guardF); rfl; rfl; rfl; (all_goals intro hg))))); refine Walk.done ?_; simp only [chainOf, Mark.isT, if_true, Bool.false_eq_true, if_false])
  (refine Chain.val (by (first | rfl | exact wanted_true rfl rfl rfl (by assumption))) (fun w h => h.sub (by simp)) (by rintro w hS; ((try clear hF); (first | have hF := And.intro hS.facts (HRD.out _ (hS.sub (by first | simp | ((repeat (first | exact List.nil_sublist _ | exact List.Sublist.refl _ | with_reducible apply List.Sublist.cons₂ | apply List.Sublist.cons)))))) | have hF := And.intro hS.facts (hR.at hS.ext) | have hF := hS.facts); simp only [HFacts, cellFacts, RFacts, cellOnly, and_true, true_and, Nat.zero_add, Nat.reduceAdd] at hF); go_simp; with_reducible rfl) ?_; try simp only [Act.put, List.setIfInBounds_toArray, List.set_cons_zero, List.set_cons_succ])
  (refine Chain.done ?_; (try clear hF); intro wk hS; ((try clear hF); (first | have hF := And.intro hS.facts (HRD.out _ (hS.sub (by first | simp | ((repeat (first | exact List.nil_sublist _ | exact List.Sublist.refl _ | with_reducible apply List.Sublist.cons₂ | apply List.Sublist.cons)))))) | have hF := And.intro hS.facts (hR.at hS.ext) | have hF := hS.facts); simp only [HFacts, cellFacts, RFacts, cellOnly, and_true, true_and, Nat.zero_add, Nat.reduceAdd] at hF))
  go_wp2_with (first | ((with_reducible first | refine nhLa ?_ | refine nhLs ?_ | refine nhLd ?_ | refine nhCa ?_ | refine nhCs ?_ | refine nhCd ?_ | refine nhPa ?_ | refine nhPs ?_ | refine nhPd ?_ | refine nhKa ?_ | refine nhKs ?_ | refine nhKd ?_); ((try clear hF); clear hS; intro wk hS; (try simp only [List.set_cons_zero, List.set_cons_succ, heap_size, heap_set_size] at hS); ((try clear hF); (first | have hF := And.intro hS.facts (HRD.out _ (hS.sub (by first | simp | ((repeat (first | exact List.nil_sublist _ | exact List.Sublist.refl _ | with_reducible apply List.Sublist.cons₂ | apply List.Sublist.cons)))))) | have hF := And.intro hS.facts (hR.at hS.ext) | have hF := hS.facts); simp only [HFacts, cellFacts, RFacts, cellOnly, and_true, true_and, Nat.zero_add, Nat.reduceAdd] at hF))) | fail)
  go_ret
  exact WR_res _ _ HD.out hS.ext
set_option maxRecDepth 100000 in
set_option maxHeartbeats 8000000 in
theorem wr_op6 (x : GV) (col : ByteArray) (l r : CT) (b : Nat) (w : World) (C0 : w.cell? ⟨b, 0, none⟩ = some (.int .i64 6)) (C1 : w.cell? ⟨b, 1, none⟩ = some (.string col)) (C2 : w.cell? ⟨b, 2, none⟩ = some (.int .i64 x.kind)) (C3 : w.cell? ⟨b, 3, none⟩ = some (.int .i64 x.num)) (C4 : w.cell? ⟨b, 4, none⟩ = some (.string x.text))
    (hx : i64 x.num) (ht : x.text.size ≤ 1000) (least : Nat) (h2 : least ≤ 2) (hlen : (writL (.node 6 col x l r) least).length ≤ 100000) :
    Calls Tryd.prog 15 #[.pointer (some ⟨b, 0, none⟩), .int .i64 least] w fun e w' => e = .returned (.string ⟨(writL (.node 6 col x l r) least).toArray⟩) ∧ Ext w w' := by
  have e0 : writL (.node 6 col x l r) least = col.data.toList ++ [32] ++ [62, 61] ++ [32] ++ printL x.kind x.num x.text := by
    unfold writL
    rw [if_neg (by decide), if_neg (by decide), if_neg (by decide), if_neg (by decide), if_neg (by decide), parL2 h2]
    rfl
  rw [e0] at hlen ⊢
  simp only [List.length_append, List.length_cons, List.length_nil] at hlen
  have HP := Lib.hid (fun (W : World) => print_any x.kind x.num x.text W hx.1 hx.2 (by omega))
  obtain ⟨P, hP⟩ : ∃ P, P = printS x.kind x.num x.text := ⟨_, rfl⟩
  rw [← hP] at HP
  have zp : P.size ≤ 100000 := by rw [Lib.size_eq, hP]; unfold printS; simp only; omega
  have zl : col.size ≤ 100000 := by rw [Lib.size_eq]; omega
  have e1 : (⟨(col.data.toList ++ [32] ++ [62, 61] ++ [32] ++ printL x.kind x.num x.text).toArray⟩ : ByteArray) = col ++ ⟨#[32]⟩ ++ ⟨#[62, 61]⟩ ++ ⟨#[32]⟩ ++ P := ba_ext (by rw [hP]; simp [ByteArray.data_append, printS])
  rw [e1]
  have z1 : (col ++ (⟨#[32]⟩ : ByteArray)).size ≤ 100001 := by rw [ByteArray.size_append]; show _ + 1 ≤ _; omega
  have z2 : (col ++ (⟨#[32]⟩ : ByteArray) ++ (⟨#[62, 61]⟩ : ByteArray)).size ≤ 100003 := by rw [ByteArray.size_append]; show _ + 2 ≤ _; omega
  have z3 : (col ++ (⟨#[32]⟩ : ByteArray) ++ (⟨#[62, 61]⟩ : ByteArray) ++ (⟨#[32]⟩ : ByteArray)).size ≤ 100004 := by rw [ByteArray.size_append]; show _ + 1 ≤ _; omega
  have z4 : (col ++ ⟨#[32]⟩ ++ ⟨#[62, 61]⟩ ++ ⟨#[32]⟩ ++ P : ByteArray).size ≤ 200004 := by rw [ByteArray.size_append]; omega
  have y1 : (⟨#[32]⟩ : ByteArray).size = 1 := rfl
  have y2 : (⟨#[62, 61]⟩ : ByteArray).size = 2 := rfl
  obtain ⟨D, hD⟩ : ∃ D, D = col ++ ⟨#[32]⟩ ++ ⟨#[62, 61]⟩ ++ ⟨#[32]⟩ ++ P := ⟨_, rfl⟩
  rw [← hD]
  have HD := Lib.hid hD
  have q1 : decide ((2 : Int) < (least : Int)) = false := by simp; omega
  have w0 : IntKind.i64.wrap 5 = 5 := by decide
  have hS := Hp.init w
  have hR := Reads.cell C0 (Reads.cell C1 (Reads.cell C2 (Reads.cell C3 (Reads.cell C4 (Reads.nil w)))))
  clear C0 C1 C2 C3 C4 hlen e0 e1 hD hx ht hP
  ((try clear hF); (first | have hF := And.intro hS.facts (HRD.out _ (hS.sub (by first | simp | ((repeat (first | exact List.nil_sublist _ | exact List.Sublist.refl _ | with_reducible apply List.Sublist.cons₂ | apply List.Sublist.cons)))))) | have hF := And.intro hS.facts (hR.at hS.ext) | have hF := hS.facts); simp only [HFacts, cellFacts, RFacts, cellOnly, and_true, true_and, Nat.zero_add, Nat.reduceAdd] at hF)
  go_enter Tryd.func15, Tryd.ntmps15
  go_wp2_with (first | ((with_reducible first | refine nhLa ?_ | refine nhLs ?_ | refine nhLd ?_ | refine nhCa ?_ | refine nhCs ?_ | refine nhCd ?_ | refine nhPa ?_ | refine nhPs ?_ | refine nhPd ?_ | refine nhKa ?_ | refine nhKs ?_ | refine nhKd ?_); ((try clear hF); clear hS; intro wk hS; (try simp only [List.set_cons_zero, List.set_cons_succ, heap_size, heap_set_size] at hS); ((try clear hF); (first | have hF := And.intro hS.facts (HRD.out _ (hS.sub (by first | simp | ((repeat (first | exact List.nil_sublist _ | exact List.Sublist.refl _ | with_reducible apply List.Sublist.cons₂ | apply List.Sublist.cons)))))) | have hF := And.intro hS.facts (hR.at hS.ext) | have hF := hS.facts); simp only [HFacts, cellFacts, RFacts, cellOnly, and_true, true_and, Nat.zero_add, Nat.reduceAdd] at hF))) | fail)
  ((with_reducible refine wp_region_chain_hp [.q, .q, .q, .q, .q, .q, .q, .q, .q, .q, .q, .q, .q, .q, .q, .q, .q, .q, .q, .q, .t] [] (by kernel_rfl) rfl (by kernel_rfl) hS (fun w h => h.sub (by simp)) ?_); clear hS; (repeat ((with_reducible refine Walk.here ?_); (first | ((with_reducible apply Walk.skipQ); (first | rfl | exact wanted_false rfl rfl rfl (by assumption)); (try simp only [Mark.isQ, if_true, Bool.false_eq_true, if_false, Act.put, List.setIfInBounds_toArray, List.set_cons_zero, List.set_cons_succ])) | ((with_reducible apply Walk.val); (first | rfl | exact wanted_true rfl rfl rfl (by assumption)); (rintro w hS; ((try clear hF); (first | have hF := And.intro hS.facts (HRD.out _ (hS.sub (by first | simp | ((repeat (first | exact List.nil_sublist _ | exact List.Sublist.refl _ | with_reducible apply List.Sublist.cons₂ | apply List.Sublist.cons)))))) | have hF := And.intro hS.facts (hR.at hS.ext) | have hF := hS.facts); simp only [HFacts, cellFacts, RFacts, cellOnly, and_true, true_and, Nat.zero_add, Nat.reduceAdd] at hF); go_simp; first | with_reducible rfl | (rw [if_neg (by first | omega | (simp only [ByteArray.size_append]; omega) | (simp [ByteArray.size_append]; omega))]; try with_reducible rfl)); (try simp only [Mark.isQ, if_true, Bool.false_eq_true, if_false, Act.put, List.setIfInBounds_toArray, List.set_cons_zero, List.set_cons_succ])) | ((with_reducible apply Walk.call); (first | rfl | exact wanted_true rfl rfl rfl (by assumption)); (rintro w hS; ((try clear hF); (first | have hF := And.intro hS.facts (HRD.out _ (hS.sub (by first | simp | ((repeat (first | exact List.nil_sublist _ | exact List.Sublist.refl _ | with_reducible apply List.Sublist.cons₂ | apply List.Sublist.cons)))))) | have hF := And.intro hS.facts (hR.at hS.ext) | have hF := hS.facts); simp only [HFacts, cellFacts, RFacts, cellOnly, and_true, true_and, Nat.zero_add, Nat.reduceAdd] at hF); go_simp; exact ⟨rfl, rfl⟩); (rintro w hS; first | (with_reducible exact HP.out w)); (try simp only [Mark.isQ, if_true, Bool.false_eq_true, if_false, Act.put, List.setIfInBounds_toArray, List.set_cons_zero, List.set_cons_succ])) | ((with_reducible apply Walk.tail); (try simp only [Mark.isQ, if_true, Bool.false_eq_true, if_false, Act.put, List.setIfInBounds_toArray, List.set_cons_zero, List.set_cons_succ])) | ((with_reducible apply Walk.guardT); rfl; rfl; rfl; (all_goals intro hg)) | ((with_reducible apply Walk.guardF); rfl; rfl; rfl; (all_goals intro hg))))); refine Walk.done ?_; simp only [chainOf, Mark.isT, if_true, Bool.false_eq_true, if_false])
  (refine Chain.val (by (first | rfl | exact wanted_true rfl rfl rfl (by assumption))) (fun w h => h.sub (by simp)) (by rintro w hS; ((try clear hF); (first | have hF := And.intro hS.facts (HRD.out _ (hS.sub (by first | simp | ((repeat (first | exact List.nil_sublist _ | exact List.Sublist.refl _ | with_reducible apply List.Sublist.cons₂ | apply List.Sublist.cons)))))) | have hF := And.intro hS.facts (hR.at hS.ext) | have hF := hS.facts); simp only [HFacts, cellFacts, RFacts, cellOnly, and_true, true_and, Nat.zero_add, Nat.reduceAdd] at hF); go_simp; with_reducible rfl) ?_; try simp only [Act.put, List.setIfInBounds_toArray, List.set_cons_zero, List.set_cons_succ])
  (refine Chain.done ?_; (try clear hF); intro wk hS; ((try clear hF); (first | have hF := And.intro hS.facts (HRD.out _ (hS.sub (by first | simp | ((repeat (first | exact List.nil_sublist _ | exact List.Sublist.refl _ | with_reducible apply List.Sublist.cons₂ | apply List.Sublist.cons)))))) | have hF := And.intro hS.facts (hR.at hS.ext) | have hF := hS.facts); simp only [HFacts, cellFacts, RFacts, cellOnly, and_true, true_and, Nat.zero_add, Nat.reduceAdd] at hF))
  go_wp2_with (first | ((with_reducible first | refine nhLa ?_ | refine nhLs ?_ | refine nhLd ?_ | refine nhCa ?_ | refine nhCs ?_ | refine nhCd ?_ | refine nhPa ?_ | refine nhPs ?_ | refine nhPd ?_ | refine nhKa ?_ | refine nhKs ?_ | refine nhKd ?_); ((try clear hF); clear hS; intro wk hS; (try simp only [List.set_cons_zero, List.set_cons_succ, heap_size, heap_set_size] at hS); ((try clear hF); (first | have hF := And.intro hS.facts (HRD.out _ (hS.sub (by first | simp | ((repeat (first | exact List.nil_sublist _ | exact List.Sublist.refl _ | with_reducible apply List.Sublist.cons₂ | apply List.Sublist.cons)))))) | have hF := And.intro hS.facts (hR.at hS.ext) | have hF := hS.facts); simp only [HFacts, cellFacts, RFacts, cellOnly, and_true, true_and, Nat.zero_add, Nat.reduceAdd] at hF))) | fail)
  go_ret
  exact WR_res _ _ HD.out hS.ext
end Go.Proofs.YtmfilblbofkmcaaDoor
