/- log.line: an action, read. -/
import Derived.Test.YtcpnnffnkegamaaGreatDoorLZ15
import Derived.Test.YtcpnnffnkegamaaGreatDoorLZ16
namespace Go.Proofs.YtcpnnffnkegamaaGreatDoor
set_option linter.unusedSimpArgs false
set_option linter.unusedVariables false
open Go.RowKit
set_option linter.all false
set_option maxRecDepth 100000 in
set_option maxHeartbeats 8000000 in
theorem line_any (s : ByteArray) (hs : s.size ≤ 13600) (wI : World) (ht : TabAt wI) (hy : SynAt wI) (hr : RngAt wI) :
    Calls Tryz.prog 30 #[.string s] wI fun e w' => LineE s wI e w' := by
  by_cases hmk : ∃ w0 w1 w2, quotedS s 32 = [w0, w1, w2] ∧ (w0.toList == [109, 97, 115, 107]) = true
  · obtain ⟨w0, w1, w2, h1, h2⟩ := hmk
    exact line_mask s w0 w1 w2 hs h1 h2 wI ht hy hr
  by_cases hsc : ∃ w0 w1 r, quotedS s 32 = w0 :: w1 :: r ∧ (w0.toList == [115, 99, 104, 101, 109, 97]) = true
  · obtain ⟨w0, w1, r, h1, h2⟩ := hsc
    exact line_schema s w0 w1 r hs h1 h2 wI ht hy hr
  have HMK := Lib.hid hmk
  have HSC := Lib.hid hsc
  clear hsc
  clear hmk
  have HQ := Lib.hid (fun (W : World) => show Calls Tryz.prog 49 #[.string s, .int .u8 32] W fun e w' => ∃ A n c, (quotedS s 32).length = n ∧ e = .returned (.slice A n c) ∧ Hp W.heap.size W w' [.row 9 1 A n c (strV (quotedS s 32))] from quoted_any s 32 W s.size rfl (by omega))
  have HNM := Lib.hid (fun (t : ByteArray) (hz : t.size ≤ 1000000) (W : World) (hx : Ext wI W) => number_any t hz W (ht.ext hx) (hy.ext hx) (hr.ext hx))
  have HLI := Lib.hid (fun (t : ByteArray) (hz : t.size ≤ 1000000) (W : World) (hx : Ext wI W) => literal_any t hz W (ht.ext hx) (hy.ext hx) (hr.ext hx))
  clear ht hy hr
  have HLN := Lib.hid (quotedS_len s 32)
  obtain ⟨D, hD⟩ : ∃ D, quotedS s 32 = D := ⟨_, rfl⟩
  rw [hD] at HQ HLN
  have HD := Lib.hid hD
  clear hD
  have hS := Hp.init wI
  have hR := Reads.nil wI
  go_enter Tryz.func30, Tryz.ntmps30
  go_upto_region 2 with (first | ((with_reducible first | refine nhLa ?_ | refine nhLs ?_ | refine nhLd ?_ | refine nhCa ?_ | refine nhCs ?_ | refine nhCd ?_ | refine nhPa ?_ | refine nhPs ?_ | refine nhPd ?_ | refine nhKa ?_ | refine nhKs ?_ | refine nhKd ?_); ((try clear hF); clear hS; intro wk hS; (try simp only [List.set_cons_zero, List.set_cons_succ, heap_size, heap_set_size] at hS); ((try clear hF); (first | have hF := And.intro hS.facts (HRD.out _ (hS.sub (by first | simp | ((repeat (first | exact List.nil_sublist _ | exact List.Sublist.refl _ | with_reducible apply List.Sublist.cons₂ | apply List.Sublist.cons)))))) | have hF := And.intro hS.facts (hR.at hS.ext) | have hF := hS.facts); simp only [HFacts, cellFacts, RFacts, cellOnly, and_true, true_and, Nat.zero_add, Nat.reduceAdd] at hF))) | (go_at_call 49; (with_reducible refine Calls.mono (HQ.out _) ?_); rintro e wk ⟨A, n, c0, hn, rfl, hp⟩; replace hS := hS.join hp; clear hp; simp only [List.cons_append, List.nil_append] at hS; ((try clear hF); (first | have hF := And.intro hS.facts (HRD.out _ (hS.sub (by first | simp | ((repeat (first | exact List.nil_sublist _ | exact List.Sublist.refl _ | with_reducible apply List.Sublist.cons₂ | apply List.Sublist.cons)))))) | have hF := And.intro hS.facts (hR.at hS.ext) | have hF := hS.facts); simp only [HFacts, cellFacts, RFacts, cellOnly, and_true, true_and, Nat.zero_add, Nat.reduceAdd] at hF)))
  obtain ⟨gk, hgk⟩ := hS.nameL 1 rfl
  rw [← hgk] at hS hF ⊢
  clear hgk
  have Hn := Lib.hid hn
  have hnz : n ≤ s.size + 1 := by rw [← hn, ← HLN.out]; exact lenS_length D
  by_cases h2 : n < 2
  · as_aux_lemma =>
    have h2' : (n : Int) < 2 := by omega
    have HL := Lib.hid (lineP_short (by rw [HD.out, Hn.out]; exact h2))
    clear hnz h2 HQ HNM HLI HLN HD Hn
    ((try clear hF); (first | have hF := And.intro hS.facts (HRD.out _ (hS.sub (by first | simp | ((repeat (first | exact List.nil_sublist _ | exact List.Sublist.refl _ | with_reducible apply List.Sublist.cons₂ | apply List.Sublist.cons)))))) | have hF := And.intro hS.facts (hR.at hS.ext) | have hF := hS.facts); simp only [HFacts, cellFacts, RFacts, cellOnly, and_true, true_and, Nat.zero_add, Nat.reduceAdd] at hF)
    go_wp2_with (first | ((with_reducible first | refine nhLa ?_ | refine nhLs ?_ | refine nhLd ?_ | refine nhCa ?_ | refine nhCs ?_ | refine nhCd ?_ | refine nhPa ?_ | refine nhPs ?_ | refine nhPd ?_ | refine nhKa ?_ | refine nhKs ?_ | refine nhKd ?_); ((try clear hF); clear hS; intro wk hS; (try simp only [List.set_cons_zero, List.set_cons_succ, heap_size, heap_set_size] at hS); ((try clear hF); (first | have hF := And.intro hS.facts (HRD.out _ (hS.sub (by first | simp | ((repeat (first | exact List.nil_sublist _ | exact List.Sublist.refl _ | with_reducible apply List.Sublist.cons₂ | apply List.Sublist.cons)))))) | have hF := And.intro hS.facts (hR.at hS.ext) | have hF := hS.facts); simp only [HFacts, cellFacts, RFacts, cellOnly, and_true, true_and, Nat.zero_add, Nat.reduceAdd] at hF))) | fail)
    refine ⟨rfl, .tuple #[aV ⟨0, ⟨#[]⟩, 0, [], [], 0⟩ ⟨none, 0, 0, none, 0, 0⟩, .bool false], ?_, LineE.mk _ _ false _ hS.forget (LnF.no HL.out)⟩
    simp [results, Tryz.results30, go_sem, hF]
  have h2' : ¬ (n : Int) < 2 := by omega
  obtain ⟨w0, w1, r, rfl⟩ : ∃ w0 w1 r, D = w0 :: w1 :: r := by
    have := Hn.out
    match D, this with
    | [], h => simp at h; omega
    | [x], h => simp at h; omega
    | x :: y :: r, h => exact ⟨x, y, r, rfl⟩
  obtain ⟨g, rfl, _⟩ := hS.rowCell (j := 0) (u := .string w0) 0 rfl rfl
  have HW0 := Lib.hid (fun (W : World) (L : List Item) (i : Nat) (h : Hp wI.heap.size wI W L) (hi : L[i]? = some (.row 9 1 (some ⟨g, 0, none⟩) n c0 (strV (w0 :: w1 :: r)))) => show W.cell? ⟨g, 0, none⟩ = some (.string w0) from by
    obtain ⟨g', e, c, _⟩ := h.rowCell (j := 0) (u := .string w0) i hi rfl
    obtain rfl : g = g' := by simpa using e
    exact c)
  have HW1 := Lib.hid (fun (W : World) (L : List Item) (i : Nat) (h : Hp wI.heap.size wI W L) (hi : L[i]? = some (.row 9 1 (some ⟨g, 0, none⟩) n c0 (strV (w0 :: w1 :: r)))) => show W.cell? ⟨g, 1, none⟩ = some (.string w1) from by
    obtain ⟨g', e, c, _⟩ := h.rowCell (j := 1) (u := .string w1) i hi rfl
    obtain rfl : g = g' := by simpa using e
    exact c)
  have hw0 := HW0.out _ _ 0 hS rfl
  have hw1 := HW1.out _ _ 0 hS rfl
  ((try clear hF); (first | have hF := And.intro hS.facts (HRD.out _ (hS.sub (by first | simp | ((repeat (first | exact List.nil_sublist _ | exact List.Sublist.refl _ | with_reducible apply List.Sublist.cons₂ | apply List.Sublist.cons)))))) | have hF := And.intro hS.facts (hR.at hS.ext) | have hF := hS.facts); simp only [HFacts, cellFacts, RFacts, cellOnly, and_true, true_and, Nat.zero_add, Nat.reduceAdd] at hF)
  go_upto_block 0 with (first | ((with_reducible first | refine nhLa ?_ | refine nhLs ?_ | refine nhLd ?_ | refine nhCa ?_ | refine nhCs ?_ | refine nhCd ?_ | refine nhPa ?_ | refine nhPs ?_ | refine nhPd ?_ | refine nhKa ?_ | refine nhKs ?_ | refine nhKd ?_); ((try clear hF); clear hS; intro wk hS; (try simp only [List.set_cons_zero, List.set_cons_succ, heap_size, heap_set_size] at hS); ((try clear hF); (first | have hF := And.intro hS.facts (HRD.out _ (hS.sub (by first | simp | ((repeat (first | exact List.nil_sublist _ | exact List.Sublist.refl _ | with_reducible apply List.Sublist.cons₂ | apply List.Sublist.cons)))))) | have hF := And.intro hS.facts (hR.at hS.ext) | have hF := hS.facts); simp only [HFacts, cellFacts, RFacts, cellOnly, and_true, true_and, Nat.zero_add, Nat.reduceAdd] at hF))) | fail)
  go_cut [] (fun wx => ∃ (a : AN) (v : AV) (b : Bool) (M : List Item), Hid (LnF s a v b M) ∧ Hp wI.heap.size wI wx (.blk gk [.bool b] 4 :: .blk wI.heap.size (aC a v) 63 :: M))
  case rest => as_aux_lemma =>
    obtain ⟨a, v, b, M, HF0, hS⟩ := hcut
    clear HQ HNM HLI HLN HD Hn HW0 HW1 HMK
    ((try clear hF); (first | have hF := And.intro hS.facts (HRD.out _ (hS.sub (by first | simp | ((repeat (first | exact List.nil_sublist _ | exact List.Sublist.refl _ | with_reducible apply List.Sublist.cons₂ | apply List.Sublist.cons)))))) | have hF := And.intro hS.facts (hR.at hS.ext) | have hF := hS.facts); simp only [HFacts, cellFacts, RFacts, cellOnly, and_true, true_and, Nat.zero_add, Nat.reduceAdd] at hF)
    go_wp2_with (first | ((with_reducible first | refine nhLa ?_ | refine nhLs ?_ | refine nhLd ?_ | refine nhCa ?_ | refine nhCs ?_ | refine nhCd ?_ | refine nhPa ?_ | refine nhPs ?_ | refine nhPd ?_ | refine nhKa ?_ | refine nhKs ?_ | refine nhKd ?_); ((try clear hF); clear hS; intro wk hS; (try simp only [List.set_cons_zero, List.set_cons_succ, heap_size, heap_set_size] at hS); ((try clear hF); (first | have hF := And.intro hS.facts (HRD.out _ (hS.sub (by first | simp | ((repeat (first | exact List.nil_sublist _ | exact List.Sublist.refl _ | with_reducible apply List.Sublist.cons₂ | apply List.Sublist.cons)))))) | have hF := And.intro hS.facts (hR.at hS.ext) | have hF := hS.facts); simp only [HFacts, cellFacts, RFacts, cellOnly, and_true, true_and, Nat.zero_add, Nat.reduceAdd] at hF))) | fail)
    ((with_reducible refine wp_region_braidz_hp [.q, .q, .t, .t] 3 [.blk gk [.bool b] 4, .blk wI.heap.size (aC a v) 63] (by kernel_rfl) rfl (by kernel_rfl) hS (fun w h => h.sub (by simp)) ?_); clear hS; (repeat ((with_reducible refine Walk.here ?_); (first | ((with_reducible apply Walk.skipQ); (first | rfl | exact wanted_false rfl rfl rfl (by assumption)); (try simp only [Mark.isQ, if_true, Bool.false_eq_true, if_false, Act.put, List.setIfInBounds_toArray, List.set_cons_zero, List.set_cons_succ])) | ((with_reducible apply Walk.val); (first | rfl | exact wanted_true rfl rfl rfl (by assumption)); (rintro w hS; ((try clear hF); (first | have hF := And.intro hS.facts (HRD.out _ (hS.sub (by first | simp | ((repeat (first | exact List.nil_sublist _ | exact List.Sublist.refl _ | with_reducible apply List.Sublist.cons₂ | apply List.Sublist.cons)))))) | have hF := And.intro hS.facts (hR.at hS.ext) | have hF := hS.facts); simp only [HFacts, cellFacts, RFacts, cellOnly, and_true, true_and, Nat.zero_add, Nat.reduceAdd] at hF); go_simp; first | with_reducible rfl | (rw [if_neg (by first | omega | (simp only [ByteArray.size_append]; omega) | (simp [ByteArray.size_append]; omega))]; try with_reducible rfl)); (try simp only [Mark.isQ, if_true, Bool.false_eq_true, if_false, Act.put, List.setIfInBounds_toArray, List.set_cons_zero, List.set_cons_succ])) | ((with_reducible apply Walk.tail); (try simp only [Mark.isQ, if_true, Bool.false_eq_true, if_false, Act.put, List.setIfInBounds_toArray, List.set_cons_zero, List.set_cons_succ])) | ((with_reducible apply Walk.guardT); rfl; rfl; rfl; (all_goals intro hg)) | ((with_reducible apply Walk.guardF); rfl; rfl; rfl; (all_goals intro hg))))); refine Walk.done ?_; show BraidZ _ _ _ _ 3 2 [2, 3] _ _)
    (refine BraidZ.next1 (i := 2) (by kernel_rfl) (by kernel_rfl) rfl ?_; (try simp only [List.getElem_toArray, List.getElem_cons_succ, List.getElem_cons_zero]))
    (refine ZStep.storeRow (i := 1) (g := wI.heap.size) (us := [.int .i64 a.kind, .string a.path, .int .i64 a.rows, .slice v.qa v.qn v.qc, .slice v.ra v.rn v.rc, .int .i64 a.next]) (.inr (fun w h => h.sub (by first | simp | ((try simp only [List.eraseIdx_cons_zero, List.eraseIdx_cons_succ]); (repeat (first | exact List.nil_sublist _ | exact List.Sublist.refl _ | with_reducible apply List.Sublist.cons₂ | apply List.Sublist.cons)))))) (by (first | rfl | exact wanted_true rfl rfl rfl (by assumption))) rfl rfl rfl rfl (by kernel_rfl) rfl (by simp [Value.oneCell']) ?_; try simp only [Act.put, List.setIfInBounds_toArray, List.set_cons_zero, List.set_cons_succ])
    (refine BraidZ.next1 (i := 3) (by kernel_rfl) (by kernel_rfl) rfl ?_; (try simp only [List.getElem_toArray, List.getElem_cons_succ, List.getElem_cons_zero]))
    (show ZStep _ _ _ true _ _ _ _; refine ZStep.turn (by (first | rfl | exact wanted_true rfl rfl rfl (by assumption))) (fun w hS => ⟨w.setCell ⟨gk, 0, none⟩ (.bool b), .inl (by ((try clear hF); (first | have hF := And.intro hS.facts (HRD.out _ (hS.sub (by first | simp | ((repeat (first | exact List.nil_sublist _ | exact List.Sublist.refl _ | with_reducible apply List.Sublist.cons₂ | apply List.Sublist.cons)))))) | have hF := And.intro hS.facts (hR.at hS.ext) | have hF := hS.facts); simp only [HFacts, cellFacts, RFacts, cellOnly, and_true, true_and, Nat.zero_add, Nat.reduceAdd] at hF); go_simp), hS.put (i := 0) rfl⟩) ?_; try simp only [Act.put, List.setIfInBounds_toArray, List.set_cons_zero, List.set_cons_succ])
    (refine BraidZ.last (by kernel_rfl) ?_; (try clear hF); intro wk hS; ((try clear hF); (first | have hF := And.intro hS.facts (HRD.out _ (hS.sub (by first | simp | ((repeat (first | exact List.nil_sublist _ | exact List.Sublist.refl _ | with_reducible apply List.Sublist.cons₂ | apply List.Sublist.cons)))))) | have hF := And.intro hS.facts (hR.at hS.ext) | have hF := hS.facts); simp only [HFacts, cellFacts, RFacts, cellOnly, and_true, true_and, Nat.zero_add, Nat.reduceAdd] at hF))
    go_wp2_with (first | ((with_reducible first | refine nhLa ?_ | refine nhLs ?_ | refine nhLd ?_ | refine nhCa ?_ | refine nhCs ?_ | refine nhCd ?_ | refine nhPa ?_ | refine nhPs ?_ | refine nhPd ?_ | refine nhKa ?_ | refine nhKs ?_ | refine nhKd ?_); ((try clear hF); clear hS; intro wk hS; (try simp only [List.set_cons_zero, List.set_cons_succ, heap_size, heap_set_size] at hS); ((try clear hF); (first | have hF := And.intro hS.facts (HRD.out _ (hS.sub (by first | simp | ((repeat (first | exact List.nil_sublist _ | exact List.Sublist.refl _ | with_reducible apply List.Sublist.cons₂ | apply List.Sublist.cons)))))) | have hF := And.intro hS.facts (hR.at hS.ext) | have hF := hS.facts); simp only [HFacts, cellFacts, RFacts, cellOnly, and_true, true_and, Nat.zero_add, Nat.reduceAdd] at hF))) | fail)
    refine ⟨rfl, .tuple #[aV a v, .bool b], ?_, LineE.mk a v b M hS.tail.tail HF0.out⟩
    simp [results, Tryz.results30, go_sem, hF]
  case first =>
    go_upto_region 4 with (first | ((with_reducible first | refine nhLa ?_ | refine nhLs ?_ | refine nhLd ?_ | refine nhCa ?_ | refine nhCs ?_ | refine nhCd ?_ | refine nhPa ?_ | refine nhPs ?_ | refine nhPd ?_ | refine nhKa ?_ | refine nhKs ?_ | refine nhKd ?_); ((try clear hF); clear hS; intro wk hS; (try simp only [List.set_cons_zero, List.set_cons_succ, heap_size, heap_set_size] at hS); ((try clear hF); (first | have hF := And.intro hS.facts (HRD.out _ (hS.sub (by first | simp | ((repeat (first | exact List.nil_sublist _ | exact List.Sublist.refl _ | with_reducible apply List.Sublist.cons₂ | apply List.Sublist.cons)))))) | have hF := And.intro hS.facts (hR.at hS.ext) | have hF := hS.facts); simp only [HFacts, cellFacts, RFacts, cellOnly, and_true, true_and, Nat.zero_add, Nat.reduceAdd] at hF))) | fail)
    obtain ⟨p1, hp1⟩ : ∃ b, (w0.toList == [97, 100, 100]) = b := ⟨_, rfl⟩
    obtain ⟨p2, hp2⟩ : ∃ b, (w0.toList == [114, 101, 109, 111, 118, 101]) = b := ⟨_, rfl⟩
    obtain ⟨p3, hp3⟩ : ∃ b, (w0.toList == [109, 97, 115, 107]) = b := ⟨_, rfl⟩
    obtain ⟨p4, hp4⟩ : ∃ b, (w0.toList == [115, 99, 104, 101, 109, 97]) = b := ⟨_, rfl⟩
    have HP := Lib.hid (show (w0.toList == [97, 100, 100]) = p1 ∧ (w0.toList == [114, 101, 109, 111, 118, 101]) = p2 ∧ (w0.toList == [109, 97, 115, 107]) = p3 ∧ (w0.toList == [115, 99, 104, 101, 109, 97]) = p4 from ⟨hp1, hp2, hp3, hp4⟩)
    clear hp2 hp3 hp4
    obtain ⟨q1, hq1⟩ : ∃ b, (p1 && decide (n = 3)) = b := ⟨_, rfl⟩
    have HQ1 := Lib.hid hq1
    clear hq1
    go_cut [21] (fun c wx => c = .bool q1 ∧ Hp wI.heap.size wI wx [.row 9 1 (some ⟨g, 0, none⟩) n c0 (strV (w0 :: w1 :: r)), .blk gk [.bool false] 4, .blk wI.heap.size a0C 63])
    case first => as_aux_lemma =>
      cases p1 with
      | false =>
        obtain rfl : false = q1 := by have := HQ1.out; simpa using this
        clear HQ1 HP HQ HNM HLI HLN HD Hn
        ((try clear hF); (first | have hF := And.intro hS.facts (HRD.out _ (hS.sub (by first | simp | ((repeat (first | exact List.nil_sublist _ | exact List.Sublist.refl _ | with_reducible apply List.Sublist.cons₂ | apply List.Sublist.cons)))))) | have hF := And.intro hS.facts (hR.at hS.ext) | have hF := hS.facts); simp only [HFacts, cellFacts, RFacts, cellOnly, and_true, true_and, Nat.zero_add, Nat.reduceAdd] at hF)
        go_wp2_with (first | ((with_reducible first | refine nhLa ?_ | refine nhLs ?_ | refine nhLd ?_ | refine nhCa ?_ | refine nhCs ?_ | refine nhCd ?_ | refine nhPa ?_ | refine nhPs ?_ | refine nhPd ?_ | refine nhKa ?_ | refine nhKs ?_ | refine nhKd ?_); ((try clear hF); clear hS; intro wk hS; (try simp only [List.set_cons_zero, List.set_cons_succ, heap_size, heap_set_size] at hS); ((try clear hF); (first | have hF := And.intro hS.facts (HRD.out _ (hS.sub (by first | simp | ((repeat (first | exact List.nil_sublist _ | exact List.Sublist.refl _ | with_reducible apply List.Sublist.cons₂ | apply List.Sublist.cons)))))) | have hF := And.intro hS.facts (hR.at hS.ext) | have hF := hS.facts); simp only [HFacts, cellFacts, RFacts, cellOnly, and_true, true_and, Nat.zero_add, Nat.reduceAdd] at hF))) | fail)
        go_meet
        case rel => exact ⟨rfl, hS⟩
      | true =>
        by_cases h3 : n = 3
        · obtain rfl : true = q1 := by have := HQ1.out; simpa [h3] using this
          have h3' : ((n : Int) == 3) = true := by simp; omega
          clear HQ1 HP HQ HNM HLI HLN HD Hn h3
          ((try clear hF); (first | have hF := And.intro hS.facts (HRD.out _ (hS.sub (by first | simp | ((repeat (first | exact List.nil_sublist _ | exact List.Sublist.refl _ | with_reducible apply List.Sublist.cons₂ | apply List.Sublist.cons)))))) | have hF := And.intro hS.facts (hR.at hS.ext) | have hF := hS.facts); simp only [HFacts, cellFacts, RFacts, cellOnly, and_true, true_and, Nat.zero_add, Nat.reduceAdd] at hF)
          go_wp2_with (first | ((with_reducible first | refine nhLa ?_ | refine nhLs ?_ | refine nhLd ?_ | refine nhCa ?_ | refine nhCs ?_ | refine nhCd ?_ | refine nhPa ?_ | refine nhPs ?_ | refine nhPd ?_ | refine nhKa ?_ | refine nhKs ?_ | refine nhKd ?_); ((try clear hF); clear hS; intro wk hS; (try simp only [List.set_cons_zero, List.set_cons_succ, heap_size, heap_set_size] at hS); ((try clear hF); (first | have hF := And.intro hS.facts (HRD.out _ (hS.sub (by first | simp | ((repeat (first | exact List.nil_sublist _ | exact List.Sublist.refl _ | with_reducible apply List.Sublist.cons₂ | apply List.Sublist.cons)))))) | have hF := And.intro hS.facts (hR.at hS.ext) | have hF := hS.facts); simp only [HFacts, cellFacts, RFacts, cellOnly, and_true, true_and, Nat.zero_add, Nat.reduceAdd] at hF))) | fail)
          go_meet
          case rel => exact ⟨rfl, hS⟩
        · obtain rfl : false = q1 := by have := HQ1.out; simpa [h3] using this
          have h3' : ((n : Int) == 3) = false := by simp; omega
          clear HQ1 HP HQ HNM HLI HLN HD Hn h3
          ((try clear hF); (first | have hF := And.intro hS.facts (HRD.out _ (hS.sub (by first | simp | ((repeat (first | exact List.nil_sublist _ | exact List.Sublist.refl _ | with_reducible apply List.Sublist.cons₂ | apply List.Sublist.cons)))))) | have hF := And.intro hS.facts (hR.at hS.ext) | have hF := hS.facts); simp only [HFacts, cellFacts, RFacts, cellOnly, and_true, true_and, Nat.zero_add, Nat.reduceAdd] at hF)
          go_wp2_with (first | ((with_reducible first | refine nhLa ?_ | refine nhLs ?_ | refine nhLd ?_ | refine nhCa ?_ | refine nhCs ?_ | refine nhCd ?_ | refine nhPa ?_ | refine nhPs ?_ | refine nhPd ?_ | refine nhKa ?_ | refine nhKs ?_ | refine nhKd ?_); ((try clear hF); clear hS; intro wk hS; (try simp only [List.set_cons_zero, List.set_cons_succ, heap_size, heap_set_size] at hS); ((try clear hF); (first | have hF := And.intro hS.facts (HRD.out _ (hS.sub (by first | simp | ((repeat (first | exact List.nil_sublist _ | exact List.Sublist.refl _ | with_reducible apply List.Sublist.cons₂ | apply List.Sublist.cons)))))) | have hF := And.intro hS.facts (hR.at hS.ext) | have hF := hS.facts); simp only [HFacts, cellFacts, RFacts, cellOnly, and_true, true_and, Nat.zero_add, Nat.reduceAdd] at hF))) | fail)
          go_meet
          case rel => exact ⟨rfl, hS⟩
    case rest =>
      obtain ⟨rfl, hS⟩ := hcut
      clear hp1
      cases q1 with
      | true => as_aux_lemma =>
        have hq := HQ1.out
        simp only [Bool.and_eq_true, decide_eq_true_eq] at hq
        obtain ⟨rfl, h3⟩ := hq
        subst h3
        obtain ⟨w2, rfl⟩ : ∃ w2, r = [w2] := by
          have := Hn.out
          match r, this with
          | [x], _ => exact ⟨x, rfl⟩
        have hz2 : w2.size ≤ s.size := by have := lenS_le (l := [w0, w1, w2]) (x := w2) (by simp); rw [HLN.out] at this; omega
        have hz1 : w1.size ≤ s.size := by have := lenS_le (l := [w0, w1, w2]) (x := w1) (by simp); rw [HLN.out] at this; omega
        have HW2 := Lib.hid (fun (W : World) (L : List Item) (i : Nat) (h : Hp wI.heap.size wI W L) (hi : L[i]? = some (.row 9 1 (some ⟨g, 0, none⟩) 3 c0 (strV [w0, w1, w2]))) => show W.cell? ⟨g, 2, none⟩ = some (.string w2) from by
          obtain ⟨g', e, c, _⟩ := h.rowCell (j := 2) (u := .string w2) i hi rfl
          obtain rfl : g = g' := by simpa using e
          exact c)
        have HL := Lib.hid (show lineP s = (numOf w2).map fun m => ⟨1, w1, m, [], [], 0⟩ by unfold lineP; rw [HD.out]; simp only; rw [if_pos ⟨HP.out.1, rfl⟩]; rfl)
        have HNM2 := Lib.hid (HNM.out w2 (by omega))
        clear HQ1 HP HQ HNM HLI HLN HD Hn HW0
        ((try clear hF); (first | have hF := And.intro hS.facts (HRD.out _ (hS.sub (by first | simp | ((repeat (first | exact List.nil_sublist _ | exact List.Sublist.refl _ | with_reducible apply List.Sublist.cons₂ | apply List.Sublist.cons)))))) | have hF := And.intro hS.facts (hR.at hS.ext) | have hF := hS.facts); simp only [HFacts, cellFacts, RFacts, cellOnly, and_true, true_and, Nat.zero_add, Nat.reduceAdd] at hF)
        go_upto_region 5 with (first | ((with_reducible first | refine nhLa ?_ | refine nhLs ?_ | refine nhLd ?_ | refine nhCa ?_ | refine nhCs ?_ | refine nhCd ?_ | refine nhPa ?_ | refine nhPs ?_ | refine nhPd ?_ | refine nhKa ?_ | refine nhKs ?_ | refine nhKd ?_); ((try clear hF); clear hS; intro wk hS; (try simp only [List.set_cons_zero, List.set_cons_succ, heap_size, heap_set_size] at hS); ((try clear hF); (first | have hF := And.intro hS.facts (HRD.out _ (hS.sub (by first | simp | ((repeat (first | exact List.nil_sublist _ | exact List.Sublist.refl _ | with_reducible apply List.Sublist.cons₂ | apply List.Sublist.cons)))))) | have hF := And.intro hS.facts (hR.at hS.ext) | have hF := hS.facts); simp only [HFacts, cellFacts, RFacts, cellOnly, and_true, true_and, Nat.zero_add, Nat.reduceAdd] at hF))) | fail)
        ((with_reducible refine wp_region_braidz_hp [.q, .q, .q, .q, .t, .t, .t] 5 [.row 9 1 (some ⟨g, 0, none⟩) 3 c0 (strV [w0, w1, w2])] (by kernel_rfl) rfl (by kernel_rfl) hS (fun w h => h.sub (by simp)) ?_); clear hS; (repeat ((with_reducible refine Walk.here ?_); (first | ((with_reducible apply Walk.skipQ); (first | rfl | exact wanted_false rfl rfl rfl (by assumption)); (try simp only [Mark.isQ, if_true, Bool.false_eq_true, if_false, Act.put, List.setIfInBounds_toArray, List.set_cons_zero, List.set_cons_succ])) | ((with_reducible apply Walk.val); (first | rfl | exact wanted_true rfl rfl rfl (by assumption)); (rintro w hS; ((try clear hF); (first | have hF := And.intro hS.facts (HRD.out _ (hS.sub (by first | simp | ((repeat (first | exact List.nil_sublist _ | exact List.Sublist.refl _ | with_reducible apply List.Sublist.cons₂ | apply List.Sublist.cons)))))) | have hF := And.intro hS.facts (hR.at hS.ext) | have hF := hS.facts); simp only [HFacts, cellFacts, RFacts, cellOnly, and_true, true_and, Nat.zero_add, Nat.reduceAdd] at hF); (have hw1 := HW1.out _ _ 0 hS rfl); go_simp; first | with_reducible rfl | (rw [if_neg (by first | omega | (simp only [ByteArray.size_append]; omega) | (simp [ByteArray.size_append]; omega))]; try with_reducible rfl)); (try simp only [Mark.isQ, if_true, Bool.false_eq_true, if_false, Act.put, List.setIfInBounds_toArray, List.set_cons_zero, List.set_cons_succ])) | ((with_reducible apply Walk.tail); (try simp only [Mark.isQ, if_true, Bool.false_eq_true, if_false, Act.put, List.setIfInBounds_toArray, List.set_cons_zero, List.set_cons_succ])) | ((with_reducible apply Walk.guardT); rfl; rfl; rfl; (all_goals intro hg)) | ((with_reducible apply Walk.guardF); rfl; rfl; rfl; (all_goals intro hg))))); refine Walk.done ?_; show BraidZ _ _ _ _ 5 3 [4, 5, 6] _ _)
        (refine BraidZ.next1 (i := 4) (by kernel_rfl) (by kernel_rfl) rfl ?_; (try simp only [List.getElem_toArray, List.getElem_cons_succ, List.getElem_cons_zero]))
        (refine ZStep.turnF (by (first | rfl | exact wanted_true rfl rfl rfl (by assumption))) (fun w hS => ⟨w.setCell ⟨wI.heap.size, 0, none⟩ (.int .i64 1), .inl (by ((try clear hF); (first | have hF := And.intro hS.facts (HRD.out _ (hS.sub (by first | simp | ((repeat (first | exact List.nil_sublist _ | exact List.Sublist.refl _ | with_reducible apply List.Sublist.cons₂ | apply List.Sublist.cons)))))) | have hF := And.intro hS.facts (hR.at hS.ext) | have hF := hS.facts); simp only [HFacts, cellFacts, RFacts, cellOnly, and_true, true_and, Nat.zero_add, Nat.reduceAdd] at hF); go_simp), hS.put (i := 2) rfl⟩) (fun w h => h.sub (by first | simp | ((try simp only [List.eraseIdx_cons_zero, List.eraseIdx_cons_succ]); (repeat (first | exact List.nil_sublist _ | exact List.Sublist.refl _ | with_reducible apply List.Sublist.cons₂ | apply List.Sublist.cons))))) ?_; try simp only [Act.put, List.setIfInBounds_toArray, List.set_cons_zero, List.set_cons_succ])
        (refine BraidZ.next1 (i := 5) (by kernel_rfl) (by kernel_rfl) rfl ?_; (try simp only [List.getElem_toArray, List.getElem_cons_succ, List.getElem_cons_zero]))
        (show ZStep _ _ _ true _ _ _ _; refine ZStep.valz (by (first | rfl | exact wanted_true rfl rfl rfl (by assumption))) (by rintro w hS; ((try clear hF); (first | have hF := And.intro hS.facts (HRD.out _ (hS.sub (by first | simp | ((repeat (first | exact List.nil_sublist _ | exact List.Sublist.refl _ | with_reducible apply List.Sublist.cons₂ | apply List.Sublist.cons)))))) | have hF := And.intro hS.facts (hR.at hS.ext) | have hF := hS.facts); simp only [HFacts, cellFacts, RFacts, cellOnly, and_true, true_and, Nat.zero_add, Nat.reduceAdd] at hF); go_simp; with_reducible rfl) ?_; try simp only [Act.put, List.setIfInBounds_toArray, List.set_cons_zero, List.set_cons_succ])
        (refine BraidZ.next1 (i := 6) (by kernel_rfl) (by kernel_rfl) rfl ?_; (try simp only [List.getElem_toArray, List.getElem_cons_succ, List.getElem_cons_zero]))
        (show ZStep _ _ _ true _ _ _ _; refine ZStep.turn (by (first | rfl | exact wanted_true rfl rfl rfl (by assumption))) (fun w hS => ⟨w.setCell ⟨wI.heap.size, 1, none⟩ (.string w1), .inl (by ((try clear hF); (first | have hF := And.intro hS.facts (HRD.out _ (hS.sub (by first | simp | ((repeat (first | exact List.nil_sublist _ | exact List.Sublist.refl _ | with_reducible apply List.Sublist.cons₂ | apply List.Sublist.cons)))))) | have hF := And.intro hS.facts (hR.at hS.ext) | have hF := hS.facts); simp only [HFacts, cellFacts, RFacts, cellOnly, and_true, true_and, Nat.zero_add, Nat.reduceAdd] at hF); go_simp), hS.put (i := 2) rfl⟩) ?_; try simp only [Act.put, List.setIfInBounds_toArray, List.set_cons_zero, List.set_cons_succ])
        (refine BraidZ.last (by kernel_rfl) ?_; (try clear hF); intro wk hS; ((try clear hF); (first | have hF := And.intro hS.facts (HRD.out _ (hS.sub (by first | simp | ((repeat (first | exact List.nil_sublist _ | exact List.Sublist.refl _ | with_reducible apply List.Sublist.cons₂ | apply List.Sublist.cons)))))) | have hF := And.intro hS.facts (hR.at hS.ext) | have hF := hS.facts); simp only [HFacts, cellFacts, RFacts, cellOnly, and_true, true_and, Nat.zero_add, Nat.reduceAdd] at hF))
        have hw2 := HW2.out _ _ 0 hS rfl
        go_wp2_with (first | ((with_reducible first | refine nhLa ?_ | refine nhLs ?_ | refine nhLd ?_ | refine nhCa ?_ | refine nhCs ?_ | refine nhCd ?_ | refine nhPa ?_ | refine nhPs ?_ | refine nhPd ?_ | refine nhKa ?_ | refine nhKs ?_ | refine nhKd ?_); ((try clear hF); clear hS; intro wk hS; (try simp only [List.set_cons_zero, List.set_cons_succ, heap_size, heap_set_size] at hS); ((try clear hF); (first | have hF := And.intro hS.facts (HRD.out _ (hS.sub (by first | simp | ((repeat (first | exact List.nil_sublist _ | exact List.Sublist.refl _ | with_reducible apply List.Sublist.cons₂ | apply List.Sublist.cons)))))) | have hF := And.intro hS.facts (hR.at hS.ext) | have hF := hS.facts); simp only [HFacts, cellFacts, RFacts, cellOnly, and_true, true_and, Nat.zero_add, Nat.reduceAdd] at hF))) | (go_at_call 50; (with_reducible refine Calls.mono (HNM2.out _ hS.ext) ?_); rintro e wk ⟨⟨m, b, rfl, hm, hml⟩, hX⟩; replace hS := hS.step hX; clear hX; ((try clear hF); (first | have hF := And.intro hS.facts (HRD.out _ (hS.sub (by first | simp | ((repeat (first | exact List.nil_sublist _ | exact List.Sublist.refl _ | with_reducible apply List.Sublist.cons₂ | apply List.Sublist.cons)))))) | have hF := And.intro hS.facts (hR.at hS.ext) | have hF := hS.facts); simp only [HFacts, cellFacts, RFacts, cellOnly, and_true, true_and, Nat.zero_add, Nat.reduceAdd] at hF)))
        go_meet
        case rel => exact ⟨⟨1, w1, m, [], [], 0⟩, ⟨none, 0, 0, none, 0, 0⟩, b, [], Lib.hid (LnF.ok (by rw [HL.out, hml]; cases b <;> rfl) (fun _ _ W h => ⟨ri_nil _ _, rc_nil _ _⟩) (LnOk.flat (by omega) hm (show i64 0 from ⟨by decide, by decide⟩))), hS.tail.put (i := 0) (j := 0) rfl⟩
      | false =>
        have hp2 := HP.out.2.1
        obtain ⟨q2, hq2⟩ : ∃ b, (p2 && decide (n = 2)) = b := ⟨_, rfl⟩
        have HQ2 := Lib.hid hq2
        clear hq2
        ((try clear hF); (first | have hF := And.intro hS.facts (HRD.out _ (hS.sub (by first | simp | ((repeat (first | exact List.nil_sublist _ | exact List.Sublist.refl _ | with_reducible apply List.Sublist.cons₂ | apply List.Sublist.cons)))))) | have hF := And.intro hS.facts (hR.at hS.ext) | have hF := hS.facts); simp only [HFacts, cellFacts, RFacts, cellOnly, and_true, true_and, Nat.zero_add, Nat.reduceAdd] at hF)
        go_upto_region 7 with (first | ((with_reducible first | refine nhLa ?_ | refine nhLs ?_ | refine nhLd ?_ | refine nhCa ?_ | refine nhCs ?_ | refine nhCd ?_ | refine nhPa ?_ | refine nhPs ?_ | refine nhPd ?_ | refine nhKa ?_ | refine nhKs ?_ | refine nhKd ?_); ((try clear hF); clear hS; intro wk hS; (try simp only [List.set_cons_zero, List.set_cons_succ, heap_size, heap_set_size] at hS); ((try clear hF); (first | have hF := And.intro hS.facts (HRD.out _ (hS.sub (by first | simp | ((repeat (first | exact List.nil_sublist _ | exact List.Sublist.refl _ | with_reducible apply List.Sublist.cons₂ | apply List.Sublist.cons)))))) | have hF := And.intro hS.facts (hR.at hS.ext) | have hF := hS.facts); simp only [HFacts, cellFacts, RFacts, cellOnly, and_true, true_and, Nat.zero_add, Nat.reduceAdd] at hF))) | fail)
        go_cut [44] (fun c wx => c = .bool q2 ∧ Hp wI.heap.size wI wx [.row 9 1 (some ⟨g, 0, none⟩) n c0 (strV (w0 :: w1 :: r)), .blk gk [.bool false] 4, .blk wI.heap.size a0C 63])
        case first => as_aux_lemma =>
          have hw0 := HW0.out _ _ 0 hS rfl
          cases p2 with
          | false =>
            obtain rfl : false = q2 := by have := HQ2.out; simpa using this
            clear HQ1 HQ2 HP HQ HNM HLI HLN HD Hn
            ((try clear hF); (first | have hF := And.intro hS.facts (HRD.out _ (hS.sub (by first | simp | ((repeat (first | exact List.nil_sublist _ | exact List.Sublist.refl _ | with_reducible apply List.Sublist.cons₂ | apply List.Sublist.cons)))))) | have hF := And.intro hS.facts (hR.at hS.ext) | have hF := hS.facts); simp only [HFacts, cellFacts, RFacts, cellOnly, and_true, true_and, Nat.zero_add, Nat.reduceAdd] at hF)
            go_wp2_with (first | ((with_reducible first | refine nhLa ?_ | refine nhLs ?_ | refine nhLd ?_ | refine nhCa ?_ | refine nhCs ?_ | refine nhCd ?_ | refine nhPa ?_ | refine nhPs ?_ | refine nhPd ?_ | refine nhKa ?_ | refine nhKs ?_ | refine nhKd ?_); ((try clear hF); clear hS; intro wk hS; (try simp only [List.set_cons_zero, List.set_cons_succ, heap_size, heap_set_size] at hS); ((try clear hF); (first | have hF := And.intro hS.facts (HRD.out _ (hS.sub (by first | simp | ((repeat (first | exact List.nil_sublist _ | exact List.Sublist.refl _ | with_reducible apply List.Sublist.cons₂ | apply List.Sublist.cons)))))) | have hF := And.intro hS.facts (hR.at hS.ext) | have hF := hS.facts); simp only [HFacts, cellFacts, RFacts, cellOnly, and_true, true_and, Nat.zero_add, Nat.reduceAdd] at hF))) | fail)
            go_meet
            case rel => exact ⟨rfl, hS⟩
          | true =>
            by_cases h3 : n = 2
            · obtain rfl : true = q2 := by have := HQ2.out; simpa [h3] using this
              have h3' : ((n : Int) == 2) = true := by simp; omega
              clear HQ1 HQ2 HP HQ HNM HLI HLN HD Hn h3
              ((try clear hF); (first | have hF := And.intro hS.facts (HRD.out _ (hS.sub (by first | simp | ((repeat (first | exact List.nil_sublist _ | exact List.Sublist.refl _ | with_reducible apply List.Sublist.cons₂ | apply List.Sublist.cons)))))) | have hF := And.intro hS.facts (hR.at hS.ext) | have hF := hS.facts); simp only [HFacts, cellFacts, RFacts, cellOnly, and_true, true_and, Nat.zero_add, Nat.reduceAdd] at hF)
              go_wp2_with (first | ((with_reducible first | refine nhLa ?_ | refine nhLs ?_ | refine nhLd ?_ | refine nhCa ?_ | refine nhCs ?_ | refine nhCd ?_ | refine nhPa ?_ | refine nhPs ?_ | refine nhPd ?_ | refine nhKa ?_ | refine nhKs ?_ | refine nhKd ?_); ((try clear hF); clear hS; intro wk hS; (try simp only [List.set_cons_zero, List.set_cons_succ, heap_size, heap_set_size] at hS); ((try clear hF); (first | have hF := And.intro hS.facts (HRD.out _ (hS.sub (by first | simp | ((repeat (first | exact List.nil_sublist _ | exact List.Sublist.refl _ | with_reducible apply List.Sublist.cons₂ | apply List.Sublist.cons)))))) | have hF := And.intro hS.facts (hR.at hS.ext) | have hF := hS.facts); simp only [HFacts, cellFacts, RFacts, cellOnly, and_true, true_and, Nat.zero_add, Nat.reduceAdd] at hF))) | fail)
              go_meet
              case rel => exact ⟨rfl, hS⟩
            · obtain rfl : false = q2 := by have := HQ2.out; simpa [h3] using this
              have h3' : ((n : Int) == 2) = false := by simp; omega
              clear HQ1 HQ2 HP HQ HNM HLI HLN HD Hn h3
              ((try clear hF); (first | have hF := And.intro hS.facts (HRD.out _ (hS.sub (by first | simp | ((repeat (first | exact List.nil_sublist _ | exact List.Sublist.refl _ | with_reducible apply List.Sublist.cons₂ | apply List.Sublist.cons)))))) | have hF := And.intro hS.facts (hR.at hS.ext) | have hF := hS.facts); simp only [HFacts, cellFacts, RFacts, cellOnly, and_true, true_and, Nat.zero_add, Nat.reduceAdd] at hF)
              go_wp2_with (first | ((with_reducible first | refine nhLa ?_ | refine nhLs ?_ | refine nhLd ?_ | refine nhCa ?_ | refine nhCs ?_ | refine nhCd ?_ | refine nhPa ?_ | refine nhPs ?_ | refine nhPd ?_ | refine nhKa ?_ | refine nhKs ?_ | refine nhKd ?_); ((try clear hF); clear hS; intro wk hS; (try simp only [List.set_cons_zero, List.set_cons_succ, heap_size, heap_set_size] at hS); ((try clear hF); (first | have hF := And.intro hS.facts (HRD.out _ (hS.sub (by first | simp | ((repeat (first | exact List.nil_sublist _ | exact List.Sublist.refl _ | with_reducible apply List.Sublist.cons₂ | apply List.Sublist.cons)))))) | have hF := And.intro hS.facts (hR.at hS.ext) | have hF := hS.facts); simp only [HFacts, cellFacts, RFacts, cellOnly, and_true, true_and, Nat.zero_add, Nat.reduceAdd] at hF))) | fail)
              go_meet
              case rel => exact ⟨rfl, hS⟩
        case rest =>
          obtain ⟨rfl, hS⟩ := hcut
          clear hp2
          cases q2 with
          | true => as_aux_lemma =>
            have hq := HQ2.out
            simp only [Bool.and_eq_true, decide_eq_true_eq] at hq
            obtain ⟨rfl, h3⟩ := hq
            subst h3
            obtain rfl : r = [] := by
              have := Hn.out
              match r, this with
              | [], _ => rfl
            have hz1 : w1.size ≤ s.size := by have := lenS_le (l := [w0, w1]) (x := w1) (by simp); rw [HLN.out] at this; omega
            have HL := Lib.hid (show lineP s = some ⟨2, w1, 0, [], [], 0⟩ by unfold lineP; rw [HD.out]; simp only; rw [if_neg (fun h => by simp at h), if_pos ⟨HP.out.2.1, rfl⟩])
            clear HQ1 HQ2 HP HQ HNM HLI HLN HD Hn HW0
            ((try clear hF); (first | have hF := And.intro hS.facts (HRD.out _ (hS.sub (by first | simp | ((repeat (first | exact List.nil_sublist _ | exact List.Sublist.refl _ | with_reducible apply List.Sublist.cons₂ | apply List.Sublist.cons)))))) | have hF := And.intro hS.facts (hR.at hS.ext) | have hF := hS.facts); simp only [HFacts, cellFacts, RFacts, cellOnly, and_true, true_and, Nat.zero_add, Nat.reduceAdd] at hF)
            go_upto_region 8 with (first | ((with_reducible first | refine nhLa ?_ | refine nhLs ?_ | refine nhLd ?_ | refine nhCa ?_ | refine nhCs ?_ | refine nhCd ?_ | refine nhPa ?_ | refine nhPs ?_ | refine nhPd ?_ | refine nhKa ?_ | refine nhKs ?_ | refine nhKd ?_); ((try clear hF); clear hS; intro wk hS; (try simp only [List.set_cons_zero, List.set_cons_succ, heap_size, heap_set_size] at hS); ((try clear hF); (first | have hF := And.intro hS.facts (HRD.out _ (hS.sub (by first | simp | ((repeat (first | exact List.nil_sublist _ | exact List.Sublist.refl _ | with_reducible apply List.Sublist.cons₂ | apply List.Sublist.cons)))))) | have hF := And.intro hS.facts (hR.at hS.ext) | have hF := hS.facts); simp only [HFacts, cellFacts, RFacts, cellOnly, and_true, true_and, Nat.zero_add, Nat.reduceAdd] at hF))) | fail)
            ((with_reducible refine wp_region_braidz_hp [.q, .q, .q, .q, .t, .t, .t, .t] 5 [.row 9 1 (some ⟨g, 0, none⟩) 2 c0 (strV [w0, w1])] (by kernel_rfl) rfl (by kernel_rfl) hS (fun w h => h.sub (by simp)) ?_); clear hS; (repeat ((with_reducible refine Walk.here ?_); (first | ((with_reducible apply Walk.skipQ); (first | rfl | exact wanted_false rfl rfl rfl (by assumption)); (try simp only [Mark.isQ, if_true, Bool.false_eq_true, if_false, Act.put, List.setIfInBounds_toArray, List.set_cons_zero, List.set_cons_succ])) | ((with_reducible apply Walk.val); (first | rfl | exact wanted_true rfl rfl rfl (by assumption)); (rintro w hS; ((try clear hF); (first | have hF := And.intro hS.facts (HRD.out _ (hS.sub (by first | simp | ((repeat (first | exact List.nil_sublist _ | exact List.Sublist.refl _ | with_reducible apply List.Sublist.cons₂ | apply List.Sublist.cons)))))) | have hF := And.intro hS.facts (hR.at hS.ext) | have hF := hS.facts); simp only [HFacts, cellFacts, RFacts, cellOnly, and_true, true_and, Nat.zero_add, Nat.reduceAdd] at hF); (have hw1 := HW1.out _ _ 0 hS rfl); go_simp; first | with_reducible rfl | (rw [if_neg (by first | omega | (simp only [ByteArray.size_append]; omega) | (simp [ByteArray.size_append]; omega))]; try with_reducible rfl)); (try simp only [Mark.isQ, if_true, Bool.false_eq_true, if_false, Act.put, List.setIfInBounds_toArray, List.set_cons_zero, List.set_cons_succ])) | ((with_reducible apply Walk.tail); (try simp only [Mark.isQ, if_true, Bool.false_eq_true, if_false, Act.put, List.setIfInBounds_toArray, List.set_cons_zero, List.set_cons_succ])) | ((with_reducible apply Walk.guardT); rfl; rfl; rfl; (all_goals intro hg)) | ((with_reducible apply Walk.guardF); rfl; rfl; rfl; (all_goals intro hg))))); refine Walk.done ?_; show BraidZ _ _ _ _ 5 4 [4, 5, 6, 7] _ _)
            (refine BraidZ.next1 (i := 4) (by kernel_rfl) (by kernel_rfl) rfl ?_; (try simp only [List.getElem_toArray, List.getElem_cons_succ, List.getElem_cons_zero]))
            (refine ZStep.turnF (by (first | rfl | exact wanted_true rfl rfl rfl (by assumption))) (fun w hS => ⟨w.setCell ⟨wI.heap.size, 0, none⟩ (.int .i64 2), .inl (by ((try clear hF); (first | have hF := And.intro hS.facts (HRD.out _ (hS.sub (by first | simp | ((repeat (first | exact List.nil_sublist _ | exact List.Sublist.refl _ | with_reducible apply List.Sublist.cons₂ | apply List.Sublist.cons)))))) | have hF := And.intro hS.facts (hR.at hS.ext) | have hF := hS.facts); simp only [HFacts, cellFacts, RFacts, cellOnly, and_true, true_and, Nat.zero_add, Nat.reduceAdd] at hF); go_simp), hS.put (i := 2) rfl⟩) (fun w h => h.sub (by first | simp | ((try simp only [List.eraseIdx_cons_zero, List.eraseIdx_cons_succ]); (repeat (first | exact List.nil_sublist _ | exact List.Sublist.refl _ | with_reducible apply List.Sublist.cons₂ | apply List.Sublist.cons))))) ?_; try simp only [Act.put, List.setIfInBounds_toArray, List.set_cons_zero, List.set_cons_succ])
            (refine BraidZ.next1 (i := 5) (by kernel_rfl) (by kernel_rfl) rfl ?_; (try simp only [List.getElem_toArray, List.getElem_cons_succ, List.getElem_cons_zero]))
            (show ZStep _ _ _ true _ _ _ _; refine ZStep.valz (by (first | rfl | exact wanted_true rfl rfl rfl (by assumption))) (by rintro w hS; ((try clear hF); (first | have hF := And.intro hS.facts (HRD.out _ (hS.sub (by first | simp | ((repeat (first | exact List.nil_sublist _ | exact List.Sublist.refl _ | with_reducible apply List.Sublist.cons₂ | apply List.Sublist.cons)))))) | have hF := And.intro hS.facts (hR.at hS.ext) | have hF := hS.facts); simp only [HFacts, cellFacts, RFacts, cellOnly, and_true, true_and, Nat.zero_add, Nat.reduceAdd] at hF); go_simp; with_reducible rfl) ?_; try simp only [Act.put, List.setIfInBounds_toArray, List.set_cons_zero, List.set_cons_succ])
            (refine BraidZ.next1 (i := 6) (by kernel_rfl) (by kernel_rfl) rfl ?_; (try simp only [List.getElem_toArray, List.getElem_cons_succ, List.getElem_cons_zero]))
            (show ZStep _ _ _ true _ _ _ _; refine ZStep.turn (by (first | rfl | exact wanted_true rfl rfl rfl (by assumption))) (fun w hS => ⟨w.setCell ⟨wI.heap.size, 1, none⟩ (.string w1), .inl (by ((try clear hF); (first | have hF := And.intro hS.facts (HRD.out _ (hS.sub (by first | simp | ((repeat (first | exact List.nil_sublist _ | exact List.Sublist.refl _ | with_reducible apply List.Sublist.cons₂ | apply List.Sublist.cons)))))) | have hF := And.intro hS.facts (hR.at hS.ext) | have hF := hS.facts); simp only [HFacts, cellFacts, RFacts, cellOnly, and_true, true_and, Nat.zero_add, Nat.reduceAdd] at hF); go_simp), hS.put (i := 2) rfl⟩) ?_; try simp only [Act.put, List.setIfInBounds_toArray, List.set_cons_zero, List.set_cons_succ])
            (refine BraidZ.next1 (i := 7) (by kernel_rfl) (by kernel_rfl) rfl ?_; (try simp only [List.getElem_toArray, List.getElem_cons_succ, List.getElem_cons_zero]))
            (show ZStep _ _ _ true _ _ _ _; refine ZStep.turn (by (first | rfl | exact wanted_true rfl rfl rfl (by assumption))) (fun w hS => ⟨w.setCell ⟨gk, 0, none⟩ (.bool true), .inl (by ((try clear hF); (first | have hF := And.intro hS.facts (HRD.out _ (hS.sub (by first | simp | ((repeat (first | exact List.nil_sublist _ | exact List.Sublist.refl _ | with_reducible apply List.Sublist.cons₂ | apply List.Sublist.cons)))))) | have hF := And.intro hS.facts (hR.at hS.ext) | have hF := hS.facts); simp only [HFacts, cellFacts, RFacts, cellOnly, and_true, true_and, Nat.zero_add, Nat.reduceAdd] at hF); go_simp), hS.put (i := 1) rfl⟩) ?_; try simp only [Act.put, List.setIfInBounds_toArray, List.set_cons_zero, List.set_cons_succ])
            (refine BraidZ.last (by kernel_rfl) ?_; (try clear hF); intro wk hS; ((try clear hF); (first | have hF := And.intro hS.facts (HRD.out _ (hS.sub (by first | simp | ((repeat (first | exact List.nil_sublist _ | exact List.Sublist.refl _ | with_reducible apply List.Sublist.cons₂ | apply List.Sublist.cons)))))) | have hF := And.intro hS.facts (hR.at hS.ext) | have hF := hS.facts); simp only [HFacts, cellFacts, RFacts, cellOnly, and_true, true_and, Nat.zero_add, Nat.reduceAdd] at hF))
            go_wp2_with (first | ((with_reducible first | refine nhLa ?_ | refine nhLs ?_ | refine nhLd ?_ | refine nhCa ?_ | refine nhCs ?_ | refine nhCd ?_ | refine nhPa ?_ | refine nhPs ?_ | refine nhPd ?_ | refine nhKa ?_ | refine nhKs ?_ | refine nhKd ?_); ((try clear hF); clear hS; intro wk hS; (try simp only [List.set_cons_zero, List.set_cons_succ, heap_size, heap_set_size] at hS); ((try clear hF); (first | have hF := And.intro hS.facts (HRD.out _ (hS.sub (by first | simp | ((repeat (first | exact List.nil_sublist _ | exact List.Sublist.refl _ | with_reducible apply List.Sublist.cons₂ | apply List.Sublist.cons)))))) | have hF := And.intro hS.facts (hR.at hS.ext) | have hF := hS.facts); simp only [HFacts, cellFacts, RFacts, cellOnly, and_true, true_and, Nat.zero_add, Nat.reduceAdd] at hF))) | fail)
            go_meet
            case rel => exact ⟨⟨2, w1, 0, [], [], 0⟩, ⟨none, 0, 0, none, 0, 0⟩, true, [], Lib.hid (LnF.ok (by rw [HL.out]; rfl) (fun _ _ W h => ⟨ri_nil _ _, rc_nil _ _⟩) (LnOk.flat (by omega) (show i64 0 from ⟨by decide, by decide⟩) (show i64 0 from ⟨by decide, by decide⟩))), hS.tail⟩
          | false =>
            have hq3 : (p3 && decide (n = 3)) = false := by
              cases hp : p3 with
              | false => rfl
              | true =>
                by_cases h3 : n = 3
                · exfalso
                  refine HMK.out ?_
                  subst h3
                  have := Hn.out
                  match r, this with
                  | [x], _ => exact ⟨w0, w1, x, HD.out, by rw [HP.out.2.2.1, hp]⟩
                · simp [h3]
            have hp3 := HP.out.2.2.1
            have HQ3 := Lib.hid hq3
            clear hq3
            ((try clear hF); (first | have hF := And.intro hS.facts (HRD.out _ (hS.sub (by first | simp | ((repeat (first | exact List.nil_sublist _ | exact List.Sublist.refl _ | with_reducible apply List.Sublist.cons₂ | apply List.Sublist.cons)))))) | have hF := And.intro hS.facts (hR.at hS.ext) | have hF := hS.facts); simp only [HFacts, cellFacts, RFacts, cellOnly, and_true, true_and, Nat.zero_add, Nat.reduceAdd] at hF)
            go_upto_region 9 with (first | ((with_reducible first | refine nhLa ?_ | refine nhLs ?_ | refine nhLd ?_ | refine nhCa ?_ | refine nhCs ?_ | refine nhCd ?_ | refine nhPa ?_ | refine nhPs ?_ | refine nhPd ?_ | refine nhKa ?_ | refine nhKs ?_ | refine nhKd ?_); ((try clear hF); clear hS; intro wk hS; (try simp only [List.set_cons_zero, List.set_cons_succ, heap_size, heap_set_size] at hS); ((try clear hF); (first | have hF := And.intro hS.facts (HRD.out _ (hS.sub (by first | simp | ((repeat (first | exact List.nil_sublist _ | exact List.Sublist.refl _ | with_reducible apply List.Sublist.cons₂ | apply List.Sublist.cons)))))) | have hF := And.intro hS.facts (hR.at hS.ext) | have hF := hS.facts); simp only [HFacts, cellFacts, RFacts, cellOnly, and_true, true_and, Nat.zero_add, Nat.reduceAdd] at hF))) | fail)
            go_cut [59] (fun c wx => c = .bool false ∧ Hp wI.heap.size wI wx [.row 9 1 (some ⟨g, 0, none⟩) n c0 (strV (w0 :: w1 :: r)), .blk gk [.bool false] 4, .blk wI.heap.size a0C 63])
            case first => as_aux_lemma =>
              have hw0 := HW0.out _ _ 0 hS rfl
              cases p3 with
              | false =>
                clear HQ1 HQ2 HQ3 HP HQ HNM HLI HLN HD Hn HMK
                ((try clear hF); (first | have hF := And.intro hS.facts (HRD.out _ (hS.sub (by first | simp | ((repeat (first | exact List.nil_sublist _ | exact List.Sublist.refl _ | with_reducible apply List.Sublist.cons₂ | apply List.Sublist.cons)))))) | have hF := And.intro hS.facts (hR.at hS.ext) | have hF := hS.facts); simp only [HFacts, cellFacts, RFacts, cellOnly, and_true, true_and, Nat.zero_add, Nat.reduceAdd] at hF)
                go_wp2_with (first | ((with_reducible first | refine nhLa ?_ | refine nhLs ?_ | refine nhLd ?_ | refine nhCa ?_ | refine nhCs ?_ | refine nhCd ?_ | refine nhPa ?_ | refine nhPs ?_ | refine nhPd ?_ | refine nhKa ?_ | refine nhKs ?_ | refine nhKd ?_); ((try clear hF); clear hS; intro wk hS; (try simp only [List.set_cons_zero, List.set_cons_succ, heap_size, heap_set_size] at hS); ((try clear hF); (first | have hF := And.intro hS.facts (HRD.out _ (hS.sub (by first | simp | ((repeat (first | exact List.nil_sublist _ | exact List.Sublist.refl _ | with_reducible apply List.Sublist.cons₂ | apply List.Sublist.cons)))))) | have hF := And.intro hS.facts (hR.at hS.ext) | have hF := hS.facts); simp only [HFacts, cellFacts, RFacts, cellOnly, and_true, true_and, Nat.zero_add, Nat.reduceAdd] at hF))) | fail)
                go_meet
                case rel => exact ⟨rfl, hS⟩
              | true =>
                have h3 : ¬ n = 3 := by have := HQ3.out; simpa using this
                have h3' : ((n : Int) == 3) = false := by simp; omega
                clear HQ1 HQ2 HQ3 HP HQ HNM HLI HLN HD Hn HMK h3
                ((try clear hF); (first | have hF := And.intro hS.facts (HRD.out _ (hS.sub (by first | simp | ((repeat (first | exact List.nil_sublist _ | exact List.Sublist.refl _ | with_reducible apply List.Sublist.cons₂ | apply List.Sublist.cons)))))) | have hF := And.intro hS.facts (hR.at hS.ext) | have hF := hS.facts); simp only [HFacts, cellFacts, RFacts, cellOnly, and_true, true_and, Nat.zero_add, Nat.reduceAdd] at hF)
                go_wp2_with (first | ((with_reducible first | refine nhLa ?_ | refine nhLs ?_ | refine nhLd ?_ | refine nhCa ?_ | refine nhCs ?_ | refine nhCd ?_ | refine nhPa ?_ | refine nhPs ?_ | refine nhPd ?_ | refine nhKa ?_ | refine nhKs ?_ | refine nhKd ?_); ((try clear hF); clear hS; intro wk hS; (try simp only [List.set_cons_zero, List.set_cons_succ, heap_size, heap_set_size] at hS); ((try clear hF); (first | have hF := And.intro hS.facts (HRD.out _ (hS.sub (by first | simp | ((repeat (first | exact List.nil_sublist _ | exact List.Sublist.refl _ | with_reducible apply List.Sublist.cons₂ | apply List.Sublist.cons)))))) | have hF := And.intro hS.facts (hR.at hS.ext) | have hF := hS.facts); simp only [HFacts, cellFacts, RFacts, cellOnly, and_true, true_and, Nat.zero_add, Nat.reduceAdd] at hF))) | fail)
                go_meet
                case rel => exact ⟨rfl, hS⟩
            case rest =>
              obtain ⟨rfl, hS⟩ := hcut
              clear hp3
              have hw0 := HW0.out _ _ 0 hS rfl
              have hp4 := HP.out.2.2.2
              obtain rfl : p4 = false := by
                cases hp : p4 with
                | false => rfl
                | true => exact absurd ⟨w0, w1, r, HD.out, by rw [hp4, hp]⟩ HSC.out
              have HL := Lib.hid (show lineP s = none by
                obtain ⟨a1, a2, a3, a4⟩ := HP.out
                have b1 := HQ1.out
                have b2 := HQ2.out
                have b3 := HQ3.out
                have hn := Hn.out
                simp only [List.length_cons] at hn
                unfold lineP
                rw [HD.out]
                simp only
                rw [if_neg, if_neg, if_neg, if_neg (by rw [a4]; simp)]
                · rintro ⟨c1, c2⟩
                  rw [← a3, c1] at b3
                  simp at b3
                  omega
                · rintro ⟨c1, c2⟩
                  rw [← a2, c1] at b2
                  simp at b2
                  omega
                · rintro ⟨c1, c2⟩
                  rw [← a1, c1] at b1
                  simp at b1
                  omega)
              clear HQ1 HQ2 HQ3 HP HQ HNM HLI HLN HD Hn HMK HSC
              ((try clear hF); (first | have hF := And.intro hS.facts (HRD.out _ (hS.sub (by first | simp | ((repeat (first | exact List.nil_sublist _ | exact List.Sublist.refl _ | with_reducible apply List.Sublist.cons₂ | apply List.Sublist.cons)))))) | have hF := And.intro hS.facts (hR.at hS.ext) | have hF := hS.facts); simp only [HFacts, cellFacts, RFacts, cellOnly, and_true, true_and, Nat.zero_add, Nat.reduceAdd] at hF)
              go_wp2_with (first | ((with_reducible first | refine nhLa ?_ | refine nhLs ?_ | refine nhLd ?_ | refine nhCa ?_ | refine nhCs ?_ | refine nhCd ?_ | refine nhPa ?_ | refine nhPs ?_ | refine nhPd ?_ | refine nhKa ?_ | refine nhKs ?_ | refine nhKd ?_); ((try clear hF); clear hS; intro wk hS; (try simp only [List.set_cons_zero, List.set_cons_succ, heap_size, heap_set_size] at hS); ((try clear hF); (first | have hF := And.intro hS.facts (HRD.out _ (hS.sub (by first | simp | ((repeat (first | exact List.nil_sublist _ | exact List.Sublist.refl _ | with_reducible apply List.Sublist.cons₂ | apply List.Sublist.cons)))))) | have hF := And.intro hS.facts (hR.at hS.ext) | have hF := hS.facts); simp only [HFacts, cellFacts, RFacts, cellOnly, and_true, true_and, Nat.zero_add, Nat.reduceAdd] at hF))) | fail)
              go_meet
              case rel => exact ⟨⟨0, ⟨#[]⟩, 0, [], [], 0⟩, ⟨none, 0, 0, none, 0, 0⟩, false, [], Lib.hid (LnF.no HL.out), hS.tail⟩
end Go.Proofs.YtcpnnffnkegamaaGreatDoor
