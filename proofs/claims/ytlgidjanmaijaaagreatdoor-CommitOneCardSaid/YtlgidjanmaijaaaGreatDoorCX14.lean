/- Texts joined: log.line: an action, read. log.Parse: the walk. log.Apply, of a commit and a table that hang on what is owned. The tables that CommitOne's row lists: what they tell of the world; a world that has them. commit.Load: a table at a version. commit.Try's closure: what lies at a version. -/
import Derived.Test.YtlgidjanmaijaaaGreatDoorCX10
import Derived.Test.YtlgidjanmaijaaaGreatDoorCX13
import Derived.Test.YtlgidjanmaijaaaGreatDoorCX11
import Derived.Test.YtlgidjanmaijaaaGreatDoorCX04
import Derived.Deep.CutBlock
/- log.line: an action, read. -/
namespace Go.Proofs.YtlgidjanmaijaaaGreatDoor
set_option linter.unusedSimpArgs false
set_option linter.unusedVariables false
open Go.RowKit
set_option linter.all false
set_option maxRecDepth 100000 in
set_option maxHeartbeats 8000000 in
theorem line_any (s : ByteArray) (hs : s.size ≤ 13600) (wI : World) (ht : TabAt wI) (hy : SynAt wI) (hr : RngAt wI) :
    Calls Tryz.prog 27 #[.string s] wI fun e w' => LineE s wI e w' := by
  by_cases hmk : ∃ w0 w1 w2, quotedS s 32 = [w0, w1, w2] ∧ (w0.toList == [109, 97, 115, 107]) = true
  · obtain ⟨w0, w1, w2, h1, h2⟩ := hmk
    exact line_mask s w0 w1 w2 hs h1 h2 wI ht hy hr
  by_cases hsc : ∃ w0 w1 r, quotedS s 32 = w0 :: w1 :: r ∧ (w0.toList == [115, 99, 104, 101, 109, 97]) = true
  · obtain ⟨w0, w1, r, h1, h2⟩ := hsc
    exact line_schema s w0 w1 r hs h1 h2 wI ht hy hr
  have HMK := Lib.hid hmk
  have HSC := Lib.hid hsc
  clear hsc
  clear hmk
  have HQ := Lib.hid (fun (W : World) => show Calls Tryz.prog 49 #[.string s, .int .u8 32] W fun e w' => ∃ A n c, (quotedS s 32).length = n ∧ e = .returned (.slice A n c) ∧ Hp W.heap.size W w' [.row 9 1 A n c (strV (quotedS s 32))] from quoted_any s 32 W s.size rfl (by omega))
  have HNM := Lib.hid (fun (t : ByteArray) (hz : t.size ≤ 1000000) (W : World) (hx : Ext wI W) => number_any t hz W (ht.ext hx) (hy.ext hx) (hr.ext hx))
  have HLI := Lib.hid (fun (t : ByteArray) (hz : t.size ≤ 1000000) (W : World) (hx : Ext wI W) => literal_any t hz W (ht.ext hx) (hy.ext hx) (hr.ext hx))
  clear ht hy hr
  have HLN := Lib.hid (quotedS_len s 32)
  obtain ⟨D, hD⟩ : ∃ D, quotedS s 32 = D := ⟨_, rfl⟩
  rw [hD] at HQ HLN
  have HD := Lib.hid hD
  clear hD
  have hS := Hp.init wI
  have hR := Reads.nil wI
  go_enter Tryz.func27, Tryz.ntmps27
  go_upto_region 2 with (first | (refine hab ?_; (try clear hF); clear hS; intro wk hS; (try simp only [List.set_cons_zero, List.set_cons_succ, heap_size, heap_set_size] at hS); ((try clear hF); refine hfI ?_; intro hF)) | (go_at_call 49; (with_reducible refine Calls.mono (HQ.out _) ?_); rintro e wk ⟨A, n, c0, hn, rfl, hp⟩; replace hS := hS.join hp; clear hp; simp only [List.cons_append, List.nil_append] at hS; ((try clear hF); refine hfI ?_; intro hF)))
  obtain ⟨gk, hgk⟩ := hS.nameL 1 rfl
  rw [← hgk] at hS hF ⊢
  clear hgk
  have Hn := Lib.hid hn
  have hnz : n ≤ s.size + 1 := by rw [← hn, ← HLN.out]; exact lenS_length D
  by_cases h2 : n < 2
  · as_aux_lemma =>
    have h2' : (n : Int) < 2 := by omega
    have HL := Lib.hid (lineP_short (by rw [HD.out, Hn.out]; exact h2))
    clear hnz h2 HQ HNM HLI HLN HD Hn
    ((try clear hF); refine hfI ?_; intro hF)
    go_wp2_with (first | (refine hab ?_; (try clear hF); clear hS; intro wk hS; (try simp only [List.set_cons_zero, List.set_cons_succ, heap_size, heap_set_size] at hS); ((try clear hF); refine hfI ?_; intro hF)) | fail)
    refine ⟨rfl, .tuple #[aV ⟨0, ⟨#[]⟩, 0, [], [], 0⟩ ⟨none, 0, 0, none, 0, 0⟩, .bool false], ?_, LineE.mk _ _ false _ hS.forget (LnF.no HL.out)⟩
    simp [results, Tryz.results27, go_sem, hF]
  have h2' : ¬ (n : Int) < 2 := by omega
  obtain ⟨w0, w1, r, rfl⟩ : ∃ w0 w1 r, D = w0 :: w1 :: r := by
    have := Hn.out
    match D, this with
    | [], h => simp at h; omega
    | [x], h => simp at h; omega
    | x :: y :: r, h => exact ⟨x, y, r, rfl⟩
  obtain ⟨g, rfl, _⟩ := hS.rowCell (j := 0) (u := .string w0) 0 rfl rfl
  have HW0 := Lib.hid (fun (W : World) (L : List Item) (i : Nat) (h : Hp wI.heap.size wI W L) (hi : L[i]? = some (.row 9 1 (some ⟨g, 0, none⟩) n c0 (strV (w0 :: w1 :: r)))) => show W.cell? ⟨g, 0, none⟩ = some (.string w0) from by
    obtain ⟨g', e, c, _⟩ := h.rowCell (j := 0) (u := .string w0) i hi rfl
    obtain rfl : g = g' := by simpa using e
    exact c)
  have HW1 := Lib.hid (fun (W : World) (L : List Item) (i : Nat) (h : Hp wI.heap.size wI W L) (hi : L[i]? = some (.row 9 1 (some ⟨g, 0, none⟩) n c0 (strV (w0 :: w1 :: r)))) => show W.cell? ⟨g, 1, none⟩ = some (.string w1) from by
    obtain ⟨g', e, c, _⟩ := h.rowCell (j := 1) (u := .string w1) i hi rfl
    obtain rfl : g = g' := by simpa using e
    exact c)
  have hw0 := HW0.out _ _ 0 hS rfl
  have hw1 := HW1.out _ _ 0 hS rfl
  ((try clear hF); refine hfI ?_; intro hF)
  go_upto_block 0 with (first | (refine hab ?_; (try clear hF); clear hS; intro wk hS; (try simp only [List.set_cons_zero, List.set_cons_succ, heap_size, heap_set_size] at hS); ((try clear hF); refine hfI ?_; intro hF)) | fail)
  go_cut [] (fun wx => ∃ (a : AN) (v : AV) (b : Bool) (M : List Item), Hid (LnF s a v b M) ∧ Hp wI.heap.size wI wx (.blk gk [.bool b] 4 :: .blk wI.heap.size (aC a v) 63 :: M))
  case rest => as_aux_lemma =>
    obtain ⟨a, v, b, M, HF0, hS⟩ := hcut
    clear HQ HNM HLI HLN HD Hn HW0 HW1 HMK
    ((try clear hF); refine hfI ?_; intro hF)
    go_wp2_with (first | (refine hab ?_; (try clear hF); clear hS; intro wk hS; (try simp only [List.set_cons_zero, List.set_cons_succ, heap_size, heap_set_size] at hS); ((try clear hF); refine hfI ?_; intro hF)) | fail)
    ((with_reducible refine wp_region_braidz_hp [.q, .q, .t, .t] 3 [.blk gk [.bool b] 4, .blk wI.heap.size (aC a v) 63] (by kernel_rfl) rfl (by kernel_rfl) hS (fun w h => h.sub (by simp)) ?_); clear hS; (repeat ((with_reducible refine Walk.here ?_); (first | ((with_reducible apply Walk.skipQ); (first | rfl | exact wanted_false rfl rfl rfl (by assumption)); (try simp only [Mark.isQ, if_true, Bool.false_eq_true, if_false, Act.put, List.setIfInBounds_toArray, List.set_cons_zero, List.set_cons_succ])) | ((with_reducible apply Walk.val); (first | rfl | exact wanted_true rfl rfl rfl (by assumption)); (rintro w hS; ((try clear hF); refine hfI ?_; intro hF); go_simp; first | with_reducible rfl | (rw [if_neg (by first | omega | (simp only [ByteArray.size_append]; omega) | (simp [ByteArray.size_append]; omega))]; try with_reducible rfl)); (try simp only [Mark.isQ, if_true, Bool.false_eq_true, if_false, Act.put, List.setIfInBounds_toArray, List.set_cons_zero, List.set_cons_succ])) | ((with_reducible apply Walk.tail); (try simp only [Mark.isQ, if_true, Bool.false_eq_true, if_false, Act.put, List.setIfInBounds_toArray, List.set_cons_zero, List.set_cons_succ])) | ((with_reducible apply Walk.guardT); rfl; rfl; rfl; (all_goals intro hg)) | ((with_reducible apply Walk.guardF); rfl; rfl; rfl; (all_goals intro hg))))); refine Walk.done ?_; show BraidZ _ _ _ _ 3 2 [2, 3] _ _)
    (refine BraidZ.next1 (i := 2) (by kernel_rfl) (by kernel_rfl) rfl ?_; (try simp only [List.getElem_toArray, List.getElem_cons_succ, List.getElem_cons_zero]))
    (refine ZStep.storeRow (i := 1) (g := wI.heap.size) (us := [.int .i64 a.kind, .string a.path, .int .i64 a.rows, .slice v.qa v.qn v.qc, .slice v.ra v.rn v.rc, .int .i64 a.next]) (.inr (fun w h => h.sub (by first | simp | ((try simp only [List.eraseIdx_cons_zero, List.eraseIdx_cons_succ]); (repeat (first | exact List.nil_sublist _ | exact List.Sublist.refl _ | with_reducible apply List.Sublist.cons₂ | apply List.Sublist.cons)))))) (by (first | rfl | exact wanted_true rfl rfl rfl (by assumption))) rfl rfl rfl rfl (by kernel_rfl) rfl (by simp [Value.oneCell']) ?_; try simp only [Act.put, List.setIfInBounds_toArray, List.set_cons_zero, List.set_cons_succ])
    (refine BraidZ.next1 (i := 3) (by kernel_rfl) (by kernel_rfl) rfl ?_; (try simp only [List.getElem_toArray, List.getElem_cons_succ, List.getElem_cons_zero]))
    (show ZStep _ _ _ true _ _ _ _; refine ZStep.turn (by (first | rfl | exact wanted_true rfl rfl rfl (by assumption))) (fun w hS => ⟨w.setCell ⟨gk, 0, none⟩ (.bool b), .inl (by ((try clear hF); refine hfI ?_; intro hF); go_simp), hS.put (i := 0) rfl⟩) ?_; try simp only [Act.put, List.setIfInBounds_toArray, List.set_cons_zero, List.set_cons_succ])
    (refine BraidZ.last (by kernel_rfl) ?_; (try clear hF); intro wk hS; ((try clear hF); refine hfI ?_; intro hF))
    go_wp2_with (first | (refine hab ?_; (try clear hF); clear hS; intro wk hS; (try simp only [List.set_cons_zero, List.set_cons_succ, heap_size, heap_set_size] at hS); ((try clear hF); refine hfI ?_; intro hF)) | fail)
    refine ⟨rfl, .tuple #[aV a v, .bool b], ?_, LineE.mk a v b M hS.tail.tail HF0.out⟩
    simp [results, Tryz.results27, go_sem, hF]
  case first =>
    go_upto_region 4 with (first | (refine hab ?_; (try clear hF); clear hS; intro wk hS; (try simp only [List.set_cons_zero, List.set_cons_succ, heap_size, heap_set_size] at hS); ((try clear hF); refine hfI ?_; intro hF)) | fail)
    obtain ⟨p1, hp1⟩ : ∃ b, (w0.toList == [97, 100, 100]) = b := ⟨_, rfl⟩
    obtain ⟨p2, hp2⟩ : ∃ b, (w0.toList == [114, 101, 109, 111, 118, 101]) = b := ⟨_, rfl⟩
    obtain ⟨p3, hp3⟩ : ∃ b, (w0.toList == [109, 97, 115, 107]) = b := ⟨_, rfl⟩
    obtain ⟨p4, hp4⟩ : ∃ b, (w0.toList == [115, 99, 104, 101, 109, 97]) = b := ⟨_, rfl⟩
    have HP := Lib.hid (show (w0.toList == [97, 100, 100]) = p1 ∧ (w0.toList == [114, 101, 109, 111, 118, 101]) = p2 ∧ (w0.toList == [109, 97, 115, 107]) = p3 ∧ (w0.toList == [115, 99, 104, 101, 109, 97]) = p4 from ⟨hp1, hp2, hp3, hp4⟩)
    clear hp2 hp3 hp4
    obtain ⟨q1, hq1⟩ : ∃ b, (p1 && decide (n = 3)) = b := ⟨_, rfl⟩
    have HQ1 := Lib.hid hq1
    clear hq1
    go_cut [21] (fun c wx => c = .bool q1 ∧ Hp wI.heap.size wI wx [.row 9 1 (some ⟨g, 0, none⟩) n c0 (strV (w0 :: w1 :: r)), .blk gk [.bool false] 4, .blk wI.heap.size a0C 63])
    case first => as_aux_lemma =>
      cases p1 with
      | false =>
        obtain rfl : false = q1 := by have := HQ1.out; simpa using this
        clear HQ1 HP HQ HNM HLI HLN HD Hn
        ((try clear hF); refine hfI ?_; intro hF)
        go_wp2_with (first | (refine hab ?_; (try clear hF); clear hS; intro wk hS; (try simp only [List.set_cons_zero, List.set_cons_succ, heap_size, heap_set_size] at hS); ((try clear hF); refine hfI ?_; intro hF)) | fail)
        go_meet
        case rel => exact ⟨rfl, hS⟩
      | true =>
        by_cases h3 : n = 3
        · obtain rfl : true = q1 := by have := HQ1.out; simpa [h3] using this
          have h3' : ((n : Int) == 3) = true := by simp; omega
          clear HQ1 HP HQ HNM HLI HLN HD Hn h3
          ((try clear hF); refine hfI ?_; intro hF)
          go_wp2_with (first | (refine hab ?_; (try clear hF); clear hS; intro wk hS; (try simp only [List.set_cons_zero, List.set_cons_succ, heap_size, heap_set_size] at hS); ((try clear hF); refine hfI ?_; intro hF)) | fail)
          go_meet
          case rel => exact ⟨rfl, hS⟩
        · obtain rfl : false = q1 := by have := HQ1.out; simpa [h3] using this
          have h3' : ((n : Int) == 3) = false := by simp; omega
          clear HQ1 HP HQ HNM HLI HLN HD Hn h3
          ((try clear hF); refine hfI ?_; intro hF)
          go_wp2_with (first | (refine hab ?_; (try clear hF); clear hS; intro wk hS; (try simp only [List.set_cons_zero, List.set_cons_succ, heap_size, heap_set_size] at hS); ((try clear hF); refine hfI ?_; intro hF)) | fail)
          go_meet
          case rel => exact ⟨rfl, hS⟩
    case rest =>
      obtain ⟨rfl, hS⟩ := hcut
      clear hp1
      cases q1 with
      | true => as_aux_lemma =>
        have hq := HQ1.out
        simp only [Bool.and_eq_true, decide_eq_true_eq] at hq
        obtain ⟨rfl, h3⟩ := hq
        subst h3
        obtain ⟨w2, rfl⟩ : ∃ w2, r = [w2] := by
          have := Hn.out
          match r, this with
          | [x], _ => exact ⟨x, rfl⟩
        have hz2 : w2.size ≤ s.size := by have := lenS_le (l := [w0, w1, w2]) (x := w2) (by simp); rw [HLN.out] at this; omega
        have hz1 : w1.size ≤ s.size := by have := lenS_le (l := [w0, w1, w2]) (x := w1) (by simp); rw [HLN.out] at this; omega
        have HW2 := Lib.hid (fun (W : World) (L : List Item) (i : Nat) (h : Hp wI.heap.size wI W L) (hi : L[i]? = some (.row 9 1 (some ⟨g, 0, none⟩) 3 c0 (strV [w0, w1, w2]))) => show W.cell? ⟨g, 2, none⟩ = some (.string w2) from by
          obtain ⟨g', e, c, _⟩ := h.rowCell (j := 2) (u := .string w2) i hi rfl
          obtain rfl : g = g' := by simpa using e
          exact c)
        have HL := Lib.hid (show lineP s = (numOf w2).map fun m => ⟨1, w1, m, [], [], 0⟩ by unfold lineP; rw [HD.out]; simp only; rw [if_pos ⟨HP.out.1, rfl⟩]; rfl)
        have HNM2 := Lib.hid (HNM.out w2 (by omega))
        clear HQ1 HP HQ HNM HLI HLN HD Hn HW0
        ((try clear hF); refine hfI ?_; intro hF)
        go_upto_region 5 with (first | (refine hab ?_; (try clear hF); clear hS; intro wk hS; (try simp only [List.set_cons_zero, List.set_cons_succ, heap_size, heap_set_size] at hS); ((try clear hF); refine hfI ?_; intro hF)) | fail)
        ((with_reducible refine wp_region_braidz_hp [.q, .q, .q, .q, .t, .t, .t] 5 [.row 9 1 (some ⟨g, 0, none⟩) 3 c0 (strV [w0, w1, w2])] (by kernel_rfl) rfl (by kernel_rfl) hS (fun w h => h.sub (by simp)) ?_); clear hS; (repeat ((with_reducible refine Walk.here ?_); (first | ((with_reducible apply Walk.skipQ); (first | rfl | exact wanted_false rfl rfl rfl (by assumption)); (try simp only [Mark.isQ, if_true, Bool.false_eq_true, if_false, Act.put, List.setIfInBounds_toArray, List.set_cons_zero, List.set_cons_succ])) | ((with_reducible apply Walk.val); (first | rfl | exact wanted_true rfl rfl rfl (by assumption)); (rintro w hS; ((try clear hF); refine hfI ?_; intro hF); (have hw1 := HW1.out _ _ 0 hS rfl); go_simp; first | with_reducible rfl | (rw [if_neg (by first | omega | (simp only [ByteArray.size_append]; omega) | (simp [ByteArray.size_append]; omega))]; try with_reducible rfl)); (try simp only [Mark.isQ, if_true, Bool.false_eq_true, if_false, Act.put, List.setIfInBounds_toArray, List.set_cons_zero, List.set_cons_succ])) | ((with_reducible apply Walk.tail); (try simp only [Mark.isQ, if_true, Bool.false_eq_true, if_false, Act.put, List.setIfInBounds_toArray, List.set_cons_zero, List.set_cons_succ])) | ((with_reducible apply Walk.guardT); rfl; rfl; rfl; (all_goals intro hg)) | ((with_reducible apply Walk.guardF); rfl; rfl; rfl; (all_goals intro hg))))); refine Walk.done ?_; show BraidZ _ _ _ _ 5 3 [4, 5, 6] _ _)
        (refine BraidZ.next1 (i := 4) (by kernel_rfl) (by kernel_rfl) rfl ?_; (try simp only [List.getElem_toArray, List.getElem_cons_succ, List.getElem_cons_zero]))
        (refine ZStep.turnF (by (first | rfl | exact wanted_true rfl rfl rfl (by assumption))) (fun w hS => ⟨w.setCell ⟨wI.heap.size, 0, none⟩ (.int .i64 1), .inl (by ((try clear hF); refine hfI ?_; intro hF); go_simp), hS.put (i := 2) rfl⟩) (fun w h => h.sub (by first | simp | ((try simp only [List.eraseIdx_cons_zero, List.eraseIdx_cons_succ]); (repeat (first | exact List.nil_sublist _ | exact List.Sublist.refl _ | with_reducible apply List.Sublist.cons₂ | apply List.Sublist.cons))))) ?_; try simp only [Act.put, List.setIfInBounds_toArray, List.set_cons_zero, List.set_cons_succ])
        (refine BraidZ.next1 (i := 5) (by kernel_rfl) (by kernel_rfl) rfl ?_; (try simp only [List.getElem_toArray, List.getElem_cons_succ, List.getElem_cons_zero]))
        (show ZStep _ _ _ true _ _ _ _; refine ZStep.valz (by (first | rfl | exact wanted_true rfl rfl rfl (by assumption))) (by rintro w hS; ((try clear hF); refine hfI ?_; intro hF); go_simp; with_reducible rfl) ?_; try simp only [Act.put, List.setIfInBounds_toArray, List.set_cons_zero, List.set_cons_succ])
        (refine BraidZ.next1 (i := 6) (by kernel_rfl) (by kernel_rfl) rfl ?_; (try simp only [List.getElem_toArray, List.getElem_cons_succ, List.getElem_cons_zero]))
        (show ZStep _ _ _ true _ _ _ _; refine ZStep.turn (by (first | rfl | exact wanted_true rfl rfl rfl (by assumption))) (fun w hS => ⟨w.setCell ⟨wI.heap.size, 1, none⟩ (.string w1), .inl (by ((try clear hF); refine hfI ?_; intro hF); go_simp), hS.put (i := 2) rfl⟩) ?_; try simp only [Act.put, List.setIfInBounds_toArray, List.set_cons_zero, List.set_cons_succ])
        (refine BraidZ.last (by kernel_rfl) ?_; (try clear hF); intro wk hS; ((try clear hF); refine hfI ?_; intro hF))
        have hw2 := HW2.out _ _ 0 hS rfl
        go_wp2_with (first | (refine hab ?_; (try clear hF); clear hS; intro wk hS; (try simp only [List.set_cons_zero, List.set_cons_succ, heap_size, heap_set_size] at hS); ((try clear hF); refine hfI ?_; intro hF)) | (go_at_call 50; (with_reducible refine Calls.mono (HNM2.out _ hS.ext) ?_); rintro e wk ⟨⟨m, b, rfl, hm, hml⟩, hX⟩; replace hS := hS.step hX; clear hX; ((try clear hF); refine hfI ?_; intro hF)))
        go_meet
        case rel => exact ⟨⟨1, w1, m, [], [], 0⟩, ⟨none, 0, 0, none, 0, 0⟩, b, [], Lib.hid (LnF.ok (by rw [HL.out, hml]; cases b <;> rfl) (fun _ _ W h => ⟨ri_nil _ _, rc_nil _ _⟩) (LnOk.flat (by omega) hm (show i64 0 from ⟨by decide, by decide⟩))), hS.tail.put (i := 0) (j := 0) rfl⟩
      | false =>
        have hp2 := HP.out.2.1
        obtain ⟨q2, hq2⟩ : ∃ b, (p2 && decide (n = 2)) = b := ⟨_, rfl⟩
        have HQ2 := Lib.hid hq2
        clear hq2
        ((try clear hF); refine hfI ?_; intro hF)
        go_upto_region 7 with (first | (refine hab ?_; (try clear hF); clear hS; intro wk hS; (try simp only [List.set_cons_zero, List.set_cons_succ, heap_size, heap_set_size] at hS); ((try clear hF); refine hfI ?_; intro hF)) | fail)
        go_cut [44] (fun c wx => c = .bool q2 ∧ Hp wI.heap.size wI wx [.row 9 1 (some ⟨g, 0, none⟩) n c0 (strV (w0 :: w1 :: r)), .blk gk [.bool false] 4, .blk wI.heap.size a0C 63])
        case first => as_aux_lemma =>
          have hw0 := HW0.out _ _ 0 hS rfl
          cases p2 with
          | false =>
            obtain rfl : false = q2 := by have := HQ2.out; simpa using this
            clear HQ1 HQ2 HP HQ HNM HLI HLN HD Hn
            ((try clear hF); refine hfI ?_; intro hF)
            go_wp2_with (first | (refine hab ?_; (try clear hF); clear hS; intro wk hS; (try simp only [List.set_cons_zero, List.set_cons_succ, heap_size, heap_set_size] at hS); ((try clear hF); refine hfI ?_; intro hF)) | fail)
            go_meet
            case rel => exact ⟨rfl, hS⟩
          | true =>
            by_cases h3 : n = 2
            · obtain rfl : true = q2 := by have := HQ2.out; simpa [h3] using this
              have h3' : ((n : Int) == 2) = true := by simp; omega
              clear HQ1 HQ2 HP HQ HNM HLI HLN HD Hn h3
              ((try clear hF); refine hfI ?_; intro hF)
              go_wp2_with (first | (refine hab ?_; (try clear hF); clear hS; intro wk hS; (try simp only [List.set_cons_zero, List.set_cons_succ, heap_size, heap_set_size] at hS); ((try clear hF); refine hfI ?_; intro hF)) | fail)
              go_meet
              case rel => exact ⟨rfl, hS⟩
            · obtain rfl : false = q2 := by have := HQ2.out; simpa [h3] using this
              have h3' : ((n : Int) == 2) = false := by simp; omega
              clear HQ1 HQ2 HP HQ HNM HLI HLN HD Hn h3
              ((try clear hF); refine hfI ?_; intro hF)
              go_wp2_with (first | (refine hab ?_; (try clear hF); clear hS; intro wk hS; (try simp only [List.set_cons_zero, List.set_cons_succ, heap_size, heap_set_size] at hS); ((try clear hF); refine hfI ?_; intro hF)) | fail)
              go_meet
              case rel => exact ⟨rfl, hS⟩
        case rest =>
          obtain ⟨rfl, hS⟩ := hcut
          clear hp2
          cases q2 with
          | true => as_aux_lemma =>
            have hq := HQ2.out
            simp only [Bool.and_eq_true, decide_eq_true_eq] at hq
            obtain ⟨rfl, h3⟩ := hq
            subst h3
            obtain rfl : r = [] := by
              have := Hn.out
              match r, this with
              | [], _ => rfl
            have hz1 : w1.size ≤ s.size := by have := lenS_le (l := [w0, w1]) (x := w1) (by simp); rw [HLN.out] at this; omega
            have HL := Lib.hid (show lineP s = some ⟨2, w1, 0, [], [], 0⟩ by unfold lineP; rw [HD.out]; simp only; rw [if_neg (fun h => by simp at h), if_pos ⟨HP.out.2.1, rfl⟩])
            clear HQ1 HQ2 HP HQ HNM HLI HLN HD Hn HW0
            ((try clear hF); refine hfI ?_; intro hF)
            go_upto_region 8 with (first | (refine hab ?_; (try clear hF); clear hS; intro wk hS; (try simp only [List.set_cons_zero, List.set_cons_succ, heap_size, heap_set_size] at hS); ((try clear hF); refine hfI ?_; intro hF)) | fail)
            ((with_reducible refine wp_region_braidz_hp [.q, .q, .q, .q, .t, .t, .t, .t] 5 [.row 9 1 (some ⟨g, 0, none⟩) 2 c0 (strV [w0, w1])] (by kernel_rfl) rfl (by kernel_rfl) hS (fun w h => h.sub (by simp)) ?_); clear hS; (repeat ((with_reducible refine Walk.here ?_); (first | ((with_reducible apply Walk.skipQ); (first | rfl | exact wanted_false rfl rfl rfl (by assumption)); (try simp only [Mark.isQ, if_true, Bool.false_eq_true, if_false, Act.put, List.setIfInBounds_toArray, List.set_cons_zero, List.set_cons_succ])) | ((with_reducible apply Walk.val); (first | rfl | exact wanted_true rfl rfl rfl (by assumption)); (rintro w hS; ((try clear hF); refine hfI ?_; intro hF); (have hw1 := HW1.out _ _ 0 hS rfl); go_simp; first | with_reducible rfl | (rw [if_neg (by first | omega | (simp only [ByteArray.size_append]; omega) | (simp [ByteArray.size_append]; omega))]; try with_reducible rfl)); (try simp only [Mark.isQ, if_true, Bool.false_eq_true, if_false, Act.put, List.setIfInBounds_toArray, List.set_cons_zero, List.set_cons_succ])) | ((with_reducible apply Walk.tail); (try simp only [Mark.isQ, if_true, Bool.false_eq_true, if_false, Act.put, List.setIfInBounds_toArray, List.set_cons_zero, List.set_cons_succ])) | ((with_reducible apply Walk.guardT); rfl; rfl; rfl; (all_goals intro hg)) | ((with_reducible apply Walk.guardF); rfl; rfl; rfl; (all_goals intro hg))))); refine Walk.done ?_; show BraidZ _ _ _ _ 5 4 [4, 5, 6, 7] _ _)
            (refine BraidZ.next1 (i := 4) (by kernel_rfl) (by kernel_rfl) rfl ?_; (try simp only [List.getElem_toArray, List.getElem_cons_succ, List.getElem_cons_zero]))
            (refine ZStep.turnF (by (first | rfl | exact wanted_true rfl rfl rfl (by assumption))) (fun w hS => ⟨w.setCell ⟨wI.heap.size, 0, none⟩ (.int .i64 2), .inl (by ((try clear hF); refine hfI ?_; intro hF); go_simp), hS.put (i := 2) rfl⟩) (fun w h => h.sub (by first | simp | ((try simp only [List.eraseIdx_cons_zero, List.eraseIdx_cons_succ]); (repeat (first | exact List.nil_sublist _ | exact List.Sublist.refl _ | with_reducible apply List.Sublist.cons₂ | apply List.Sublist.cons))))) ?_; try simp only [Act.put, List.setIfInBounds_toArray, List.set_cons_zero, List.set_cons_succ])
            (refine BraidZ.next1 (i := 5) (by kernel_rfl) (by kernel_rfl) rfl ?_; (try simp only [List.getElem_toArray, List.getElem_cons_succ, List.getElem_cons_zero]))
            (show ZStep _ _ _ true _ _ _ _; refine ZStep.valz (by (first | rfl | exact wanted_true rfl rfl rfl (by assumption))) (by rintro w hS; ((try clear hF); refine hfI ?_; intro hF); go_simp; with_reducible rfl) ?_; try simp only [Act.put, List.setIfInBounds_toArray, List.set_cons_zero, List.set_cons_succ])
            (refine BraidZ.next1 (i := 6) (by kernel_rfl) (by kernel_rfl) rfl ?_; (try simp only [List.getElem_toArray, List.getElem_cons_succ, List.getElem_cons_zero]))
            (show ZStep _ _ _ true _ _ _ _; refine ZStep.turn (by (first | rfl | exact wanted_true rfl rfl rfl (by assumption))) (fun w hS => ⟨w.setCell ⟨wI.heap.size, 1, none⟩ (.string w1), .inl (by ((try clear hF); refine hfI ?_; intro hF); go_simp), hS.put (i := 2) rfl⟩) ?_; try simp only [Act.put, List.setIfInBounds_toArray, List.set_cons_zero, List.set_cons_succ])
            (refine BraidZ.next1 (i := 7) (by kernel_rfl) (by kernel_rfl) rfl ?_; (try simp only [List.getElem_toArray, List.getElem_cons_succ, List.getElem_cons_zero]))
            (show ZStep _ _ _ true _ _ _ _; refine ZStep.turn (by (first | rfl | exact wanted_true rfl rfl rfl (by assumption))) (fun w hS => ⟨w.setCell ⟨gk, 0, none⟩ (.bool true), .inl (by ((try clear hF); refine hfI ?_; intro hF); go_simp), hS.put (i := 1) rfl⟩) ?_; try simp only [Act.put, List.setIfInBounds_toArray, List.set_cons_zero, List.set_cons_succ])
            (refine BraidZ.last (by kernel_rfl) ?_; (try clear hF); intro wk hS; ((try clear hF); refine hfI ?_; intro hF))
            go_wp2_with (first | (refine hab ?_; (try clear hF); clear hS; intro wk hS; (try simp only [List.set_cons_zero, List.set_cons_succ, heap_size, heap_set_size] at hS); ((try clear hF); refine hfI ?_; intro hF)) | fail)
            go_meet
            case rel => exact ⟨⟨2, w1, 0, [], [], 0⟩, ⟨none, 0, 0, none, 0, 0⟩, true, [], Lib.hid (LnF.ok (by rw [HL.out]; rfl) (fun _ _ W h => ⟨ri_nil _ _, rc_nil _ _⟩) (LnOk.flat (by omega) (show i64 0 from ⟨by decide, by decide⟩) (show i64 0 from ⟨by decide, by decide⟩))), hS.tail⟩
          | false =>
            have hq3 : (p3 && decide (n = 3)) = false := by
              cases hp : p3 with
              | false => rfl
              | true =>
                by_cases h3 : n = 3
                · exfalso
                  refine HMK.out ?_
                  subst h3
                  have := Hn.out
                  match r, this with
                  | [x], _ => exact ⟨w0, w1, x, HD.out, by rw [HP.out.2.2.1, hp]⟩
                · simp [h3]
            have hp3 := HP.out.2.2.1
            have HQ3 := Lib.hid hq3
            clear hq3
            ((try clear hF); refine hfI ?_; intro hF)
            go_upto_region 9 with (first | (refine hab ?_; (try clear hF); clear hS; intro wk hS; (try simp only [List.set_cons_zero, List.set_cons_succ, heap_size, heap_set_size] at hS); ((try clear hF); refine hfI ?_; intro hF)) | fail)
            go_cut [59] (fun c wx => c = .bool false ∧ Hp wI.heap.size wI wx [.row 9 1 (some ⟨g, 0, none⟩) n c0 (strV (w0 :: w1 :: r)), .blk gk [.bool false] 4, .blk wI.heap.size a0C 63])
            case first => as_aux_lemma =>
              have hw0 := HW0.out _ _ 0 hS rfl
              cases p3 with
              | false =>
                clear HQ1 HQ2 HQ3 HP HQ HNM HLI HLN HD Hn HMK
                ((try clear hF); refine hfI ?_; intro hF)
                go_wp2_with (first | (refine hab ?_; (try clear hF); clear hS; intro wk hS; (try simp only [List.set_cons_zero, List.set_cons_succ, heap_size, heap_set_size] at hS); ((try clear hF); refine hfI ?_; intro hF)) | fail)
                go_meet
                case rel => exact ⟨rfl, hS⟩
              | true =>
                have h3 : ¬ n = 3 := by have := HQ3.out; simpa using this
                have h3' : ((n : Int) == 3) = false := by simp; omega
                clear HQ1 HQ2 HQ3 HP HQ HNM HLI HLN HD Hn HMK h3
                ((try clear hF); refine hfI ?_; intro hF)
                go_wp2_with (first | (refine hab ?_; (try clear hF); clear hS; intro wk hS; (try simp only [List.set_cons_zero, List.set_cons_succ, heap_size, heap_set_size] at hS); ((try clear hF); refine hfI ?_; intro hF)) | fail)
                go_meet
                case rel => exact ⟨rfl, hS⟩
            case rest =>
              obtain ⟨rfl, hS⟩ := hcut
              clear hp3
              have hw0 := HW0.out _ _ 0 hS rfl
              have hp4 := HP.out.2.2.2
              obtain rfl : p4 = false := by
                cases hp : p4 with
                | false => rfl
                | true => exact absurd ⟨w0, w1, r, HD.out, by rw [hp4, hp]⟩ HSC.out
              have HL := Lib.hid (show lineP s = none by
                obtain ⟨a1, a2, a3, a4⟩ := HP.out
                have b1 := HQ1.out
                have b2 := HQ2.out
                have b3 := HQ3.out
                have hn := Hn.out
                simp only [List.length_cons] at hn
                unfold lineP
                rw [HD.out]
                simp only
                rw [if_neg, if_neg, if_neg, if_neg (by rw [a4]; simp)]
                · rintro ⟨c1, c2⟩
                  rw [← a3, c1] at b3
                  simp at b3
                  omega
                · rintro ⟨c1, c2⟩
                  rw [← a2, c1] at b2
                  simp at b2
                  omega
                · rintro ⟨c1, c2⟩
                  rw [← a1, c1] at b1
                  simp at b1
                  omega)
              clear HQ1 HQ2 HQ3 HP HQ HNM HLI HLN HD Hn HMK HSC
              ((try clear hF); refine hfI ?_; intro hF)
              go_wp2_with (first | (refine hab ?_; (try clear hF); clear hS; intro wk hS; (try simp only [List.set_cons_zero, List.set_cons_succ, heap_size, heap_set_size] at hS); ((try clear hF); refine hfI ?_; intro hF)) | fail)
              go_meet
              case rel => exact ⟨⟨0, ⟨#[]⟩, 0, [], [], 0⟩, ⟨none, 0, 0, none, 0, 0⟩, false, [], Lib.hid (LnF.no HL.out), hS.tail⟩
end Go.Proofs.YtlgidjanmaijaaaGreatDoor

/- log.Parse: the walk. -/
namespace Go.Proofs.YtlgidjanmaijaaaGreatDoor
set_option linter.unusedSimpArgs false
set_option linter.unusedVariables false
open Go.RowKit
set_option linter.all false
/-- what log.Parse answers -/
def PaRes (s : ByteArray) (wI : World) (e : Ending) (w' : World) : Prop :=
  match parseP s with
  | none => e = .returned (.tuple #[coV ⟨#[]⟩ false none 0 0, .iface 64 (.int .i64 3)]) ∧ Ext wI w'
  | some (tx, rd, al) => ∃ (l : List (AN × AV)) (A : Option Addr) (cap : Nat) (M : List Item), l.map (·.1) = al ∧ e = .returned (.tuple #[coV tx rd A l.length cap, .nilIface]) ∧ Hp wI.heap.size wI w' M ∧
    (∀ (B : Nat) (w0 W : World), Hp B w0 W M → CmAt W ⟨tx, rd, l, A, l.length, cap⟩) ∧ ∀ a v, (a, v) ∈ l → LnOk a v (s.size + 1)
theorem PaRes.no {s : ByteArray} {wI w' : World} (h : parseP s = none) (hx : Ext wI w') : PaRes s wI (.returned (.tuple #[coV ⟨#[]⟩ false none 0 0, .iface 64 (.int .i64 3)])) w' := by
  unfold PaRes
  rw [h]
  exact ⟨rfl, hx⟩
/-- the cells of actions -/
def cellsA : List (AN × AV) → List Value
  | [] => []
  | (a, v) :: l => aC a v ++ cellsA l
theorem cellsA_append : ∀ l m : List (AN × AV), cellsA (l ++ m) = cellsA l ++ cellsA m
  | [], m => rfl
  | (a, v) :: l, m => by rw [List.cons_append, cellsA, cellsA, cellsA_append l m, List.append_assoc]
theorem cellsA_at : ∀ (l : List (AN × AV)) (i : Nat) (a : AN) (v : AV), l[i]? = some (a, v) → ∀ j u, (aC a v)[j]? = some u → (cellsA l)[i * 6 + j]? = some u
  | [], i, a, v, h, j, u, hu => by simp at h
  | (b, q) :: l, 0, a, v, h, j, u, hu => by
    obtain ⟨rfl, rfl⟩ : b = a ∧ q = v := by simpa using h
    have hj := (List.getElem?_eq_some_iff.1 hu).1
    rw [cellsA, Nat.zero_mul, Nat.zero_add, List.getElem?_append_left hj, hu]
  | (b, q) :: l, i + 1, a, v, h, j, u, hu => by
    have := cellsA_at l i a v (by simpa using h) j u hu
    rw [cellsA, show (i + 1) * 6 + j = (aC b q).length + (i * 6 + j) by simp; omega, List.getElem?_append_right (by omega), Nat.add_sub_cancel_left, this]
theorem Hp.ra {B : Nat} {w0 w : World} {L : List Item} {A : Option Addr} {cap n : Nat} {l : List (AN × AV)} (h : Hp B w0 w L) (i : Nat) (hi : L[i]? = some (.row 63 6 A n cap (cellsA l))) : RA w A l := by
  intro k a v hk
  have hc := cellsA_at l k a v hk
  obtain ⟨g, hg, c0, _⟩ := h.rowCell i hi (hc 0 _ rfl)
  have h1 : ∀ j u, (aC a v)[j]? = some u → w.cell? ⟨g, k * 6 + j, none⟩ = some u := fun j u hu => by
    obtain ⟨g', hg', c, _⟩ := h.rowCell i hi (hc j u hu)
    rw [hg] at hg'
    obtain rfl : g = g' := by simpa using hg'
    exact c
  refine ⟨g, 0, hg, ?_, ?_, ?_, ?_, ?_, ?_⟩ <;> rw [Nat.zero_add]
  · exact h1 0 _ rfl
  · exact h1 1 _ rfl
  · exact h1 2 _ rfl
  · exact h1 3 _ rfl
  · exact h1 4 _ rfl
  · exact h1 5 _ rfl
theorem Tryz.elem_acts : Elem Tryz.prog 36 63 6 88 := by
  obtain ⟨i0, hi0, hz0, hz1, hz2⟩ := info_parts (show (Tryz.prog.info? 63).map (fun i => (i.zero, i.size, i.bytes)) = some (some (.agg #[.int .i64 0, .string ⟨#[]⟩, .int .i64 0, .slice none 0 0, .slice none 0 0, .int .i64 0]), 6, 88) by kernel_rfl)
  exact ⟨Tryz.underlying36, ⟨i0, _, hi0, hz0, hz1, hz2, rfl⟩, by omega⟩
/-- what is known of the lines so far -/
def PaF (ls : List ByteArray) (z k : Nat) (l : List (AN × AV)) (K : List Item) : Prop :=
  linesP (ls.take k) = some (l.map (·.1)) ∧ l.length = k ∧ (∀ a v, (a, v) ∈ l → LnOk a v z ∧ ∀ (B : Nat) (w0 W : World), Hp B w0 W K → RI W v.qa a.mask ∧ RC W v.ra a.cols)
theorem LnOk.mono {a : AN} {v : AV} {z z2 : Nat} (h : LnOk a v z) (hz : z ≤ z2) : LnOk a v z2 :=
  ⟨h.q, Nat.le_trans h.q2 hz, h.qz, h.r, Nat.le_trans h.r2 hz, h.r3, h.n64, h.r64, h.m64, h.c64, Nat.le_trans h.cs hz, Nat.le_trans h.p hz⟩
theorem PaF.step {ls : List ByteArray} {z k : Nat} {l : List (AN × AV)} {K M : List Item} {t : ByteArray} {a : AN} {v : AV} (h : PaF ls z k l K) (ht : ls[k]? = some t) (hz : t.size + 1 ≤ z) (hl : LnF t a v true M) : PaF ls z (k + 1) (l ++ [(a, v)]) (M ++ K) := by
  obtain ⟨h1, h2, h3⟩ := h
  obtain ⟨h4, h5⟩ := hl
  obtain ⟨h6, h7⟩ := h4 rfl
  refine ⟨?_, by rw [List.length_append, h2]; rfl, fun a' v' hm => ?_⟩
  · rw [linesP_step ht, h1, h5, List.map_append]
    rfl
  · rcases List.mem_append.1 hm with hm | hm
    · obtain ⟨h8, h9⟩ := h3 a' v' hm
      exact ⟨h8, fun B w0 W hW => h9 B w0 W (hW.sub (List.sublist_append_right _ _))⟩
    · obtain ⟨rfl, rfl⟩ : a' = a ∧ v' = v := by simpa using hm
      exact ⟨h7.mono hz, fun B w0 W hW => h6 B w0 W (hW.sub (List.sublist_append_left _ _))⟩
theorem headP_bad (ws : List ByteArray) (okb : Bool) (lr : List ByteArray) {s : ByteArray} (h : (!okb || decide (ws.length ≠ 3) || !((ws.getD 0 ⟨#[]⟩).toList == [99, 111, 109, 109, 105, 116]) || (!((ws.getD 2 ⟨#[]⟩).toList == [114, 101, 97, 100, 115]) && !((ws.getD 2 ⟨#[]⟩).toList == [98, 108, 105, 110, 100]))) = true) :
    (if okb = true then (match headP ws, linesP lr with | some (tx, rd), some al => if printC tx rd al = some s then some (tx, rd, al) else none | _, _ => none) else none) = none := by
  cases okb with
  | false => rfl
  | true =>
    have hh : headP ws = none := by
      unfold headP
      split
      · rename_i c tx rd
        rw [if_neg]
        rintro ⟨h1, h2⟩
        simp only [Bool.not_true, Bool.false_or, List.length_cons, List.length_nil, List.getD_cons_zero, List.getD_cons_succ, h1] at h
        rcases h2 with h2 | h2 <;> (rw [h2] at h; simp at h)
      · rfl
    rw [if_pos rfl, hh]
theorem headP_good {x0 x1 x2 : ByteArray} {q1 q2 : Bool} (h0 : (([x0, x1, x2] : List ByteArray).getD 0 ⟨#[]⟩).toList == [99, 111, 109, 109, 105, 116]) (h1 : ((([x0, x1, x2] : List ByteArray).getD 2 ⟨#[]⟩).toList == [114, 101, 97, 100, 115]) = q1) (h2 : ((([x0, x1, x2] : List ByteArray).getD 2 ⟨#[]⟩).toList == [98, 108, 105, 110, 100]) = q2) (hb : (!q1 && !q2) = false) :
    headP [x0, x1, x2] = some (x1, q1) := by
  unfold headP
  simp only
  have h1 : (x2.toList == [114, 101, 97, 100, 115]) = q1 := h1
  have h2 : (x2.toList == [98, 108, 105, 110, 100]) = q2 := h2
  rw [h1, h2, if_pos]
  refine ⟨h0, ?_⟩
  cases q1 <;> cases q2 <;> simp_all
set_option maxRecDepth 100000 in
set_option maxHeartbeats 8000000 in
theorem parse_any (s : ByteArray) (hs : s.size ≤ 13600) (wI : World) (ht : TabAt wI) (hy : SynAt wI) (hr : RngAt wI) (hkp : KeptAt wI) (hmx : MaxAt wI) :
    Calls Tryz.prog 12 #[.string s] wI fun e w' => PaRes s wI e w' := by
  obtain ⟨body, hbody⟩ : ∃ b : ByteArray, ⟨(Lib.trimSuffix s.data.toList [10]).toArray⟩ = b := ⟨_, rfl⟩
  obtain ⟨okb, hokb⟩ : ∃ b, Lib.hasSuffix s.data.toList [10] = b := ⟨_, rfl⟩
  have hbz : body.size ≤ s.size := by
    rw [← hbody]
    have := Lib.trimSuffix_le s.data.toList [10]
    show (Lib.trimSuffix s.data.toList [10]).toArray.size ≤ s.data.size
    simpa using this
  have HCS := Lib.hid (fun (W : World) => show Calls Tryz.prog 25 #[.string s, .string ⟨#[10]⟩] W fun e w' => e = .returned (.tuple #[.string body, .bool okb]) ∧ Ext W w' from by
    have := cutSuf_any s (by omega) W
    rw [hbody, hokb] at this
    exact this)
  obtain ⟨ls, hls⟩ : ∃ l, splitS 10 body = l := ⟨_, rfl⟩
  have hlz := splitS_lenS 10 body
  have hl0 := splitS_pos 10 body
  rw [hls] at hlz hl0
  obtain ⟨h0, lr, rfl⟩ : ∃ h lr, ls = h :: lr := by
    cases ls with
    | nil => simp at hl0
    | cons h lr => exact ⟨h, lr, rfl⟩
  obtain ⟨n, hn⟩ : ∃ n, (h0 :: lr).length = n := ⟨_, rfl⟩
  have HSP := Lib.hid (fun (W : World) (L : List Item) (hW : Hp wI.heap.size wI W L) => show Calls Tryz.prog 26 #[.string body, .string ⟨#[10]⟩] W fun e w' => ∃ g : Nat, e = .returned (.slice (some ⟨g, 0, none⟩) n n) ∧ Hp wI.heap.size wI w' (.blk g (strV (h0 :: lr)) 9 :: L) from by
    have := splitA_any body 10 (by omega) W (hmx.ext hW.ext)
    rw [hls, hn] at this
    exact this.mono fun e w' ⟨g, h1, h2⟩ => ⟨g, h1, hW.join h2⟩)
  rw [lenS] at hlz
  have hll := lenS_length lr
  obtain ⟨ws, hws⟩ : ∃ l, splitS 32 h0 = l := ⟨_, rfl⟩
  obtain ⟨n3, hn3⟩ : ∃ n, ws.length = n := ⟨_, rfl⟩
  have hwz := splitS_lenS 32 h0
  rw [hws] at hwz
  have hwl := lenS_length ws
  have HS2 := Lib.hid (fun (W : World) (L : List Item) (hW : Hp wI.heap.size wI W L) => show Calls Tryz.prog 26 #[.string h0, .string ⟨#[32]⟩] W fun e w' => ∃ g : Nat, e = .returned (.slice (some ⟨g, 0, none⟩) n3 n3) ∧ Hp wI.heap.size wI w' (.blk g (strV ws) 9 :: L) from by
    have := splitA_any h0 32 (by omega) W (hmx.ext hW.ext)
    rw [hws, hn3] at this
    exact this.mono fun e w' ⟨g, h1, h2⟩ => ⟨g, h1, hW.join h2⟩)
  have HLN := Lib.hid (fun (t : ByteArray) (hz : t.size ≤ 13600) (W : World) (hx : Ext wI W) => line_any t hz W (ht.ext hx) (hy.ext hx) (hr.ext hx))
  have HKT := Lib.hid (show ∀ W, Ext wI W → TabAt W ∧ KeptAt W from fun W hx => ⟨ht.ext hx, hkp.ext hx⟩)
  have HPA := Lib.hid (show parseP s = if okb = true then (match headP ws, linesP lr with | some (tx, rd), some al => if printC tx rd al = some s then some (tx, rd, al) else none | _, _ => none) else none by
    unfold parseP
    rw [hokb, hbody, hls]
    simp only
    rw [hws]
    cases okb <;> cases headP ws <;> cases linesP lr <;> rfl)
  clear ht hy hr hkp hmx hbody hokb hls hws
  have hS := Hp.init wI
  have hR := Reads.nil wI
  have hn2 : n = lr.length + 1 := by rw [← hn]; rfl
  have hn1 : 1 ≤ n := by omega
  have hnz : n ≤ 13601 := by omega
  have HN := Lib.hid hn2
  have HN3 := Lib.hid hn3
  have HLZ := Lib.hid hlz
  have hn3z : n3 ≤ 13601 := by omega
  have HWZ := Lib.hid hwz
  clear hn hn2 hn3 hlz hll hwz hwl
  go_enter Tryz.func12, Tryz.ntmps12
  go_upto_region 3 with (first | (refine hab ?_; (try clear hF); clear hS; intro wk hS; (try simp only [List.set_cons_zero, List.set_cons_succ, heap_size, heap_set_size] at hS); ((try clear hF); refine hfI ?_; intro hF)) | (go_at_call 25; (with_reducible refine (HCS.out _).mono ?_); rintro e wk ⟨rfl, hX⟩; replace hS := hS.step hX; clear hX; ((try clear hF); refine hfI ?_; intro hF)) | (go_at_call 26; (with_reducible refine Calls.mono (HSP.out _ _ hS) ?_); rintro e wk ⟨g, rfl, hS⟩; ((try clear hF); refine hfI ?_; intro hF)))
  have hc0 : wk.cell? ⟨g, 0, none⟩ = some (.string h0) := by simp [World.cell?, hS.blkAt 0 rfl, strV]
  clear HCS HSP
  ((try clear hF); refine hfI ?_; intro hF)
  go_upto_region 4 with (first | (refine hab ?_; (try clear hF); clear hS; intro wk hS; (try simp only [List.set_cons_zero, List.set_cons_succ, heap_size, heap_set_size] at hS); ((try clear hF); refine hfI ?_; intro hF)) | (go_at_call 26; (with_reducible refine Calls.mono (HS2.out _ _ hS) ?_); rintro e wk ⟨g3, rfl, hS⟩; ((try clear hF); refine hfI ?_; intro hF)))
  clear HS2 hc0
  obtain ⟨p0, hp0⟩ : ∃ q, ((ws.getD 0 ⟨#[]⟩).toList == [99, 111, 109, 109, 105, 116]) = q := ⟨_, rfl⟩
  obtain ⟨q1, hq1⟩ : ∃ q, ((ws.getD 2 ⟨#[]⟩).toList == [114, 101, 97, 100, 115]) = q := ⟨_, rfl⟩
  obtain ⟨q2, hq2⟩ : ∃ q, ((ws.getD 2 ⟨#[]⟩).toList == [98, 108, 105, 110, 100]) = q := ⟨_, rfl⟩
  obtain ⟨bad, hbad⟩ : ∃ x, (!okb || decide (n3 ≠ 3) || !p0 || (!q1 && !q2)) = x := ⟨_, rfl⟩
  have HB := Lib.hid hbad
  have HP0 := Lib.hid hp0
  have HQ1 := Lib.hid hq1
  have HQ2 := Lib.hid hq2
  clear hbad hp0 hq1 hq2
  go_cut [50] (fun c wx => c = .bool bad ∧ Hp wI.heap.size wI wx [.blk g3 (strV ws) 9, .blk g (strV (h0 :: lr)) 9, .blk wI.heap.size [.string ⟨#[]⟩, .bool false, .slice none 0 0] 38])
  case first =>
    clear HLN HKT HPA HLZ HWZ
    cases okb with
    | false => as_aux_lemma =>
      obtain rfl : true = bad := by have := HB.out; simp at this; exact this.symm
      clear HB HP0 HQ1 HQ2
      ((try clear hF); refine hfI ?_; intro hF)
      go_wp2_with (first | (refine hab ?_; (try clear hF); clear hS; intro wk hS; (try simp only [List.set_cons_zero, List.set_cons_succ, heap_size, heap_set_size] at hS); ((try clear hF); refine hfI ?_; intro hF)) | fail)
      go_meet
      case rel => exact ⟨rfl, hS⟩
    | true =>
      by_cases h3 : n3 = 3
      · subst h3
        obtain ⟨x0, x1, x2, rfl⟩ : ∃ x0 x1 x2, ws = [x0, x1, x2] := by
          have := HN3.out
          match ws, this with
          | [x0, x1, x2], _ => exact ⟨x0, x1, x2, rfl⟩
        have hx0 : wk.cell? ⟨g3, 0, none⟩ = some (.string x0) := by simp [World.cell?, hS.blkAt 0 rfl, strV]
        have hx2 : wk.cell? ⟨g3, 2, none⟩ = some (.string x2) := by simp [World.cell?, hS.blkAt 0 rfl, strV]
        have hp0 : (x0.toList == [99, 111, 109, 109, 105, 116]) = p0 := HP0.out
        have hq1 : (x2.toList == [114, 101, 97, 100, 115]) = q1 := HQ1.out
        have hq2 : (x2.toList == [98, 108, 105, 110, 100]) = q2 := HQ2.out
        have hb := HB.out
        clear HB HP0 HQ1 HQ2 HN3 HN
        cases p0 with
        | false => as_aux_lemma =>
          obtain rfl : true = bad := by rw [← hb]; rfl
          clear hb hq1 hq2
          ((try clear hF); refine hfI ?_; intro hF)
          go_wp2_with (first | (refine hab ?_; (try clear hF); clear hS; intro wk hS; (try simp only [List.set_cons_zero, List.set_cons_succ, heap_size, heap_set_size] at hS); ((try clear hF); refine hfI ?_; intro hF)) | fail)
          go_meet
          case rel => exact ⟨rfl, hS⟩
        | true =>
          cases q1 with
          | true => as_aux_lemma =>
            obtain rfl : false = bad := by rw [← hb]; rfl
            clear hb hq2
            ((try clear hF); refine hfI ?_; intro hF)
            go_wp2_with (first | (refine hab ?_; (try clear hF); clear hS; intro wk hS; (try simp only [List.set_cons_zero, List.set_cons_succ, heap_size, heap_set_size] at hS); ((try clear hF); refine hfI ?_; intro hF)) | fail)
            go_meet
            case rel => exact ⟨rfl, hS⟩
          | false =>
            cases q2 with
            | true => as_aux_lemma =>
              obtain rfl : false = bad := by rw [← hb]; rfl
              clear hb
              ((try clear hF); refine hfI ?_; intro hF)
              go_wp2_with (first | (refine hab ?_; (try clear hF); clear hS; intro wk hS; (try simp only [List.set_cons_zero, List.set_cons_succ, heap_size, heap_set_size] at hS); ((try clear hF); refine hfI ?_; intro hF)) | fail)
              go_meet
              case rel => exact ⟨rfl, hS⟩
            | false => as_aux_lemma =>
              obtain rfl : true = bad := by rw [← hb]; rfl
              clear hb
              ((try clear hF); refine hfI ?_; intro hF)
              go_wp2_with (first | (refine hab ?_; (try clear hF); clear hS; intro wk hS; (try simp only [List.set_cons_zero, List.set_cons_succ, heap_size, heap_set_size] at hS); ((try clear hF); refine hfI ?_; intro hF)) | fail)
              go_meet
              case rel => exact ⟨rfl, hS⟩
      · as_aux_lemma =>
        have h3' : ((n3 : Int) != 3) = true := by simp; omega
        obtain rfl : true = bad := by have := HB.out; simp [h3] at this; exact this.symm
        clear HB HP0 HQ1 HQ2 HN3 HN h3
        ((try clear hF); refine hfI ?_; intro hF)
        go_wp2_with (first | (refine hab ?_; (try clear hF); clear hS; intro wk hS; (try simp only [List.set_cons_zero, List.set_cons_succ, heap_size, heap_set_size] at hS); ((try clear hF); refine hfI ?_; intro hF)) | fail)
        go_meet
        case rel => exact ⟨rfl, hS⟩
  case rest =>
    obtain ⟨rfl, hS⟩ := hcut
    cases bad with
    | true => as_aux_lemma =>
      have HPN := Lib.hid (show parseP s = none by
        rw [HPA.out, headP_bad ws okb lr (by rw [HN3.out, HP0.out, HQ1.out, HQ2.out]; exact HB.out)])
      clear HLN HKT HPA HLZ HWZ HB HP0 HQ1 HQ2 HN3 HN
      ((try clear hF); refine hfI ?_; intro hF)
      go_wp2_with (first | (refine hab ?_; (try clear hF); clear hS; intro wk hS; (try simp only [List.set_cons_zero, List.set_cons_succ, heap_size, heap_set_size] at hS); ((try clear hF); refine hfI ?_; intro hF)) | fail)
      refine ⟨rfl, .tuple #[coV ⟨#[]⟩ false none 0 0, .iface 64 (.int .i64 3)], ?_, PaRes.no HPN.out hS.ext⟩
      simp [results, Tryz.results12, go_sem, hF]
    | false =>
      have hb := HB.out
      simp only [Bool.or_eq_false_iff, Bool.not_eq_false'] at hb
      obtain ⟨⟨⟨rfl, hb3⟩, rfl⟩, hbq⟩ := hb
      obtain rfl : n3 = 3 := by simpa using hb3
      obtain ⟨x0, x1, x2, rfl⟩ : ∃ x0 x1 x2, ws = [x0, x1, x2] := by
        have := HN3.out
        match ws, this with
        | [x0, x1, x2], _ => exact ⟨x0, x1, x2, rfl⟩
      have hq1 : (x2.toList == [114, 101, 97, 100, 115]) = q1 := HQ1.out
      have hwz := HWZ.out
      simp only [lenS] at hwz
      have hlz := HLZ.out
      have hx1z : x1.size ≤ 13600 := by omega
      have HHD := Lib.hid (show headP [x0, x1, x2] = some (x1, q1) from headP_good HP0.out HQ1.out HQ2.out hbq)
      change Hp wI.heap.size wI _ [.blk g3 [.string x0, .string x1, .string x2] 9, .blk g (strV (h0 :: lr)) 9, .blk wI.heap.size [.string ⟨#[]⟩, .bool false, .slice none 0 0] 38] at hS
      clear HP0 HQ1 HQ2 HB hb3 hbq HN3 hwz HWZ
      ((try clear hF); refine hfI ?_; intro hF)
      go_wp2_with (first | (refine hab ?_; (try clear hF); clear hS; intro wk hS; (try simp only [List.set_cons_zero, List.set_cons_succ, heap_size, heap_set_size] at hS); ((try clear hF); refine hfI ?_; intro hF)) | fail)
      ((with_reducible refine wp_region_braidz_hp [.q, .q, .q, .q, .q, .q, .q, .q, .t, .t] 9 [.blk g3 [.string x0, .string x1, .string x2] 9] (by kernel_rfl) rfl (by kernel_rfl) hS (fun w h => h.sub (by simp)) ?_); clear hS; (repeat ((with_reducible refine Walk.here ?_); (first | ((with_reducible apply Walk.skipQ); (first | rfl | exact wanted_false rfl rfl rfl (by assumption)); (try simp only [Mark.isQ, if_true, Bool.false_eq_true, if_false, Act.put, List.setIfInBounds_toArray, List.set_cons_zero, List.set_cons_succ])) | ((with_reducible apply Walk.val); (first | rfl | exact wanted_true rfl rfl rfl (by assumption)); (rintro w hS; ((try clear hF); refine hfI ?_; intro hF); go_simp; first | with_reducible rfl | (rw [if_neg (by first | omega | (simp only [ByteArray.size_append]; omega) | (simp [ByteArray.size_append]; omega))]; try with_reducible rfl)); (try simp only [Mark.isQ, if_true, Bool.false_eq_true, if_false, Act.put, List.setIfInBounds_toArray, List.set_cons_zero, List.set_cons_succ])) | ((with_reducible apply Walk.tail); (try simp only [Mark.isQ, if_true, Bool.false_eq_true, if_false, Act.put, List.setIfInBounds_toArray, List.set_cons_zero, List.set_cons_succ])) | ((with_reducible apply Walk.guardT); rfl; rfl; rfl; (all_goals intro hg)) | ((with_reducible apply Walk.guardF); rfl; rfl; rfl; (all_goals intro hg))))); refine Walk.done ?_; show BraidZ _ _ _ _ 9 2 [8, 9] _ _)
      (refine BraidZ.next1 (i := 8) (by kernel_rfl) (by kernel_rfl) rfl ?_; (try simp only [List.getElem_toArray, List.getElem_cons_succ, List.getElem_cons_zero]))
      (refine ZStep.alloc (cs := [.string ⟨#[]⟩, .bool false, .slice none 0 0]) (t := 38) (f := fun g => .pointer (some ⟨g, 0, none⟩)) (by (first | rfl | exact wanted_true rfl rfl rfl (by assumption))) (fun w h => h.sub (by simp)) (fun w hS => by ((try clear hF); refine hfI ?_; intro hF); go_simp) (fun gc => ?_); try simp only [Act.put, List.setIfInBounds_toArray, List.set_cons_zero, List.set_cons_succ])
      (refine BraidZ.next1 (i := 9) (by kernel_rfl) (by kernel_rfl) rfl ?_; (try simp only [List.getElem_toArray, List.getElem_cons_succ, List.getElem_cons_zero]))
      (show ZStep _ _ _ true _ _ _ _; refine ZStep.storeRow (i := 0) (g := gc) (us := [.string x1, .bool q1, .slice none 0 0]) (.inl rfl) (by (first | rfl | exact wanted_true rfl rfl rfl (by assumption))) rfl rfl rfl rfl (by kernel_rfl) rfl (by simp [Value.oneCell']) ?_; try simp only [Act.put, List.setIfInBounds_toArray, List.set_cons_zero, List.set_cons_succ])
      (refine BraidZ.last (by kernel_rfl) ?_; (try clear hF); intro wk hS; ((try clear hF); refine hfI ?_; intro hF))
      clear hq1
      obtain ⟨m, hm⟩ : ∃ m, m = lr.length := ⟨_, rfl⟩
      have hnm : n = m + 1 := by rw [hm]; exact HN.out
      have HM := Lib.hid hm
      clear hm
      go_upto_region 7 with (first | (refine hab ?_; (try clear hF); clear hS; intro wk hS; (try simp only [List.set_cons_zero, List.set_cons_succ, heap_size, heap_set_size] at hS); ((try clear hF); refine hfI ?_; intro hF)) | fail)
      go_cut [62, 63, 64] (fun v u u0 wx => ∃ (A1 : Option Addr) (c1 : Nat), v = .slice A1 m c1 ∧ u = .int .i64 m ∧ u0 = .int .i64 0 ∧ Hid (1 ≤ m → A1 = some ⟨g, 1, none⟩) ∧ m ≤ c1 ∧ Hp wI.heap.size wI wx [.blk gc [.string x1, .bool q1, .slice none 0 0] 38, .blk g (strV (h0 :: lr)) 9, .blk wI.heap.size [.string ⟨#[]⟩, .bool false, .slice none 0 0] 38])
      case first =>
        by_cases h1 : n = 1
        · obtain rfl : m = 0 := by omega
          subst hnm
          clear HLN HKT HPA HLZ HHD HM HN
          ((try clear hF); refine hfI ?_; intro hF)
          go_wp2_with (first | (refine hab ?_; (try clear hF); clear hS; intro wk hS; (try simp only [List.set_cons_zero, List.set_cons_succ, heap_size, heap_set_size] at hS); ((try clear hF); refine hfI ?_; intro hF)) | fail)
          go_meet
          case rel => exact ⟨_, _, rfl, rfl, rfl, Lib.hid (fun h => by omega), Nat.zero_le _, hS.drop 1⟩
        · clear HLN HKT HPA HLZ HHD HM HN
          ((try clear hF); refine hfI ?_; intro hF)
          go_wp2_with (first | (refine hab ?_; (try clear hF); clear hS; intro wk hS; (try simp only [List.set_cons_zero, List.set_cons_succ, heap_size, heap_set_size] at hS); ((try clear hF); refine hfI ?_; intro hF)) | fail)
          go_meet
          case rel =>
            refine ⟨some ⟨g, 1, none⟩, m, ?_, ?_, rfl, Lib.hid (fun _ => rfl), Nat.le_refl _, hS.drop 1⟩ <;> first | rfl | (congr 1; omega) | (simp; omega)
      case rest =>
        obtain ⟨A1, c1, rfl, rfl, rfl, HA1, hmc, hS⟩ := hcut
        have HLI := Lib.hid (fun (t : ByteArray) (hz : t.size ≤ 13600) (W : World) (X K : List Item) (hW : Hp wI.heap.size wI W (X ++ K)) => show Calls Tryz.prog 27 #[.string t] W fun e w' => ∃ (a : AN) (v : AV) (b : Bool) (M : List Item), e = .returned (.tuple #[aV a v, .bool b]) ∧ Hp wI.heap.size wI w' (X ++ (M ++ K)) ∧ LnF t a v b M from
          (HLN.out t hz W hW.ext).mono fun e w' ⟨a, v, b, M, h1, h2, h3⟩ => ⟨a, v, b, M, h1, (hW.join h2).perm (by
            rw [← List.append_assoc, ← List.append_assoc]
            exact List.Perm.append_right _ List.perm_append_comm), h3⟩)
        clear HLN
        replace hS := hS.nilRow 63 6
        have hgl : ∀ (k : Nat) (t : ByteArray) (W : World) (L : List Item) (i : Nat), lr[k]? = some t → Hp wI.heap.size wI W L → L[i]? = some (.blk g (strV (h0 :: lr)) 9) → W.cell? ⟨g, 1 + k, none⟩ = some (.string t) := fun k t W L i ht h hi => by
          simp [World.cell?, h.blkAt i hi, strV, Nat.add_comm 1 k, ht]
        have HGL := Lib.hid hgl
        clear hgl
        have hmz : m ≤ 13601 := by omega
        clear hnm
        have hlz := HLZ.out
        have HTZ := Lib.hid (fun (t : ByteArray) (ht : t ∈ lr) => show t.size + 1 ≤ s.size + 1 by have := lenS_le ht; omega)
        clear hlz HLZ
        ((try clear hF); refine hfI ?_; intro hF)
        go_wp2_with (first | (refine hab ?_; (try clear hF); clear hS; intro wk hS; (try simp only [List.set_cons_zero, List.set_cons_succ, heap_size, heap_set_size] at hS); ((try clear hF); refine hfI ?_; intro hF)) | fail)
        go_loopw [64] (fun i wr => ∃ (k : Nat) (Ar : Option Addr) (cr : Nat) (l : List (AN × AV)) (K : List Item), i = .int .i64 k ∧ k ≤ m ∧ Hid (PaF lr (s.size + 1) k l K) ∧
          Hp wI.heap.size wI wr (.row 63 6 Ar k cr (cellsA l) :: .blk gc [.string x1, .bool q1, .slice Ar k cr] 38 :: .blk g (strV (h0 :: lr)) 9 :: .blk wI.heap.size [.string ⟨#[]⟩, .bool false, .slice none 0 0] 38 :: K)) (fun i _ => m - (intOf i).toNat)
        case atStart => exact ⟨0, none, 0, [], [], rfl, Nat.zero_le _, Lib.hid ⟨rfl, rfl, fun a v h => by cases h⟩, hS⟩
        case round =>
          clear hS hF
          obtain ⟨k, Ar, cr, l, K, rfl, hk, HPF, hS⟩ := hrel
          by_cases hlt : k < m
          · obtain ⟨t, ht⟩ : ∃ t, lr[k]? = some t := ⟨lr[k]'(by rw [← HM.out]; exact hlt), List.getElem?_eq_getElem _⟩
            have hct := HGL.out k t _ _ 2 ht hS rfl
            have HTT := Lib.hid ht
            have htz := HTZ.out t (List.mem_of_getElem? ht)
            have HL1 := Lib.hid (fun W X K hW => HLI.out t (by omega) W X K hW)
            obtain rfl : A1 = some ⟨g, 1, none⟩ := HA1.out (by omega)
            clear ht HLI HA1
            ((try clear hF); refine hfI ?_; intro hF)
            go_upto_region 11 with (first | (refine hab ?_; (try clear hF); clear hS; intro wk hS; (try simp only [List.set_cons_zero, List.set_cons_succ, heap_size, heap_set_size] at hS); ((try clear hF); refine hfI ?_; intro hF)) | (go_at_call 27; (have hS3 : Hp _ _ _ ([_, _, _, _] ++ K) := hS); (with_reducible refine Calls.mono (HL1.out _ _ _ hS3) ?_); clear hS hS3; rintro e wk ⟨a, v, b, M, rfl, hS, hln⟩; simp only [List.cons_append, List.nil_append] at hS; ((try clear hF); refine hfI ?_; intro hF)))
            clear hct HL1
            have HLF := Lib.hid hln
            clear hln
            cases b with
            | false => as_aux_lemma =>
              have HPN := Lib.hid (show parseP s = none by
                rw [HPA.out, HHD.out, linesP_none HTT.out HLF.out.2]
                rfl)
              clear HKT HPA HHD HM HN HGL HTZ HPF HTT HLF
              ((try clear hF); refine hfI ?_; intro hF)
              go_wp2_with (first | (refine hab ?_; (try clear hF); clear hS; intro wk hS; (try simp only [List.set_cons_zero, List.set_cons_succ, heap_size, heap_set_size] at hS); ((try clear hF); refine hfI ?_; intro hF)) | fail)
              refine ⟨rfl, .tuple #[coV ⟨#[]⟩ false none 0 0, .iface 64 (.int .i64 3)], ?_, PaRes.no HPN.out hS.ext⟩
              simp [results, Tryz.results12, go_sem, hF]
            | true =>
              have HP2 := Lib.hid (Lib.hid (HPF.out.step HTT.out htz HLF.out))
              clear HKT HPA HHD HM HN HGL HTZ HPF HTT HLF
              ((try clear hF); refine hfI ?_; intro hF)
              go_wp2_with (first | (refine hab ?_; (try clear hF); clear hS; intro wk hS; (try simp only [List.set_cons_zero, List.set_cons_succ, heap_size, heap_set_size] at hS); ((try clear hF); refine hfI ?_; intro hF)) | (at_builtin; refine wpList_push_hp Tryz.elem_acts rfl (.tmp 78) (.tmp 80) rfl (hS.second 1 rfl) rfl rfl rfl (by simp [Value.oneCell']) (by omega) (by omega) ?_; clear hS; intro Ak capk wk hS; (try simp only [List.eraseIdx_cons_zero, List.eraseIdx_cons_succ, List.set_cons_zero, List.set_cons_succ] at hS); ((try clear hF); refine hfI ?_; intro hF)))
              go_roundw
              case rel => exact ⟨k + 1, Ak, capk, l ++ [(a, v)], M ++ K, by go_num, by omega, HP2.out, by
                rw [cellsA_append, show cellsA [(a, v)] = aC a v from List.append_nil _]
                exact (((((hS.drop 1).front 3 rfl).front 3 rfl).front 3 rfl).front 3 rfl)⟩
              case measure => simp [intOf]; omega
          · obtain rfl : k = m := by omega
            have hpf := HPF.out
            have hll : l.length = k := hpf.2.1
            obtain ⟨D, hD⟩ : ∃ D, printC x1 q1 (l.map (·.1)) = D := ⟨_, rfl⟩
            have HPD := Lib.hid (show parseP s = if D = some s then some (x1, q1, l.map (·.1)) else none by
              have h1 := hpf.1
              rw [HM.out, List.take_length] at h1
              rw [HPA.out, HHD.out, h1, ← hD]
              rfl)
            have HPR := Lib.hid (fun (W : World) (hW : Hp wI.heap.size wI W (.row 63 6 Ar k cr (cellsA l) :: .blk gc [.string x1, .bool q1, .slice Ar k cr] 38 :: .blk g (strV (h0 :: lr)) 9 :: .blk wI.heap.size [.string ⟨#[]⟩, .bool false, .slice none 0 0] 38 :: K)) => show Calls Tryz.prog 19 #[.agg #[.string x1, .bool q1, .slice Ar k cr]] W fun e w' => PrRes D e ∧ Ext W w' from by
              have := lprint_any x1 q1 l Ar k cr W hll (by omega) (by omega) (hW.ra 0 rfl) (fun a v hm => ⟨(hpf.2.2 a v hm).1.pr (by omega), (hpf.2.2 a v hm).2 _ _ W (hW.sub (by
                repeat (first | exact List.Sublist.refl _ | apply List.Sublist.cons)))⟩) (HKT.out W hW.ext).1 (HKT.out W hW.ext).2
              rw [hD] at this
              exact this)
            have HCM := Lib.hid (fun (B : Nat) (w0 W : World) (hW : Hp B w0 W (.row 63 6 Ar k cr (cellsA l) :: K)) => show CmAt W ⟨x1, q1, l, Ar, l.length, cr⟩ from
              ⟨rfl, hW.ra 0 rfl, fun a v hm => by
                obtain ⟨h1, h2⟩ := hpf.2.2 a v hm
                obtain ⟨h3, h4⟩ := h2 _ _ W hW.tail
                exact ⟨h1.q, h1.qz, h3, h1.r, h1.r3, h4⟩⟩)
            have HLO := Lib.hid (fun a v (hm : (a, v) ∈ l) => (hpf.2.2 a v hm).1)
            have HLL := Lib.hid hll
            clear HKT HPA HHD HM HN HGL HTZ HPF HLI HA1 hpf hll hD
            cases D with
            | none => as_aux_lemma =>
              have HPN := Lib.hid (show parseP s = none by rw [HPD.out]; rfl)
              clear HPD HCM HLO HLL
              ((try clear hF); refine hfI ?_; intro hF)
              go_wp2_with (first | (refine hab ?_; (try clear hF); clear hS; intro wk hS; (try simp only [List.set_cons_zero, List.set_cons_succ, heap_size, heap_set_size] at hS); ((try clear hF); refine hfI ?_; intro hF)) | (go_at_call 19; (with_reducible refine Calls.mono (HPR.out _ hS) ?_); rintro e wk ⟨rfl, hX⟩; replace hS := hS.step hX; clear hX HPR; ((try clear hF); refine hfI ?_; intro hF)))
              refine ⟨rfl, .tuple #[coV ⟨#[]⟩ false none 0 0, .iface 64 (.int .i64 3)], ?_, PaRes.no HPN.out hS.ext⟩
              simp [results, Tryz.results12, go_sem, hF]
            | some t =>
              obtain ⟨qt, hqt⟩ : ∃ q, (t.toList == s.toList) = q := ⟨_, rfl⟩
              have HQT := Lib.hid hqt
              cases qt with
              | false => as_aux_lemma =>
                have HPN := Lib.hid (show parseP s = none by
                  rw [HPD.out, if_neg]
                  intro e
                  obtain rfl := Option.some.inj e
                  have := HQT.out
                  simp at this)
                clear HPD HCM HLO HLL HQT
                ((try clear hF); refine hfI ?_; intro hF)
                go_wp2_with (first | (refine hab ?_; (try clear hF); clear hS; intro wk hS; (try simp only [List.set_cons_zero, List.set_cons_succ, heap_size, heap_set_size] at hS); ((try clear hF); refine hfI ?_; intro hF)) | (go_at_call 19; (with_reducible refine Calls.mono (HPR.out _ hS) ?_); rintro e wk ⟨rfl, hX⟩; replace hS := hS.step hX; clear hX HPR; ((try clear hF); refine hfI ?_; intro hF)))
                refine ⟨rfl, .tuple #[coV ⟨#[]⟩ false none 0 0, .iface 64 (.int .i64 3)], ?_, PaRes.no HPN.out hS.ext⟩
                simp [results, Tryz.results12, go_sem, hF]
              | true => as_aux_lemma =>
                have HPS := Lib.hid (show parseP s = some (x1, q1, l.map (·.1)) by
                  obtain rfl := ba_beq.1 HQT.out
                  rw [HPD.out, if_pos rfl])
                clear HPD HQT
                ((try clear hF); refine hfI ?_; intro hF)
                go_wp2_with (first | (refine hab ?_; (try clear hF); clear hS; intro wk hS; (try simp only [List.set_cons_zero, List.set_cons_succ, heap_size, heap_set_size] at hS); ((try clear hF); refine hfI ?_; intro hF)) | (go_at_call 19; (with_reducible refine Calls.mono (HPR.out _ hS) ?_); rintro e wk ⟨rfl, hX⟩; replace hS := hS.step hX; clear hX HPR; ((try clear hF); refine hfI ?_; intro hF)))
                refine ⟨rfl, .tuple #[coV x1 q1 Ar l.length cr, .nilIface], ?_, ?_⟩
                · rw [HLL.out]
                  simp [results, Tryz.results12, go_sem, hF]
                · unfold PaRes
                  rw [HPS.out]
                  exact ⟨l, Ar, cr, .row 63 6 Ar k cr (cellsA l) :: K, rfl, rfl, hS.sub (List.Sublist.cons_cons _ (by repeat (first | exact List.Sublist.refl _ | apply List.Sublist.cons))), HCM.out, HLO.out⟩
end Go.Proofs.YtlgidjanmaijaaaGreatDoor

/- log.Apply, of a commit and a table that hang on what is owned. -/
namespace Go.Proofs.YtlgidjanmaijaaaGreatDoor
set_option linter.unusedSimpArgs false
set_option linter.unusedVariables false
open Go.RowKit
set_option linter.all false
/-- the tables that the commit laws read -/
def TabsC (w : World) : Prop := KeptAt w ∧ TabAt w ∧ SynAt w ∧ RngAt w ∧ MaxAt w ∧ ErrAt w
theorem TabsC.ext {w w' : World} (h : TabsC w) (hx : Ext w w') : TabsC w' := ⟨h.1.ext hx, h.2.1.ext hx, h.2.2.1.ext hx, h.2.2.2.1.ext hx, h.2.2.2.2.1.ext hx, h.2.2.2.2.2.ext hx⟩
section
variable {w W : World} {L J : List Item}
theorem acokJ {c : CM} (hc : ∀ W, Hp w.heap.size w W J → CmAt W c) (hsh : shortCo c.tx c.l = true) (hS : Hp w.heap.size w W J) : ∀ a v, (a, v) ∈ c.acts → AcOk w.heap.size w J a v := fun a v hm => by
  obtain ⟨z1, z2, z3⟩ := shortCo_out hsh
  obtain ⟨q1, q2, q3, q4, q5, q6⟩ := (hc W hS).one a v hm
  obtain ⟨p1, p2, p3⟩ := z3 a (List.mem_map.2 ⟨(a, v), hm, rfl⟩)
  have := shortCs_len p3
  exact ⟨q1, by omega, q2, fun W' hW => ((hc W' hW).one a v hm).2.2.1, q4, by omega, q5, fun W' hW => ((hc W' hW).one a v hm).2.2.2.2.2⟩
/-- Apply, where it does it -/
theorem applyJ_ok {s : SN} {v : SV} {c : CM} (hT : Tb w J s v) (hc : ∀ W, Hp w.heap.size w W J → CmAt W c) (hk : KeptAt w) (hsh : shortCo c.tx c.l = true) (hv0 : 0 ≤ s.ver) (hv : s.ver < 1000000000) {s1 : SN} (hD : applyR s c.tx c.l = .ok s1) (hJ : J.Sublist L) (hS : Hp w.heap.size w W L) :
    Calls Tryz.prog 18 #[snV s v, cmV c] W fun e w' => ∃ v1 M, e = .returned (.tuple #[snV s1 v1, .nilIface]) ∧ Hp w.heap.size w w' (M ++ L) ∧ Tb w (M ++ J) s1 v1 := by
  obtain ⟨z1, z2, z3⟩ := shortCo_out hsh
  have hcW := hc W (hS.sub hJ)
  have h12 : c.n ≤ 12 := by rw [← hcW.len]; unfold CM.l at z2; rw [List.length_map] at z2; exact z2
  have := apply_any (K := L) (J := J) s v c.tx c.rd c.a c.n c.cap c.acts hcW.len (by omega) hJ (Lib.hid hT.ok) hT.good hv hv0
    (Lib.hid fun W' hW => (hc W' hW).ra) (Lib.hid (acokJ hc hsh (hS.sub hJ))) (Lib.hid fun W' hW => hk.ext hW.ext) hS
  rw [show applyR s c.tx (c.acts.map (·.1)) = .ok s1 from hD] at this
  refine this.mono fun e w' hr => ?_
  obtain ⟨v1, M, rfl, hW, hs⟩ := hr
  exact ⟨v1, M, rfl, hW, hs, (apply_good hT.good hD).1, hT.path.apply hD⟩
/-- .. where it does not -/
theorem applyJ_no {s : SN} {v : SV} {c : CM} (hT : Tb w J s v) (hc : ∀ W, Hp w.heap.size w W J → CmAt W c) (hk : KeptAt w) (hsh : shortCo c.tx c.l = true) (hv0 : 0 ≤ s.ver) (hv : s.ver < 1000000000) {er : Int × Option Nat} (hD : applyR s c.tx c.l = .error er) (hJ : J.Sublist L) (hS : Hp w.heap.size w W L) :
    Calls Tryz.prog 18 #[snV s v, cmV c] W fun e w' => ∃ (tp : TypeId) (pv : Value), e = .returned (.tuple #[sn0V, .iface tp pv]) ∧ Hp w.heap.size w w' L := by
  obtain ⟨z1, z2, z3⟩ := shortCo_out hsh
  have hcW := hc W (hS.sub hJ)
  have h12 : c.n ≤ 12 := by rw [← hcW.len]; unfold CM.l at z2; rw [List.length_map] at z2; exact z2
  have := apply_any (K := L) (J := J) s v c.tx c.rd c.a c.n c.cap c.acts hcW.len (by omega) hJ (Lib.hid hT.ok) hT.good hv hv0
    (Lib.hid fun W' hW => (hc W' hW).ra) (Lib.hid (acokJ hc hsh (hS.sub hJ))) (Lib.hid fun W' hW => hk.ext hW.ext) hS
  rw [show applyR s c.tx (c.acts.map (·.1)) = .error er from hD] at this
  refine this.mono fun e w' hr => ?_
  obtain ⟨n, o⟩ := er
  cases o with
  | none => exact ⟨_, _, hr.1, hr.2⟩
  | some k =>
    obtain ⟨g, h1, h2⟩ := hr
    exact ⟨_, _, h1, h2.tail⟩
end
theorem Hp.pull2 {B : Nat} {w0 W : World} {a b : Item} {X L : List Item} (h : Hp B w0 W (X ++ (a :: b :: L))) : Hp B w0 W (a :: b :: (X ++ L)) := by
  refine h.perm ?_
  have p1 : (X ++ (a :: b :: L)).Perm (a :: (X ++ (b :: L))) := List.perm_middle
  have p2 : (X ++ (b :: L)).Perm (b :: (X ++ L)) := List.perm_middle
  exact (p1.trans (List.Perm.cons a p2)).symm
theorem Hp.pull3 {B : Nat} {w0 W : World} {a b c : Item} {X L : List Item} (h : Hp B w0 W (X ++ (a :: b :: c :: L))) : Hp B w0 W (a :: b :: c :: (X ++ L)) := by
  refine h.perm ?_
  have p1 : (X ++ (a :: b :: c :: L)).Perm (a :: (X ++ (b :: c :: L))) := List.perm_middle
  have p2 : (X ++ (b :: c :: L)).Perm (b :: (X ++ (c :: L))) := List.perm_middle
  have p3 : (X ++ (c :: L)).Perm (c :: (X ++ L)) := List.perm_middle
  exact (p1.trans (List.Perm.cons a (p2.trans (List.Perm.cons b p3)))).symm
/-- Parse of what the log has -/
theorem parse_log {D : DataW Unit} {cs : List CO} {ss : List SN} (hL : LogR D cs ss) {j : Nat} {c : CO} (hc : cs[j]? = some c) {w W : World} {L : List Item} (hT : TabsC W) (hS : Hp w.heap.size w W L) :
    Calls Tryz.prog 12 #[.string (bget D (keyS (j + 1)))] W fun e w' => ∃ (l : List (AN × AV)) (A : Option Addr) (n cap : Nat) (C : List Item), Hid (l.map (·.1) = c.al) ∧ e = .returned (.tuple #[coV c.tx c.rd A n cap, .nilIface]) ∧ Hp w.heap.size w w' (C ++ L) ∧ Hid (∀ (B : Nat) (w0 W : World), Hp B w0 W C → CmAt W ⟨c.tx, c.rd, l, A, n, cap⟩) ∧ Hid (∀ a v, (a, v) ∈ l → PrOk a v) := by
  refine (parse_any (bget D (keyS (j + 1))) (hL.text j c hc).1.2.1 W hT.2.1 hT.2.2.1 hT.2.2.2.1 hT.1 hT.2.2.2.2.1).mono fun e w' hr => ?_
  unfold PaRes at hr
  rw [hL.parse hc] at hr
  obtain ⟨l, A, cap, C, hl, rfl, hW, hf, ho⟩ := hr
  exact ⟨l, A, l.length, cap, C, Lib.hid hl, rfl, hS.join hW, Lib.hid hf, Lib.hid fun a v hm => (ho a v hm).pr (by have := (hL.text j c hc).1.2.1; omega)⟩
end Go.Proofs.YtlgidjanmaijaaaGreatDoor

/- The tables that CommitOne's row lists: what they tell of the world; a world that has them. -/
namespace Go.Proofs.YtlgidjanmaijaaaGreatDoor
set_option linter.unusedSimpArgs false
set_option linter.unusedVariables false
open Go.RowKit
set_option linter.all false
open Go.ChangeShapes Go.WideShapes Go.ChangeAt Go.Joins
theorem gErr : Tryz.prog.globalNamed "errors.errorType" = some 0 := by kernel_rfl
theorem rtTy : (Tryz.prog.cutTypes.find? (·.1 == "internal/reflectlite.rtype")).map (·.2) = some 158 := by kernel_rfl
theorem oneRow : ((List.range 278).filter fun t => Tryz.prog.rowNamed t [101, 114, 114, 111, 114]) = [44] := by kernel_rfl
theorem szTypes : Tryz.prog.types.size = 278 := by kernel_rfl
theorem err_of {W : World} (h2 : handlesMet Tryz.prog [("errors.errorType", Rows.laid_errors_errorType)] W) : ErrAt W := by
  obtain ⟨name, u, ty, e1, e2, e3, e4, e5⟩ := h2 _ (List.mem_singleton.2 rfl)
  have en : name = [101, 114, 114, 111, 114] := (Option.some.inj e1).symm
  subst en
  obtain rfl := Option.some.inj (rtTy.symm.trans e2)
  have hm : ty ∈ (List.range 278).filter fun t => Tryz.prog.rowNamed t [101, 114, 114, 111, 114] := List.mem_filter.2 ⟨List.mem_range.2 (by rw [← szTypes]; exact e3), e4⟩
  rw [oneRow] at hm
  obtain rfl := List.mem_singleton.1 hm
  have hh : typeHandle Tryz.prog 44 = .pointer (some ⟨10, 44, none⟩) := by kernel_rfl
  rw [hh] at e5
  have e6 := World.var?_cell gErr e5 0
  simpa [ErrAt] using e6
def laidC : List (String × DataW Unit) := [("math/bits.deBruijn32tab", Rows.laid_math_bits_deBruijn32tab), ("math/bits.deBruijn64tab", Rows.laid_math_bits_deBruijn64tab), ("internal/strconv.uint64pow10", Rows.laid_internal_strconv_uint64pow10), ("unicode/utf8.acceptRanges", Rows.laid_unicode_utf8_acceptRanges), ("errors.errorType", Rows.laid_errors_errorType), ("strconv.ErrRange", Rows.laid_strconv_ErrRange), ("strconv.ErrSyntax", Rows.laid_strconv_ErrSyntax), ("millpond/schema.kept", Rows.laid_millpond_schema_kept), ("unicode/utf8.first", Rows.laid_unicode_utf8_first)]
theorem laid_splitC {W : World} (h : laidMetH Tryz.prog laidC W) : laidMet Tryz.prog laidB W ∧ handlesMet Tryz.prog [("errors.errorType", Rows.laid_errors_errorType)] W := h
theorem of_laidC {W : World} (h : laidMetH Tryz.prog laidC W) (hm : MaxAt W) : TabsC W := by
  obtain ⟨h1, h2⟩ := laid_splitC h
  have h3 : laidMetH Tryz.prog laidB W := by
    rw [MakeChecks.laidMetH_plain _ _ _ (by kernel_rfl)]
    exact h1
  obtain ⟨hk, ht, hy, hr⟩ := of_laidB h3
  exact ⟨hk, ht, hy, hr, hm, err_of h2⟩
/-- a start: the settled world, the handle's cell laid, the tables laid -/
noncomputable def baseC (os : Os) : World :=
  let w0 := World.holding Tryz.prog os ⟨#[], #[], []⟩
  { w0 with heap := w0.heap.modify 0 fun
      | .cells _ t frozen => .cells #[.iface 158 (.agg #[.pointer (some ⟨10, 44, none⟩)])] t frozen
      | o => o }
noncomputable def startC (os : Os) : World := (baseC os).layVars Tryz.prog laidB
theorem startC_os (os : Os) : (startC os).os = os := World.layVars_os _ _ _
theorem startC_data (os : Os) (args : Array Value) : laidMet Tryz.prog laidB ((startC os).forCall (fun _ _ => 0) ⟨#[], args, []⟩).memory := by
  have e1 : (laidB.filter fun x => (laidB.map (·.1)).contains x.1) = laidB := List.filter_eq_self.2 fun x hx => List.contains_iff_mem.2 (List.mem_map.2 ⟨x, hx, rfl⟩)
  have e2 : (laidB.filter fun x => !(laidB.map (·.1)).contains x.1) = [] := List.filter_eq_nil_iff.2 fun x hx => by rw [List.contains_iff_mem.2 (List.mem_map.2 ⟨x, hx, rfl⟩)]; simp
  have hf : (baseC os).layFits Tryz.prog laidB [] = true := by kernel_rfl
  have hi : (baseC os).layIfaces Tryz.prog laidB (startC os) = true := by kernel_rfl
  have h : laidMet Tryz.prog laidB (startC os) := laidMet_layVars (w0 := baseC os) (laidB.map (·.1)) [] (by rw [e1]; rfl) (by rw [e1]; exact hf) (by rw [e1]; exact hi) (by rw [e2]; exact LaidIn.none)
  exact h.of_heap (by simp [World.memory, World.forCall, Input.heap])
theorem startC_met (os : Os) (args : Array Value) : laidMetH Tryz.prog laidC ((startC os).forCall (fun _ _ => 0) ⟨#[], args, []⟩).memory :=
  laidMetH_of_parts3 (fuel := 8) (startC_data os args) (by kernel_rfl) (by kernel_rfl)
end Go.Proofs.YtlgidjanmaijaaaGreatDoor

/- commit.Load: a table at a version. -/
namespace Go.Proofs.YtlgidjanmaijaaaGreatDoor
set_option linter.unusedSimpArgs false
set_option linter.unusedVariables false
open Go.RowKit
set_option linter.all false
def verAt (g : Nat) (w : World) : Nat := match w.cell? ⟨g, 0, none⟩ with
  | some (.int _ v) => v.toNat
  | _ => 0
theorem verAt_of {B : Nat} {w0 W : World} {g : Nat} {s : SN} {v : SV} {L : List Item} (h : Hp B w0 W (.blk g (snC s v) 33 :: L)) : verAt g W = s.ver.toNat := by
  have hF := h.facts
  simp only [HFacts, cellFacts, RFacts, cellOnly, and_true, true_and, Nat.zero_add, Nat.reduceAdd] at hF
  unfold verAt
  rw [hF.1.1.1]
abbrev v0N : SV := ⟨none, 0, 0, none, 0, 0, []⟩
theorem reI {B : Nat} {w0 W : World} {a b : Item} {K M I : List Item} (h : Hp B w0 W (a :: b :: (K ++ (M ++ I)))) : Hp B w0 W ((a :: b :: (K ++ M)) ++ I) := by
  simpa [List.append_assoc] using h
theorem sub_CK {a b c : Item} {C K Z : List Item} : (C ++ K).Sublist (a :: b :: c :: (C ++ (K ++ Z))) := by
  refine List.Sublist.cons _ (List.Sublist.cons _ (List.Sublist.cons _ ?_))
  rw [← List.append_assoc]
  exact List.sublist_append_left _ _
theorem tb0 (w : World) (K : List Item) : Tb w K s0N v0N := ⟨snok0 _ _ _ _ _, goodL0, fun e h => by cases h⟩
set_option maxRecDepth 100000 in
set_option maxHeartbeats 8000000 in
theorem load_any {w W : World} {M I : List Item} {gb nD : Nat} {D : DataW Unit} {F : List Int} {cs : List CO} {ss : List SN} (ver : Int) (q : Nat) (hq : q ≤ cs.length) (hver : (ver = -1 ∧ q = cs.length) ∨ ver = q) (s : SN) (hs : ss[q]? = some s)
    (hL : LogR D cs ss) (hB : Bkt gb D nD F I) (hT : TabsC w) (hS : Hp w.heap.size w W (M ++ I)) :
    Calls Tryz.prog 8 #[.pointer (some ⟨gb, 0, none⟩), .int .i64 ver] W fun e w' => ∃ v K, e = .returned (.tuple #[snV s v, .nilIface]) ∧ Hp w.heap.size w w' (K ++ (M ++ I)) ∧ Tb w K s v := by
  have HTB := Lib.hid hT
  have HLR := Lib.hid hL
  have hn := hL.few
  have HKY := Lib.hid (fun (j : Nat) (hj : j ≤ 300) (X : World) (hx : Ext w X) => show Calls Tryz.prog 11 #[.int .i64 ((j : Int) + 1)] X (fun e w' => e = .returned (.string (keyS (j + 1))) ∧ Ext X w') from key_any (j + 1) X (by omega) (hT.ext hx).2.1)
  have HG := Lib.hid (fun (j : Nat) (hj : j ≤ 300) (N : List Item) (X : World) (h : Hp w.heap.size w X (N ++ I)) => bget_any (keyS (j + 1)) (by have := (keyS_size (n := j + 1) (by omega)).1; unfold maxLen; omega) hB h)
  have HS := Lib.hid hs
  clear hT hL hB hs
  have hR := Reads.nil w
  go_enter Tryz.func8, Tryz.ntmps8
  go_wp2_with (first | (refine hab ?_; (try clear hF); clear hS; intro wk hS; (try simp only [List.set_cons_zero, List.set_cons_succ, heap_size, heap_set_size] at hS); ((try clear hF); refine hfI ?_; intro hF)) | fail)
  obtain ⟨g6, hg6⟩ := hS.nameAt 0 rfl
  rw [← hg6] at hS hF ⊢
  clear hg6
  obtain ⟨g4, hg4⟩ := hS.nameAt 1 rfl
  rw [← hg4] at hS hF ⊢
  clear hg4
  go_loopw [7, 8, 9] (fun _ _ _ wr => ∃ (j : Nat) (sj : SN) (v : SV) (K : List Item), j ≤ q ∧ Hid (ss[j]? = some sj) ∧ Hid (Tb w K sj v) ∧ Hp w.heap.size w wr (.blk g6 (snC sj v) 33 :: .blk g4 (snC s0N v0N) 33 :: (K ++ (M ++ I)))) (fun _ _ _ wr => q + 1 - verAt g6 wr)
  case atStart => exact ⟨0, s0N, v0N, [], Nat.zero_le _, Lib.hid HLR.out.zero, Lib.hid (tb0 _ _), hS⟩
  case round =>
    clear hS
    obtain ⟨j, sj, v, K, hj, HSJ, HTJ, hS⟩ := hrel
    obtain ⟨hgd, hsv⟩ := HLR.out.good j sj HSJ.out
    have HMS := Lib.hid (verAt_of hS)
    obtain ⟨vr, cols, next, files⟩ := sj
    have hsv : vr = (j : Int) := hsv
    subst hsv
    clear hgd
    by_cases hlt : j < q
    · obtain ⟨c, hc⟩ : ∃ c, cs[j]? = some c := ⟨_, List.getElem?_eq_getElem (by omega)⟩
      obtain ⟨s1, s', h1, h2, ha⟩ := HLR.out.step j c hc
      obtain rfl := Option.some.inj (HSJ.out.symm.trans h1)
      have HS2 := Lib.hid h2
      have hh := (HLR.out.text j c hc).2
      have hsh := (HLR.out.text j c hc).1.2.2.1
      have HG1 := Lib.hid (fun (N : List Item) (X : World) (h : Hp w.heap.size w X (N ++ I)) => show Calls Tryz.prog 10 #[.pointer (some ⟨gb, 0, none⟩), .string (keyS (j + 1))] X fun e w' => e = .returned (.tuple #[.string (bget D (keyS (j + 1))), .nilIface]) ∧ Ext X w' from by
        have := HG.out j (by omega) N X h
        rw [hh] at this
        exact this)
      have HPA := Lib.hid (fun (X : World) (L : List Item) (h : Hp w.heap.size w X L) => parse_log HLR.out hc (HTB.out.ext h.ext) h)
      have HAP := Lib.hid (fun (l : List (AN × AV)) (A : Option Addr) (n cap : Nat) (C : List Item) (hl : Hid (l.map (·.1) = c.al)) (hC : Hid (∀ (B : Nat) (w0 W : World), Hp B w0 W C → CmAt W ⟨c.tx, c.rd, l, A, n, cap⟩)) (X : World) (a b d : Item) (h : Hp w.heap.size w X (a :: b :: d :: (C ++ (K ++ (M ++ I))))) =>
        applyJ_ok (c := ⟨c.tx, c.rd, l, A, n, cap⟩) (J := C ++ K) (HTJ.out.more fun W h => h.sub (List.sublist_append_right C K)) (fun W h => hC.out _ _ W (h.sub (List.sublist_append_left C K))) HTB.out.1 (by show shortCo c.tx (l.map (·.1)) = true; rw [hl.out]; exact hsh) (by show (0 : Int) ≤ j; omega) (by show (j : Int) < 1000000000; omega) (by show applyR _ c.tx (l.map (·.1)) = _; rw [hl.out]; exact ha) sub_CK h)
      obtain ⟨T, hTt⟩ : ∃ T, T = bget D (keyS (j + 1)) := ⟨_, rfl⟩
      rw [← hTt] at HG1 HPA
      have hv1 : ver < 0 ∨ ¬ ver < 0 ∧ (j : Int) < ver := by omega
      have hs'v : s'.ver = ((j + 1 : Nat) : Int) := (HLR.out.good (j + 1) s' h2).2
      have HV2 := Lib.hid hs'v
      clear hTt hh hsh h1 h2 ha hc HG HS hver hs'v
      rcases hv1 with hv1 | ⟨hv1, hv2⟩
      all_goals
        ((try clear hF); refine hfI ?_; intro hF)
        go_wp2_with (first | (refine hab ?_; (try clear hF); clear hS; intro wk hS; (try simp only [List.set_cons_zero, List.set_cons_succ, heap_size, heap_set_size] at hS); ((try clear hF); refine hfI ?_; intro hF)) | (go_at_call 11; (with_reducible refine (HKY.out j (by omega) _ hS.ext).mono ?_); rintro e wk ⟨rfl, hX⟩; replace hS := hS.step hX; clear hX; ((try clear hF); refine hfI ?_; intro hF)) | (go_at_call 10; (with_reducible refine (HG1.out _ _ (reI hS)).mono ?_); rintro e wk ⟨rfl, hX⟩; replace hS := hS.step hX; clear hX; ((try clear hF); refine hfI ?_; intro hF)) | (go_at_call 12; (with_reducible refine Calls.mono (HPA.out _ _ hS) ?_); clear hS; rintro e wk ⟨l, A, n, cap, C, hl, rfl, hS, hCm, hPr⟩; replace hS := hS.pull2; ((try clear hF); refine hfI ?_; intro hF)) | (go_at_call 18; (with_reducible refine Calls.mono (HAP.out l A n cap C hl hCm _ _ _ _ hS) ?_); clear hS; rintro e wk ⟨v1, M1, rfl, hS, hT1⟩; replace hS := hS.pull3; ((try clear hF); refine hfI ?_; intro hF)))
        have hS2 := hS.tail
        have HM2 := Lib.hid (verAt_of hS2)
        go_roundw
        case rel =>
          refine ⟨j + 1, s', v1, M1 ++ (C ++ K), by omega, HS2, Lib.hid hT1, ?_⟩
          rw [List.append_assoc, List.append_assoc]
          exact hS2
        case measure =>
          rw [HM2.out, HMS.out, HV2.out]
          show q + 1 - (j + 1) < q + 1 - j
          omega
    · obtain rfl : j = q := by omega
      obtain rfl := Option.some.inj (HSJ.out.symm.trans HS.out)
      have HNO := Lib.hid (fun (h : j = cs.length) => HLR.out.none (j + 1) (by omega))
      have HG1 := Lib.hid (fun (h : j = cs.length) (N : List Item) (X : World) (hx : Hp w.heap.size w X (N ++ I)) => show Calls Tryz.prog 10 #[.pointer (some ⟨gb, 0, none⟩), .string (keyS (j + 1))] X fun e w' => e = .returned (.tuple #[.string (bget D (keyS (j + 1))), .iface 64 (.int .i64 7)]) ∧ Ext X w' from by
        have := HG.out j (by omega) N X hx
        rw [HNO.out h] at this
        exact this)
      have hjb : j ≤ 300 := by omega
      clear HG hlt hj hq
      rcases hver with ⟨rfl, hqn⟩ | rfl
      · have HG2 := Lib.hid (HG1.out hqn)
        clear HG1 HNO hqn hn
        have HKY2 := Lib.hid (HKY.out j hjb)
        ((try clear hF); refine hfI ?_; intro hF)
        go_wp2_with (first | (refine hab ?_; (try clear hF); clear hS; intro wk hS; (try simp only [List.set_cons_zero, List.set_cons_succ, heap_size, heap_set_size] at hS); ((try clear hF); refine hfI ?_; intro hF)) | (go_at_call 11; (with_reducible refine (HKY2.out _ hS.ext).mono ?_); rintro e wk ⟨rfl, hX⟩; replace hS := hS.step hX; clear hX; ((try clear hF); refine hfI ?_; intro hF)) | (go_at_call 10; (with_reducible refine (HG2.out _ _ (reI hS)).mono ?_); rintro e wk ⟨rfl, hX⟩; replace hS := hS.step hX; clear hX; ((try clear hF); refine hfI ?_; intro hF)))
        all_goals refine bodyPost_ret (v := .tuple #[snV ⟨j, cols, next, files⟩ v, .nilIface]) (by simp [results, Tryz.results8, go_sem, hF]) rfl (by first | exact ⟨v, rfl, K, hS.sub (.cons _ (.cons _ (.refl _))), HTJ.out⟩ | exact ⟨v, K, rfl, hS.sub (.cons _ (.cons _ (.refl _))), HTJ.out⟩)
      · clear HG1 HNO
        have hv0 : ¬ (j : Int) < 0 := by omega
        ((try clear hF); refine hfI ?_; intro hF)
        go_wp2_with (first | (refine hab ?_; (try clear hF); clear hS; intro wk hS; (try simp only [List.set_cons_zero, List.set_cons_succ, heap_size, heap_set_size] at hS); ((try clear hF); refine hfI ?_; intro hF)))
        all_goals refine bodyPost_ret (v := .tuple #[snV ⟨j, cols, next, files⟩ v, .nilIface]) (by simp [results, Tryz.results8, go_sem, hF]) rfl (by first | exact ⟨v, rfl, K, hS.sub (.cons _ (.cons _ (.refl _))), HTJ.out⟩ | exact ⟨v, K, rfl, hS.sub (.cons _ (.cons _ (.refl _))), HTJ.out⟩)
end Go.Proofs.YtlgidjanmaijaaaGreatDoor

/- commit.Try's closure: what lies at a version. -/
namespace Go.Proofs.YtlgidjanmaijaaaGreatDoor
set_option linter.unusedSimpArgs false
set_option linter.unusedVariables false
open Go.RowKit
set_option linter.all false
theorem reT {B : Nat} {w0 W : World} {a b : Item} {M I : List Item} (h : Hp B w0 W (a :: b :: (M ++ I))) : Hp B w0 W ((a :: b :: M) ++ I) := by
  simpa using h
set_option maxRecDepth 100000 in
set_option maxHeartbeats 8000000 in
theorem there_any {w W : World} {M I : List Item} {gb gB nD : Nat} {D : DataW Unit} {F : List Int} {cs : List CO} {ss : List SN} {j : Nat} {c : CO} (hc : cs[j]? = some c)
    (hL : LogR D cs ss) (hB : Bkt gb D nD F I) (hT : TabsC w) (hS : Hp w.heap.size w W (.blk gB [.pointer (some ⟨gb, 0, none⟩)] 25 :: (M ++ I))) :
    Calls Tryz.prog 20 #[.int .i64 ((j : Int) + 1), .pointer (some ⟨gB, 0, none⟩)] W fun e w' => ∃ (l : List (AN × AV)) (A : Option Addr) (n cap : Nat) (C : List Item), Hid (l.map (·.1) = c.al) ∧ e = .returned (.tuple #[.string (bget D (keyS (j + 1))), coV c.tx c.rd A n cap, .nilIface]) ∧ Hp w.heap.size w w' (C ++ (.blk gB [.pointer (some ⟨gb, 0, none⟩)] 25 :: (M ++ I))) ∧ Hid (∀ (B : Nat) (w0 W : World), Hp B w0 W C → CmAt W ⟨c.tx, c.rd, l, A, n, cap⟩) ∧ Hid (∀ a v, (a, v) ∈ l → PrOk a v) := by
  have HTB := Lib.hid hT
  have HLR := Lib.hid hL
  have hn := hL.few
  have hjn : j < cs.length := (List.getElem?_eq_some_iff.1 hc).1
  have HKY := Lib.hid (fun (X : World) (hx : Ext w X) => show Calls Tryz.prog 11 #[.int .i64 ((j : Int) + 1)] X (fun e w' => e = .returned (.string (keyS (j + 1))) ∧ Ext X w') from key_any (j + 1) X (by omega) (hT.ext hx).2.1)
  have HG1 := Lib.hid (fun (N : List Item) (X : World) (h : Hp w.heap.size w X (N ++ I)) => show Calls Tryz.prog 10 #[.pointer (some ⟨gb, 0, none⟩), .string (keyS (j + 1))] X fun e w' => e = .returned (.tuple #[.string (bget D (keyS (j + 1))), .nilIface]) ∧ Ext X w' from by
    have := bget_any (keyS (j + 1)) (by have := (keyS_size (n := j + 1) (by omega)).1; unfold maxLen; omega) hB h
    rw [(hL.text j c hc).2] at this
    exact this)
  have HPA := Lib.hid (fun (X : World) (L : List Item) (h : Hp w.heap.size w X L) => parse_log hL hc (hT.ext h.ext) h)
  clear hT hL hB hc
  have hR := Reads.nil w
  go_enter Tryz.func20, Tryz.ntmps20
  go_wp2_with (first | (refine hab ?_; (try clear hF); clear hS; intro wk hS; (try simp only [List.set_cons_zero, List.set_cons_succ, heap_size, heap_set_size] at hS); ((try clear hF); refine hfI ?_; intro hF)) | fail)
  obtain ⟨g4, hg4⟩ := hS.nameAt 0 rfl
  rw [← hg4] at hS hF ⊢
  clear hg4
  ((with_reducible refine wp_region_hp (draw := true) (by kernel_rfl) (by kernel_rfl) hS ?_); (repeat ((with_reducible refine Fixed.here ?_); (first | ((with_reducible apply Fixed.skip); (first | rfl | exact wanted_false rfl rfl rfl (by assumption)); try simp only [Act.put, List.setIfInBounds_toArray, List.set_cons_zero, List.set_cons_succ]) | ((with_reducible apply Fixed.val); (first | rfl | exact wanted_true rfl rfl rfl (by assumption)); (rintro w hS; ((try clear hF); refine hfI ?_; intro hF); go_simp; with_reducible rfl); try simp only [Act.put, List.setIfInBounds_toArray, List.set_cons_zero, List.set_cons_succ]) | ((with_reducible apply Fixed.call); (first | rfl | exact wanted_true rfl rfl rfl (by assumption)); (rintro w hS; ((try clear hF); refine hfI ?_; intro hF); go_simp; exact ⟨rfl, rfl⟩); (rintro w hS; first | (with_reducible exact HKY.out _ hS.ext) | (with_reducible exact HG1.out _ _ (reT hS))); try simp only [Act.put, List.setIfInBounds_toArray, List.set_cons_zero, List.set_cons_succ])))); (with_reducible refine Fixed.done ?_); (try clear hF); clear hS; intro wk hS; ((try clear hF); refine hfI ?_; intro hF))
  go_wp2_with (first | (refine hab ?_; (try clear hF); clear hS; intro wk hS; (try simp only [List.set_cons_zero, List.set_cons_succ, heap_size, heap_set_size] at hS); ((try clear hF); refine hfI ?_; intro hF)) | (go_at_call 12; (with_reducible refine Calls.mono (HPA.out _ _ hS) ?_); clear hS; rintro e wk ⟨l, A, n, cap, C, hl, rfl, hS, hCm, hPr⟩; replace hS := hS.pull2; ((try clear hF); refine hfI ?_; intro hF)))
  obtain ⟨g8, hg8⟩ := hS.nameAt 0 rfl
  rw [← hg8] at hS hF ⊢
  clear hg8
  ((with_reducible refine wp_region_braidz_hp [.t, .t, .t, .t, .t, .t] 0 [.blk g8 [.string c.tx, .bool c.rd, .slice A n cap] 38] (by kernel_rfl) rfl (by kernel_rfl) hS (fun w h => h.sub (by simp)) ?_); clear hS; (repeat ((with_reducible refine Walk.here ?_); (first | ((with_reducible apply Walk.skipQ); (first | rfl | exact wanted_false rfl rfl rfl (by assumption)); (try simp only [Mark.isQ, if_true, Bool.false_eq_true, if_false, Act.put, List.setIfInBounds_toArray, List.set_cons_zero, List.set_cons_succ])) | ((with_reducible apply Walk.val); (first | rfl | exact wanted_true rfl rfl rfl (by assumption)); (rintro w hS; ((try clear hF); refine hfI ?_; intro hF); go_simp; first | with_reducible rfl | (rw [if_neg (by first | omega | (simp only [ByteArray.size_append]; omega) | (simp [ByteArray.size_append]; omega))]; try with_reducible rfl)); (try simp only [Mark.isQ, if_true, Bool.false_eq_true, if_false, Act.put, List.setIfInBounds_toArray, List.set_cons_zero, List.set_cons_succ])) | ((with_reducible apply Walk.tail); (try simp only [Mark.isQ, if_true, Bool.false_eq_true, if_false, Act.put, List.setIfInBounds_toArray, List.set_cons_zero, List.set_cons_succ])) | ((with_reducible apply Walk.guardT); rfl; rfl; rfl; (all_goals intro hg)) | ((with_reducible apply Walk.guardF); rfl; rfl; rfl; (all_goals intro hg))))); refine Walk.done ?_; show BraidZ _ _ _ _ 0 6 [0, 1, 2, 3, 4, 5] _ _)
  (refine BraidZ.earlyN (i := 0) (by kernel_rfl) (by kernel_rfl) (by kernel_rfl) (by kernel_rfl) rfl (fun _ _ h hx => h.step hx) ?_; (try simp only [List.getElem_toArray, List.getElem_cons_succ, List.getElem_cons_zero]); refine EStep.val (by (first | rfl | exact wanted_true rfl rfl rfl (by assumption))) (fun w => by go_simp; with_reducible rfl) ?_; try simp only [Act.put, List.setIfInBounds_toArray, List.set_cons_zero, List.set_cons_succ])
  (refine BraidZ.earlyN (i := 2) (by kernel_rfl) (by kernel_rfl) (by kernel_rfl) (by kernel_rfl) rfl (fun _ _ h hx => h.step hx) ?_; (try simp only [List.getElem_toArray, List.getElem_cons_succ, List.getElem_cons_zero]); refine EStep.val (by (first | rfl | exact wanted_true rfl rfl rfl (by assumption))) (fun w => by go_simp; with_reducible rfl) ?_; try simp only [Act.put, List.setIfInBounds_toArray, List.set_cons_zero, List.set_cons_succ])
  (refine BraidZ.earlyN (i := 3) (by kernel_rfl) (by kernel_rfl) (by kernel_rfl) (by kernel_rfl) rfl (fun _ _ h hx => h.step hx) ?_; (try simp only [List.getElem_toArray, List.getElem_cons_succ, List.getElem_cons_zero]); refine EStep.val (by (first | rfl | exact wanted_true rfl rfl rfl (by assumption))) (fun w => by go_simp; with_reducible rfl) ?_; try simp only [Act.put, List.setIfInBounds_toArray, List.set_cons_zero, List.set_cons_succ])
  (refine BraidZ.next1 (i := 1) (by kernel_rfl) (by kernel_rfl) rfl ?_; (try simp only [List.getElem_toArray, List.getElem_cons_succ, List.getElem_cons_zero]))
  (refine ZStep.val (by (first | rfl | exact wanted_true rfl rfl rfl (by assumption))) (fun w h => h.sub (by first | simp | ((try simp only [List.eraseIdx_cons_zero, List.eraseIdx_cons_succ]); (repeat (first | exact List.nil_sublist _ | exact List.Sublist.refl _ | with_reducible apply List.Sublist.cons₂ | apply List.Sublist.cons))))) (by rintro w hS; ((try clear hF); refine hfI ?_; intro hF); go_simp; with_reducible rfl) ?_; try simp only [Act.put, List.setIfInBounds_toArray, List.set_cons_zero, List.set_cons_succ])
  (refine BraidZ.next1 (i := 4) (by kernel_rfl) (by kernel_rfl) rfl ?_; (try simp only [List.getElem_toArray, List.getElem_cons_succ, List.getElem_cons_zero]))
  (show ZStep _ _ _ true _ _ _ _; refine ZStep.storeRow (i := 1) (g := g4) (us := [.string c.tx, .bool c.rd, .slice A n cap]) (.inl rfl) (by (first | rfl | exact wanted_true rfl rfl rfl (by assumption))) rfl rfl rfl rfl (by kernel_rfl) rfl (by simp [Value.oneCell']) ?_; try simp only [Act.put, List.setIfInBounds_toArray, List.set_cons_zero, List.set_cons_succ])
  (refine BraidZ.next1 (i := 5) (by kernel_rfl) (by kernel_rfl) rfl ?_; (try simp only [List.getElem_toArray, List.getElem_cons_succ, List.getElem_cons_zero]))
  (refine ZStep.val (by (first | rfl | exact wanted_true rfl rfl rfl (by assumption))) (fun w h => h.sub (by first | simp | ((try simp only [List.eraseIdx_cons_zero, List.eraseIdx_cons_succ]); (repeat (first | exact List.nil_sublist _ | exact List.Sublist.refl _ | with_reducible apply List.Sublist.cons₂ | apply List.Sublist.cons))))) (by rintro w hS; ((try clear hF); refine hfI ?_; intro hF); go_simp; with_reducible rfl) ?_; try simp only [Act.put, List.setIfInBounds_toArray, List.set_cons_zero, List.set_cons_succ])
  (refine BraidZ.last (by kernel_rfl) ?_; (try clear hF); intro wk hS; ((try clear hF); refine hfI ?_; intro hF))
  go_wp2_with (first | (refine hab ?_; (try clear hF); clear hS; intro wk hS; (try simp only [List.set_cons_zero, List.set_cons_succ, heap_size, heap_set_size] at hS); ((try clear hF); refine hfI ?_; intro hF)) | fail)
  refine bodyPost_ret (v := .tuple #[.string (bget D (keyS (j + 1))), coV c.tx c.rd A n cap, .nilIface]) (by simp [results, Tryz.results20, go_sem, hF]) rfl (by exact ⟨l, A, n, cap, C, hl, rfl, (hS.sub (.cons _ (.cons _ (.refl _)))).perm List.perm_middle, hCm, hPr⟩)
end Go.Proofs.YtlgidjanmaijaaaGreatDoor
