/- Texts joined: log.action: columns anew. log.action: a file more. log.action: a file that goes, rows that are masked; all kinds. log.action: rows that are masked; all kinds. log.action: of any kind. millpondkeep.set: a table's files, by their names. -/
import Derived.Test.YtcpnnffnkegamaaGreatDoorLZ08
import Derived.Test.YtcpnnffnkegamaaGreatDoorLZ02
import Derived.StringKeys
/- log.action: columns anew. -/
namespace Go.Proofs.YtcpnnffnkegamaaGreatDoor
set_option linter.unusedSimpArgs false
set_option linter.unusedVariables false
open Go.RowKit
set_option linter.all false
section
variable {B : Nat} {w0 w : World} {K J : List Item}
set_option maxRecDepth 100000 in
set_option maxHeartbeats 8000000 in
theorem act_schema (s : SN) (a : AN) (gs : Nat) (Ac Af Aq Ar : Option Addr) (nc cc nf cf nq cq nr cr : Nat) (evs : List EV) (hnf : evs.length = nf) (hnf2 : nf ≤ 1000) (HFS : Hid (FsOk B w0 J evs s.files)) (hAf : Af = none → cf = 0)
    (hr : a.cols.length = nr) (hr2 : nr ≤ 1000) (hr3 : nr ≤ cr) (HRC : Hid (∀ W, Hp B w0 W K → RC W Ar a.cols)) (HKP : Hid (∀ W, Hp B w0 W K → KeptAt W))
    (h4 : a.kind = 4) (hS : Hp B w0 w (snB gs s.ver Ac nc cc s.next Af nf cf :: eRow Af nf cf evs :: K)) :
    Calls Tryz.prog 23 #[.pointer (some ⟨gs, 0, none⟩), actV a Aq nq cq Ar nr cr] w fun e w' => e = .returned (.int .i64 (actE s a)) ∧ ActRes B w0 w' gs K J s a := by
  unfold snB eRow at hS
  have HIX := Lib.hid (fun (W : World) (g : Nat) (hr : RE W Af evs) h => aindex_any (cf := cf) s a hnf hnf2 HFS.out g hr h)
  have HSR := Lib.hid (fun (W : World) (h : Hp B w0 W K) => show Calls Tryz.prog 10 #[.slice Ar nr cr, .int .i64 a.next] W (fun e w' => e = .returned (.bool (rightC a.cols a.next)) ∧ Ext W w') from by
    have := sright_any a.cols Ar cr a.next W (HRC.out W h) (by omega) (by omega) (HKP.out W h)
    rw [hr] at this
    exact this)
  have HE := Lib.hid (show actE s a = if rightC a.cols a.next = false ∨ a.next < s.next then 1 else 0 by unfold actE; rw [if_pos h4])
  have HS4 := Lib.hid (show actS s a = { s with cols := a.cols, next := a.next } by unfold actS; rw [if_pos h4])
  obtain ⟨ix, hix⟩ : ∃ x, x = idxP a.path 0 (s.files.map (·.path)) := ⟨_, rfl⟩
  rw [← hix] at HIX
  obtain ⟨rb, hrb⟩ : ∃ b, b = rightC a.cols a.next := ⟨_, rfl⟩
  have HRB := Lib.hid hrb
  rw [← hrb] at HSR HE
  clear hix hrb
  have b4 : (a.kind == 4) = true := by simp [h4]
  cases rb with
  | false =>
    have HE1 := Lib.hid (show actE s a = 1 by rw [HE.out, if_pos (.inl rfl)])
    rw [HE1.out]
    clear HE
    ((try clear hF); (first | have hF := And.intro hS.facts (HRD.out _ (hS.sub (by first | simp | ((repeat (first | exact List.nil_sublist _ | exact List.Sublist.refl _ | with_reducible apply List.Sublist.cons₂ | apply List.Sublist.cons)))))) | have hF := And.intro hS.facts (hR.at hS.ext) | have hF := hS.facts); simp only [HFacts, cellFacts, RFacts, cellOnly, and_true, true_and, Nat.zero_add, Nat.reduceAdd] at hF)
    go_enter Tryz.func23, Tryz.ntmps23
    go_wp2_with (first | ((with_reducible first | refine nhLa ?_ | refine nhLs ?_ | refine nhLd ?_ | refine nhCa ?_ | refine nhCs ?_ | refine nhCd ?_ | refine nhPa ?_ | refine nhPs ?_ | refine nhPd ?_ | refine nhKa ?_ | refine nhKs ?_ | refine nhKd ?_); ((try clear hF); clear hS; intro wk hS; (try simp only [List.set_cons_zero, List.set_cons_succ, heap_size, heap_set_size] at hS); ((try clear hF); (first | have hF := And.intro hS.facts (HRD.out _ (hS.sub (by first | simp | ((repeat (first | exact List.nil_sublist _ | exact List.Sublist.refl _ | with_reducible apply List.Sublist.cons₂ | apply List.Sublist.cons)))))) | have hF := And.intro hS.facts (hR.at hS.ext) | have hF := hS.facts); simp only [HFacts, cellFacts, RFacts, cellOnly, and_true, true_and, Nat.zero_add, Nat.reduceAdd] at hF))) | (go_at_call 39; (with_reducible refine (HIX.out _ _ (hS.re 2 rfl) hF.1.2.1.1).mono ?_); rintro e wk ⟨rfl, hX⟩; replace hS := hS.step hX; clear hX; ((try clear hF); (first | have hF := And.intro hS.facts (HRD.out _ (hS.sub (by first | simp | ((repeat (first | exact List.nil_sublist _ | exact List.Sublist.refl _ | with_reducible apply List.Sublist.cons₂ | apply List.Sublist.cons)))))) | have hF := And.intro hS.facts (hR.at hS.ext) | have hF := hS.facts); simp only [HFacts, cellFacts, RFacts, cellOnly, and_true, true_and, Nat.zero_add, Nat.reduceAdd] at hF)) | (first | (with_reducible refine wp_region_hp (draw := true) (by kernel_rfl) (by kernel_rfl) hS ?_) | ((with_reducible refine Fixed.here ?_); (first | ((with_reducible apply Fixed.skip); (first | rfl | exact wanted_false rfl rfl rfl (by assumption)); try simp only [Act.put, List.setIfInBounds_toArray, List.set_cons_zero, List.set_cons_succ]) | ((with_reducible apply Fixed.val); (first | rfl | exact wanted_true rfl rfl rfl (by assumption)); (rintro w hS; ((try clear hF); (first | have hF := And.intro hS.facts (HRD.out _ (hS.sub (by first | simp | ((repeat (first | exact List.nil_sublist _ | exact List.Sublist.refl _ | with_reducible apply List.Sublist.cons₂ | apply List.Sublist.cons)))))) | have hF := And.intro hS.facts (hR.at hS.ext) | have hF := hS.facts); simp only [HFacts, cellFacts, RFacts, cellOnly, and_true, true_and, Nat.zero_add, Nat.reduceAdd] at hF); go_simp; with_reducible rfl); try simp only [Act.put, List.setIfInBounds_toArray, List.set_cons_zero, List.set_cons_succ]) | ((with_reducible apply Fixed.call); (first | rfl | exact wanted_true rfl rfl rfl (by assumption)); (rintro w hS; ((try clear hF); (first | have hF := And.intro hS.facts (HRD.out _ (hS.sub (by first | simp | ((repeat (first | exact List.nil_sublist _ | exact List.Sublist.refl _ | with_reducible apply List.Sublist.cons₂ | apply List.Sublist.cons)))))) | have hF := And.intro hS.facts (hR.at hS.ext) | have hF := hS.facts); simp only [HFacts, cellFacts, RFacts, cellOnly, and_true, true_and, Nat.zero_add, Nat.reduceAdd] at hF); go_simp; exact ⟨rfl, rfl⟩); (rintro w hS; first | (with_reducible exact HSR.out w (hS.sub (by first | simp | ((try simp only [List.eraseIdx_cons_zero, List.eraseIdx_cons_succ]); (repeat (first | exact List.nil_sublist _ | exact List.Sublist.refl _ | with_reducible apply List.Sublist.cons₂ | apply List.Sublist.cons))))))); try simp only [Act.put, List.setIfInBounds_toArray, List.set_cons_zero, List.set_cons_succ]) | ((with_reducible apply Fixed.guardT); rfl; rfl; rfl; (all_goals intro hg)) | ((with_reducible apply Fixed.guardF); rfl; rfl; rfl; (all_goals intro hg)) | (with_reducible refine Fixed.done ?_; (try clear hF); clear hS; intro wk hS; ((try clear hF); (first | have hF := And.intro hS.facts (HRD.out _ (hS.sub (by first | simp | ((repeat (first | exact List.nil_sublist _ | exact List.Sublist.refl _ | with_reducible apply List.Sublist.cons₂ | apply List.Sublist.cons)))))) | have hF := And.intro hS.facts (hR.at hS.ext) | have hF := hS.facts); simp only [HFacts, cellFacts, RFacts, cellOnly, and_true, true_and, Nat.zero_add, Nat.reduceAdd] at hF))))))
    go_ret
    exact ⟨rfl, ActRes.bad HE1.out (by decide) (hS.sub (by first | simp | ((try simp only [List.eraseIdx_cons_zero, List.eraseIdx_cons_succ]); (repeat (first | exact List.nil_sublist _ | exact List.Sublist.refl _ | with_reducible apply List.Sublist.cons₂ | apply List.Sublist.cons)))))⟩
  | true =>
    by_cases hnx : a.next < s.next
    · have HE1 := Lib.hid (show actE s a = 1 by rw [HE.out, if_pos (.inr hnx)])
      rw [HE1.out]
      clear HE
      ((try clear hF); (first | have hF := And.intro hS.facts (HRD.out _ (hS.sub (by first | simp | ((repeat (first | exact List.nil_sublist _ | exact List.Sublist.refl _ | with_reducible apply List.Sublist.cons₂ | apply List.Sublist.cons)))))) | have hF := And.intro hS.facts (hR.at hS.ext) | have hF := hS.facts); simp only [HFacts, cellFacts, RFacts, cellOnly, and_true, true_and, Nat.zero_add, Nat.reduceAdd] at hF)
      go_enter Tryz.func23, Tryz.ntmps23
      go_wp2_with (first | ((with_reducible first | refine nhLa ?_ | refine nhLs ?_ | refine nhLd ?_ | refine nhCa ?_ | refine nhCs ?_ | refine nhCd ?_ | refine nhPa ?_ | refine nhPs ?_ | refine nhPd ?_ | refine nhKa ?_ | refine nhKs ?_ | refine nhKd ?_); ((try clear hF); clear hS; intro wk hS; (try simp only [List.set_cons_zero, List.set_cons_succ, heap_size, heap_set_size] at hS); ((try clear hF); (first | have hF := And.intro hS.facts (HRD.out _ (hS.sub (by first | simp | ((repeat (first | exact List.nil_sublist _ | exact List.Sublist.refl _ | with_reducible apply List.Sublist.cons₂ | apply List.Sublist.cons)))))) | have hF := And.intro hS.facts (hR.at hS.ext) | have hF := hS.facts); simp only [HFacts, cellFacts, RFacts, cellOnly, and_true, true_and, Nat.zero_add, Nat.reduceAdd] at hF))) | (go_at_call 39; (with_reducible refine (HIX.out _ _ (hS.re 2 rfl) hF.1.2.1.1).mono ?_); rintro e wk ⟨rfl, hX⟩; replace hS := hS.step hX; clear hX; ((try clear hF); (first | have hF := And.intro hS.facts (HRD.out _ (hS.sub (by first | simp | ((repeat (first | exact List.nil_sublist _ | exact List.Sublist.refl _ | with_reducible apply List.Sublist.cons₂ | apply List.Sublist.cons)))))) | have hF := And.intro hS.facts (hR.at hS.ext) | have hF := hS.facts); simp only [HFacts, cellFacts, RFacts, cellOnly, and_true, true_and, Nat.zero_add, Nat.reduceAdd] at hF)) | (first | (with_reducible refine wp_region_hp (draw := true) (by kernel_rfl) (by kernel_rfl) hS ?_) | ((with_reducible refine Fixed.here ?_); (first | ((with_reducible apply Fixed.skip); (first | rfl | exact wanted_false rfl rfl rfl (by assumption)); try simp only [Act.put, List.setIfInBounds_toArray, List.set_cons_zero, List.set_cons_succ]) | ((with_reducible apply Fixed.val); (first | rfl | exact wanted_true rfl rfl rfl (by assumption)); (rintro w hS; ((try clear hF); (first | have hF := And.intro hS.facts (HRD.out _ (hS.sub (by first | simp | ((repeat (first | exact List.nil_sublist _ | exact List.Sublist.refl _ | with_reducible apply List.Sublist.cons₂ | apply List.Sublist.cons)))))) | have hF := And.intro hS.facts (hR.at hS.ext) | have hF := hS.facts); simp only [HFacts, cellFacts, RFacts, cellOnly, and_true, true_and, Nat.zero_add, Nat.reduceAdd] at hF); go_simp; with_reducible rfl); try simp only [Act.put, List.setIfInBounds_toArray, List.set_cons_zero, List.set_cons_succ]) | ((with_reducible apply Fixed.call); (first | rfl | exact wanted_true rfl rfl rfl (by assumption)); (rintro w hS; ((try clear hF); (first | have hF := And.intro hS.facts (HRD.out _ (hS.sub (by first | simp | ((repeat (first | exact List.nil_sublist _ | exact List.Sublist.refl _ | with_reducible apply List.Sublist.cons₂ | apply List.Sublist.cons)))))) | have hF := And.intro hS.facts (hR.at hS.ext) | have hF := hS.facts); simp only [HFacts, cellFacts, RFacts, cellOnly, and_true, true_and, Nat.zero_add, Nat.reduceAdd] at hF); go_simp; exact ⟨rfl, rfl⟩); (rintro w hS; first | (with_reducible exact HSR.out w (hS.sub (by first | simp | ((try simp only [List.eraseIdx_cons_zero, List.eraseIdx_cons_succ]); (repeat (first | exact List.nil_sublist _ | exact List.Sublist.refl _ | with_reducible apply List.Sublist.cons₂ | apply List.Sublist.cons))))))); try simp only [Act.put, List.setIfInBounds_toArray, List.set_cons_zero, List.set_cons_succ]) | ((with_reducible apply Fixed.guardT); rfl; rfl; rfl; (all_goals intro hg)) | ((with_reducible apply Fixed.guardF); rfl; rfl; rfl; (all_goals intro hg)) | (with_reducible refine Fixed.done ?_; (try clear hF); clear hS; intro wk hS; ((try clear hF); (first | have hF := And.intro hS.facts (HRD.out _ (hS.sub (by first | simp | ((repeat (first | exact List.nil_sublist _ | exact List.Sublist.refl _ | with_reducible apply List.Sublist.cons₂ | apply List.Sublist.cons)))))) | have hF := And.intro hS.facts (hR.at hS.ext) | have hF := hS.facts); simp only [HFacts, cellFacts, RFacts, cellOnly, and_true, true_and, Nat.zero_add, Nat.reduceAdd] at hF))))))
      go_ret
      exact ⟨rfl, ActRes.bad HE1.out (by decide) (hS.sub (by first | simp | ((try simp only [List.eraseIdx_cons_zero, List.eraseIdx_cons_succ]); (repeat (first | exact List.nil_sublist _ | exact List.Sublist.refl _ | with_reducible apply List.Sublist.cons₂ | apply List.Sublist.cons)))))⟩
    · have HE1 := Lib.hid (show actE s a = 0 by rw [HE.out, if_neg (by simp; omega)])
      rw [HE1.out]
      clear HE
      have hr1 : 1 ≤ nr := by
        have := HRB.out
        unfold rightC at this
        simp only [Bool.true_eq, Bool.and_eq_true, decide_eq_true_eq] at this
        omega
      have HCL := Lib.hid (fun (W : World) (L : List Item) (hW : Hp B w0 W L) (h : Hp B w0 W K) => show Calls Tryz.prog 41 #[.slice Ar nr cr] W (fun e w' => ∃ A' cap', e = .returned (.slice A' nr cap') ∧ nr ≤ cap' ∧ Hp B w0 w' (.row 61 7 A' nr cap' (cellsC a.cols) :: L)) from by
        obtain ⟨b, o, hA, _⟩ := HRC.out W h 0 (a.cols[0]'(by omega)) (List.getElem?_eq_getElem _)
        have hc := HRC.out W h
        rw [hA] at hc ⊢
        have := clone_any a.cols b o cr W hc (by omega)
        rw [hr] at this
        refine this.mono fun e w' ⟨A', cap', e1, e2⟩ => ⟨A', cap', e1, ?_, ?_⟩
        · unfold cRow at e2
          have := (e2.rowLen 0 rfl).2
          omega
        · unfold cRow at e2
          rw [hr] at e2
          exact hW.join e2)
      ((try clear hF); (first | have hF := And.intro hS.facts (HRD.out _ (hS.sub (by first | simp | ((repeat (first | exact List.nil_sublist _ | exact List.Sublist.refl _ | with_reducible apply List.Sublist.cons₂ | apply List.Sublist.cons)))))) | have hF := And.intro hS.facts (hR.at hS.ext) | have hF := hS.facts); simp only [HFacts, cellFacts, RFacts, cellOnly, and_true, true_and, Nat.zero_add, Nat.reduceAdd] at hF)
      go_enter Tryz.func23, Tryz.ntmps23
      go_upto_region 6 with (first | ((with_reducible first | refine nhLa ?_ | refine nhLs ?_ | refine nhLd ?_ | refine nhCa ?_ | refine nhCs ?_ | refine nhCd ?_ | refine nhPa ?_ | refine nhPs ?_ | refine nhPd ?_ | refine nhKa ?_ | refine nhKs ?_ | refine nhKd ?_); ((try clear hF); clear hS; intro wk hS; (try simp only [List.set_cons_zero, List.set_cons_succ, heap_size, heap_set_size] at hS); ((try clear hF); (first | have hF := And.intro hS.facts (HRD.out _ (hS.sub (by first | simp | ((repeat (first | exact List.nil_sublist _ | exact List.Sublist.refl _ | with_reducible apply List.Sublist.cons₂ | apply List.Sublist.cons)))))) | have hF := And.intro hS.facts (hR.at hS.ext) | have hF := hS.facts); simp only [HFacts, cellFacts, RFacts, cellOnly, and_true, true_and, Nat.zero_add, Nat.reduceAdd] at hF))) | (go_at_call 39; (with_reducible refine (HIX.out _ _ (hS.re 2 rfl) hF.1.2.1.1).mono ?_); rintro e wk ⟨rfl, hX⟩; replace hS := hS.step hX; clear hX; ((try clear hF); (first | have hF := And.intro hS.facts (HRD.out _ (hS.sub (by first | simp | ((repeat (first | exact List.nil_sublist _ | exact List.Sublist.refl _ | with_reducible apply List.Sublist.cons₂ | apply List.Sublist.cons)))))) | have hF := And.intro hS.facts (hR.at hS.ext) | have hF := hS.facts); simp only [HFacts, cellFacts, RFacts, cellOnly, and_true, true_and, Nat.zero_add, Nat.reduceAdd] at hF)) | (first | (with_reducible refine wp_region_hp (draw := true) (by kernel_rfl) (by kernel_rfl) hS ?_) | ((with_reducible refine Fixed.here ?_); (first | ((with_reducible apply Fixed.skip); (first | rfl | exact wanted_false rfl rfl rfl (by assumption)); try simp only [Act.put, List.setIfInBounds_toArray, List.set_cons_zero, List.set_cons_succ]) | ((with_reducible apply Fixed.val); (first | rfl | exact wanted_true rfl rfl rfl (by assumption)); (rintro w hS; ((try clear hF); (first | have hF := And.intro hS.facts (HRD.out _ (hS.sub (by first | simp | ((repeat (first | exact List.nil_sublist _ | exact List.Sublist.refl _ | with_reducible apply List.Sublist.cons₂ | apply List.Sublist.cons)))))) | have hF := And.intro hS.facts (hR.at hS.ext) | have hF := hS.facts); simp only [HFacts, cellFacts, RFacts, cellOnly, and_true, true_and, Nat.zero_add, Nat.reduceAdd] at hF); go_simp; with_reducible rfl); try simp only [Act.put, List.setIfInBounds_toArray, List.set_cons_zero, List.set_cons_succ]) | ((with_reducible apply Fixed.call); (first | rfl | exact wanted_true rfl rfl rfl (by assumption)); (rintro w hS; ((try clear hF); (first | have hF := And.intro hS.facts (HRD.out _ (hS.sub (by first | simp | ((repeat (first | exact List.nil_sublist _ | exact List.Sublist.refl _ | with_reducible apply List.Sublist.cons₂ | apply List.Sublist.cons)))))) | have hF := And.intro hS.facts (hR.at hS.ext) | have hF := hS.facts); simp only [HFacts, cellFacts, RFacts, cellOnly, and_true, true_and, Nat.zero_add, Nat.reduceAdd] at hF); go_simp; exact ⟨rfl, rfl⟩); (rintro w hS; first | (with_reducible exact HSR.out w (hS.sub (by first | simp | ((try simp only [List.eraseIdx_cons_zero, List.eraseIdx_cons_succ]); (repeat (first | exact List.nil_sublist _ | exact List.Sublist.refl _ | with_reducible apply List.Sublist.cons₂ | apply List.Sublist.cons))))))); try simp only [Act.put, List.setIfInBounds_toArray, List.set_cons_zero, List.set_cons_succ]) | ((with_reducible apply Fixed.guardT); rfl; rfl; rfl; (all_goals intro hg)) | ((with_reducible apply Fixed.guardF); rfl; rfl; rfl; (all_goals intro hg)) | (with_reducible refine Fixed.done ?_; (try clear hF); clear hS; intro wk hS; ((try clear hF); (first | have hF := And.intro hS.facts (HRD.out _ (hS.sub (by first | simp | ((repeat (first | exact List.nil_sublist _ | exact List.Sublist.refl _ | with_reducible apply List.Sublist.cons₂ | apply List.Sublist.cons)))))) | have hF := And.intro hS.facts (hR.at hS.ext) | have hF := hS.facts); simp only [HFacts, cellFacts, RFacts, cellOnly, and_true, true_and, Nat.zero_add, Nat.reduceAdd] at hF))))))
      have fin : ∀ (A' : Option Addr) (cap' : Nat) (W : World), nr ≤ cap' → Hp B w0 W (.blk gs [.int .i64 s.ver, .slice A' nr cap', .int .i64 a.next, .slice Af nf cf] 27 :: .row 43 3 Af nf cf (cellsE evs) :: .row 61 7 A' nr cap' (cellsC a.cols) :: K) → ActRes B w0 W gs K J s a := fun A' cap' W hcp hW => ActRes.good HE1.out (by
        rw [HS4.out]
        exact ⟨A', nr, cap', Af, nf, cf, evs, [.row 61 7 A' nr cap' (cellsC a.cols)], hW, HFS.out.more fun W' h => h.tail, hr, hcp, hnf, hAf, fun W' h => h.rc 0 rfl⟩)
      have FIN := Lib.hid fin
      clear fin
      have fin := FIN.out
      ((with_reducible refine wp_region_braidz_hp [.q, .q, .q, .q, .t, .q, .q, .t, .t, .t, .t, .t, .t] 13 [.blk w.heap.size [.int .i64 4, .string a.path, .int .i64 a.rows, .slice Aq nq cq, .slice Ar nr cr, .int .i64 a.next] 63] (by kernel_rfl) rfl (by kernel_rfl) hS (fun w h => h.sub (by simp)) ?_); clear hS; (repeat ((with_reducible refine Walk.here ?_); (first | ((with_reducible apply Walk.skipQ); (first | rfl | exact wanted_false rfl rfl rfl (by assumption)); (try simp only [Mark.isQ, if_true, Bool.false_eq_true, if_false, Act.put, List.setIfInBounds_toArray, List.set_cons_zero, List.set_cons_succ])) | ((with_reducible apply Walk.val); (first | rfl | exact wanted_true rfl rfl rfl (by assumption)); (rintro w hS; ((try clear hF); (first | have hF := And.intro hS.facts (HRD.out _ (hS.sub (by first | simp | ((repeat (first | exact List.nil_sublist _ | exact List.Sublist.refl _ | with_reducible apply List.Sublist.cons₂ | apply List.Sublist.cons)))))) | have hF := And.intro hS.facts (hR.at hS.ext) | have hF := hS.facts); simp only [HFacts, cellFacts, RFacts, cellOnly, and_true, true_and, Nat.zero_add, Nat.reduceAdd] at hF); go_simp; first | with_reducible rfl | (rw [if_neg (by first | omega | (simp only [ByteArray.size_append]; omega) | (simp [ByteArray.size_append]; omega))]; try with_reducible rfl)); (try simp only [Mark.isQ, if_true, Bool.false_eq_true, if_false, Act.put, List.setIfInBounds_toArray, List.set_cons_zero, List.set_cons_succ])) | ((with_reducible apply Walk.tail); (try simp only [Mark.isQ, if_true, Bool.false_eq_true, if_false, Act.put, List.setIfInBounds_toArray, List.set_cons_zero, List.set_cons_succ])) | ((with_reducible apply Walk.guardT); rfl; rfl; rfl; (all_goals intro hg)) | ((with_reducible apply Walk.guardF); rfl; rfl; rfl; (all_goals intro hg))))); refine Walk.done ?_; show BraidZ _ _ _ _ 13 7 [4, 7, 8, 9, 10, 11, 12] _ _)
      (refine BraidZ.next1 (i := 4) (by kernel_rfl) (by kernel_rfl) rfl ?_; (try simp only [List.getElem_toArray, List.getElem_cons_succ, List.getElem_cons_zero]))
      (refine ZStep.call (by (first | rfl | exact wanted_true rfl rfl rfl (by assumption))) (by rintro w hS; ((try clear hF); (first | have hF := And.intro hS.facts (HRD.out _ (hS.sub (by first | simp | ((repeat (first | exact List.nil_sublist _ | exact List.Sublist.refl _ | with_reducible apply List.Sublist.cons₂ | apply List.Sublist.cons)))))) | have hF := And.intro hS.facts (hR.at hS.ext) | have hF := hS.facts); simp only [HFacts, cellFacts, RFacts, cellOnly, and_true, true_and, Nat.zero_add, Nat.reduceAdd] at hF); go_simp; exact ⟨rfl, rfl⟩) ?_; (intro w hS); (with_reducible refine Calls.mono (HCL.out _ _ hS (hS.sub (by first | simp | ((try simp only [List.eraseIdx_cons_zero, List.eraseIdx_cons_succ]); (repeat (first | exact List.nil_sublist _ | exact List.Sublist.refl _ | with_reducible apply List.Sublist.cons₂ | apply List.Sublist.cons)))))) ?_); clear hS; rintro e wk ⟨A', cap', rfl, hcp, hS⟩; (try simp only [List.eraseIdx_cons_zero, List.eraseIdx_cons_succ, List.set_cons_zero, List.set_cons_succ] at hS); refine ⟨_, _, rfl, hS, (fun w h => h.sub (by simp)), ?_⟩; (clear hS); try simp only [Act.put, List.setIfInBounds_toArray, List.set_cons_zero, List.set_cons_succ])
      (refine BraidZ.next1 (i := 7) (by kernel_rfl) (by kernel_rfl) rfl ?_; (try simp only [List.getElem_toArray, List.getElem_cons_succ, List.getElem_cons_zero]))
      (refine ZStep.val (by (first | rfl | exact wanted_true rfl rfl rfl (by assumption))) (fun w h => h.sub (by first | simp | ((try simp only [List.eraseIdx_cons_zero, List.eraseIdx_cons_succ]); (repeat (first | exact List.nil_sublist _ | exact List.Sublist.refl _ | with_reducible apply List.Sublist.cons₂ | apply List.Sublist.cons))))) (by rintro w hS; ((try clear hF); (first | have hF := And.intro hS.facts (HRD.out _ (hS.sub (by first | simp | ((repeat (first | exact List.nil_sublist _ | exact List.Sublist.refl _ | with_reducible apply List.Sublist.cons₂ | apply List.Sublist.cons)))))) | have hF := And.intro hS.facts (hR.at hS.ext) | have hF := hS.facts); simp only [HFacts, cellFacts, RFacts, cellOnly, and_true, true_and, Nat.zero_add, Nat.reduceAdd] at hF); go_simp; with_reducible rfl) ?_; try simp only [Act.put, List.setIfInBounds_toArray, List.set_cons_zero, List.set_cons_succ])
      (refine BraidZ.next1 (i := 8) (by kernel_rfl) (by kernel_rfl) rfl ?_; (try simp only [List.getElem_toArray, List.getElem_cons_succ, List.getElem_cons_zero]))
      (refine ZStep.val (by (first | rfl | exact wanted_true rfl rfl rfl (by assumption))) (fun w h => h.sub (by first | simp | ((try simp only [List.eraseIdx_cons_zero, List.eraseIdx_cons_succ]); (repeat (first | exact List.nil_sublist _ | exact List.Sublist.refl _ | with_reducible apply List.Sublist.cons₂ | apply List.Sublist.cons))))) (by rintro w hS; ((try clear hF); (first | have hF := And.intro hS.facts (HRD.out _ (hS.sub (by first | simp | ((repeat (first | exact List.nil_sublist _ | exact List.Sublist.refl _ | with_reducible apply List.Sublist.cons₂ | apply List.Sublist.cons)))))) | have hF := And.intro hS.facts (hR.at hS.ext) | have hF := hS.facts); simp only [HFacts, cellFacts, RFacts, cellOnly, and_true, true_and, Nat.zero_add, Nat.reduceAdd] at hF); go_simp; with_reducible rfl) ?_; try simp only [Act.put, List.setIfInBounds_toArray, List.set_cons_zero, List.set_cons_succ])
      (refine BraidZ.next1 (i := 9) (by kernel_rfl) (by kernel_rfl) rfl ?_; (try simp only [List.getElem_toArray, List.getElem_cons_succ, List.getElem_cons_zero]))
      (refine ZStep.turnF (by (first | rfl | exact wanted_true rfl rfl rfl (by assumption))) (fun w hS => ⟨w.setCell ⟨gs, 1, none⟩ (.slice A' nr cap'), .inl (by ((try clear hF); (first | have hF := And.intro hS.facts (HRD.out _ (hS.sub (by first | simp | ((repeat (first | exact List.nil_sublist _ | exact List.Sublist.refl _ | with_reducible apply List.Sublist.cons₂ | apply List.Sublist.cons)))))) | have hF := And.intro hS.facts (hR.at hS.ext) | have hF := hS.facts); simp only [HFacts, cellFacts, RFacts, cellOnly, and_true, true_and, Nat.zero_add, Nat.reduceAdd] at hF); go_simp), hS.put (i := 2) rfl⟩) (fun w h => h.sub (by first | simp | ((try simp only [List.eraseIdx_cons_zero, List.eraseIdx_cons_succ]); (repeat (first | exact List.nil_sublist _ | exact List.Sublist.refl _ | with_reducible apply List.Sublist.cons₂ | apply List.Sublist.cons))))) ?_; (try simp only [List.set_cons_zero, List.set_cons_succ]); try simp only [Act.put, List.setIfInBounds_toArray, List.set_cons_zero, List.set_cons_succ])
      (refine BraidZ.next1 (i := 10) (by kernel_rfl) (by kernel_rfl) rfl ?_; (try simp only [List.getElem_toArray, List.getElem_cons_succ, List.getElem_cons_zero]))
      (refine ZStep.val (by (first | rfl | exact wanted_true rfl rfl rfl (by assumption))) (fun w h => h.sub (by first | simp | ((try simp only [List.eraseIdx_cons_zero, List.eraseIdx_cons_succ]); (repeat (first | exact List.nil_sublist _ | exact List.Sublist.refl _ | with_reducible apply List.Sublist.cons₂ | apply List.Sublist.cons))))) (by rintro w hS; ((try clear hF); (first | have hF := And.intro hS.facts (HRD.out _ (hS.sub (by first | simp | ((repeat (first | exact List.nil_sublist _ | exact List.Sublist.refl _ | with_reducible apply List.Sublist.cons₂ | apply List.Sublist.cons)))))) | have hF := And.intro hS.facts (hR.at hS.ext) | have hF := hS.facts); simp only [HFacts, cellFacts, RFacts, cellOnly, and_true, true_and, Nat.zero_add, Nat.reduceAdd] at hF); go_simp; with_reducible rfl) ?_; try simp only [Act.put, List.setIfInBounds_toArray, List.set_cons_zero, List.set_cons_succ])
      (refine BraidZ.next1 (i := 11) (by kernel_rfl) (by kernel_rfl) rfl ?_; (try simp only [List.getElem_toArray, List.getElem_cons_succ, List.getElem_cons_zero]))
      (refine ZStep.val (by (first | rfl | exact wanted_true rfl rfl rfl (by assumption))) (fun w h => h.sub (by first | simp | ((try simp only [List.eraseIdx_cons_zero, List.eraseIdx_cons_succ]); (repeat (first | exact List.nil_sublist _ | exact List.Sublist.refl _ | with_reducible apply List.Sublist.cons₂ | apply List.Sublist.cons))))) (by rintro w hS; ((try clear hF); (first | have hF := And.intro hS.facts (HRD.out _ (hS.sub (by first | simp | ((repeat (first | exact List.nil_sublist _ | exact List.Sublist.refl _ | with_reducible apply List.Sublist.cons₂ | apply List.Sublist.cons)))))) | have hF := And.intro hS.facts (hR.at hS.ext) | have hF := hS.facts); simp only [HFacts, cellFacts, RFacts, cellOnly, and_true, true_and, Nat.zero_add, Nat.reduceAdd] at hF); go_simp; with_reducible rfl) ?_; try simp only [Act.put, List.setIfInBounds_toArray, List.set_cons_zero, List.set_cons_succ])
      (refine BraidZ.next1 (i := 12) (by kernel_rfl) (by kernel_rfl) rfl ?_; (try simp only [List.getElem_toArray, List.getElem_cons_succ, List.getElem_cons_zero]))
      (refine ZStep.turnF (by (first | rfl | exact wanted_true rfl rfl rfl (by assumption))) (fun w hS => ⟨w.setCell ⟨gs, 2, none⟩ (.int .i64 a.next), .inl (by ((try clear hF); (first | have hF := And.intro hS.facts (HRD.out _ (hS.sub (by first | simp | ((repeat (first | exact List.nil_sublist _ | exact List.Sublist.refl _ | with_reducible apply List.Sublist.cons₂ | apply List.Sublist.cons)))))) | have hF := And.intro hS.facts (hR.at hS.ext) | have hF := hS.facts); simp only [HFacts, cellFacts, RFacts, cellOnly, and_true, true_and, Nat.zero_add, Nat.reduceAdd] at hF); go_simp), hS.put (i := 2) rfl⟩) (fun w h => h.sub (by first | simp | ((try simp only [List.eraseIdx_cons_zero, List.eraseIdx_cons_succ]); (repeat (first | exact List.nil_sublist _ | exact List.Sublist.refl _ | with_reducible apply List.Sublist.cons₂ | apply List.Sublist.cons))))) ?_; (try simp only [List.set_cons_zero, List.set_cons_succ]); try simp only [Act.put, List.setIfInBounds_toArray, List.set_cons_zero, List.set_cons_succ])
      (refine BraidZ.last (by kernel_rfl) ?_; (try clear hF); intro wk hS; ((try clear hF); (first | have hF := And.intro hS.facts (HRD.out _ (hS.sub (by first | simp | ((repeat (first | exact List.nil_sublist _ | exact List.Sublist.refl _ | with_reducible apply List.Sublist.cons₂ | apply List.Sublist.cons)))))) | have hF := And.intro hS.facts (hR.at hS.ext) | have hF := hS.facts); simp only [HFacts, cellFacts, RFacts, cellOnly, and_true, true_and, Nat.zero_add, Nat.reduceAdd] at hF))
      go_wp2_with fail
      go_ret
      exact ⟨rfl, fin _ _ _ hcp ((((hS.drop 1).front 0 rfl).front 2 rfl).front 2 rfl)⟩
end
end Go.Proofs.YtcpnnffnkegamaaGreatDoor

/- log.action: a file more. -/
namespace Go.Proofs.YtcpnnffnkegamaaGreatDoor
set_option linter.unusedSimpArgs false
set_option linter.unusedVariables false
open Go.RowKit
set_option linter.all false
section
variable {B : Nat} {w0 w : World} {K J : List Item}
set_option maxRecDepth 100000 in
set_option maxHeartbeats 8000000 in
theorem act_add (s : SN) (a : AN) (gs : Nat) (Ac Af Aq Ar : Option Addr) (nc cc nf cf nq cq nr cr : Nat) (evs : List EV) (hnf : evs.length = nf) (hnf2 : nf ≤ 1000) (HFS : Hid (FsOk B w0 J evs s.files)) (hAf : Af = none → cf = 0)
    (hnc : s.cols.length = nc) (hncc : nc ≤ cc) (HCO : Hid (∀ W, Hp B w0 W J → RC W Ac s.cols))
    (h1 : a.kind = 1) (hS : Hp B w0 w (snB gs s.ver Ac nc cc s.next Af nf cf :: eRow Af nf cf evs :: K)) :
    Calls Tryz.prog 23 #[.pointer (some ⟨gs, 0, none⟩), actV a Aq nq cq Ar nr cr] w fun e w' => e = .returned (.int .i64 (actE s a)) ∧ ActRes B w0 w' gs K J s a := by
  unfold snB eRow at hS
  have HIX := Lib.hid (fun (W : World) (g : Nat) (hr : RE W Af evs) h => aindex_any (cf := cf) s a hnf hnf2 HFS.out g hr h)
  have HLP := Lib.hid (fun (W : World) => lpath_any a.path W)
  have hfl : s.files.length = nf := by rw [← HFS.out.len]; exact hnf
  have HE := Lib.hid (show actE s a = if nameB a.path = false ∨ a.rows < 1 ∨ 60 < a.rows then 1 else if 0 ≤ idxP a.path 0 (s.files.map (·.path)) then 9 else if nc = 0 then 6 else if 40 ≤ nf then 12 else 0 by unfold actE; rw [if_neg (by omega), if_pos h1, hnc, hfl])
  have HS1 := Lib.hid (show actS s a = { s with files := s.files ++ [⟨a.path, a.rows, []⟩] } by unfold actS; rw [if_neg (by omega), if_pos h1])
  obtain ⟨ix, hix⟩ : ∃ x, x = idxP a.path 0 (s.files.map (·.path)) := ⟨_, rfl⟩
  rw [← hix] at HIX HE
  obtain ⟨nb, hnb⟩ : ∃ b, b = nameB a.path := ⟨_, rfl⟩
  rw [← hnb] at HLP HE
  clear hix hnb hfl
  have b4 : (a.kind == 4) = false := by simp [h1]
  have b1 : (a.kind == 1) = true := by simp [h1]
  cases nb with
  | false =>
    have HE1 := Lib.hid (show actE s a = 1 by rw [HE.out, if_pos (.inl rfl)])
    rw [HE1.out]
    clear HE
    ((try clear hF); (first | have hF := And.intro hS.facts (HRD.out _ (hS.sub (by first | simp | ((repeat (first | exact List.nil_sublist _ | exact List.Sublist.refl _ | with_reducible apply List.Sublist.cons₂ | apply List.Sublist.cons)))))) | have hF := And.intro hS.facts (hR.at hS.ext) | have hF := hS.facts); simp only [HFacts, cellFacts, RFacts, cellOnly, and_true, true_and, Nat.zero_add, Nat.reduceAdd] at hF)
    go_enter Tryz.func23, Tryz.ntmps23
    go_wp2_with (first | ((with_reducible first | refine nhLa ?_ | refine nhLs ?_ | refine nhLd ?_ | refine nhCa ?_ | refine nhCs ?_ | refine nhCd ?_ | refine nhPa ?_ | refine nhPs ?_ | refine nhPd ?_ | refine nhKa ?_ | refine nhKs ?_ | refine nhKd ?_); ((try clear hF); clear hS; intro wk hS; (try simp only [List.set_cons_zero, List.set_cons_succ, heap_size, heap_set_size] at hS); ((try clear hF); (first | have hF := And.intro hS.facts (HRD.out _ (hS.sub (by first | simp | ((repeat (first | exact List.nil_sublist _ | exact List.Sublist.refl _ | with_reducible apply List.Sublist.cons₂ | apply List.Sublist.cons)))))) | have hF := And.intro hS.facts (hR.at hS.ext) | have hF := hS.facts); simp only [HFacts, cellFacts, RFacts, cellOnly, and_true, true_and, Nat.zero_add, Nat.reduceAdd] at hF))) | (go_at_call 39; (with_reducible refine (HIX.out _ _ (hS.re 2 rfl) hF.1.2.1.1).mono ?_); rintro e wk ⟨rfl, hX⟩; replace hS := hS.step hX; clear hX; ((try clear hF); (first | have hF := And.intro hS.facts (HRD.out _ (hS.sub (by first | simp | ((repeat (first | exact List.nil_sublist _ | exact List.Sublist.refl _ | with_reducible apply List.Sublist.cons₂ | apply List.Sublist.cons)))))) | have hF := And.intro hS.facts (hR.at hS.ext) | have hF := hS.facts); simp only [HFacts, cellFacts, RFacts, cellOnly, and_true, true_and, Nat.zero_add, Nat.reduceAdd] at hF)) | (go_at_call 31; (with_reducible refine (HLP.out _).mono ?_); rintro e wk ⟨rfl, hX⟩; replace hS := hS.step hX; clear hX; ((try clear hF); (first | have hF := And.intro hS.facts (HRD.out _ (hS.sub (by first | simp | ((repeat (first | exact List.nil_sublist _ | exact List.Sublist.refl _ | with_reducible apply List.Sublist.cons₂ | apply List.Sublist.cons)))))) | have hF := And.intro hS.facts (hR.at hS.ext) | have hF := hS.facts); simp only [HFacts, cellFacts, RFacts, cellOnly, and_true, true_and, Nat.zero_add, Nat.reduceAdd] at hF)))
    go_ret
    exact ⟨rfl, ActRes.bad HE1.out (by decide) (hS.sub (by first | simp | ((try simp only [List.eraseIdx_cons_zero, List.eraseIdx_cons_succ]); (repeat (first | exact List.nil_sublist _ | exact List.Sublist.refl _ | with_reducible apply List.Sublist.cons₂ | apply List.Sublist.cons)))))⟩
  | true =>
    by_cases r1 : a.rows < 1
    · have HE1 := Lib.hid (show actE s a = 1 by rw [HE.out, if_pos (.inr (.inl r1))])
      rw [HE1.out]
      clear HE
      ((try clear hF); (first | have hF := And.intro hS.facts (HRD.out _ (hS.sub (by first | simp | ((repeat (first | exact List.nil_sublist _ | exact List.Sublist.refl _ | with_reducible apply List.Sublist.cons₂ | apply List.Sublist.cons)))))) | have hF := And.intro hS.facts (hR.at hS.ext) | have hF := hS.facts); simp only [HFacts, cellFacts, RFacts, cellOnly, and_true, true_and, Nat.zero_add, Nat.reduceAdd] at hF)
      go_enter Tryz.func23, Tryz.ntmps23
      go_wp2_with (first | ((with_reducible first | refine nhLa ?_ | refine nhLs ?_ | refine nhLd ?_ | refine nhCa ?_ | refine nhCs ?_ | refine nhCd ?_ | refine nhPa ?_ | refine nhPs ?_ | refine nhPd ?_ | refine nhKa ?_ | refine nhKs ?_ | refine nhKd ?_); ((try clear hF); clear hS; intro wk hS; (try simp only [List.set_cons_zero, List.set_cons_succ, heap_size, heap_set_size] at hS); ((try clear hF); (first | have hF := And.intro hS.facts (HRD.out _ (hS.sub (by first | simp | ((repeat (first | exact List.nil_sublist _ | exact List.Sublist.refl _ | with_reducible apply List.Sublist.cons₂ | apply List.Sublist.cons)))))) | have hF := And.intro hS.facts (hR.at hS.ext) | have hF := hS.facts); simp only [HFacts, cellFacts, RFacts, cellOnly, and_true, true_and, Nat.zero_add, Nat.reduceAdd] at hF))) | (go_at_call 39; (with_reducible refine (HIX.out _ _ (hS.re 2 rfl) hF.1.2.1.1).mono ?_); rintro e wk ⟨rfl, hX⟩; replace hS := hS.step hX; clear hX; ((try clear hF); (first | have hF := And.intro hS.facts (HRD.out _ (hS.sub (by first | simp | ((repeat (first | exact List.nil_sublist _ | exact List.Sublist.refl _ | with_reducible apply List.Sublist.cons₂ | apply List.Sublist.cons)))))) | have hF := And.intro hS.facts (hR.at hS.ext) | have hF := hS.facts); simp only [HFacts, cellFacts, RFacts, cellOnly, and_true, true_and, Nat.zero_add, Nat.reduceAdd] at hF)) | (go_at_call 31; (with_reducible refine (HLP.out _).mono ?_); rintro e wk ⟨rfl, hX⟩; replace hS := hS.step hX; clear hX; ((try clear hF); (first | have hF := And.intro hS.facts (HRD.out _ (hS.sub (by first | simp | ((repeat (first | exact List.nil_sublist _ | exact List.Sublist.refl _ | with_reducible apply List.Sublist.cons₂ | apply List.Sublist.cons)))))) | have hF := And.intro hS.facts (hR.at hS.ext) | have hF := hS.facts); simp only [HFacts, cellFacts, RFacts, cellOnly, and_true, true_and, Nat.zero_add, Nat.reduceAdd] at hF)))
      go_ret
      exact ⟨rfl, ActRes.bad HE1.out (by decide) (hS.sub (by first | simp | ((try simp only [List.eraseIdx_cons_zero, List.eraseIdx_cons_succ]); (repeat (first | exact List.nil_sublist _ | exact List.Sublist.refl _ | with_reducible apply List.Sublist.cons₂ | apply List.Sublist.cons)))))⟩
    by_cases r2 : 60 < a.rows
    · have HE1 := Lib.hid (show actE s a = 1 by rw [HE.out, if_pos (.inr (.inr r2))])
      rw [HE1.out]
      clear HE
      ((try clear hF); (first | have hF := And.intro hS.facts (HRD.out _ (hS.sub (by first | simp | ((repeat (first | exact List.nil_sublist _ | exact List.Sublist.refl _ | with_reducible apply List.Sublist.cons₂ | apply List.Sublist.cons)))))) | have hF := And.intro hS.facts (hR.at hS.ext) | have hF := hS.facts); simp only [HFacts, cellFacts, RFacts, cellOnly, and_true, true_and, Nat.zero_add, Nat.reduceAdd] at hF)
      go_enter Tryz.func23, Tryz.ntmps23
      go_wp2_with (first | ((with_reducible first | refine nhLa ?_ | refine nhLs ?_ | refine nhLd ?_ | refine nhCa ?_ | refine nhCs ?_ | refine nhCd ?_ | refine nhPa ?_ | refine nhPs ?_ | refine nhPd ?_ | refine nhKa ?_ | refine nhKs ?_ | refine nhKd ?_); ((try clear hF); clear hS; intro wk hS; (try simp only [List.set_cons_zero, List.set_cons_succ, heap_size, heap_set_size] at hS); ((try clear hF); (first | have hF := And.intro hS.facts (HRD.out _ (hS.sub (by first | simp | ((repeat (first | exact List.nil_sublist _ | exact List.Sublist.refl _ | with_reducible apply List.Sublist.cons₂ | apply List.Sublist.cons)))))) | have hF := And.intro hS.facts (hR.at hS.ext) | have hF := hS.facts); simp only [HFacts, cellFacts, RFacts, cellOnly, and_true, true_and, Nat.zero_add, Nat.reduceAdd] at hF))) | (go_at_call 39; (with_reducible refine (HIX.out _ _ (hS.re 2 rfl) hF.1.2.1.1).mono ?_); rintro e wk ⟨rfl, hX⟩; replace hS := hS.step hX; clear hX; ((try clear hF); (first | have hF := And.intro hS.facts (HRD.out _ (hS.sub (by first | simp | ((repeat (first | exact List.nil_sublist _ | exact List.Sublist.refl _ | with_reducible apply List.Sublist.cons₂ | apply List.Sublist.cons)))))) | have hF := And.intro hS.facts (hR.at hS.ext) | have hF := hS.facts); simp only [HFacts, cellFacts, RFacts, cellOnly, and_true, true_and, Nat.zero_add, Nat.reduceAdd] at hF)) | (go_at_call 31; (with_reducible refine (HLP.out _).mono ?_); rintro e wk ⟨rfl, hX⟩; replace hS := hS.step hX; clear hX; ((try clear hF); (first | have hF := And.intro hS.facts (HRD.out _ (hS.sub (by first | simp | ((repeat (first | exact List.nil_sublist _ | exact List.Sublist.refl _ | with_reducible apply List.Sublist.cons₂ | apply List.Sublist.cons)))))) | have hF := And.intro hS.facts (hR.at hS.ext) | have hF := hS.facts); simp only [HFacts, cellFacts, RFacts, cellOnly, and_true, true_and, Nat.zero_add, Nat.reduceAdd] at hF)))
      go_ret
      exact ⟨rfl, ActRes.bad HE1.out (by decide) (hS.sub (by first | simp | ((try simp only [List.eraseIdx_cons_zero, List.eraseIdx_cons_succ]); (repeat (first | exact List.nil_sublist _ | exact List.Sublist.refl _ | with_reducible apply List.Sublist.cons₂ | apply List.Sublist.cons)))))⟩
    have HE2 := Lib.hid (show actE s a = if 0 ≤ ix then 9 else if nc = 0 then 6 else if 40 ≤ nf then 12 else 0 by rw [HE.out, if_neg (by simp; omega)])
    clear HE
    by_cases i0 : 0 ≤ ix
    · have HE1 := Lib.hid (show actE s a = 9 by rw [HE2.out, if_pos i0])
      rw [HE1.out]
      clear HE2
      ((try clear hF); (first | have hF := And.intro hS.facts (HRD.out _ (hS.sub (by first | simp | ((repeat (first | exact List.nil_sublist _ | exact List.Sublist.refl _ | with_reducible apply List.Sublist.cons₂ | apply List.Sublist.cons)))))) | have hF := And.intro hS.facts (hR.at hS.ext) | have hF := hS.facts); simp only [HFacts, cellFacts, RFacts, cellOnly, and_true, true_and, Nat.zero_add, Nat.reduceAdd] at hF)
      go_enter Tryz.func23, Tryz.ntmps23
      go_wp2_with (first | ((with_reducible first | refine nhLa ?_ | refine nhLs ?_ | refine nhLd ?_ | refine nhCa ?_ | refine nhCs ?_ | refine nhCd ?_ | refine nhPa ?_ | refine nhPs ?_ | refine nhPd ?_ | refine nhKa ?_ | refine nhKs ?_ | refine nhKd ?_); ((try clear hF); clear hS; intro wk hS; (try simp only [List.set_cons_zero, List.set_cons_succ, heap_size, heap_set_size] at hS); ((try clear hF); (first | have hF := And.intro hS.facts (HRD.out _ (hS.sub (by first | simp | ((repeat (first | exact List.nil_sublist _ | exact List.Sublist.refl _ | with_reducible apply List.Sublist.cons₂ | apply List.Sublist.cons)))))) | have hF := And.intro hS.facts (hR.at hS.ext) | have hF := hS.facts); simp only [HFacts, cellFacts, RFacts, cellOnly, and_true, true_and, Nat.zero_add, Nat.reduceAdd] at hF))) | (go_at_call 39; (with_reducible refine (HIX.out _ _ (hS.re 2 rfl) hF.1.2.1.1).mono ?_); rintro e wk ⟨rfl, hX⟩; replace hS := hS.step hX; clear hX; ((try clear hF); (first | have hF := And.intro hS.facts (HRD.out _ (hS.sub (by first | simp | ((repeat (first | exact List.nil_sublist _ | exact List.Sublist.refl _ | with_reducible apply List.Sublist.cons₂ | apply List.Sublist.cons)))))) | have hF := And.intro hS.facts (hR.at hS.ext) | have hF := hS.facts); simp only [HFacts, cellFacts, RFacts, cellOnly, and_true, true_and, Nat.zero_add, Nat.reduceAdd] at hF)) | (go_at_call 31; (with_reducible refine (HLP.out _).mono ?_); rintro e wk ⟨rfl, hX⟩; replace hS := hS.step hX; clear hX; ((try clear hF); (first | have hF := And.intro hS.facts (HRD.out _ (hS.sub (by first | simp | ((repeat (first | exact List.nil_sublist _ | exact List.Sublist.refl _ | with_reducible apply List.Sublist.cons₂ | apply List.Sublist.cons)))))) | have hF := And.intro hS.facts (hR.at hS.ext) | have hF := hS.facts); simp only [HFacts, cellFacts, RFacts, cellOnly, and_true, true_and, Nat.zero_add, Nat.reduceAdd] at hF)))
      go_ret
      exact ⟨rfl, ActRes.bad HE1.out (by decide) (hS.sub (by first | simp | ((try simp only [List.eraseIdx_cons_zero, List.eraseIdx_cons_succ]); (repeat (first | exact List.nil_sublist _ | exact List.Sublist.refl _ | with_reducible apply List.Sublist.cons₂ | apply List.Sublist.cons)))))⟩
    by_cases c0 : nc = 0
    · have HE1 := Lib.hid (show actE s a = 6 by rw [HE2.out, if_neg i0, if_pos c0])
      rw [HE1.out]
      have c1 : ((nc : Int) == 0) = true := by subst c0; rfl
      clear HE2 c0
      ((try clear hF); (first | have hF := And.intro hS.facts (HRD.out _ (hS.sub (by first | simp | ((repeat (first | exact List.nil_sublist _ | exact List.Sublist.refl _ | with_reducible apply List.Sublist.cons₂ | apply List.Sublist.cons)))))) | have hF := And.intro hS.facts (hR.at hS.ext) | have hF := hS.facts); simp only [HFacts, cellFacts, RFacts, cellOnly, and_true, true_and, Nat.zero_add, Nat.reduceAdd] at hF)
      go_enter Tryz.func23, Tryz.ntmps23
      go_wp2_with (first | ((with_reducible first | refine nhLa ?_ | refine nhLs ?_ | refine nhLd ?_ | refine nhCa ?_ | refine nhCs ?_ | refine nhCd ?_ | refine nhPa ?_ | refine nhPs ?_ | refine nhPd ?_ | refine nhKa ?_ | refine nhKs ?_ | refine nhKd ?_); ((try clear hF); clear hS; intro wk hS; (try simp only [List.set_cons_zero, List.set_cons_succ, heap_size, heap_set_size] at hS); ((try clear hF); (first | have hF := And.intro hS.facts (HRD.out _ (hS.sub (by first | simp | ((repeat (first | exact List.nil_sublist _ | exact List.Sublist.refl _ | with_reducible apply List.Sublist.cons₂ | apply List.Sublist.cons)))))) | have hF := And.intro hS.facts (hR.at hS.ext) | have hF := hS.facts); simp only [HFacts, cellFacts, RFacts, cellOnly, and_true, true_and, Nat.zero_add, Nat.reduceAdd] at hF))) | (go_at_call 39; (with_reducible refine (HIX.out _ _ (hS.re 2 rfl) hF.1.2.1.1).mono ?_); rintro e wk ⟨rfl, hX⟩; replace hS := hS.step hX; clear hX; ((try clear hF); (first | have hF := And.intro hS.facts (HRD.out _ (hS.sub (by first | simp | ((repeat (first | exact List.nil_sublist _ | exact List.Sublist.refl _ | with_reducible apply List.Sublist.cons₂ | apply List.Sublist.cons)))))) | have hF := And.intro hS.facts (hR.at hS.ext) | have hF := hS.facts); simp only [HFacts, cellFacts, RFacts, cellOnly, and_true, true_and, Nat.zero_add, Nat.reduceAdd] at hF)) | (go_at_call 31; (with_reducible refine (HLP.out _).mono ?_); rintro e wk ⟨rfl, hX⟩; replace hS := hS.step hX; clear hX; ((try clear hF); (first | have hF := And.intro hS.facts (HRD.out _ (hS.sub (by first | simp | ((repeat (first | exact List.nil_sublist _ | exact List.Sublist.refl _ | with_reducible apply List.Sublist.cons₂ | apply List.Sublist.cons)))))) | have hF := And.intro hS.facts (hR.at hS.ext) | have hF := hS.facts); simp only [HFacts, cellFacts, RFacts, cellOnly, and_true, true_and, Nat.zero_add, Nat.reduceAdd] at hF)))
      go_ret
      exact ⟨rfl, ActRes.bad HE1.out (by decide) (hS.sub (by first | simp | ((try simp only [List.eraseIdx_cons_zero, List.eraseIdx_cons_succ]); (repeat (first | exact List.nil_sublist _ | exact List.Sublist.refl _ | with_reducible apply List.Sublist.cons₂ | apply List.Sublist.cons)))))⟩
    have c1 : ((nc : Int) == 0) = false := by simp [c0]
    by_cases f0 : 40 ≤ nf
    · have HE1 := Lib.hid (show actE s a = 12 by rw [HE2.out, if_neg i0, if_neg c0, if_pos f0])
      rw [HE1.out]
      have f1 : (40 : Int) ≤ (nf : Int) := by omega
      clear HE2 c0
      ((try clear hF); (first | have hF := And.intro hS.facts (HRD.out _ (hS.sub (by first | simp | ((repeat (first | exact List.nil_sublist _ | exact List.Sublist.refl _ | with_reducible apply List.Sublist.cons₂ | apply List.Sublist.cons)))))) | have hF := And.intro hS.facts (hR.at hS.ext) | have hF := hS.facts); simp only [HFacts, cellFacts, RFacts, cellOnly, and_true, true_and, Nat.zero_add, Nat.reduceAdd] at hF)
      go_enter Tryz.func23, Tryz.ntmps23
      go_wp2_with (first | ((with_reducible first | refine nhLa ?_ | refine nhLs ?_ | refine nhLd ?_ | refine nhCa ?_ | refine nhCs ?_ | refine nhCd ?_ | refine nhPa ?_ | refine nhPs ?_ | refine nhPd ?_ | refine nhKa ?_ | refine nhKs ?_ | refine nhKd ?_); ((try clear hF); clear hS; intro wk hS; (try simp only [List.set_cons_zero, List.set_cons_succ, heap_size, heap_set_size] at hS); ((try clear hF); (first | have hF := And.intro hS.facts (HRD.out _ (hS.sub (by first | simp | ((repeat (first | exact List.nil_sublist _ | exact List.Sublist.refl _ | with_reducible apply List.Sublist.cons₂ | apply List.Sublist.cons)))))) | have hF := And.intro hS.facts (hR.at hS.ext) | have hF := hS.facts); simp only [HFacts, cellFacts, RFacts, cellOnly, and_true, true_and, Nat.zero_add, Nat.reduceAdd] at hF))) | (go_at_call 39; (with_reducible refine (HIX.out _ _ (hS.re 2 rfl) hF.1.2.1.1).mono ?_); rintro e wk ⟨rfl, hX⟩; replace hS := hS.step hX; clear hX; ((try clear hF); (first | have hF := And.intro hS.facts (HRD.out _ (hS.sub (by first | simp | ((repeat (first | exact List.nil_sublist _ | exact List.Sublist.refl _ | with_reducible apply List.Sublist.cons₂ | apply List.Sublist.cons)))))) | have hF := And.intro hS.facts (hR.at hS.ext) | have hF := hS.facts); simp only [HFacts, cellFacts, RFacts, cellOnly, and_true, true_and, Nat.zero_add, Nat.reduceAdd] at hF)) | (go_at_call 31; (with_reducible refine (HLP.out _).mono ?_); rintro e wk ⟨rfl, hX⟩; replace hS := hS.step hX; clear hX; ((try clear hF); (first | have hF := And.intro hS.facts (HRD.out _ (hS.sub (by first | simp | ((repeat (first | exact List.nil_sublist _ | exact List.Sublist.refl _ | with_reducible apply List.Sublist.cons₂ | apply List.Sublist.cons)))))) | have hF := And.intro hS.facts (hR.at hS.ext) | have hF := hS.facts); simp only [HFacts, cellFacts, RFacts, cellOnly, and_true, true_and, Nat.zero_add, Nat.reduceAdd] at hF)))
      go_ret
      exact ⟨rfl, ActRes.bad HE1.out (by decide) (hS.sub (by first | simp | ((try simp only [List.eraseIdx_cons_zero, List.eraseIdx_cons_succ]); (repeat (first | exact List.nil_sublist _ | exact List.Sublist.refl _ | with_reducible apply List.Sublist.cons₂ | apply List.Sublist.cons)))))⟩
    have f1 : ¬ (40 : Int) ≤ (nf : Int) := by omega
    have HE1 := Lib.hid (show actE s a = 0 by rw [HE2.out, if_neg i0, if_neg c0, if_neg f0])
    rw [HE1.out]
    have fin : ∀ (Ab : Option Addr) (cab : Nat) (W : World), Hp B w0 W (.blk gs [.int .i64 s.ver, .slice Ac nc cc, .int .i64 s.next, .slice Ab (nf + 1) cab] 27 :: .row 43 3 Ab (nf + 1) cab (cellsE evs ++ [.string a.path, .int .i64 a.rows, .slice none 0 0]) :: K) → ActRes B w0 W gs K J s a := fun Ab cab W hW => ActRes.good HE1.out (by
      rw [HS1.out]
      refine ⟨Ac, nc, cc, Ab, nf + 1, cab, evs ++ [⟨a.path, a.rows, none, 0, 0⟩], [], ?_, HFS.out.push ⟨rfl, rfl, rfl, fun _ => rfl, fun W' h i x hi => by simp at hi⟩, hnc, hncc, by rw [List.length_append, hnf]; rfl, fun h => by subst h; exact (hW.rowNil 1 rfl).2.1, HCO.out⟩
      unfold snB eRow
      rw [cellsE_append]
      exact hW)
    have FIN := Lib.hid fin
    clear fin HE2 c0 f0
    have fin := FIN.out
    ((try clear hF); (first | have hF := And.intro hS.facts (HRD.out _ (hS.sub (by first | simp | ((repeat (first | exact List.nil_sublist _ | exact List.Sublist.refl _ | with_reducible apply List.Sublist.cons₂ | apply List.Sublist.cons)))))) | have hF := And.intro hS.facts (hR.at hS.ext) | have hF := hS.facts); simp only [HFacts, cellFacts, RFacts, cellOnly, and_true, true_and, Nat.zero_add, Nat.reduceAdd] at hF)
    go_enter Tryz.func23, Tryz.ntmps23
    go_upto_region 17 with (first | ((with_reducible first | refine nhLa ?_ | refine nhLs ?_ | refine nhLd ?_ | refine nhCa ?_ | refine nhCs ?_ | refine nhCd ?_ | refine nhPa ?_ | refine nhPs ?_ | refine nhPd ?_ | refine nhKa ?_ | refine nhKs ?_ | refine nhKd ?_); ((try clear hF); clear hS; intro wk hS; (try simp only [List.set_cons_zero, List.set_cons_succ, heap_size, heap_set_size] at hS); ((try clear hF); (first | have hF := And.intro hS.facts (HRD.out _ (hS.sub (by first | simp | ((repeat (first | exact List.nil_sublist _ | exact List.Sublist.refl _ | with_reducible apply List.Sublist.cons₂ | apply List.Sublist.cons)))))) | have hF := And.intro hS.facts (hR.at hS.ext) | have hF := hS.facts); simp only [HFacts, cellFacts, RFacts, cellOnly, and_true, true_and, Nat.zero_add, Nat.reduceAdd] at hF))) | (go_at_call 39; (with_reducible refine (HIX.out _ _ (hS.re 2 rfl) hF.1.2.1.1).mono ?_); rintro e wk ⟨rfl, hX⟩; replace hS := hS.step hX; clear hX; ((try clear hF); (first | have hF := And.intro hS.facts (HRD.out _ (hS.sub (by first | simp | ((repeat (first | exact List.nil_sublist _ | exact List.Sublist.refl _ | with_reducible apply List.Sublist.cons₂ | apply List.Sublist.cons)))))) | have hF := And.intro hS.facts (hR.at hS.ext) | have hF := hS.facts); simp only [HFacts, cellFacts, RFacts, cellOnly, and_true, true_and, Nat.zero_add, Nat.reduceAdd] at hF)) | (go_at_call 31; (with_reducible refine (HLP.out _).mono ?_); rintro e wk ⟨rfl, hX⟩; replace hS := hS.step hX; clear hX; ((try clear hF); (first | have hF := And.intro hS.facts (HRD.out _ (hS.sub (by first | simp | ((repeat (first | exact List.nil_sublist _ | exact List.Sublist.refl _ | with_reducible apply List.Sublist.cons₂ | apply List.Sublist.cons)))))) | have hF := And.intro hS.facts (hR.at hS.ext) | have hF := hS.facts); simp only [HFacts, cellFacts, RFacts, cellOnly, and_true, true_and, Nat.zero_add, Nat.reduceAdd] at hF)))
    ((with_reducible refine wp_region_braidz_hp [.q, .q, .q, .q, .q, .q, .q, .q, .q, .q, .t, .t, .t, .t, .t] 14 [.blk w.heap.size [.int .i64 1, .string a.path, .int .i64 a.rows, .slice Aq nq cq, .slice Ar nr cr, .int .i64 a.next] 63, .blk gs [.int .i64 s.ver, .slice Ac nc cc, .int .i64 s.next, .slice Af nf cf] 27] (by kernel_rfl) rfl (by kernel_rfl) hS (fun w h => h.sub (by simp)) ?_); clear hS; (repeat ((with_reducible refine Walk.here ?_); (first | ((with_reducible apply Walk.skipQ); (first | rfl | exact wanted_false rfl rfl rfl (by assumption)); (try simp only [Mark.isQ, if_true, Bool.false_eq_true, if_false, Act.put, List.setIfInBounds_toArray, List.set_cons_zero, List.set_cons_succ])) | ((with_reducible apply Walk.val); (first | rfl | exact wanted_true rfl rfl rfl (by assumption)); (rintro w hS; ((try clear hF); (first | have hF := And.intro hS.facts (HRD.out _ (hS.sub (by first | simp | ((repeat (first | exact List.nil_sublist _ | exact List.Sublist.refl _ | with_reducible apply List.Sublist.cons₂ | apply List.Sublist.cons)))))) | have hF := And.intro hS.facts (hR.at hS.ext) | have hF := hS.facts); simp only [HFacts, cellFacts, RFacts, cellOnly, and_true, true_and, Nat.zero_add, Nat.reduceAdd] at hF); go_simp; first | with_reducible rfl | (rw [if_neg (by first | omega | (simp only [ByteArray.size_append]; omega) | (simp [ByteArray.size_append]; omega))]; try with_reducible rfl)); (try simp only [Mark.isQ, if_true, Bool.false_eq_true, if_false, Act.put, List.setIfInBounds_toArray, List.set_cons_zero, List.set_cons_succ])) | ((with_reducible apply Walk.tail); (try simp only [Mark.isQ, if_true, Bool.false_eq_true, if_false, Act.put, List.setIfInBounds_toArray, List.set_cons_zero, List.set_cons_succ])) | ((with_reducible apply Walk.guardT); rfl; rfl; rfl; (all_goals intro hg)) | ((with_reducible apply Walk.guardF); rfl; rfl; rfl; (all_goals intro hg))))); refine Walk.done ?_; show BraidZ _ _ _ _ 14 5 [10, 11, 12, 13, 14] _ _)
    (refine BraidZ.next1 (i := 10) (by kernel_rfl) (by kernel_rfl) rfl ?_; (try simp only [List.getElem_toArray, List.getElem_cons_succ, List.getElem_cons_zero]))
    (refine ZStep.alloc (cs := [.string a.path, .int .i64 a.rows, .slice none 0 0]) (t := 43) (f := fun g => .slice (some ⟨g, 0, none⟩) 1 1) (by (first | rfl | exact wanted_true rfl rfl rfl (by assumption))) (fun w h => h.sub (by first | simp | ((try simp only [List.eraseIdx_cons_zero, List.eraseIdx_cons_succ]); (repeat (first | exact List.nil_sublist _ | exact List.Sublist.refl _ | with_reducible apply List.Sublist.cons₂ | apply List.Sublist.cons))))) (fun w hS => by ((try clear hF); (first | have hF := And.intro hS.facts (HRD.out _ (hS.sub (by first | simp | ((repeat (first | exact List.nil_sublist _ | exact List.Sublist.refl _ | with_reducible apply List.Sublist.cons₂ | apply List.Sublist.cons)))))) | have hF := And.intro hS.facts (hR.at hS.ext) | have hF := hS.facts); simp only [HFacts, cellFacts, RFacts, cellOnly, and_true, true_and, Nat.zero_add, Nat.reduceAdd] at hF); go_simp) (fun ge => ?_); try simp only [Act.put, List.setIfInBounds_toArray, List.set_cons_zero, List.set_cons_succ])
    (refine BraidZ.next1 (i := 11) (by kernel_rfl) (by kernel_rfl) rfl ?_; (try simp only [List.getElem_toArray, List.getElem_cons_succ, List.getElem_cons_zero]))
    (refine ZStep.append Tryz.elem_ents (by (first | rfl | exact wanted_true rfl rfl rfl (by assumption))) (.tmp 80) (.tmp 86) rfl 3 rfl (by (try simp only [List.eraseIdx_cons_zero, List.eraseIdx_cons_succ]); rfl) rfl ⟨ge, 0, none⟩ rfl rfl (fun w hS jj u hu => World.news_of_block (hS.blkAt 0 rfl) jj u (by simpa using hu)) (by simp [Value.oneCell']) (by omega) (by omega) (fun w h => h.sub (by first | simp | ((try simp only [List.eraseIdx_cons_zero, List.eraseIdx_cons_succ]); (repeat (first | exact List.nil_sublist _ | exact List.Sublist.refl _ | with_reducible apply List.Sublist.cons₂ | apply List.Sublist.cons))))) (fun Ab cab => ?_); try simp only [Act.put, List.setIfInBounds_toArray, List.set_cons_zero, List.set_cons_succ])
    (refine BraidZ.next1 (i := 12) (by kernel_rfl) (by kernel_rfl) rfl ?_; (try simp only [List.getElem_toArray, List.getElem_cons_succ, List.getElem_cons_zero]))
    (refine ZStep.val (by (first | rfl | exact wanted_true rfl rfl rfl (by assumption))) (fun w h => h.sub (by first | simp | ((try simp only [List.eraseIdx_cons_zero, List.eraseIdx_cons_succ]); (repeat (first | exact List.nil_sublist _ | exact List.Sublist.refl _ | with_reducible apply List.Sublist.cons₂ | apply List.Sublist.cons))))) (by rintro w hS; ((try clear hF); (first | have hF := And.intro hS.facts (HRD.out _ (hS.sub (by first | simp | ((repeat (first | exact List.nil_sublist _ | exact List.Sublist.refl _ | with_reducible apply List.Sublist.cons₂ | apply List.Sublist.cons)))))) | have hF := And.intro hS.facts (hR.at hS.ext) | have hF := hS.facts); simp only [HFacts, cellFacts, RFacts, cellOnly, and_true, true_and, Nat.zero_add, Nat.reduceAdd] at hF); go_simp; with_reducible rfl) ?_; try simp only [Act.put, List.setIfInBounds_toArray, List.set_cons_zero, List.set_cons_succ])
    (refine BraidZ.next1 (i := 13) (by kernel_rfl) (by kernel_rfl) rfl ?_; (try simp only [List.getElem_toArray, List.getElem_cons_succ, List.getElem_cons_zero]))
    (refine ZStep.val (by (first | rfl | exact wanted_true rfl rfl rfl (by assumption))) (fun w h => h.sub (by first | simp | ((try simp only [List.eraseIdx_cons_zero, List.eraseIdx_cons_succ]); (repeat (first | exact List.nil_sublist _ | exact List.Sublist.refl _ | with_reducible apply List.Sublist.cons₂ | apply List.Sublist.cons))))) (by rintro w hS; ((try clear hF); (first | have hF := And.intro hS.facts (HRD.out _ (hS.sub (by first | simp | ((repeat (first | exact List.nil_sublist _ | exact List.Sublist.refl _ | with_reducible apply List.Sublist.cons₂ | apply List.Sublist.cons)))))) | have hF := And.intro hS.facts (hR.at hS.ext) | have hF := hS.facts); simp only [HFacts, cellFacts, RFacts, cellOnly, and_true, true_and, Nat.zero_add, Nat.reduceAdd] at hF); go_simp; with_reducible rfl) ?_; try simp only [Act.put, List.setIfInBounds_toArray, List.set_cons_zero, List.set_cons_succ])
    (refine BraidZ.next1 (i := 14) (by kernel_rfl) (by kernel_rfl) rfl ?_; (try simp only [List.getElem_toArray, List.getElem_cons_succ, List.getElem_cons_zero]))
    (show ZStep _ _ _ true _ _ _ _; refine ZStep.turn (by (first | rfl | exact wanted_true rfl rfl rfl (by assumption))) (fun w hS => ⟨w.setCell ⟨gs, 3, none⟩ (.slice Ab (nf + 1 : Nat) cab), .inl (by ((try clear hF); (first | have hF := And.intro hS.facts (HRD.out _ (hS.sub (by first | simp | ((repeat (first | exact List.nil_sublist _ | exact List.Sublist.refl _ | with_reducible apply List.Sublist.cons₂ | apply List.Sublist.cons)))))) | have hF := And.intro hS.facts (hR.at hS.ext) | have hF := hS.facts); simp only [HFacts, cellFacts, RFacts, cellOnly, and_true, true_and, Nat.zero_add, Nat.reduceAdd] at hF); go_simp), hS.put (i := 3) rfl⟩) ?_; try simp only [Act.put, List.setIfInBounds_toArray, List.set_cons_zero, List.set_cons_succ])
    (refine BraidZ.last (by kernel_rfl) ?_; (try clear hF); intro wk hS; ((try clear hF); (first | have hF := And.intro hS.facts (HRD.out _ (hS.sub (by first | simp | ((repeat (first | exact List.nil_sublist _ | exact List.Sublist.refl _ | with_reducible apply List.Sublist.cons₂ | apply List.Sublist.cons)))))) | have hF := And.intro hS.facts (hR.at hS.ext) | have hF := hS.facts); simp only [HFacts, cellFacts, RFacts, cellOnly, and_true, true_and, Nat.zero_add, Nat.reduceAdd] at hF))
    go_wp2_with fail
    go_ret
    exact ⟨rfl, fin _ _ _ ((((hS.drop 1).drop 1).front 0 rfl).front 1 rfl)⟩
end
end Go.Proofs.YtcpnnffnkegamaaGreatDoor

/- log.action: a file that goes, rows that are masked; all kinds. -/
namespace Go.Proofs.YtcpnnffnkegamaaGreatDoor
set_option linter.unusedSimpArgs false
set_option linter.unusedVariables false
open Go.RowKit
set_option linter.all false
theorem Hp.addrR {B : Nat} {w0 w : World} {L : List Item} {e : TypeId} {size n cap : Nat} {A : Option Addr} {xs : List Value} (h : Hp B w0 w L) (i : Nat) (hi : L[i]? = some (.row e size A n cap xs)) (hn : 0 < n) : ∃ g, A = some ⟨g, 0, none⟩ ∧ n ≤ cap ∧ cap ≤ 9223372036854775807 := by
  have ho : w.ownsRow B e size (.slice A n cap) n xs := h.own _ (List.mem_of_getElem? hi)
  rcases ho.2 with ⟨hv, h0⟩ | ⟨g, cp, cur, hv, _, _, h1, h2, _⟩
  · omega
  · obtain ⟨rfl, _, rfl⟩ : A = some ⟨g, 0, none⟩ ∧ n = n ∧ cap = cp := by simpa using hv
    exact ⟨g, rfl, h1, by unfold maxLen at h2; omega⟩
section
variable {B : Nat} {w0 w : World} {K J : List Item}
set_option maxRecDepth 100000 in
set_option maxHeartbeats 8000000 in
theorem act_remove (s : SN) (a : AN) (gs : Nat) (Ac Af Aq Ar : Option Addr) (nc cc nf cf nq cq nr cr : Nat) (evs : List EV) (hnf : evs.length = nf) (hnf2 : nf ≤ 1000) (HFS : Hid (FsOk B w0 J evs s.files)) (hAf : Af = none → cf = 0)
    (hnc : s.cols.length = nc) (hncc : nc ≤ cc) (HCO : Hid (∀ W, Hp B w0 W J → RC W Ac s.cols))
    (h2 : a.kind = 2) (hS : Hp B w0 w (snB gs s.ver Ac nc cc s.next Af nf cf :: eRow Af nf cf evs :: K)) :
    Calls Tryz.prog 23 #[.pointer (some ⟨gs, 0, none⟩), actV a Aq nq cq Ar nr cr] w fun e w' => e = .returned (.int .i64 (actE s a)) ∧ ActRes B w0 w' gs K J s a := by
  unfold snB eRow at hS
  have HIX := Lib.hid (fun (W : World) (g : Nat) (hr : RE W Af evs) h => aindex_any (cf := cf) s a hnf hnf2 HFS.out g hr h)
  have hrg := idxE_range (fun v => pathEq a.path v.path) evs 0
  rw [idxE_P, HFS.out.paths] at hrg
  have HE := Lib.hid (show actE s a = if idxP a.path 0 (s.files.map (·.path)) < 0 then 7 else 0 by unfold actE; rw [if_neg (by omega), if_neg (by omega), if_pos (.inl h2), if_pos h2])
  have HS1 := Lib.hid (show actS s a = { s with files := s.files.eraseIdx (idxP a.path 0 (s.files.map (·.path))).toNat } by unfold actS; rw [if_neg (by omega), if_neg (by omega), if_pos h2])
  obtain ⟨ix, hix⟩ : ∃ x, x = idxP a.path 0 (s.files.map (·.path)) := ⟨_, rfl⟩
  rw [← hix] at HIX HE HS1 hrg
  clear hix
  have b4 : (a.kind == 4) = false := by simp [h2]
  have b1 : (a.kind == 1) = false := by simp [h2]
  have b2 : (a.kind == 2) = true := by simp [h2]
  by_cases i0 : ix < 0
  · have HE1 := Lib.hid (show actE s a = 7 by rw [HE.out, if_pos i0])
    rw [HE1.out]
    clear HE
    ((try clear hF); (first | have hF := And.intro hS.facts (HRD.out _ (hS.sub (by first | simp | ((repeat (first | exact List.nil_sublist _ | exact List.Sublist.refl _ | with_reducible apply List.Sublist.cons₂ | apply List.Sublist.cons)))))) | have hF := And.intro hS.facts (hR.at hS.ext) | have hF := hS.facts); simp only [HFacts, cellFacts, RFacts, cellOnly, and_true, true_and, Nat.zero_add, Nat.reduceAdd] at hF)
    go_enter Tryz.func23, Tryz.ntmps23
    go_wp2_with (first | ((with_reducible first | refine nhLa ?_ | refine nhLs ?_ | refine nhLd ?_ | refine nhCa ?_ | refine nhCs ?_ | refine nhCd ?_ | refine nhPa ?_ | refine nhPs ?_ | refine nhPd ?_ | refine nhKa ?_ | refine nhKs ?_ | refine nhKd ?_); ((try clear hF); clear hS; intro wk hS; (try simp only [List.set_cons_zero, List.set_cons_succ, heap_size, heap_set_size] at hS); ((try clear hF); (first | have hF := And.intro hS.facts (HRD.out _ (hS.sub (by first | simp | ((repeat (first | exact List.nil_sublist _ | exact List.Sublist.refl _ | with_reducible apply List.Sublist.cons₂ | apply List.Sublist.cons)))))) | have hF := And.intro hS.facts (hR.at hS.ext) | have hF := hS.facts); simp only [HFacts, cellFacts, RFacts, cellOnly, and_true, true_and, Nat.zero_add, Nat.reduceAdd] at hF))) | (go_at_call 39; (with_reducible refine (HIX.out _ _ (hS.re 2 rfl) hF.1.2.1.1).mono ?_); rintro e wk ⟨rfl, hX⟩; replace hS := hS.step hX; clear hX; ((try clear hF); (first | have hF := And.intro hS.facts (HRD.out _ (hS.sub (by first | simp | ((repeat (first | exact List.nil_sublist _ | exact List.Sublist.refl _ | with_reducible apply List.Sublist.cons₂ | apply List.Sublist.cons)))))) | have hF := And.intro hS.facts (hR.at hS.ext) | have hF := hS.facts); simp only [HFacts, cellFacts, RFacts, cellOnly, and_true, true_and, Nat.zero_add, Nat.reduceAdd] at hF)))
    go_ret
    exact ⟨rfl, ActRes.bad HE1.out (by decide) (hS.sub (by first | simp | ((try simp only [List.eraseIdx_cons_zero, List.eraseIdx_cons_succ]); (repeat (first | exact List.nil_sublist _ | exact List.Sublist.refl _ | with_reducible apply List.Sublist.cons₂ | apply List.Sublist.cons)))))⟩
  · have HE1 := Lib.hid (show actE s a = 0 by rw [HE.out, if_neg i0])
    rw [HE1.out]
    obtain ⟨k, rfl⟩ := Int.eq_ofNat_of_zero_le (show 0 ≤ ix by omega)
    have hkn : k < nf := by omega
    obtain ⟨g, rfl, hc1, hc2⟩ := hS.addrR 1 rfl (by omega)
    have HDL := Lib.hid (fun (W : World) (L : List Item) (hW : Hp B w0 W (.row 43 3 (some ⟨g, 0, none⟩) nf cf (cellsE evs) :: L)) => edelete_any evs g nf cf k hnf hkn hc1 hc2 hW)
    have fin : ∀ (W : World), Hp B w0 W (.blk gs [.int .i64 s.ver, .slice Ac nc cc, .int .i64 s.next, .slice (some ⟨g, 0, none⟩) (nf - 1 : Nat) cf] 27 :: .row 43 3 (some ⟨g, 0, none⟩) (nf - 1) cf (cellsE (evs.eraseIdx k)) :: K) → ActRes B w0 W gs K J s a := fun W hW => ActRes.good HE1.out (by
      rw [HS1.out, Int.toNat_natCast]
      exact ⟨Ac, nc, cc, some ⟨g, 0, none⟩, nf - 1, cf, evs.eraseIdx k, [], hW, HFS.out.erase k, hnc, hncc, by rw [List.length_eraseIdx, if_pos (by omega), hnf], (by intro h; cases h), HCO.out⟩)
    have FIN := Lib.hid fin
    clear fin HE hrg i0
    have e1 : IntKind.i64.wrap ((k : Int) + 1) = (k : Int) + 1 := IntWalk.i64_in _ (by omega)
    have i0 : ¬ ((k : Int) < 0) := by omega
    ((try clear hF); (first | have hF := And.intro hS.facts (HRD.out _ (hS.sub (by first | simp | ((repeat (first | exact List.nil_sublist _ | exact List.Sublist.refl _ | with_reducible apply List.Sublist.cons₂ | apply List.Sublist.cons)))))) | have hF := And.intro hS.facts (hR.at hS.ext) | have hF := hS.facts); simp only [HFacts, cellFacts, RFacts, cellOnly, and_true, true_and, Nat.zero_add, Nat.reduceAdd] at hF)
    go_enter Tryz.func23, Tryz.ntmps23
    go_wp2_with (first | ((with_reducible first | refine nhLa ?_ | refine nhLs ?_ | refine nhLd ?_ | refine nhCa ?_ | refine nhCs ?_ | refine nhCd ?_ | refine nhPa ?_ | refine nhPs ?_ | refine nhPd ?_ | refine nhKa ?_ | refine nhKs ?_ | refine nhKd ?_); ((try clear hF); clear hS; intro wk hS; (try simp only [List.set_cons_zero, List.set_cons_succ, heap_size, heap_set_size] at hS); ((try clear hF); (first | have hF := And.intro hS.facts (HRD.out _ (hS.sub (by first | simp | ((repeat (first | exact List.nil_sublist _ | exact List.Sublist.refl _ | with_reducible apply List.Sublist.cons₂ | apply List.Sublist.cons)))))) | have hF := And.intro hS.facts (hR.at hS.ext) | have hF := hS.facts); simp only [HFacts, cellFacts, RFacts, cellOnly, and_true, true_and, Nat.zero_add, Nat.reduceAdd] at hF))) | (go_at_call 39; (with_reducible refine (HIX.out _ _ (hS.re 2 rfl) hF.1.2.1.1).mono ?_); rintro e wk ⟨rfl, hX⟩; replace hS := hS.step hX; clear hX; ((try clear hF); (first | have hF := And.intro hS.facts (HRD.out _ (hS.sub (by first | simp | ((repeat (first | exact List.nil_sublist _ | exact List.Sublist.refl _ | with_reducible apply List.Sublist.cons₂ | apply List.Sublist.cons)))))) | have hF := And.intro hS.facts (hR.at hS.ext) | have hF := hS.facts); simp only [HFacts, cellFacts, RFacts, cellOnly, and_true, true_and, Nat.zero_add, Nat.reduceAdd] at hF)) | (go_at_call 42; (with_reducible refine Calls.mono (HDL.out _ _ (hS.front 2 rfl)) ?_); clear hS; rintro e wk ⟨rfl, hS⟩; (try simp only [List.eraseIdx_cons_zero, List.eraseIdx_cons_succ, List.set_cons_zero, List.set_cons_succ] at hS); ((try clear hF); (first | have hF := And.intro hS.facts (HRD.out _ (hS.sub (by first | simp | ((repeat (first | exact List.nil_sublist _ | exact List.Sublist.refl _ | with_reducible apply List.Sublist.cons₂ | apply List.Sublist.cons)))))) | have hF := And.intro hS.facts (hR.at hS.ext) | have hF := hS.facts); simp only [HFacts, cellFacts, RFacts, cellOnly, and_true, true_and, Nat.zero_add, Nat.reduceAdd] at hF)))
    go_ret
    exact ⟨rfl, FIN.out _ (((hS.drop 1).front 1 rfl))⟩
end
end Go.Proofs.YtcpnnffnkegamaaGreatDoor

/- log.action: rows that are masked; all kinds. -/
namespace Go.Proofs.YtcpnnffnkegamaaGreatDoor
set_option linter.unusedSimpArgs false
set_option linter.unusedVariables false
open Go.RowKit
set_option linter.all false
section
variable {B : Nat} {w0 w : World} {K J : List Item}
theorem Hp.ri {B : Nat} {w0 w : World} {L : List Item} {A : Option Addr} {cap n : Nat} {l : List Int} (h : Hp B w0 w L) (i : Nat) (hi : L[i]? = some (.row 3 1 A n cap (intsV l))) : RI w A l := fun j x hj => by
  obtain ⟨g, hg, c0, _⟩ := h.rowCell (j := j) (u := .int .i64 x) i hi (by rw [intsV_get, hj]; rfl)
  exact ⟨g, 0, hg, by rw [Nat.zero_add]; exact c0⟩
theorem FsOk.at {B : Nat} {w0 : World} {K : List Item} {evs : List EV} {ens : List EN} (h : FsOk B w0 K evs ens) {k : Nat} (hk : k < evs.length) : ∃ v e, evs[k]? = some v ∧ ens[k]? = some e ∧ EvOk B w0 K v e := by
  have h2 : k < ens.length := by rw [← h.len]; exact hk
  exact ⟨_, _, List.getElem?_eq_getElem hk, List.getElem?_eq_getElem h2, h.one k _ _ (List.getElem?_eq_getElem hk) (List.getElem?_eq_getElem h2)⟩
set_option maxRecDepth 100000 in
set_option maxHeartbeats 8000000 in
theorem act_mask (s : SN) (a : AN) (gs : Nat) (Ac Af Aq Ar : Option Addr) (nc cc nf cf nq cq nr cr : Nat) (evs : List EV) (hnf : evs.length = nf) (hnf2 : nf ≤ 1000) (HFS : Hid (FsOk B w0 J evs s.files)) (hAf : Af = none → cf = 0)
    (hnc : s.cols.length = nc) (hncc : nc ≤ cc) (HCO : Hid (∀ W, Hp B w0 W J → RC W Ac s.cols))
    (hq : a.mask.length = nq) (hq2 : nq ≤ 100) (hAq : Aq = none → cq = 0) (HQ : Hid (∀ W, Hp B w0 W K → RI W Aq a.mask)) (HJ : Hid (∀ W, Hp B w0 W K → Hp B w0 W J)) (hms : ∀ e ∈ s.files, e.mask.length ≤ 100)
    (h3 : a.kind = 3) (hS : Hp B w0 w (snB gs s.ver Ac nc cc s.next Af nf cf :: eRow Af nf cf evs :: K)) :
    Calls Tryz.prog 23 #[.pointer (some ⟨gs, 0, none⟩), actV a Aq nq cq Ar nr cr] w fun e w' => e = .returned (.int .i64 (actE s a)) ∧ ActRes B w0 w' gs K J s a := by
  unfold snB eRow at hS
  have HIX := Lib.hid (fun (W : World) (g : Nat) (hr : RE W Af evs) h => aindex_any (cf := cf) s a hnf hnf2 HFS.out g hr h)
  have hrg := idxE_range (fun v => pathEq a.path v.path) evs 0
  rw [idxE_P, HFS.out.paths] at hrg
  have HE := Lib.hid (show actE s a = if idxP a.path 0 (s.files.map (·.path)) < 0 then 7 else match s.files[(idxP a.path 0 (s.files.map (·.path))).toNat]? with | some e => masksE e.rows e.mask a.mask | none => 1 by unfold actE; rw [if_neg (by omega), if_neg (by omega), if_pos (.inr h3), if_neg (by omega : ¬ a.kind = 2)]; rfl)
  have HS1 := Lib.hid (show actS s a = match s.files[(idxP a.path 0 (s.files.map (·.path))).toNat]? with | some e => { s with files := s.files.set (idxP a.path 0 (s.files.map (·.path))).toNat ⟨e.path, e.rows, sortI (e.mask ++ a.mask)⟩ } | none => s by unfold actS; rw [if_neg (by omega), if_neg (by omega), if_neg (by omega)]; rfl)
  obtain ⟨ix, hix⟩ : ∃ x, x = idxP a.path 0 (s.files.map (·.path)) := ⟨_, rfl⟩
  rw [← hix] at HIX HE HS1 hrg
  clear hix
  have b4 : (a.kind == 4) = false := by simp [h3]
  have b1 : (a.kind == 1) = false := by simp [h3]
  have b2 : (a.kind == 2) = false := by simp [h3]
  have b3 : (a.kind == 3) = true := by simp [h3]
  by_cases i0 : ix < 0
  · have HE1 := Lib.hid (show actE s a = 7 by rw [HE.out, if_pos i0])
    rw [HE1.out]
    clear HE hms
    ((try clear hF); (first | have hF := And.intro hS.facts (HRD.out _ (hS.sub (by first | simp | ((repeat (first | exact List.nil_sublist _ | exact List.Sublist.refl _ | with_reducible apply List.Sublist.cons₂ | apply List.Sublist.cons)))))) | have hF := And.intro hS.facts (hR.at hS.ext) | have hF := hS.facts); simp only [HFacts, cellFacts, RFacts, cellOnly, and_true, true_and, Nat.zero_add, Nat.reduceAdd] at hF)
    go_enter Tryz.func23, Tryz.ntmps23
    go_wp2_with (first | ((with_reducible first | refine nhLa ?_ | refine nhLs ?_ | refine nhLd ?_ | refine nhCa ?_ | refine nhCs ?_ | refine nhCd ?_ | refine nhPa ?_ | refine nhPs ?_ | refine nhPd ?_ | refine nhKa ?_ | refine nhKs ?_ | refine nhKd ?_); ((try clear hF); clear hS; intro wk hS; (try simp only [List.set_cons_zero, List.set_cons_succ, heap_size, heap_set_size] at hS); ((try clear hF); (first | have hF := And.intro hS.facts (HRD.out _ (hS.sub (by first | simp | ((repeat (first | exact List.nil_sublist _ | exact List.Sublist.refl _ | with_reducible apply List.Sublist.cons₂ | apply List.Sublist.cons)))))) | have hF := And.intro hS.facts (hR.at hS.ext) | have hF := hS.facts); simp only [HFacts, cellFacts, RFacts, cellOnly, and_true, true_and, Nat.zero_add, Nat.reduceAdd] at hF))) | (go_at_call 39; (with_reducible refine (HIX.out _ _ (hS.re 2 rfl) hF.1.2.1.1).mono ?_); rintro e wk ⟨rfl, hX⟩; replace hS := hS.step hX; clear hX; ((try clear hF); (first | have hF := And.intro hS.facts (HRD.out _ (hS.sub (by first | simp | ((repeat (first | exact List.nil_sublist _ | exact List.Sublist.refl _ | with_reducible apply List.Sublist.cons₂ | apply List.Sublist.cons)))))) | have hF := And.intro hS.facts (hR.at hS.ext) | have hF := hS.facts); simp only [HFacts, cellFacts, RFacts, cellOnly, and_true, true_and, Nat.zero_add, Nat.reduceAdd] at hF)))
    go_ret
    exact ⟨rfl, ActRes.bad HE1.out (by decide) (hS.sub (by first | simp | ((try simp only [List.eraseIdx_cons_zero, List.eraseIdx_cons_succ]); (repeat (first | exact List.nil_sublist _ | exact List.Sublist.refl _ | with_reducible apply List.Sublist.cons₂ | apply List.Sublist.cons)))))⟩
  · obtain ⟨k, rfl⟩ := Int.eq_ofNat_of_zero_le (show 0 ≤ ix by omega)
    have hkn : k < nf := by omega
    obtain ⟨g, rfl, hc1, hc2⟩ := hS.addrR 1 rfl (by omega)
    obtain ⟨v, e, hv, he, hve⟩ := HFS.out.at (k := k) (by omega)
    have HE2 := Lib.hid (show actE s a = masksE e.rows e.mask a.mask by rw [HE.out, if_neg i0, Int.toNat_natCast, he])
    have HS2 := Lib.hid (show actS s a = { s with files := s.files.set k ⟨e.path, e.rows, sortI (e.mask ++ a.mask)⟩ } by rw [HS1.out, Int.toNat_natCast, he])
    clear HE HS1
    have hem := hms e (List.mem_of_getElem? he)
    have HMA := Lib.hid (fun (W : World) (hW : Hp B w0 W (.blk gs [.int .i64 s.ver, .slice Ac nc cc, .int .i64 s.next, .slice (some ⟨g, 0, none⟩) nf cf] 27 :: .row 43 3 (some ⟨g, 0, none⟩) nf cf (cellsE evs) :: K)) =>
      (show Calls Tryz.prog 43 #[.pointer (some ⟨gs, 0, none⟩), .int .i64 k, .slice Aq nq cq] W fun e w' => e = .returned (.int .i64 (actE s a)) ∧ ActRes B w0 w' gs K J s a from
        (masks_any gs g k s.ver s.next Ac Aq nc cc nf cf nq cq evs v e.mask a.mask hnf hv hq hq2 hve.len (by rw [← hve.len]; exact hem) hve.nil hAq (Lib.hid fun W h => hve.mask W (HJ.out W h)) HQ (by unfold snB eRow; exact hW)).mono fun x W' ⟨hx, hp⟩ => by
          rw [hve.rows] at hx hp
          rw [← HE2.out] at hx hp
          refine ⟨hx, ?_⟩
          by_cases hz : actE s a = 0
          · rw [if_pos hz] at hp
            obtain ⟨Am, cm, hm, hH⟩ := hp
            refine ActRes.good hz ?_
            rw [HS2.out]
            refine ⟨Ac, nc, cc, some ⟨g, 0, none⟩, nf, cf, _, [_], hH, ((HFS.out.more fun W' h => h.tail).set k ⟨hve.path, rfl, ?_, hm, fun W' h => h.ri 0 rfl⟩), hnc, hncc, by rw [List.length_set]; exact hnf, (by intro h; cases h), fun W' h => HCO.out W' h.tail⟩
            show (sortI (e.mask ++ a.mask)).length = v.mn + nq
            rw [sortI_len, List.length_append, hve.len, hq]
          · rw [if_neg hz] at hp
            exact ActRes.bad rfl hz hp.tail.tail))
    clear HE2 HS2 hms hem hve hrg hv he
    have i0 : ¬ ((k : Int) < 0) := by omega
    ((try clear hF); (first | have hF := And.intro hS.facts (HRD.out _ (hS.sub (by first | simp | ((repeat (first | exact List.nil_sublist _ | exact List.Sublist.refl _ | with_reducible apply List.Sublist.cons₂ | apply List.Sublist.cons)))))) | have hF := And.intro hS.facts (hR.at hS.ext) | have hF := hS.facts); simp only [HFacts, cellFacts, RFacts, cellOnly, and_true, true_and, Nat.zero_add, Nat.reduceAdd] at hF)
    go_enter Tryz.func23, Tryz.ntmps23
    go_wp2_with (first | ((with_reducible first | refine nhLa ?_ | refine nhLs ?_ | refine nhLd ?_ | refine nhCa ?_ | refine nhCs ?_ | refine nhCd ?_ | refine nhPa ?_ | refine nhPs ?_ | refine nhPd ?_ | refine nhKa ?_ | refine nhKs ?_ | refine nhKd ?_); ((try clear hF); clear hS; intro wk hS; (try simp only [List.set_cons_zero, List.set_cons_succ, heap_size, heap_set_size] at hS); ((try clear hF); (first | have hF := And.intro hS.facts (HRD.out _ (hS.sub (by first | simp | ((repeat (first | exact List.nil_sublist _ | exact List.Sublist.refl _ | with_reducible apply List.Sublist.cons₂ | apply List.Sublist.cons)))))) | have hF := And.intro hS.facts (hR.at hS.ext) | have hF := hS.facts); simp only [HFacts, cellFacts, RFacts, cellOnly, and_true, true_and, Nat.zero_add, Nat.reduceAdd] at hF))) | (go_at_call 39; (with_reducible refine (HIX.out _ _ (hS.re 2 rfl) hF.1.2.1.1).mono ?_); rintro e wk ⟨rfl, hX⟩; replace hS := hS.step hX; clear hX; ((try clear hF); (first | have hF := And.intro hS.facts (HRD.out _ (hS.sub (by first | simp | ((repeat (first | exact List.nil_sublist _ | exact List.Sublist.refl _ | with_reducible apply List.Sublist.cons₂ | apply List.Sublist.cons)))))) | have hF := And.intro hS.facts (hR.at hS.ext) | have hF := hS.facts); simp only [HFacts, cellFacts, RFacts, cellOnly, and_true, true_and, Nat.zero_add, Nat.reduceAdd] at hF)) | (go_at_call 43; (with_reducible refine Calls.mono (HMA.out _ hS.tail) ?_); rintro e wk ⟨rfl, hW⟩))
    go_ret
    exact ⟨rfl, hW⟩
end
end Go.Proofs.YtcpnnffnkegamaaGreatDoor

/- log.action: of any kind. -/
namespace Go.Proofs.YtcpnnffnkegamaaGreatDoor
set_option linter.unusedSimpArgs false
set_option linter.unusedVariables false
open Go.RowKit
set_option linter.all false
/-- where an action's parts lie -/
structure AV where
  qa : Option Addr
  qn : Nat
  qc : Nat
  ra : Option Addr
  rn : Nat
  rc : Nat
structure AcOk (B : Nat) (w0 : World) (K : List Item) (a : AN) (v : AV) : Prop where
  q : a.mask.length = v.qn
  q2 : v.qn ≤ 100
  qz : v.qa = none → v.qc = 0
  qm : ∀ W, Hp B w0 W K → RI W v.qa a.mask
  r : a.cols.length = v.rn
  r2 : v.rn ≤ 1000
  r3 : v.rn ≤ v.rc
  rr : ∀ W, Hp B w0 W K → RC W v.ra a.cols
theorem AcOk.more {B : Nat} {w0 : World} {K K' : List Item} {a : AN} {v : AV} (h : AcOk B w0 K a v) (hK : ∀ W, Hp B w0 W K' → Hp B w0 W K) : AcOk B w0 K' a v := ⟨h.q, h.q2, h.qz, fun W hW => h.qm W (hK W hW), h.r, h.r2, h.r3, fun W hW => h.rr W (hK W hW)⟩
abbrev acV (a : AN) (v : AV) : Value := actV a v.qa v.qn v.qc v.ra v.rn v.rc
section
variable {B : Nat} {w0 w : World} {K J : List Item}
theorem action_any (s : SN) (a : AN) (v : AV) (gs : Nat) (Ac Af : Option Addr) (nc cc nf cf : Nat) (evs : List EV) (hnf : evs.length = nf) (hnf2 : nf ≤ 1000) (HFS : FsOk B w0 J evs s.files) (hAf : Af = none → cf = 0)
    (hnc : s.cols.length = nc) (hncc : nc ≤ cc) (HCO : ∀ W, Hp B w0 W J → RC W Ac s.cols) (HKP : ∀ W, Hp B w0 W K → KeptAt W) (HJ : ∀ W, Hp B w0 W K → Hp B w0 W J)
    (hv : AcOk B w0 K a v) (hms : ∀ e ∈ s.files, e.mask.length ≤ 100)
    (hS : Hp B w0 w (snB gs s.ver Ac nc cc s.next Af nf cf :: eRow Af nf cf evs :: K)) :
    Calls Tryz.prog 23 #[.pointer (some ⟨gs, 0, none⟩), acV a v] w fun e w' => e = .returned (.int .i64 (actE s a)) ∧ ActRes B w0 w' gs K J s a := by
  by_cases h4 : a.kind = 4
  · exact act_schema s a gs Ac Af v.qa v.ra nc cc nf cf v.qn v.qc v.rn v.rc evs hnf hnf2 (Lib.hid HFS) hAf hv.r hv.r2 hv.r3 (Lib.hid hv.rr) (Lib.hid HKP) h4 hS
  by_cases h1 : a.kind = 1
  · exact act_add s a gs Ac Af v.qa v.ra nc cc nf cf v.qn v.qc v.rn v.rc evs hnf hnf2 (Lib.hid HFS) hAf hnc hncc (Lib.hid HCO) h1 hS
  by_cases h2 : a.kind = 2
  · exact act_remove s a gs Ac Af v.qa v.ra nc cc nf cf v.qn v.qc v.rn v.rc evs hnf hnf2 (Lib.hid HFS) hAf hnc hncc (Lib.hid HCO) h2 hS
  by_cases h3 : a.kind = 3
  · exact act_mask s a gs Ac Af v.qa v.ra nc cc nf cf v.qn v.qc v.rn v.rc evs hnf hnf2 (Lib.hid HFS) hAf hnc hncc (Lib.hid HCO) hv.q hv.q2 hv.qz (Lib.hid hv.qm) (Lib.hid HJ) hms h3 hS
  exact act_other s a gs Ac Af v.qa v.ra nc cc nf cf v.qn v.qc v.rn v.rc evs hnf hnf2 (Lib.hid HFS) h4 h1 h2 h3 hS
end
end Go.Proofs.YtcpnnffnkegamaaGreatDoor

/- millpondkeep.set: a table's files, by their names. -/
namespace Go.Proofs.YtcpnnffnkegamaaGreatDoor
set_option linter.unusedSimpArgs false
set_option linter.unusedVariables false
open Go.RowKit
set_option linter.all false
open Go.Maps (Keyed)
/-- a map whose keys are those -/
structure KT (D : DataW Value) (ks : List ByteArray) : Prop where
  tidy : Maps.Tidy D
  nd : ks.Nodup
  mem : ∀ x, vhas D x = true ↔ x ∈ ks
  size : Maps.size D = ks.length
theorem KT.nil : KT (.map []) [] := ⟨⟨[], rfl, List.Pairwise.nil⟩, List.nodup_nil, fun x => by simp [vhas_none], rfl⟩
theorem KT.isMap {D : DataW Value} {ks : List ByteArray} (h : KT D ks) : Maps.IsMap D := by
  obtain ⟨es, he, _⟩ := h.tidy
  exact ⟨es, he⟩
theorem KT.put {D : DataW Value} {ks : List ByteArray} (h : KT D ks) (x : ByteArray) (v : Value) (hx : x ∉ ks) : KT (D.put (sk x) (.held v)) (ks ++ [x]) := by
  have hb : vhas D x = false := by
    cases hv : vhas D x with
    | false => rfl
    | true => exact absurd ((h.mem x).1 hv) hx
  refine ⟨h.tidy.put (k := sk x) trivial _, ?_, fun y => ?_, ?_⟩
  · rw [List.nodup_append]
    exact ⟨h.nd, by simp, fun a ha b hb2 e => hx (by rw [List.mem_singleton.1 hb2] at e; rw [← e]; exact ha)⟩
  · by_cases e : y = x
    · subst e
      rw [vhas_put_same h.isMap]
      simp
    · rw [vhas_put_other e, h.mem y]
      simp [e]
  · rw [Maps.size_put h.tidy, show Maps.has D (sk x) = false from hb, h.size]
    simp
/-- a file, as it lies in the map -/
abbrev evV (v : EV) : Value := .agg #[.string v.path, .int .i64 v.rows, .slice v.ma v.mn v.mc]
end Go.Proofs.YtcpnnffnkegamaaGreatDoor
