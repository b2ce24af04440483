/- Texts joined: log.action: what it does, kind by kind. log.action: columns anew. log.action: a file more. log.action: a file that goes, rows that are masked; all kinds. log.action: rows that are masked; all kinds. log.action: of any kind. a table that stands: what an action leaves of it. log.Apply. millpondkeep.set: a table's files, by their names. what Apply leaves of a table: it stands, one version on. -/
import Derived.Test.YtlgidjanmaijaaaGreatDoorCX06
import Derived.Test.YtlgidjanmaijaaaGreatDoorCX04
/- log.action: what it does, kind by kind. -/
namespace Go.Proofs.YtlgidjanmaijaaaGreatDoor
set_option linter.unusedSimpArgs false
set_option linter.unusedVariables false
open Go.RowKit
set_option linter.all false
/-- what action leaves -/
def ActRes (B : Nat) (w0 w' : World) (gs : Nat) (K J : List Item) (s : SN) (a : AN) : Prop :=
  if actE s a = 0 then ∃ (Ac : Option Addr) (nc cc : Nat) (Af : Option Addr) (nf cf : Nat) (evs : List EV) (M : List Item), Hp B w0 w' (snB gs (actS s a).ver Ac nc cc (actS s a).next Af nf cf :: eRow Af nf cf evs :: (M ++ K)) ∧ FsOk B w0 (M ++ J) evs (actS s a).files ∧
    (actS s a).cols.length = nc ∧ nc ≤ cc ∧ evs.length = nf ∧ (Af = none → cf = 0) ∧ (∀ W, Hp B w0 W (M ++ J) → RC W Ac (actS s a).cols)
  else Hp B w0 w' K
theorem ActRes.bad {B : Nat} {w0 w' : World} {gs : Nat} {K J : List Item} {s : SN} {a : AN} {n : Int} (h : actE s a = n) (hn : n ≠ 0) (hS : Hp B w0 w' K) : ActRes B w0 w' gs K J s a := by
  unfold ActRes
  rw [if_neg (by rw [h]; exact hn)]
  exact hS
theorem ActRes.good {B : Nat} {w0 w' : World} {gs : Nat} {K J : List Item} {s : SN} {a : AN} (h : actE s a = 0) (hh : ∃ (Ac : Option Addr) (nc cc : Nat) (Af : Option Addr) (nf cf : Nat) (evs : List EV) (M : List Item), Hp B w0 w' (snB gs (actS s a).ver Ac nc cc (actS s a).next Af nf cf :: eRow Af nf cf evs :: (M ++ K)) ∧ FsOk B w0 (M ++ J) evs (actS s a).files ∧
    (actS s a).cols.length = nc ∧ nc ≤ cc ∧ evs.length = nf ∧ (Af = none → cf = 0) ∧ (∀ W, Hp B w0 W (M ++ J) → RC W Ac (actS s a).cols)) : ActRes B w0 w' gs K J s a := by
  unfold ActRes
  rw [if_pos h]
  exact hh
abbrev actV (a : AN) (Aq : Option Addr) (nq cq : Nat) (Ar : Option Addr) (nr cr : Nat) : Value := .agg #[.int .i64 a.kind, .string a.path, .int .i64 a.rows, .slice Aq nq cq, .slice Ar nr cr, .int .i64 a.next]
section
variable {B : Nat} {w0 w : World} {K J : List Item}
theorem lpath_any (p : ByteArray) (w : World) : Calls Tryz.prog 35 #[.string p] w fun e w' => e = .returned (.bool (nameB p)) ∧ Ext w w' := by
  have HN := Lib.hid (fun W => name_any p W)
  obtain ⟨b, hb⟩ : ∃ b, b = nameB p := ⟨_, rfl⟩
  rw [← hb] at HN ⊢
  clear hb
  have hS := Hp.init w
  have hR := Reads.nil w
  go_enter Tryz.func35, Tryz.ntmps35
  go_wp2_with (first | (refine hab ?_; (try clear hF); clear hS; intro wk hS; (try simp only [List.set_cons_zero, List.set_cons_succ, heap_size, heap_set_size] at hS); ((try clear hF); refine hfI ?_; intro hF)) | (go_at_call 32; (with_reducible refine (HN.out _).mono ?_); rintro e wk ⟨rfl, hX⟩; replace hS := hS.step hX; clear hX; ((try clear hF); refine hfI ?_; intro hF)))
  go_ret
  exact ⟨rfl, hS.ext⟩
theorem aindex_any (s : SN) (a : AN) {Af : Option Addr} {nf cf : Nat} {evs : List EV} (hnf : evs.length = nf) (hnf2 : nf ≤ 1000) (hF : FsOk B w0 K evs s.files) (g : Nat) {w : World} (hr : RE w Af evs) (h : w.cell? ⟨g, 1, none⟩ = some (.string a.path)) :
    Calls Tryz.prog 59 #[.slice Af nf cf, .func (.func 60) #[] #[.pointer (some ⟨g, 0, none⟩)]] w fun e w' => e = .returned (.int .i64 (idxP a.path 0 (s.files.map (·.path)))) ∧ Ext w w' := by
  have := eindexFunc_any evs Af nf cf 60 #[.pointer (some ⟨g, 0, none⟩)] (fun v => pathEq a.path v.path) w hnf hr (by omega) eg_laction1 (fun W hx v => laction1_any a.path v g W (hx.keeps h))
  rw [idxE_P, hF.paths] at this
  exact this
set_option maxRecDepth 100000 in
set_option maxHeartbeats 8000000 in
/-- of another kind -/
theorem act_other (s : SN) (a : AN) (gs : Nat) (Ac Af Aq Ar : Option Addr) (nc cc nf cf nq cq nr cr : Nat) (evs : List EV) (hnf : evs.length = nf) (hnf2 : nf ≤ 1000) (HFS : Hid (FsOk B w0 J evs s.files))
    (h4 : a.kind ≠ 4) (h1 : a.kind ≠ 1) (h2 : a.kind ≠ 2) (h3 : a.kind ≠ 3)
    (hS : Hp B w0 w (snB gs s.ver Ac nc cc s.next Af nf cf :: eRow Af nf cf evs :: K)) :
    Calls Tryz.prog 34 #[.pointer (some ⟨gs, 0, none⟩), actV a Aq nq cq Ar nr cr] w fun e w' => e = .returned (.int .i64 (actE s a)) ∧ ActRes B w0 w' gs K J s a := by
  unfold snB eRow at hS
  have HIX := Lib.hid (fun (W : World) (g : Nat) (hr : RE W Af evs) h => aindex_any (cf := cf) s a hnf hnf2 HFS.out g hr h)
  have e0 : actE s a = 1 := by unfold actE; rw [if_neg h4, if_neg h1, if_neg (by omega)]
  have HE := Lib.hid e0
  rw [e0]
  have b1 : (a.kind == 1) = false := by simp [h1]
  have b2 : (a.kind == 2) = false := by simp [h2]
  have b3 : (a.kind == 3) = false := by simp [h3]
  have b4 : (a.kind == 4) = false := by simp [h4]
  clear h1 h2 h3 h4 e0
  ((try clear hF); refine hfI ?_; intro hF)
  go_enter Tryz.func34, Tryz.ntmps34
  go_wp2_with (first | (refine hab ?_; (try clear hF); clear hS; intro wk hS; (try simp only [List.set_cons_zero, List.set_cons_succ, heap_size, heap_set_size] at hS); ((try clear hF); refine hfI ?_; intro hF)) | (go_at_call 59; (with_reducible refine (HIX.out _ _ (hS.re 2 rfl) hF.1.2.1.1).mono ?_); rintro e wk ⟨rfl, hX⟩; replace hS := hS.step hX; clear hX; ((try clear hF); refine hfI ?_; intro hF)))
  go_ret
  exact ⟨rfl, ActRes.bad HE.out (by decide) (hS.sub (by first | simp | ((try simp only [List.eraseIdx_cons_zero, List.eraseIdx_cons_succ]); (repeat (first | exact List.nil_sublist _ | exact List.Sublist.refl _ | with_reducible apply List.Sublist.cons₂ | apply List.Sublist.cons)))))⟩
end
end Go.Proofs.YtlgidjanmaijaaaGreatDoor

/- log.action: columns anew. -/
namespace Go.Proofs.YtlgidjanmaijaaaGreatDoor
set_option linter.unusedSimpArgs false
set_option linter.unusedVariables false
open Go.RowKit
set_option linter.all false
section
variable {B : Nat} {w0 w : World} {K J : List Item}
set_option maxRecDepth 100000 in
set_option maxHeartbeats 8000000 in
theorem act_schema (s : SN) (a : AN) (gs : Nat) (Ac Af Aq Ar : Option Addr) (nc cc nf cf nq cq nr cr : Nat) (evs : List EV) (hnf : evs.length = nf) (hnf2 : nf ≤ 1000) (HFS : Hid (FsOk B w0 J evs s.files)) (hAf : Af = none → cf = 0)
    (hr : a.cols.length = nr) (hr2 : nr ≤ 1000) (hr3 : nr ≤ cr) (HRC : Hid (∀ W, Hp B w0 W K → RC W Ar a.cols)) (HKP : Hid (∀ W, Hp B w0 W K → KeptAt W))
    (h4 : a.kind = 4) (hS : Hp B w0 w (snB gs s.ver Ac nc cc s.next Af nf cf :: eRow Af nf cf evs :: K)) :
    Calls Tryz.prog 34 #[.pointer (some ⟨gs, 0, none⟩), actV a Aq nq cq Ar nr cr] w fun e w' => e = .returned (.int .i64 (actE s a)) ∧ ActRes B w0 w' gs K J s a := by
  unfold snB eRow at hS
  have HIX := Lib.hid (fun (W : World) (g : Nat) (hr : RE W Af evs) h => aindex_any (cf := cf) s a hnf hnf2 HFS.out g hr h)
  have HSR := Lib.hid (fun (W : World) (h : Hp B w0 W K) => show Calls Tryz.prog 38 #[.slice Ar nr cr, .int .i64 a.next] W (fun e w' => e = .returned (.bool (rightC a.cols a.next)) ∧ Ext W w') from by
    have := sright_any a.cols Ar cr a.next W (HRC.out W h) (by omega) (by omega) (HKP.out W h)
    rw [hr] at this
    exact this)
  have HE := Lib.hid (show actE s a = if rightC a.cols a.next = false ∨ a.next < s.next then 1 else 0 by unfold actE; rw [if_pos h4])
  have HS4 := Lib.hid (show actS s a = { s with cols := a.cols, next := a.next } by unfold actS; rw [if_pos h4])
  obtain ⟨ix, hix⟩ : ∃ x, x = idxP a.path 0 (s.files.map (·.path)) := ⟨_, rfl⟩
  rw [← hix] at HIX
  obtain ⟨rb, hrb⟩ : ∃ b, b = rightC a.cols a.next := ⟨_, rfl⟩
  have HRB := Lib.hid hrb
  rw [← hrb] at HSR HE
  clear hix hrb
  have b4 : (a.kind == 4) = true := by simp [h4]
  cases rb with
  | false =>
    have HE1 := Lib.hid (show actE s a = 1 by rw [HE.out, if_pos (.inl rfl)])
    rw [HE1.out]
    clear HE
    ((try clear hF); refine hfI ?_; intro hF)
    go_enter Tryz.func34, Tryz.ntmps34
    go_wp2_with (first | (refine hab ?_; (try clear hF); clear hS; intro wk hS; (try simp only [List.set_cons_zero, List.set_cons_succ, heap_size, heap_set_size] at hS); ((try clear hF); refine hfI ?_; intro hF)) | (go_at_call 59; (with_reducible refine (HIX.out _ _ (hS.re 2 rfl) hF.1.2.1.1).mono ?_); rintro e wk ⟨rfl, hX⟩; replace hS := hS.step hX; clear hX; ((try clear hF); refine hfI ?_; intro hF)) | (first | (with_reducible refine wp_region_hp (draw := true) (by kernel_rfl) (by kernel_rfl) hS ?_) | ((with_reducible refine Fixed.here ?_); (first | ((with_reducible apply Fixed.skip); (first | rfl | exact wanted_false rfl rfl rfl (by assumption)); try simp only [Act.put, List.setIfInBounds_toArray, List.set_cons_zero, List.set_cons_succ]) | ((with_reducible apply Fixed.val); (first | rfl | exact wanted_true rfl rfl rfl (by assumption)); (rintro w hS; ((try clear hF); refine hfI ?_; intro hF); go_simp; with_reducible rfl); try simp only [Act.put, List.setIfInBounds_toArray, List.set_cons_zero, List.set_cons_succ]) | ((with_reducible apply Fixed.call); (first | rfl | exact wanted_true rfl rfl rfl (by assumption)); (rintro w hS; ((try clear hF); refine hfI ?_; intro hF); go_simp; exact ⟨rfl, rfl⟩); (rintro w hS; first | (with_reducible exact HSR.out w (hS.sub (by first | simp | ((try simp only [List.eraseIdx_cons_zero, List.eraseIdx_cons_succ]); (repeat (first | exact List.nil_sublist _ | exact List.Sublist.refl _ | with_reducible apply List.Sublist.cons₂ | apply List.Sublist.cons))))))); try simp only [Act.put, List.setIfInBounds_toArray, List.set_cons_zero, List.set_cons_succ]) | ((with_reducible apply Fixed.guardT); rfl; rfl; rfl; (all_goals intro hg)) | ((with_reducible apply Fixed.guardF); rfl; rfl; rfl; (all_goals intro hg)) | (with_reducible refine Fixed.done ?_; (try clear hF); clear hS; intro wk hS; ((try clear hF); refine hfI ?_; intro hF))))))
    go_ret
    exact ⟨rfl, ActRes.bad HE1.out (by decide) (hS.sub (by first | simp | ((try simp only [List.eraseIdx_cons_zero, List.eraseIdx_cons_succ]); (repeat (first | exact List.nil_sublist _ | exact List.Sublist.refl _ | with_reducible apply List.Sublist.cons₂ | apply List.Sublist.cons)))))⟩
  | true =>
    by_cases hnx : a.next < s.next
    · have HE1 := Lib.hid (show actE s a = 1 by rw [HE.out, if_pos (.inr hnx)])
      rw [HE1.out]
      clear HE
      ((try clear hF); refine hfI ?_; intro hF)
      go_enter Tryz.func34, Tryz.ntmps34
      go_wp2_with (first | (refine hab ?_; (try clear hF); clear hS; intro wk hS; (try simp only [List.set_cons_zero, List.set_cons_succ, heap_size, heap_set_size] at hS); ((try clear hF); refine hfI ?_; intro hF)) | (go_at_call 59; (with_reducible refine (HIX.out _ _ (hS.re 2 rfl) hF.1.2.1.1).mono ?_); rintro e wk ⟨rfl, hX⟩; replace hS := hS.step hX; clear hX; ((try clear hF); refine hfI ?_; intro hF)) | (first | (with_reducible refine wp_region_hp (draw := true) (by kernel_rfl) (by kernel_rfl) hS ?_) | ((with_reducible refine Fixed.here ?_); (first | ((with_reducible apply Fixed.skip); (first | rfl | exact wanted_false rfl rfl rfl (by assumption)); try simp only [Act.put, List.setIfInBounds_toArray, List.set_cons_zero, List.set_cons_succ]) | ((with_reducible apply Fixed.val); (first | rfl | exact wanted_true rfl rfl rfl (by assumption)); (rintro w hS; ((try clear hF); refine hfI ?_; intro hF); go_simp; with_reducible rfl); try simp only [Act.put, List.setIfInBounds_toArray, List.set_cons_zero, List.set_cons_succ]) | ((with_reducible apply Fixed.call); (first | rfl | exact wanted_true rfl rfl rfl (by assumption)); (rintro w hS; ((try clear hF); refine hfI ?_; intro hF); go_simp; exact ⟨rfl, rfl⟩); (rintro w hS; first | (with_reducible exact HSR.out w (hS.sub (by first | simp | ((try simp only [List.eraseIdx_cons_zero, List.eraseIdx_cons_succ]); (repeat (first | exact List.nil_sublist _ | exact List.Sublist.refl _ | with_reducible apply List.Sublist.cons₂ | apply List.Sublist.cons))))))); try simp only [Act.put, List.setIfInBounds_toArray, List.set_cons_zero, List.set_cons_succ]) | ((with_reducible apply Fixed.guardT); rfl; rfl; rfl; (all_goals intro hg)) | ((with_reducible apply Fixed.guardF); rfl; rfl; rfl; (all_goals intro hg)) | (with_reducible refine Fixed.done ?_; (try clear hF); clear hS; intro wk hS; ((try clear hF); refine hfI ?_; intro hF))))))
      go_ret
      exact ⟨rfl, ActRes.bad HE1.out (by decide) (hS.sub (by first | simp | ((try simp only [List.eraseIdx_cons_zero, List.eraseIdx_cons_succ]); (repeat (first | exact List.nil_sublist _ | exact List.Sublist.refl _ | with_reducible apply List.Sublist.cons₂ | apply List.Sublist.cons)))))⟩
    · have HE1 := Lib.hid (show actE s a = 0 by rw [HE.out, if_neg (by simp; omega)])
      rw [HE1.out]
      clear HE
      have hr1 : 1 ≤ nr := by
        have := HRB.out
        unfold rightC at this
        simp only [Bool.true_eq, Bool.and_eq_true, decide_eq_true_eq] at this
        omega
      have HCL := Lib.hid (fun (W : World) (L : List Item) (hW : Hp B w0 W L) (h : Hp B w0 W K) => show Calls Tryz.prog 61 #[.slice Ar nr cr] W (fun e w' => ∃ A' cap', e = .returned (.slice A' nr cap') ∧ nr ≤ cap' ∧ Hp B w0 w' (.row 61 7 A' nr cap' (cellsC a.cols) :: L)) from by
        obtain ⟨b, o, hA, _⟩ := HRC.out W h 0 (a.cols[0]'(by omega)) (List.getElem?_eq_getElem _)
        have hc := HRC.out W h
        rw [hA] at hc ⊢
        have := clone_any a.cols b o cr W hc (by omega)
        rw [hr] at this
        refine this.mono fun e w' ⟨A', cap', e1, e2⟩ => ⟨A', cap', e1, ?_, ?_⟩
        · unfold cRow at e2
          have := (e2.rowLen 0 rfl).2
          omega
        · unfold cRow at e2
          rw [hr] at e2
          exact hW.join e2)
      ((try clear hF); refine hfI ?_; intro hF)
      go_enter Tryz.func34, Tryz.ntmps34
      go_upto_region 6 with (first | (refine hab ?_; (try clear hF); clear hS; intro wk hS; (try simp only [List.set_cons_zero, List.set_cons_succ, heap_size, heap_set_size] at hS); ((try clear hF); refine hfI ?_; intro hF)) | (go_at_call 59; (with_reducible refine (HIX.out _ _ (hS.re 2 rfl) hF.1.2.1.1).mono ?_); rintro e wk ⟨rfl, hX⟩; replace hS := hS.step hX; clear hX; ((try clear hF); refine hfI ?_; intro hF)) | (first | (with_reducible refine wp_region_hp (draw := true) (by kernel_rfl) (by kernel_rfl) hS ?_) | ((with_reducible refine Fixed.here ?_); (first | ((with_reducible apply Fixed.skip); (first | rfl | exact wanted_false rfl rfl rfl (by assumption)); try simp only [Act.put, List.setIfInBounds_toArray, List.set_cons_zero, List.set_cons_succ]) | ((with_reducible apply Fixed.val); (first | rfl | exact wanted_true rfl rfl rfl (by assumption)); (rintro w hS; ((try clear hF); refine hfI ?_; intro hF); go_simp; with_reducible rfl); try simp only [Act.put, List.setIfInBounds_toArray, List.set_cons_zero, List.set_cons_succ]) | ((with_reducible apply Fixed.call); (first | rfl | exact wanted_true rfl rfl rfl (by assumption)); (rintro w hS; ((try clear hF); refine hfI ?_; intro hF); go_simp; exact ⟨rfl, rfl⟩); (rintro w hS; first | (with_reducible exact HSR.out w (hS.sub (by first | simp | ((try simp only [List.eraseIdx_cons_zero, List.eraseIdx_cons_succ]); (repeat (first | exact List.nil_sublist _ | exact List.Sublist.refl _ | with_reducible apply List.Sublist.cons₂ | apply List.Sublist.cons))))))); try simp only [Act.put, List.setIfInBounds_toArray, List.set_cons_zero, List.set_cons_succ]) | ((with_reducible apply Fixed.guardT); rfl; rfl; rfl; (all_goals intro hg)) | ((with_reducible apply Fixed.guardF); rfl; rfl; rfl; (all_goals intro hg)) | (with_reducible refine Fixed.done ?_; (try clear hF); clear hS; intro wk hS; ((try clear hF); refine hfI ?_; intro hF))))))
      have fin : ∀ (A' : Option Addr) (cap' : Nat) (W : World), nr ≤ cap' → Hp B w0 W (.blk gs [.int .i64 s.ver, .slice A' nr cap', .int .i64 a.next, .slice Af nf cf] 33 :: .row 85 3 Af nf cf (cellsE evs) :: .row 61 7 A' nr cap' (cellsC a.cols) :: K) → ActRes B w0 W gs K J s a := fun A' cap' W hcp hW => ActRes.good HE1.out (by
        rw [HS4.out]
        exact ⟨A', nr, cap', Af, nf, cf, evs, [.row 61 7 A' nr cap' (cellsC a.cols)], hW, HFS.out.more fun W' h => h.tail, hr, hcp, hnf, hAf, fun W' h => h.rc 0 rfl⟩)
      have FIN := Lib.hid fin
      clear fin
      have fin := FIN.out
      ((with_reducible refine wp_region_braidz_hp [.q, .q, .q, .q, .t, .q, .q, .t, .t, .t, .t, .t, .t] 13 [.blk w.heap.size [.int .i64 4, .string a.path, .int .i64 a.rows, .slice Aq nq cq, .slice Ar nr cr, .int .i64 a.next] 63] (by kernel_rfl) rfl (by kernel_rfl) hS (fun w h => h.sub (by simp)) ?_); clear hS; (repeat ((with_reducible refine Walk.here ?_); (first | ((with_reducible apply Walk.skipQ); (first | rfl | exact wanted_false rfl rfl rfl (by assumption)); (try simp only [Mark.isQ, if_true, Bool.false_eq_true, if_false, Act.put, List.setIfInBounds_toArray, List.set_cons_zero, List.set_cons_succ])) | ((with_reducible apply Walk.val); (first | rfl | exact wanted_true rfl rfl rfl (by assumption)); (rintro w hS; ((try clear hF); refine hfI ?_; intro hF); go_simp; first | with_reducible rfl | (rw [if_neg (by first | omega | (simp only [ByteArray.size_append]; omega) | (simp [ByteArray.size_append]; omega))]; try with_reducible rfl)); (try simp only [Mark.isQ, if_true, Bool.false_eq_true, if_false, Act.put, List.setIfInBounds_toArray, List.set_cons_zero, List.set_cons_succ])) | ((with_reducible apply Walk.tail); (try simp only [Mark.isQ, if_true, Bool.false_eq_true, if_false, Act.put, List.setIfInBounds_toArray, List.set_cons_zero, List.set_cons_succ])) | ((with_reducible apply Walk.guardT); rfl; rfl; rfl; (all_goals intro hg)) | ((with_reducible apply Walk.guardF); rfl; rfl; rfl; (all_goals intro hg))))); refine Walk.done ?_; show BraidZ _ _ _ _ 13 7 [4, 7, 8, 9, 10, 11, 12] _ _)
      (refine BraidZ.next1 (i := 4) (by kernel_rfl) (by kernel_rfl) rfl ?_; (try simp only [List.getElem_toArray, List.getElem_cons_succ, List.getElem_cons_zero]))
      (refine ZStep.call (by (first | rfl | exact wanted_true rfl rfl rfl (by assumption))) (by rintro w hS; ((try clear hF); refine hfI ?_; intro hF); go_simp; exact ⟨rfl, rfl⟩) ?_; (intro w hS); (with_reducible refine Calls.mono (HCL.out _ _ hS (hS.sub (by first | simp | ((try simp only [List.eraseIdx_cons_zero, List.eraseIdx_cons_succ]); (repeat (first | exact List.nil_sublist _ | exact List.Sublist.refl _ | with_reducible apply List.Sublist.cons₂ | apply List.Sublist.cons)))))) ?_); clear hS; rintro e wk ⟨A', cap', rfl, hcp, hS⟩; (try simp only [List.eraseIdx_cons_zero, List.eraseIdx_cons_succ, List.set_cons_zero, List.set_cons_succ] at hS); refine ⟨_, _, rfl, hS, (fun w h => h.sub (by simp)), ?_⟩; (clear hS); try simp only [Act.put, List.setIfInBounds_toArray, List.set_cons_zero, List.set_cons_succ])
      (refine BraidZ.next1 (i := 7) (by kernel_rfl) (by kernel_rfl) rfl ?_; (try simp only [List.getElem_toArray, List.getElem_cons_succ, List.getElem_cons_zero]))
      (refine ZStep.val (by (first | rfl | exact wanted_true rfl rfl rfl (by assumption))) (fun w h => h.sub (by first | simp | ((try simp only [List.eraseIdx_cons_zero, List.eraseIdx_cons_succ]); (repeat (first | exact List.nil_sublist _ | exact List.Sublist.refl _ | with_reducible apply List.Sublist.cons₂ | apply List.Sublist.cons))))) (by rintro w hS; ((try clear hF); refine hfI ?_; intro hF); go_simp; with_reducible rfl) ?_; try simp only [Act.put, List.setIfInBounds_toArray, List.set_cons_zero, List.set_cons_succ])
      (refine BraidZ.next1 (i := 8) (by kernel_rfl) (by kernel_rfl) rfl ?_; (try simp only [List.getElem_toArray, List.getElem_cons_succ, List.getElem_cons_zero]))
      (refine ZStep.val (by (first | rfl | exact wanted_true rfl rfl rfl (by assumption))) (fun w h => h.sub (by first | simp | ((try simp only [List.eraseIdx_cons_zero, List.eraseIdx_cons_succ]); (repeat (first | exact List.nil_sublist _ | exact List.Sublist.refl _ | with_reducible apply List.Sublist.cons₂ | apply List.Sublist.cons))))) (by rintro w hS; ((try clear hF); refine hfI ?_; intro hF); go_simp; with_reducible rfl) ?_; try simp only [Act.put, List.setIfInBounds_toArray, List.set_cons_zero, List.set_cons_succ])
      (refine BraidZ.next1 (i := 9) (by kernel_rfl) (by kernel_rfl) rfl ?_; (try simp only [List.getElem_toArray, List.getElem_cons_succ, List.getElem_cons_zero]))
      (refine ZStep.turnF (by (first | rfl | exact wanted_true rfl rfl rfl (by assumption))) (fun w hS => ⟨w.setCell ⟨gs, 1, none⟩ (.slice A' nr cap'), .inl (by ((try clear hF); refine hfI ?_; intro hF); go_simp), hS.put (i := 2) rfl⟩) (fun w h => h.sub (by first | simp | ((try simp only [List.eraseIdx_cons_zero, List.eraseIdx_cons_succ]); (repeat (first | exact List.nil_sublist _ | exact List.Sublist.refl _ | with_reducible apply List.Sublist.cons₂ | apply List.Sublist.cons))))) ?_; (try simp only [List.set_cons_zero, List.set_cons_succ]); try simp only [Act.put, List.setIfInBounds_toArray, List.set_cons_zero, List.set_cons_succ])
      (refine BraidZ.next1 (i := 10) (by kernel_rfl) (by kernel_rfl) rfl ?_; (try simp only [List.getElem_toArray, List.getElem_cons_succ, List.getElem_cons_zero]))
      (refine ZStep.val (by (first | rfl | exact wanted_true rfl rfl rfl (by assumption))) (fun w h => h.sub (by first | simp | ((try simp only [List.eraseIdx_cons_zero, List.eraseIdx_cons_succ]); (repeat (first | exact List.nil_sublist _ | exact List.Sublist.refl _ | with_reducible apply List.Sublist.cons₂ | apply List.Sublist.cons))))) (by rintro w hS; ((try clear hF); refine hfI ?_; intro hF); go_simp; with_reducible rfl) ?_; try simp only [Act.put, List.setIfInBounds_toArray, List.set_cons_zero, List.set_cons_succ])
      (refine BraidZ.next1 (i := 11) (by kernel_rfl) (by kernel_rfl) rfl ?_; (try simp only [List.getElem_toArray, List.getElem_cons_succ, List.getElem_cons_zero]))
      (refine ZStep.val (by (first | rfl | exact wanted_true rfl rfl rfl (by assumption))) (fun w h => h.sub (by first | simp | ((try simp only [List.eraseIdx_cons_zero, List.eraseIdx_cons_succ]); (repeat (first | exact List.nil_sublist _ | exact List.Sublist.refl _ | with_reducible apply List.Sublist.cons₂ | apply List.Sublist.cons))))) (by rintro w hS; ((try clear hF); refine hfI ?_; intro hF); go_simp; with_reducible rfl) ?_; try simp only [Act.put, List.setIfInBounds_toArray, List.set_cons_zero, List.set_cons_succ])
      (refine BraidZ.next1 (i := 12) (by kernel_rfl) (by kernel_rfl) rfl ?_; (try simp only [List.getElem_toArray, List.getElem_cons_succ, List.getElem_cons_zero]))
      (refine ZStep.turnF (by (first | rfl | exact wanted_true rfl rfl rfl (by assumption))) (fun w hS => ⟨w.setCell ⟨gs, 2, none⟩ (.int .i64 a.next), .inl (by ((try clear hF); refine hfI ?_; intro hF); go_simp), hS.put (i := 2) rfl⟩) (fun w h => h.sub (by first | simp | ((try simp only [List.eraseIdx_cons_zero, List.eraseIdx_cons_succ]); (repeat (first | exact List.nil_sublist _ | exact List.Sublist.refl _ | with_reducible apply List.Sublist.cons₂ | apply List.Sublist.cons))))) ?_; (try simp only [List.set_cons_zero, List.set_cons_succ]); try simp only [Act.put, List.setIfInBounds_toArray, List.set_cons_zero, List.set_cons_succ])
      (refine BraidZ.last (by kernel_rfl) ?_; (try clear hF); intro wk hS; ((try clear hF); refine hfI ?_; intro hF))
      go_wp2_with fail
      go_ret
      exact ⟨rfl, fin _ _ _ hcp ((((hS.drop 1).front 0 rfl).front 2 rfl).front 2 rfl)⟩
end
end Go.Proofs.YtlgidjanmaijaaaGreatDoor

/- log.action: a file more. -/
namespace Go.Proofs.YtlgidjanmaijaaaGreatDoor
set_option linter.unusedSimpArgs false
set_option linter.unusedVariables false
open Go.RowKit
set_option linter.all false
section
variable {B : Nat} {w0 w : World} {K J : List Item}
set_option maxRecDepth 100000 in
set_option maxHeartbeats 8000000 in
theorem act_add (s : SN) (a : AN) (gs : Nat) (Ac Af Aq Ar : Option Addr) (nc cc nf cf nq cq nr cr : Nat) (evs : List EV) (hnf : evs.length = nf) (hnf2 : nf ≤ 1000) (HFS : Hid (FsOk B w0 J evs s.files)) (hAf : Af = none → cf = 0)
    (hnc : s.cols.length = nc) (hncc : nc ≤ cc) (HCO : Hid (∀ W, Hp B w0 W J → RC W Ac s.cols))
    (h1 : a.kind = 1) (hS : Hp B w0 w (snB gs s.ver Ac nc cc s.next Af nf cf :: eRow Af nf cf evs :: K)) :
    Calls Tryz.prog 34 #[.pointer (some ⟨gs, 0, none⟩), actV a Aq nq cq Ar nr cr] w fun e w' => e = .returned (.int .i64 (actE s a)) ∧ ActRes B w0 w' gs K J s a := by
  unfold snB eRow at hS
  have HIX := Lib.hid (fun (W : World) (g : Nat) (hr : RE W Af evs) h => aindex_any (cf := cf) s a hnf hnf2 HFS.out g hr h)
  have HLP := Lib.hid (fun (W : World) => lpath_any a.path W)
  have hfl : s.files.length = nf := by rw [← HFS.out.len]; exact hnf
  have HE := Lib.hid (show actE s a = if nameB a.path = false ∨ a.rows < 1 ∨ 60 < a.rows then 1 else if 0 ≤ idxP a.path 0 (s.files.map (·.path)) then 9 else if nc = 0 then 6 else if 40 ≤ nf then 12 else 0 by unfold actE; rw [if_neg (by omega), if_pos h1, hnc, hfl])
  have HS1 := Lib.hid (show actS s a = { s with files := s.files ++ [⟨a.path, a.rows, []⟩] } by unfold actS; rw [if_neg (by omega), if_pos h1])
  obtain ⟨ix, hix⟩ : ∃ x, x = idxP a.path 0 (s.files.map (·.path)) := ⟨_, rfl⟩
  rw [← hix] at HIX HE
  obtain ⟨nb, hnb⟩ : ∃ b, b = nameB a.path := ⟨_, rfl⟩
  rw [← hnb] at HLP HE
  clear hix hnb hfl
  have b4 : (a.kind == 4) = false := by simp [h1]
  have b1 : (a.kind == 1) = true := by simp [h1]
  cases nb with
  | false =>
    have HE1 := Lib.hid (show actE s a = 1 by rw [HE.out, if_pos (.inl rfl)])
    rw [HE1.out]
    clear HE
    ((try clear hF); refine hfI ?_; intro hF)
    go_enter Tryz.func34, Tryz.ntmps34
    go_wp2_with (first | (refine hab ?_; (try clear hF); clear hS; intro wk hS; (try simp only [List.set_cons_zero, List.set_cons_succ, heap_size, heap_set_size] at hS); ((try clear hF); refine hfI ?_; intro hF)) | (go_at_call 59; (with_reducible refine (HIX.out _ _ (hS.re 2 rfl) hF.1.2.1.1).mono ?_); rintro e wk ⟨rfl, hX⟩; replace hS := hS.step hX; clear hX; ((try clear hF); refine hfI ?_; intro hF)) | (go_at_call 35; (with_reducible refine (HLP.out _).mono ?_); rintro e wk ⟨rfl, hX⟩; replace hS := hS.step hX; clear hX; ((try clear hF); refine hfI ?_; intro hF)))
    go_ret
    exact ⟨rfl, ActRes.bad HE1.out (by decide) (hS.sub (by first | simp | ((try simp only [List.eraseIdx_cons_zero, List.eraseIdx_cons_succ]); (repeat (first | exact List.nil_sublist _ | exact List.Sublist.refl _ | with_reducible apply List.Sublist.cons₂ | apply List.Sublist.cons)))))⟩
  | true =>
    by_cases r1 : a.rows < 1
    · have HE1 := Lib.hid (show actE s a = 1 by rw [HE.out, if_pos (.inr (.inl r1))])
      rw [HE1.out]
      clear HE
      ((try clear hF); refine hfI ?_; intro hF)
      go_enter Tryz.func34, Tryz.ntmps34
      go_wp2_with (first | (refine hab ?_; (try clear hF); clear hS; intro wk hS; (try simp only [List.set_cons_zero, List.set_cons_succ, heap_size, heap_set_size] at hS); ((try clear hF); refine hfI ?_; intro hF)) | (go_at_call 59; (with_reducible refine (HIX.out _ _ (hS.re 2 rfl) hF.1.2.1.1).mono ?_); rintro e wk ⟨rfl, hX⟩; replace hS := hS.step hX; clear hX; ((try clear hF); refine hfI ?_; intro hF)) | (go_at_call 35; (with_reducible refine (HLP.out _).mono ?_); rintro e wk ⟨rfl, hX⟩; replace hS := hS.step hX; clear hX; ((try clear hF); refine hfI ?_; intro hF)))
      go_ret
      exact ⟨rfl, ActRes.bad HE1.out (by decide) (hS.sub (by first | simp | ((try simp only [List.eraseIdx_cons_zero, List.eraseIdx_cons_succ]); (repeat (first | exact List.nil_sublist _ | exact List.Sublist.refl _ | with_reducible apply List.Sublist.cons₂ | apply List.Sublist.cons)))))⟩
    by_cases r2 : 60 < a.rows
    · have HE1 := Lib.hid (show actE s a = 1 by rw [HE.out, if_pos (.inr (.inr r2))])
      rw [HE1.out]
      clear HE
      ((try clear hF); refine hfI ?_; intro hF)
      go_enter Tryz.func34, Tryz.ntmps34
      go_wp2_with (first | (refine hab ?_; (try clear hF); clear hS; intro wk hS; (try simp only [List.set_cons_zero, List.set_cons_succ, heap_size, heap_set_size] at hS); ((try clear hF); refine hfI ?_; intro hF)) | (go_at_call 59; (with_reducible refine (HIX.out _ _ (hS.re 2 rfl) hF.1.2.1.1).mono ?_); rintro e wk ⟨rfl, hX⟩; replace hS := hS.step hX; clear hX; ((try clear hF); refine hfI ?_; intro hF)) | (go_at_call 35; (with_reducible refine (HLP.out _).mono ?_); rintro e wk ⟨rfl, hX⟩; replace hS := hS.step hX; clear hX; ((try clear hF); refine hfI ?_; intro hF)))
      go_ret
      exact ⟨rfl, ActRes.bad HE1.out (by decide) (hS.sub (by first | simp | ((try simp only [List.eraseIdx_cons_zero, List.eraseIdx_cons_succ]); (repeat (first | exact List.nil_sublist _ | exact List.Sublist.refl _ | with_reducible apply List.Sublist.cons₂ | apply List.Sublist.cons)))))⟩
    have HE2 := Lib.hid (show actE s a = if 0 ≤ ix then 9 else if nc = 0 then 6 else if 40 ≤ nf then 12 else 0 by rw [HE.out, if_neg (by simp; omega)])
    clear HE
    by_cases i0 : 0 ≤ ix
    · have HE1 := Lib.hid (show actE s a = 9 by rw [HE2.out, if_pos i0])
      rw [HE1.out]
      clear HE2
      ((try clear hF); refine hfI ?_; intro hF)
      go_enter Tryz.func34, Tryz.ntmps34
      go_wp2_with (first | (refine hab ?_; (try clear hF); clear hS; intro wk hS; (try simp only [List.set_cons_zero, List.set_cons_succ, heap_size, heap_set_size] at hS); ((try clear hF); refine hfI ?_; intro hF)) | (go_at_call 59; (with_reducible refine (HIX.out _ _ (hS.re 2 rfl) hF.1.2.1.1).mono ?_); rintro e wk ⟨rfl, hX⟩; replace hS := hS.step hX; clear hX; ((try clear hF); refine hfI ?_; intro hF)) | (go_at_call 35; (with_reducible refine (HLP.out _).mono ?_); rintro e wk ⟨rfl, hX⟩; replace hS := hS.step hX; clear hX; ((try clear hF); refine hfI ?_; intro hF)))
      go_ret
      exact ⟨rfl, ActRes.bad HE1.out (by decide) (hS.sub (by first | simp | ((try simp only [List.eraseIdx_cons_zero, List.eraseIdx_cons_succ]); (repeat (first | exact List.nil_sublist _ | exact List.Sublist.refl _ | with_reducible apply List.Sublist.cons₂ | apply List.Sublist.cons)))))⟩
    by_cases c0 : nc = 0
    · have HE1 := Lib.hid (show actE s a = 6 by rw [HE2.out, if_neg i0, if_pos c0])
      rw [HE1.out]
      have c1 : ((nc : Int) == 0) = true := by subst c0; rfl
      clear HE2 c0
      ((try clear hF); refine hfI ?_; intro hF)
      go_enter Tryz.func34, Tryz.ntmps34
      go_wp2_with (first | (refine hab ?_; (try clear hF); clear hS; intro wk hS; (try simp only [List.set_cons_zero, List.set_cons_succ, heap_size, heap_set_size] at hS); ((try clear hF); refine hfI ?_; intro hF)) | (go_at_call 59; (with_reducible refine (HIX.out _ _ (hS.re 2 rfl) hF.1.2.1.1).mono ?_); rintro e wk ⟨rfl, hX⟩; replace hS := hS.step hX; clear hX; ((try clear hF); refine hfI ?_; intro hF)) | (go_at_call 35; (with_reducible refine (HLP.out _).mono ?_); rintro e wk ⟨rfl, hX⟩; replace hS := hS.step hX; clear hX; ((try clear hF); refine hfI ?_; intro hF)))
      go_ret
      exact ⟨rfl, ActRes.bad HE1.out (by decide) (hS.sub (by first | simp | ((try simp only [List.eraseIdx_cons_zero, List.eraseIdx_cons_succ]); (repeat (first | exact List.nil_sublist _ | exact List.Sublist.refl _ | with_reducible apply List.Sublist.cons₂ | apply List.Sublist.cons)))))⟩
    have c1 : ((nc : Int) == 0) = false := by simp [c0]
    by_cases f0 : 40 ≤ nf
    · have HE1 := Lib.hid (show actE s a = 12 by rw [HE2.out, if_neg i0, if_neg c0, if_pos f0])
      rw [HE1.out]
      have f1 : (40 : Int) ≤ (nf : Int) := by omega
      clear HE2 c0
      ((try clear hF); refine hfI ?_; intro hF)
      go_enter Tryz.func34, Tryz.ntmps34
      go_wp2_with (first | (refine hab ?_; (try clear hF); clear hS; intro wk hS; (try simp only [List.set_cons_zero, List.set_cons_succ, heap_size, heap_set_size] at hS); ((try clear hF); refine hfI ?_; intro hF)) | (go_at_call 59; (with_reducible refine (HIX.out _ _ (hS.re 2 rfl) hF.1.2.1.1).mono ?_); rintro e wk ⟨rfl, hX⟩; replace hS := hS.step hX; clear hX; ((try clear hF); refine hfI ?_; intro hF)) | (go_at_call 35; (with_reducible refine (HLP.out _).mono ?_); rintro e wk ⟨rfl, hX⟩; replace hS := hS.step hX; clear hX; ((try clear hF); refine hfI ?_; intro hF)))
      go_ret
      exact ⟨rfl, ActRes.bad HE1.out (by decide) (hS.sub (by first | simp | ((try simp only [List.eraseIdx_cons_zero, List.eraseIdx_cons_succ]); (repeat (first | exact List.nil_sublist _ | exact List.Sublist.refl _ | with_reducible apply List.Sublist.cons₂ | apply List.Sublist.cons)))))⟩
    have f1 : ¬ (40 : Int) ≤ (nf : Int) := by omega
    have HE1 := Lib.hid (show actE s a = 0 by rw [HE2.out, if_neg i0, if_neg c0, if_neg f0])
    rw [HE1.out]
    have fin : ∀ (Ab : Option Addr) (cab : Nat) (W : World), Hp B w0 W (.blk gs [.int .i64 s.ver, .slice Ac nc cc, .int .i64 s.next, .slice Ab (nf + 1) cab] 33 :: .row 85 3 Ab (nf + 1) cab (cellsE evs ++ [.string a.path, .int .i64 a.rows, .slice none 0 0]) :: K) → ActRes B w0 W gs K J s a := fun Ab cab W hW => ActRes.good HE1.out (by
      rw [HS1.out]
      refine ⟨Ac, nc, cc, Ab, nf + 1, cab, evs ++ [⟨a.path, a.rows, none, 0, 0⟩], [], ?_, HFS.out.push ⟨rfl, rfl, rfl, fun _ => rfl, fun W' h i x hi => by simp at hi⟩, hnc, hncc, by rw [List.length_append, hnf]; rfl, fun h => by subst h; exact (hW.rowNil 1 rfl).2.1, HCO.out⟩
      unfold snB eRow
      rw [cellsE_append]
      exact hW)
    have FIN := Lib.hid fin
    clear fin HE2 c0 f0
    have fin := FIN.out
    ((try clear hF); refine hfI ?_; intro hF)
    go_enter Tryz.func34, Tryz.ntmps34
    go_upto_region 17 with (first | (refine hab ?_; (try clear hF); clear hS; intro wk hS; (try simp only [List.set_cons_zero, List.set_cons_succ, heap_size, heap_set_size] at hS); ((try clear hF); refine hfI ?_; intro hF)) | (go_at_call 59; (with_reducible refine (HIX.out _ _ (hS.re 2 rfl) hF.1.2.1.1).mono ?_); rintro e wk ⟨rfl, hX⟩; replace hS := hS.step hX; clear hX; ((try clear hF); refine hfI ?_; intro hF)) | (go_at_call 35; (with_reducible refine (HLP.out _).mono ?_); rintro e wk ⟨rfl, hX⟩; replace hS := hS.step hX; clear hX; ((try clear hF); refine hfI ?_; intro hF)))
    ((with_reducible refine wp_region_braidz_hp [.q, .q, .q, .q, .q, .q, .q, .q, .q, .q, .t, .t, .t, .t, .t] 14 [.blk w.heap.size [.int .i64 1, .string a.path, .int .i64 a.rows, .slice Aq nq cq, .slice Ar nr cr, .int .i64 a.next] 63, .blk gs [.int .i64 s.ver, .slice Ac nc cc, .int .i64 s.next, .slice Af nf cf] 33] (by kernel_rfl) rfl (by kernel_rfl) hS (fun w h => h.sub (by simp)) ?_); clear hS; (repeat ((with_reducible refine Walk.here ?_); (first | ((with_reducible apply Walk.skipQ); (first | rfl | exact wanted_false rfl rfl rfl (by assumption)); (try simp only [Mark.isQ, if_true, Bool.false_eq_true, if_false, Act.put, List.setIfInBounds_toArray, List.set_cons_zero, List.set_cons_succ])) | ((with_reducible apply Walk.val); (first | rfl | exact wanted_true rfl rfl rfl (by assumption)); (rintro w hS; ((try clear hF); refine hfI ?_; intro hF); go_simp; first | with_reducible rfl | (rw [if_neg (by first | omega | (simp only [ByteArray.size_append]; omega) | (simp [ByteArray.size_append]; omega))]; try with_reducible rfl)); (try simp only [Mark.isQ, if_true, Bool.false_eq_true, if_false, Act.put, List.setIfInBounds_toArray, List.set_cons_zero, List.set_cons_succ])) | ((with_reducible apply Walk.tail); (try simp only [Mark.isQ, if_true, Bool.false_eq_true, if_false, Act.put, List.setIfInBounds_toArray, List.set_cons_zero, List.set_cons_succ])) | ((with_reducible apply Walk.guardT); rfl; rfl; rfl; (all_goals intro hg)) | ((with_reducible apply Walk.guardF); rfl; rfl; rfl; (all_goals intro hg))))); refine Walk.done ?_; show BraidZ _ _ _ _ 14 5 [10, 11, 12, 13, 14] _ _)
    (refine BraidZ.next1 (i := 10) (by kernel_rfl) (by kernel_rfl) rfl ?_; (try simp only [List.getElem_toArray, List.getElem_cons_succ, List.getElem_cons_zero]))
    (refine ZStep.alloc (cs := [.string a.path, .int .i64 a.rows, .slice none 0 0]) (t := 85) (f := fun g => .slice (some ⟨g, 0, none⟩) 1 1) (by (first | rfl | exact wanted_true rfl rfl rfl (by assumption))) (fun w h => h.sub (by first | simp | ((try simp only [List.eraseIdx_cons_zero, List.eraseIdx_cons_succ]); (repeat (first | exact List.nil_sublist _ | exact List.Sublist.refl _ | with_reducible apply List.Sublist.cons₂ | apply List.Sublist.cons))))) (fun w hS => by ((try clear hF); refine hfI ?_; intro hF); go_simp) (fun ge => ?_); try simp only [Act.put, List.setIfInBounds_toArray, List.set_cons_zero, List.set_cons_succ])
    (refine BraidZ.next1 (i := 11) (by kernel_rfl) (by kernel_rfl) rfl ?_; (try simp only [List.getElem_toArray, List.getElem_cons_succ, List.getElem_cons_zero]))
    (refine ZStep.append Tryz.elem_ents (by (first | rfl | exact wanted_true rfl rfl rfl (by assumption))) (.tmp 80) (.tmp 86) rfl 3 rfl (by (try simp only [List.eraseIdx_cons_zero, List.eraseIdx_cons_succ]); rfl) rfl ⟨ge, 0, none⟩ rfl rfl (fun w hS jj u hu => World.news_of_block (hS.blkAt 0 rfl) jj u (by simpa using hu)) (by simp [Value.oneCell']) (by omega) (by omega) (fun w h => h.sub (by first | simp | ((try simp only [List.eraseIdx_cons_zero, List.eraseIdx_cons_succ]); (repeat (first | exact List.nil_sublist _ | exact List.Sublist.refl _ | with_reducible apply List.Sublist.cons₂ | apply List.Sublist.cons))))) (fun Ab cab => ?_); try simp only [Act.put, List.setIfInBounds_toArray, List.set_cons_zero, List.set_cons_succ])
    (refine BraidZ.next1 (i := 12) (by kernel_rfl) (by kernel_rfl) rfl ?_; (try simp only [List.getElem_toArray, List.getElem_cons_succ, List.getElem_cons_zero]))
    (refine ZStep.val (by (first | rfl | exact wanted_true rfl rfl rfl (by assumption))) (fun w h => h.sub (by first | simp | ((try simp only [List.eraseIdx_cons_zero, List.eraseIdx_cons_succ]); (repeat (first | exact List.nil_sublist _ | exact List.Sublist.refl _ | with_reducible apply List.Sublist.cons₂ | apply List.Sublist.cons))))) (by rintro w hS; ((try clear hF); refine hfI ?_; intro hF); go_simp; with_reducible rfl) ?_; try simp only [Act.put, List.setIfInBounds_toArray, List.set_cons_zero, List.set_cons_succ])
    (refine BraidZ.next1 (i := 13) (by kernel_rfl) (by kernel_rfl) rfl ?_; (try simp only [List.getElem_toArray, List.getElem_cons_succ, List.getElem_cons_zero]))
    (refine ZStep.val (by (first | rfl | exact wanted_true rfl rfl rfl (by assumption))) (fun w h => h.sub (by first | simp | ((try simp only [List.eraseIdx_cons_zero, List.eraseIdx_cons_succ]); (repeat (first | exact List.nil_sublist _ | exact List.Sublist.refl _ | with_reducible apply List.Sublist.cons₂ | apply List.Sublist.cons))))) (by rintro w hS; ((try clear hF); refine hfI ?_; intro hF); go_simp; with_reducible rfl) ?_; try simp only [Act.put, List.setIfInBounds_toArray, List.set_cons_zero, List.set_cons_succ])
    (refine BraidZ.next1 (i := 14) (by kernel_rfl) (by kernel_rfl) rfl ?_; (try simp only [List.getElem_toArray, List.getElem_cons_succ, List.getElem_cons_zero]))
    (show ZStep _ _ _ true _ _ _ _; refine ZStep.turn (by (first | rfl | exact wanted_true rfl rfl rfl (by assumption))) (fun w hS => ⟨w.setCell ⟨gs, 3, none⟩ (.slice Ab (nf + 1 : Nat) cab), .inl (by ((try clear hF); refine hfI ?_; intro hF); go_simp), hS.put (i := 3) rfl⟩) ?_; try simp only [Act.put, List.setIfInBounds_toArray, List.set_cons_zero, List.set_cons_succ])
    (refine BraidZ.last (by kernel_rfl) ?_; (try clear hF); intro wk hS; ((try clear hF); refine hfI ?_; intro hF))
    go_wp2_with fail
    go_ret
    exact ⟨rfl, fin _ _ _ ((((hS.drop 1).drop 1).front 0 rfl).front 1 rfl)⟩
end
end Go.Proofs.YtlgidjanmaijaaaGreatDoor

/- log.action: a file that goes, rows that are masked; all kinds. -/
namespace Go.Proofs.YtlgidjanmaijaaaGreatDoor
set_option linter.unusedSimpArgs false
set_option linter.unusedVariables false
open Go.RowKit
set_option linter.all false
theorem Hp.addrR {B : Nat} {w0 w : World} {L : List Item} {e : TypeId} {size n cap : Nat} {A : Option Addr} {xs : List Value} (h : Hp B w0 w L) (i : Nat) (hi : L[i]? = some (.row e size A n cap xs)) (hn : 0 < n) : ∃ g, A = some ⟨g, 0, none⟩ ∧ n ≤ cap ∧ cap ≤ 9223372036854775807 := by
  have ho : w.ownsRow B e size (.slice A n cap) n xs := h.own _ (List.mem_of_getElem? hi)
  rcases ho.2 with ⟨hv, h0⟩ | ⟨g, cp, cur, hv, _, _, h1, h2, _⟩
  · omega
  · obtain ⟨rfl, _, rfl⟩ : A = some ⟨g, 0, none⟩ ∧ n = n ∧ cap = cp := by simpa using hv
    exact ⟨g, rfl, h1, by unfold maxLen at h2; omega⟩
section
variable {B : Nat} {w0 w : World} {K J : List Item}
set_option maxRecDepth 100000 in
set_option maxHeartbeats 8000000 in
theorem act_remove (s : SN) (a : AN) (gs : Nat) (Ac Af Aq Ar : Option Addr) (nc cc nf cf nq cq nr cr : Nat) (evs : List EV) (hnf : evs.length = nf) (hnf2 : nf ≤ 1000) (HFS : Hid (FsOk B w0 J evs s.files)) (hAf : Af = none → cf = 0)
    (hnc : s.cols.length = nc) (hncc : nc ≤ cc) (HCO : Hid (∀ W, Hp B w0 W J → RC W Ac s.cols))
    (h2 : a.kind = 2) (hS : Hp B w0 w (snB gs s.ver Ac nc cc s.next Af nf cf :: eRow Af nf cf evs :: K)) :
    Calls Tryz.prog 34 #[.pointer (some ⟨gs, 0, none⟩), actV a Aq nq cq Ar nr cr] w fun e w' => e = .returned (.int .i64 (actE s a)) ∧ ActRes B w0 w' gs K J s a := by
  unfold snB eRow at hS
  have HIX := Lib.hid (fun (W : World) (g : Nat) (hr : RE W Af evs) h => aindex_any (cf := cf) s a hnf hnf2 HFS.out g hr h)
  have hrg := idxE_range (fun v => pathEq a.path v.path) evs 0
  rw [idxE_P, HFS.out.paths] at hrg
  have HE := Lib.hid (show actE s a = if idxP a.path 0 (s.files.map (·.path)) < 0 then 7 else 0 by unfold actE; rw [if_neg (by omega), if_neg (by omega), if_pos (.inl h2), if_pos h2])
  have HS1 := Lib.hid (show actS s a = { s with files := s.files.eraseIdx (idxP a.path 0 (s.files.map (·.path))).toNat } by unfold actS; rw [if_neg (by omega), if_neg (by omega), if_pos h2])
  obtain ⟨ix, hix⟩ : ∃ x, x = idxP a.path 0 (s.files.map (·.path)) := ⟨_, rfl⟩
  rw [← hix] at HIX HE HS1 hrg
  clear hix
  have b4 : (a.kind == 4) = false := by simp [h2]
  have b1 : (a.kind == 1) = false := by simp [h2]
  have b2 : (a.kind == 2) = true := by simp [h2]
  by_cases i0 : ix < 0
  · have HE1 := Lib.hid (show actE s a = 7 by rw [HE.out, if_pos i0])
    rw [HE1.out]
    clear HE
    ((try clear hF); refine hfI ?_; intro hF)
    go_enter Tryz.func34, Tryz.ntmps34
    go_wp2_with (first | (refine hab ?_; (try clear hF); clear hS; intro wk hS; (try simp only [List.set_cons_zero, List.set_cons_succ, heap_size, heap_set_size] at hS); ((try clear hF); refine hfI ?_; intro hF)) | (go_at_call 59; (with_reducible refine (HIX.out _ _ (hS.re 2 rfl) hF.1.2.1.1).mono ?_); rintro e wk ⟨rfl, hX⟩; replace hS := hS.step hX; clear hX; ((try clear hF); refine hfI ?_; intro hF)))
    go_ret
    exact ⟨rfl, ActRes.bad HE1.out (by decide) (hS.sub (by first | simp | ((try simp only [List.eraseIdx_cons_zero, List.eraseIdx_cons_succ]); (repeat (first | exact List.nil_sublist _ | exact List.Sublist.refl _ | with_reducible apply List.Sublist.cons₂ | apply List.Sublist.cons)))))⟩
  · have HE1 := Lib.hid (show actE s a = 0 by rw [HE.out, if_neg i0])
    rw [HE1.out]
    obtain ⟨k, rfl⟩ := Int.eq_ofNat_of_zero_le (show 0 ≤ ix by omega)
    have hkn : k < nf := by omega
    obtain ⟨g, rfl, hc1, hc2⟩ := hS.addrR 1 rfl (by omega)
    have HDL := Lib.hid (fun (W : World) (L : List Item) (hW : Hp B w0 W (.row 85 3 (some ⟨g, 0, none⟩) nf cf (cellsE evs) :: L)) => edelete_any evs g nf cf k hnf hkn hc1 hc2 hW)
    have fin : ∀ (W : World), Hp B w0 W (.blk gs [.int .i64 s.ver, .slice Ac nc cc, .int .i64 s.next, .slice (some ⟨g, 0, none⟩) (nf - 1 : Nat) cf] 33 :: .row 85 3 (some ⟨g, 0, none⟩) (nf - 1) cf (cellsE (evs.eraseIdx k)) :: K) → ActRes B w0 W gs K J s a := fun W hW => ActRes.good HE1.out (by
      rw [HS1.out, Int.toNat_natCast]
      exact ⟨Ac, nc, cc, some ⟨g, 0, none⟩, nf - 1, cf, evs.eraseIdx k, [], hW, HFS.out.erase k, hnc, hncc, by rw [List.length_eraseIdx, if_pos (by omega), hnf], (by intro h; cases h), HCO.out⟩)
    have FIN := Lib.hid fin
    clear fin HE hrg i0
    have e1 : IntKind.i64.wrap ((k : Int) + 1) = (k : Int) + 1 := IntWalk.i64_in _ (by omega)
    have i0 : ¬ ((k : Int) < 0) := by omega
    ((try clear hF); refine hfI ?_; intro hF)
    go_enter Tryz.func34, Tryz.ntmps34
    go_wp2_with (first | (refine hab ?_; (try clear hF); clear hS; intro wk hS; (try simp only [List.set_cons_zero, List.set_cons_succ, heap_size, heap_set_size] at hS); ((try clear hF); refine hfI ?_; intro hF)) | (go_at_call 59; (with_reducible refine (HIX.out _ _ (hS.re 2 rfl) hF.1.2.1.1).mono ?_); rintro e wk ⟨rfl, hX⟩; replace hS := hS.step hX; clear hX; ((try clear hF); refine hfI ?_; intro hF)) | (go_at_call 62; (with_reducible refine Calls.mono (HDL.out _ _ (hS.front 2 rfl)) ?_); clear hS; rintro e wk ⟨rfl, hS⟩; (try simp only [List.eraseIdx_cons_zero, List.eraseIdx_cons_succ, List.set_cons_zero, List.set_cons_succ] at hS); ((try clear hF); refine hfI ?_; intro hF)))
    go_ret
    exact ⟨rfl, FIN.out _ (((hS.drop 1).front 1 rfl))⟩
end
end Go.Proofs.YtlgidjanmaijaaaGreatDoor

/- log.action: rows that are masked; all kinds. -/
namespace Go.Proofs.YtlgidjanmaijaaaGreatDoor
set_option linter.unusedSimpArgs false
set_option linter.unusedVariables false
open Go.RowKit
set_option linter.all false
section
variable {B : Nat} {w0 w : World} {K J : List Item}
theorem Hp.ri {B : Nat} {w0 w : World} {L : List Item} {A : Option Addr} {cap n : Nat} {l : List Int} (h : Hp B w0 w L) (i : Nat) (hi : L[i]? = some (.row 3 1 A n cap (intsV l))) : RI w A l := fun j x hj => by
  obtain ⟨g, hg, c0, _⟩ := h.rowCell (j := j) (u := .int .i64 x) i hi (by rw [intsV_get, hj]; rfl)
  exact ⟨g, 0, hg, by rw [Nat.zero_add]; exact c0⟩
theorem FsOk.at {B : Nat} {w0 : World} {K : List Item} {evs : List EV} {ens : List EN} (h : FsOk B w0 K evs ens) {k : Nat} (hk : k < evs.length) : ∃ v e, evs[k]? = some v ∧ ens[k]? = some e ∧ EvOk B w0 K v e := by
  have h2 : k < ens.length := by rw [← h.len]; exact hk
  exact ⟨_, _, List.getElem?_eq_getElem hk, List.getElem?_eq_getElem h2, h.one k _ _ (List.getElem?_eq_getElem hk) (List.getElem?_eq_getElem h2)⟩
set_option maxRecDepth 100000 in
set_option maxHeartbeats 8000000 in
theorem act_mask (s : SN) (a : AN) (gs : Nat) (Ac Af Aq Ar : Option Addr) (nc cc nf cf nq cq nr cr : Nat) (evs : List EV) (hnf : evs.length = nf) (hnf2 : nf ≤ 1000) (HFS : Hid (FsOk B w0 J evs s.files)) (hAf : Af = none → cf = 0)
    (hnc : s.cols.length = nc) (hncc : nc ≤ cc) (HCO : Hid (∀ W, Hp B w0 W J → RC W Ac s.cols))
    (hq : a.mask.length = nq) (hq2 : nq ≤ 100) (hAq : Aq = none → cq = 0) (HQ : Hid (∀ W, Hp B w0 W K → RI W Aq a.mask)) (HJ : Hid (∀ W, Hp B w0 W K → Hp B w0 W J)) (hms : ∀ e ∈ s.files, e.mask.length ≤ 100)
    (h3 : a.kind = 3) (hS : Hp B w0 w (snB gs s.ver Ac nc cc s.next Af nf cf :: eRow Af nf cf evs :: K)) :
    Calls Tryz.prog 34 #[.pointer (some ⟨gs, 0, none⟩), actV a Aq nq cq Ar nr cr] w fun e w' => e = .returned (.int .i64 (actE s a)) ∧ ActRes B w0 w' gs K J s a := by
  unfold snB eRow at hS
  have HIX := Lib.hid (fun (W : World) (g : Nat) (hr : RE W Af evs) h => aindex_any (cf := cf) s a hnf hnf2 HFS.out g hr h)
  have hrg := idxE_range (fun v => pathEq a.path v.path) evs 0
  rw [idxE_P, HFS.out.paths] at hrg
  have HE := Lib.hid (show actE s a = if idxP a.path 0 (s.files.map (·.path)) < 0 then 7 else match s.files[(idxP a.path 0 (s.files.map (·.path))).toNat]? with | some e => masksE e.rows e.mask a.mask | none => 1 by unfold actE; rw [if_neg (by omega), if_neg (by omega), if_pos (.inr h3), if_neg (by omega : ¬ a.kind = 2)]; rfl)
  have HS1 := Lib.hid (show actS s a = match s.files[(idxP a.path 0 (s.files.map (·.path))).toNat]? with | some e => { s with files := s.files.set (idxP a.path 0 (s.files.map (·.path))).toNat ⟨e.path, e.rows, sortI (e.mask ++ a.mask)⟩ } | none => s by unfold actS; rw [if_neg (by omega), if_neg (by omega), if_neg (by omega)]; rfl)
  obtain ⟨ix, hix⟩ : ∃ x, x = idxP a.path 0 (s.files.map (·.path)) := ⟨_, rfl⟩
  rw [← hix] at HIX HE HS1 hrg
  clear hix
  have b4 : (a.kind == 4) = false := by simp [h3]
  have b1 : (a.kind == 1) = false := by simp [h3]
  have b2 : (a.kind == 2) = false := by simp [h3]
  have b3 : (a.kind == 3) = true := by simp [h3]
  by_cases i0 : ix < 0
  · have HE1 := Lib.hid (show actE s a = 7 by rw [HE.out, if_pos i0])
    rw [HE1.out]
    clear HE hms
    ((try clear hF); refine hfI ?_; intro hF)
    go_enter Tryz.func34, Tryz.ntmps34
    go_wp2_with (first | (refine hab ?_; (try clear hF); clear hS; intro wk hS; (try simp only [List.set_cons_zero, List.set_cons_succ, heap_size, heap_set_size] at hS); ((try clear hF); refine hfI ?_; intro hF)) | (go_at_call 59; (with_reducible refine (HIX.out _ _ (hS.re 2 rfl) hF.1.2.1.1).mono ?_); rintro e wk ⟨rfl, hX⟩; replace hS := hS.step hX; clear hX; ((try clear hF); refine hfI ?_; intro hF)))
    go_ret
    exact ⟨rfl, ActRes.bad HE1.out (by decide) (hS.sub (by first | simp | ((try simp only [List.eraseIdx_cons_zero, List.eraseIdx_cons_succ]); (repeat (first | exact List.nil_sublist _ | exact List.Sublist.refl _ | with_reducible apply List.Sublist.cons₂ | apply List.Sublist.cons)))))⟩
  · obtain ⟨k, rfl⟩ := Int.eq_ofNat_of_zero_le (show 0 ≤ ix by omega)
    have hkn : k < nf := by omega
    obtain ⟨g, rfl, hc1, hc2⟩ := hS.addrR 1 rfl (by omega)
    obtain ⟨v, e, hv, he, hve⟩ := HFS.out.at (k := k) (by omega)
    have HE2 := Lib.hid (show actE s a = masksE e.rows e.mask a.mask by rw [HE.out, if_neg i0, Int.toNat_natCast, he])
    have HS2 := Lib.hid (show actS s a = { s with files := s.files.set k ⟨e.path, e.rows, sortI (e.mask ++ a.mask)⟩ } by rw [HS1.out, Int.toNat_natCast, he])
    clear HE HS1
    have hem := hms e (List.mem_of_getElem? he)
    have HMA := Lib.hid (fun (W : World) (hW : Hp B w0 W (.blk gs [.int .i64 s.ver, .slice Ac nc cc, .int .i64 s.next, .slice (some ⟨g, 0, none⟩) nf cf] 33 :: .row 85 3 (some ⟨g, 0, none⟩) nf cf (cellsE evs) :: K)) =>
      (show Calls Tryz.prog 63 #[.pointer (some ⟨gs, 0, none⟩), .int .i64 k, .slice Aq nq cq] W fun e w' => e = .returned (.int .i64 (actE s a)) ∧ ActRes B w0 w' gs K J s a from
        (masks_any gs g k s.ver s.next Ac Aq nc cc nf cf nq cq evs v e.mask a.mask hnf hv hq hq2 hve.len (by rw [← hve.len]; exact hem) hve.nil hAq (Lib.hid fun W h => hve.mask W (HJ.out W h)) HQ (by unfold snB eRow; exact hW)).mono fun x W' ⟨hx, hp⟩ => by
          rw [hve.rows] at hx hp
          rw [← HE2.out] at hx hp
          refine ⟨hx, ?_⟩
          by_cases hz : actE s a = 0
          · rw [if_pos hz] at hp
            obtain ⟨Am, cm, hm, hH⟩ := hp
            refine ActRes.good hz ?_
            rw [HS2.out]
            refine ⟨Ac, nc, cc, some ⟨g, 0, none⟩, nf, cf, _, [_], hH, ((HFS.out.more fun W' h => h.tail).set k ⟨hve.path, rfl, ?_, hm, fun W' h => h.ri 0 rfl⟩), hnc, hncc, by rw [List.length_set]; exact hnf, (by intro h; cases h), fun W' h => HCO.out W' h.tail⟩
            show (sortI (e.mask ++ a.mask)).length = v.mn + nq
            rw [sortI_len, List.length_append, hve.len, hq]
          · rw [if_neg hz] at hp
            exact ActRes.bad rfl hz hp.tail.tail))
    clear HE2 HS2 hms hem hve hrg hv he
    have i0 : ¬ ((k : Int) < 0) := by omega
    ((try clear hF); refine hfI ?_; intro hF)
    go_enter Tryz.func34, Tryz.ntmps34
    go_wp2_with (first | (refine hab ?_; (try clear hF); clear hS; intro wk hS; (try simp only [List.set_cons_zero, List.set_cons_succ, heap_size, heap_set_size] at hS); ((try clear hF); refine hfI ?_; intro hF)) | (go_at_call 59; (with_reducible refine (HIX.out _ _ (hS.re 2 rfl) hF.1.2.1.1).mono ?_); rintro e wk ⟨rfl, hX⟩; replace hS := hS.step hX; clear hX; ((try clear hF); refine hfI ?_; intro hF)) | (go_at_call 63; (with_reducible refine Calls.mono (HMA.out _ hS.tail) ?_); rintro e wk ⟨rfl, hW⟩))
    go_ret
    exact ⟨rfl, hW⟩
end
end Go.Proofs.YtlgidjanmaijaaaGreatDoor

/- log.action: of any kind. -/
namespace Go.Proofs.YtlgidjanmaijaaaGreatDoor
set_option linter.unusedSimpArgs false
set_option linter.unusedVariables false
open Go.RowKit
set_option linter.all false
/-- where an action's parts lie -/
structure AV where
  qa : Option Addr
  qn : Nat
  qc : Nat
  ra : Option Addr
  rn : Nat
  rc : Nat
structure AcOk (B : Nat) (w0 : World) (K : List Item) (a : AN) (v : AV) : Prop where
  q : a.mask.length = v.qn
  q2 : v.qn ≤ 100
  qz : v.qa = none → v.qc = 0
  qm : ∀ W, Hp B w0 W K → RI W v.qa a.mask
  r : a.cols.length = v.rn
  r2 : v.rn ≤ 1000
  r3 : v.rn ≤ v.rc
  rr : ∀ W, Hp B w0 W K → RC W v.ra a.cols
theorem AcOk.more {B : Nat} {w0 : World} {K K' : List Item} {a : AN} {v : AV} (h : AcOk B w0 K a v) (hK : ∀ W, Hp B w0 W K' → Hp B w0 W K) : AcOk B w0 K' a v := ⟨h.q, h.q2, h.qz, fun W hW => h.qm W (hK W hW), h.r, h.r2, h.r3, fun W hW => h.rr W (hK W hW)⟩
abbrev acV (a : AN) (v : AV) : Value := actV a v.qa v.qn v.qc v.ra v.rn v.rc
section
variable {B : Nat} {w0 w : World} {K J : List Item}
theorem action_any (s : SN) (a : AN) (v : AV) (gs : Nat) (Ac Af : Option Addr) (nc cc nf cf : Nat) (evs : List EV) (hnf : evs.length = nf) (hnf2 : nf ≤ 1000) (HFS : FsOk B w0 J evs s.files) (hAf : Af = none → cf = 0)
    (hnc : s.cols.length = nc) (hncc : nc ≤ cc) (HCO : ∀ W, Hp B w0 W J → RC W Ac s.cols) (HKP : ∀ W, Hp B w0 W K → KeptAt W) (HJ : ∀ W, Hp B w0 W K → Hp B w0 W J)
    (hv : AcOk B w0 K a v) (hms : ∀ e ∈ s.files, e.mask.length ≤ 100)
    (hS : Hp B w0 w (snB gs s.ver Ac nc cc s.next Af nf cf :: eRow Af nf cf evs :: K)) :
    Calls Tryz.prog 34 #[.pointer (some ⟨gs, 0, none⟩), acV a v] w fun e w' => e = .returned (.int .i64 (actE s a)) ∧ ActRes B w0 w' gs K J s a := by
  by_cases h4 : a.kind = 4
  · exact act_schema s a gs Ac Af v.qa v.ra nc cc nf cf v.qn v.qc v.rn v.rc evs hnf hnf2 (Lib.hid HFS) hAf hv.r hv.r2 hv.r3 (Lib.hid hv.rr) (Lib.hid HKP) h4 hS
  by_cases h1 : a.kind = 1
  · exact act_add s a gs Ac Af v.qa v.ra nc cc nf cf v.qn v.qc v.rn v.rc evs hnf hnf2 (Lib.hid HFS) hAf hnc hncc (Lib.hid HCO) h1 hS
  by_cases h2 : a.kind = 2
  · exact act_remove s a gs Ac Af v.qa v.ra nc cc nf cf v.qn v.qc v.rn v.rc evs hnf hnf2 (Lib.hid HFS) hAf hnc hncc (Lib.hid HCO) h2 hS
  by_cases h3 : a.kind = 3
  · exact act_mask s a gs Ac Af v.qa v.ra nc cc nf cf v.qn v.qc v.rn v.rc evs hnf hnf2 (Lib.hid HFS) hAf hnc hncc (Lib.hid HCO) hv.q hv.q2 hv.qz (Lib.hid hv.qm) (Lib.hid HJ) hms h3 hS
  exact act_other s a gs Ac Af v.qa v.ra nc cc nf cf v.qn v.qc v.rn v.rc evs hnf hnf2 (Lib.hid HFS) h4 h1 h2 h3 hS
end
end Go.Proofs.YtlgidjanmaijaaaGreatDoor

/- a table that stands: what an action leaves of it. -/
namespace Go.Proofs.YtlgidjanmaijaaaGreatDoor
set_option linter.unusedSimpArgs false
set_option linter.unusedVariables false
open Go.RowKit
set_option linter.all false
theorem maskFrom_iff (rows : Int) : ∀ (l : List Int) (lo : Int), maskFrom rows lo l = true ↔ l.Pairwise (· < ·) ∧ ∀ x ∈ l, 0 ≤ x ∧ x < rows ∧ lo < x
  | [], lo => by simp [maskFrom]
  | x :: l, lo => by
    rw [maskFrom, Bool.and_eq_true, maskFrom_iff rows l x]
    simp only [Bool.and_eq_true, decide_eq_true_eq, List.pairwise_cons, List.mem_cons]
    constructor
    · rintro ⟨⟨⟨h1, h2⟩, h3⟩, h4, h5⟩
      refine ⟨⟨fun y hy => (h5 y hy).2.2, h4⟩, ?_⟩
      rintro y (rfl | hy)
      · exact ⟨h1, h2, h3⟩
      · have := h5 y hy
        exact ⟨this.1, this.2.1, by omega⟩
    · rintro ⟨⟨h1, h2⟩, h3⟩
      have hx := h3 x (.inl rfl)
      exact ⟨⟨⟨hx.1, hx.2.1⟩, hx.2.2⟩, h2, fun y hy => ⟨(h3 y (.inr hy)).1, (h3 y (.inr hy)).2.1, h1 y hy⟩⟩
theorem maskB_iff (rows : Int) (l : List Int) : maskB l rows = true ↔ l.Pairwise (· < ·) ∧ ∀ x ∈ l, 0 ≤ x ∧ x < rows := by
  unfold maskB
  rw [maskFrom_iff]
  refine and_congr_right fun _ => forall_congr' fun x => forall_congr' fun _ => ?_
  constructor
  · rintro ⟨a, b, c⟩; exact ⟨a, b⟩
  · rintro ⟨a, b⟩; exact ⟨a, b, by omega⟩
theorem maskFrom_len (rows : Int) : ∀ (l : List Int) (lo : Int), lo < rows → maskFrom rows lo l = true → (l.length : Int) ≤ rows - 1 - lo
  | [], lo, h, _ => by simp; omega
  | x :: l, lo, h, h2 => by
    rw [maskFrom, Bool.and_eq_true] at h2
    simp only [Bool.and_eq_true, decide_eq_true_eq] at h2
    have := maskFrom_len rows l x (by omega) h2.2
    simp only [List.length_cons]
    omega
theorem maskB_len {rows : Int} {l : List Int} (h : maskB l rows = true) (hr : 0 ≤ rows) : (l.length : Int) ≤ rows := by
  have := maskFrom_len rows l (-1) (by omega) h
  omega
/-- masked more -/
theorem maskB_sort {rows : Int} {m l : List Int} (hm : maskB m rows = true) (hl : maskB l rows = true) (hd : l.any m.contains = false) : maskB (sortI (m ++ l)) rows = true := by
  rw [maskB_iff] at *
  have hp : (sortI (m ++ l)).Perm (m ++ l) := List.mergeSort_perm _ _
  have hle : (sortI (m ++ l)).Pairwise (fun a b => decide (a ≤ b) = true) := List.pairwise_mergeSort (fun a b c h1 h2 => by simp only [decide_eq_true_eq] at *; omega) (fun a b => by simp only [Bool.or_eq_true, decide_eq_true_eq]; omega) _
  have hn : (m ++ l).Pairwise (· ≠ ·) := by
    rw [List.pairwise_append]
    refine ⟨hm.1.imp fun h => by omega, hl.1.imp fun h => by omega, fun a ha b hb he => ?_⟩
    subst he
    rw [List.any_eq_false] at hd
    exact hd a hb (by simpa using ha)
  have hn2 : (sortI (m ++ l)).Pairwise (· ≠ ·) := hp.symm.pairwise hn (fun h => Ne.symm h)
  refine ⟨(hle.and hn2).imp fun h => by have := h.1; simp only [decide_eq_true_eq] at this; have := h.2; omega, fun x hx => ?_⟩
  rcases List.mem_append.1 (hp.mem_iff.1 hx) with h | h
  · exact hm.2 x h
  · exact hl.2 x h
/-- a table that may be -/
structure Good (s : SN) : Prop where
  files : ∀ e ∈ s.files, maskB e.mask e.rows = true ∧ 1 ≤ e.rows ∧ e.rows ≤ 60
  few : s.files.length ≤ 40
  once : (s.files.map (·.path)).Nodup
  cols : s.cols = [] ∨ rightC s.cols s.next = true
theorem Good.mask {s : SN} (h : Good s) {e : EN} (he : e ∈ s.files) : e.mask.length ≤ 60 := by
  have := maskB_len (h.files e he).1 (by have := (h.files e he).2.1; omega)
  have := (h.files e he).2.2
  omega
theorem idxP_none (p : ByteArray) : ∀ (l : List ByteArray) (k : Nat), ¬ 0 ≤ idxP p k l → p ∉ l
  | [], k, _ => by simp
  | x :: l, k, h => by
    rw [idxP] at h
    split at h
    · omega
    · rename_i hx
      simp only [List.mem_cons, not_or]
      refine ⟨fun he => hx (by rw [he]; unfold pathEq; simp), idxP_none p l (k + 1) h⟩
theorem Good.nil (v n : Int) : Good ⟨v, [], n, []⟩ := ⟨by simp, by simp, by simp, .inl rfl⟩
theorem Good.ver {s : SN} (h : Good s) (v : Int) : Good { s with ver := v } := ⟨h.files, h.few, h.once, h.cols⟩
theorem Good.act {s : SN} {a : AN} (h : Good s) (he : actE s a = 0) : Good (actS s a) := by
  unfold actE at he
  unfold actS
  by_cases h4 : a.kind = 4
  · rw [if_pos h4] at he ⊢
    refine ⟨h.files, h.few, h.once, .inr ?_⟩
    split at he
    · cases he
    · rename_i hb
      simp only [not_or] at hb
      simpa using hb.1
  rw [if_neg h4] at he ⊢
  by_cases h1 : a.kind = 1
  · rw [if_pos h1] at he ⊢
    split at he
    · cases he
    rename_i hb
    simp only [not_or] at hb
    split at he
    · cases he
    rename_i hi
    split at he
    · cases he
    split at he
    · cases he
    rename_i hc hf
    refine ⟨fun e hm => ?_, ?_, ?_, h.cols⟩
    · rcases List.mem_append.1 hm with hm | hm
      · exact h.files e hm
      · obtain rfl := List.mem_singleton.1 hm
        exact ⟨rfl, by show (1 : Int) ≤ a.rows; omega, by show a.rows ≤ 60; omega⟩
    · simp only [List.length_append, List.length_cons, List.length_nil]; omega
    · simp only [List.map_append, List.map_cons, List.map_nil]
      rw [List.nodup_append]
      exact ⟨h.once, by simp, fun x hx y hy hxy => idxP_none a.path _ 0 hi (by rw [List.mem_singleton.1 hy] at hxy; rw [← hxy]; exact hx)⟩
  rw [if_neg h1] at he ⊢
  split at he
  rotate_left
  · cases he
  rename_i h23
  split at he
  · cases he
  by_cases h2 : a.kind = 2
  · rw [if_pos h2]
    refine ⟨fun e hm => h.files e (List.mem_of_mem_eraseIdx hm), ?_, ?_, h.cols⟩
    · exact Nat.le_trans (List.length_eraseIdx_le _ _) h.few
    · exact h.once.sublist ((List.eraseIdx_sublist _ _).map _)
  · rw [if_neg h2] at he ⊢
    revert he
    cases hx : s.files[(idxP a.path 0 (s.files.map (·.path))).toNat]? with
    | none => intro he; cases he
    | some e =>
      intro he
      simp only at he ⊢
      have hem := h.files e (List.mem_of_getElem? hx)
      unfold masksE at he
      split at he
      · cases he
      rename_i hb
      simp only [not_or] at hb
      split at he
      · cases he
      rename_i hd
      refine ⟨fun e' hm => ?_, ?_, ?_, h.cols⟩
      · rcases List.mem_or_eq_of_mem_set hm with hm | rfl
        · exact h.files e' hm
        · exact ⟨maskB_sort hem.1 (by simpa using hb.2) (by simpa using hd), hem.2⟩
      · rw [List.length_set]; exact h.few
      · rw [List.map_set]
        have : (s.files.map (·.path)).set (idxP a.path 0 (s.files.map (·.path))).toNat e.path = s.files.map (·.path) := by
          refine List.ext_getElem? fun i => ?_
          rw [List.getElem?_set]
          split
          · rename_i hi
            subst hi
            rw [List.getElem?_map, hx]
            have := (List.getElem?_eq_some_iff.1 hx).1
            simp [this]
          · rfl
        rw [this]
        exact h.once
end Go.Proofs.YtlgidjanmaijaaaGreatDoor

/- log.Apply. -/
namespace Go.Proofs.YtlgidjanmaijaaaGreatDoor
set_option linter.unusedSimpArgs false
set_option linter.unusedVariables false
open Go.RowKit
set_option linter.all false
/-- where a table's parts lie -/
structure SV where
  ca : Option Addr
  cn : Nat
  cc : Nat
  fa : Option Addr
  fn : Nat
  fc : Nat
  evs : List EV
structure SnK (B : Nat) (w0 : World) (K : List Item) (s : SN) (v : SV) : Prop where
  fs : FsOk B w0 K v.evs s.files
  fl : v.evs.length = v.fn
  fz : v.fa = none → v.fc = 0
  cl : s.cols.length = v.cn
  cg : v.cn ≤ v.cc
  cr : ∀ W, Hp B w0 W K → RC W v.ca s.cols
theorem SnK.more {B : Nat} {w0 : World} {K K' : List Item} {s : SN} {v : SV} (h : SnK B w0 K s v) (hK : ∀ W, Hp B w0 W K' → Hp B w0 W K) : SnK B w0 K' s v := ⟨h.fs.more hK, h.fl, h.fz, h.cl, h.cg, fun W hW => h.cr W (hK W hW)⟩
structure SnOk (B : Nat) (w0 : World) (K : List Item) (s : SN) (v : SV) : Prop where
  k : SnK B w0 K s v
  fr : ∀ W, Hp B w0 W K → RE W v.fa v.evs
theorem SnOk.more {B : Nat} {w0 : World} {K K' : List Item} {s : SN} {v : SV} (h : SnOk B w0 K s v) (hK : ∀ W, Hp B w0 W K' → Hp B w0 W K) : SnOk B w0 K' s v := ⟨h.k.more hK, fun W hW => h.fr W (hK W hW)⟩
theorem Good.fn {B : Nat} {w0 : World} {K : List Item} {s : SN} {v : SV} (hg : Good s) (h : SnK B w0 K s v) : v.fn ≤ 40 := by
  have := h.fl; have := h.fs.len; have := hg.few; omega
abbrev snV (s : SN) (v : SV) : Value := .agg #[.int .i64 s.ver, .slice v.ca v.cn v.cc, .int .i64 s.next, .slice v.fa v.fn v.fc]
abbrev coV (tx : ByteArray) (rd : Bool) (A : Option Addr) (n cap : Nat) : Value := .agg #[.string tx, .bool rd, .slice A n cap]
/-- the actions that lie at A -/
def RA (w : World) (A : Option Addr) (l : List (AN × AV)) : Prop := ∀ (k : Nat) (a : AN) (v : AV), l[k]? = some (a, v) → ∃ b o : Nat, A = some ⟨b, o, none⟩ ∧ w.cell? ⟨b, o + k * 6, none⟩ = some (.int .i64 a.kind) ∧ w.cell? ⟨b, o + k * 6 + 1, none⟩ = some (.string a.path) ∧ w.cell? ⟨b, o + k * 6 + 2, none⟩ = some (.int .i64 a.rows) ∧
  w.cell? ⟨b, o + k * 6 + 3, none⟩ = some (.slice v.qa v.qn v.qc) ∧ w.cell? ⟨b, o + k * 6 + 4, none⟩ = some (.slice v.ra v.rn v.rc) ∧ w.cell? ⟨b, o + k * 6 + 5, none⟩ = some (.int .i64 a.next)
/-- a commit's actions, one by one; or where it stops -/
def runA : Nat → SN → List AN → Except (Int × Nat) SN
  | _, s, [] => .ok s
  | k, s, a :: l => if actE s a = 0 then runA (k + 1) (actS s a) l else .error (actE s a, k)
def applyR (s : SN) (tx : ByteArray) (l : List AN) : Except (Int × Option Nat) SN :=
  if nameB tx = true then (match runA 0 { s with ver := s.ver + 1 } l with | .ok s' => .ok s' | .error (e, k) => .error (e, some k)) else .error (1, none)
theorem runA_cons {k : Nat} {s : SN} {a : AN} {l : List AN} : runA k s (a :: l) = if actE s a = 0 then runA (k + 1) (actS s a) l else .error (actE s a, k) := rfl
/-- what Apply answers -/
def ApRes (B : Nat) (w0 : World) (K J : List Item) (D : Except (Int × Option Nat) SN) (e : Ending) (w' : World) : Prop :=
  match D with
  | .error (n, none) => e = .returned (.tuple #[.agg #[.int .i64 0, .slice none 0 0, .int .i64 0, .slice none 0 0], .iface 64 (.int .i64 n)]) ∧ Hp B w0 w' K
  | .error (n, some k) => ∃ g, e = .returned (.tuple #[.agg #[.int .i64 0, .slice none 0 0, .int .i64 0, .slice none 0 0], .iface 94 (.pointer (some ⟨g, 0, none⟩))]) ∧ Hp B w0 w' (.blk g [.int .i64 n, .int .i64 k] 96 :: K)
  | .ok s => ∃ v M, e = .returned (.tuple #[snV s v, .nilIface]) ∧ Hp B w0 w' (M ++ K) ∧ SnOk B w0 (M ++ J) s v
section
variable {B : Nat} {w0 w : World} {K J : List Item}
theorem ApRes.atE {n : Int} {k g : Nat} (h : Hp B w0 w (.blk g [.int .i64 n, .int .i64 k] 96 :: K)) : ApRes B w0 K J (.error (n, some k)) (.returned (.tuple #[.agg #[.int .i64 0, .slice none 0 0, .int .i64 0, .slice none 0 0], .iface 94 (.pointer (some ⟨g, 0, none⟩))])) w := ⟨g, rfl, h⟩
theorem ApRes.good {s : SN} {v : SV} {M : List Item} (h : Hp B w0 w (M ++ K)) (hs : SnOk B w0 (M ++ J) s v) : ApRes B w0 K J (.ok s) (.returned (.tuple #[snV s v, .nilIface])) w := ⟨v, M, rfl, h, hs⟩
set_option maxRecDepth 100000 in
set_option maxHeartbeats 8000000 in
theorem apply_any (s : SN) (v : SV) (tx : ByteArray) (rd : Bool) (A : Option Addr) (n cap : Nat) (l : List (AN × AV)) (hn : l.length = n) (hn2 : n ≤ 1000) (hJ : J.Sublist K) (HSN : Hid (SnOk B w0 J s v)) (hg : Good s) (hv : s.ver < 1000000000) (hv0 : 0 ≤ s.ver)
    (HRA : Hid (∀ W, Hp B w0 W J → RA W A l)) (HAV : Hid (∀ a v, (a, v) ∈ l → AcOk B w0 J a v)) (HKP : Hid (∀ W, Hp B w0 W J → KeptAt W)) (hS : Hp B w0 w K) :
    Calls Tryz.prog 18 #[snV s v, coV tx rd A n cap] w fun e w' => ApRes B w0 K J (applyR s tx (l.map (·.1))) e w' := by
  have HN := Lib.hid (fun W => name_any tx W)
  obtain ⟨D, hD⟩ : ∃ D, D = applyR s tx (l.map (·.1)) := ⟨_, rfl⟩
  rw [← hD]
  have HD := Lib.hid hD
  clear hD
  unfold applyR at HD
  obtain ⟨nb, hnb⟩ : ∃ b, b = nameB tx := ⟨_, rfl⟩
  rw [← hnb] at HN HD
  clear hnb
  have hR := Reads.nil w
  cases nb with
  | false =>
    have HD1 := Lib.hid (show D = .error (1, none) by rw [HD.out]; rfl)
    rw [HD1.out]
    clear HD HD1
    have hF : True := trivial
    go_enter Tryz.func18, Tryz.ntmps18
    go_wp2_with (first | (refine hab ?_; (try clear hF); clear hS; intro wk hS; (try simp only [List.set_cons_zero, List.set_cons_succ, heap_size, heap_set_size] at hS); ((try clear hF); refine hfI ?_; intro hF)) | (go_at_call 32; (with_reducible refine (HN.out _).mono ?_); rintro e wk ⟨rfl, hX⟩; replace hS := hS.step hX; clear hX; ((try clear hF); refine hfI ?_; intro hF)))
    exact ⟨rfl, .tuple #[.agg #[.int .i64 0, .slice none 0 0, .int .i64 0, .slice none 0 0], .iface 64 (.int .i64 1)], by simp [results, Tryz.results18, go_sem, hF], by unfold ApRes; exact ⟨rfl, hS.sub (by first | simp | ((repeat (first | exact List.nil_sublist _ | exact List.Sublist.refl _ | with_reducible apply List.Sublist.cons₂ | apply List.Sublist.cons))))⟩⟩
  | true =>
    have HD1 := Lib.hid (show D = (match runA 0 { s with ver := s.ver + 1 } (l.map (·.1)) with | .ok s' => .ok s' | .error (e, k) => .error (e, some k)) by rw [HD.out]; rfl)
    have e1 : IntKind.i64.wrap (s.ver + 1) = s.ver + 1 := IntWalk.i64_in _ (by omega)
    have HCL := Lib.hid (fun W (h : Hp B w0 W K) => eclone_any v.evs v.fa v.fn v.fc W HSN.out.k.fl (HSN.out.fr W (h.sub hJ)) HSN.out.k.fz (by have := hg.fn HSN.out.k; omega))
    clear HD
    have hF : True := trivial
    go_enter Tryz.func18, Tryz.ntmps18
    go_wp2_with (first | (refine hab ?_; (try clear hF); clear hS; intro wk hS; (try simp only [List.set_cons_zero, List.set_cons_succ, heap_size, heap_set_size] at hS); ((try clear hF); refine hfI ?_; intro hF)) | (go_at_call 32; (with_reducible refine (HN.out _).mono ?_); rintro e wk ⟨rfl, hX⟩; replace hS := hS.step hX; clear hX; ((try clear hF); refine hfI ?_; intro hF)) | (go_at_call 33; (with_reducible refine Calls.mono (HCL.out _ (hS.sub (by first | simp | ((repeat (first | exact List.nil_sublist _ | exact List.Sublist.refl _ | with_reducible apply List.Sublist.cons₂ | apply List.Sublist.cons)))))) ?_); rintro e wk ⟨Af, cf, rfl, hz, hW⟩; replace hS := hS.join hW; clear hW; simp only [List.cons_append, List.nil_append] at hS; ((try clear hF); refine hfI ?_; intro hF)))
    rename_i w7 w6 w5 w4 w3 w2 w1 w8 Kc ac
    clear hF hR
    replace hS := hS.front 1 rfl
    simp only [List.eraseIdx_cons_zero, List.eraseIdx_cons_succ] at hS
    generalize w7.heap.size = g3 at *
    generalize w6.heap.size = g4 at *
    generalize w4.heap.size = g6 at *
    obtain ⟨K2, hK2⟩ : ∃ L : List Item, L = [.blk g4 [.int .i64 0, .slice none 0 0, .int .i64 0, .slice none 0 0] 33, .blk g3 [.string tx, .bool rd, .slice A n cap] 38, .blk w.heap.size [.int .i64 s.ver, .slice v.ca v.cn v.cc, .int .i64 s.next, .slice v.fa v.fn v.fc] 33] ++ K := ⟨_, rfl⟩
    have HK2 := Lib.hid (show ∀ M W, Hp B w0 W (M ++ K2) → Hp B w0 W (M ++ J) by rw [hK2]; exact fun M W h => h.sub ((List.Sublist.refl M).append (hJ.trans (List.sublist_append_right _ K))))
    have hg1 := hg.ver (s.ver + 1)
    obtain ⟨s1, hs1⟩ : ∃ x, x = ({ s with ver := s.ver + 1 } : SN) := ⟨_, rfl⟩
    rw [← hs1] at hg1 HD1
    have ini : Hp B w0 wk (.blk g6 [.int .i64 s1.ver, .slice v.ca v.cn v.cc, .int .i64 s1.next, .slice Af v.fn cf] 33 :: .row 85 3 Af v.fn cf (cellsE v.evs) :: K2) := by rw [hs1, hK2]; exact hS
    have hk1 : SnK B w0 J s1 { v with fa := Af, fc := cf } := by
      have := HSN.out.k
      rw [hs1]
      exact ⟨this.fs, this.fl, hz, this.cl, this.cg, this.cr⟩
    clear hS hg hz HCL HN hs1
    go_loopw [28] (fun i wr => ∃ (k : Nat) (s' : SN) (v' : SV) (M : List Item), i = .int .i64 k ∧ k ≤ n ∧ Hid (runA 0 s1 (l.map (·.1)) = runA k s' ((l.map (·.1)).drop k)) ∧ Hid (Good s') ∧ Hid (SnK B w0 (M ++ J) s' v') ∧ Hp B w0 wr (.blk g6 [.int .i64 s'.ver, .slice v'.ca v'.cn v'.cc, .int .i64 s'.next, .slice v'.fa v'.fn v'.fc] 33 :: .row 85 3 v'.fa v'.fn v'.fc (cellsE v'.evs) :: (M ++ K2))) (fun i _ => n - (intOf i).toNat)
    case atStart => exact ⟨0, s1, { v with fa := Af, fc := cf }, [], rfl, Nat.zero_le _, Lib.hid rfl, Lib.hid hg1, Lib.hid hk1, ini⟩
    case round =>
      clear ini hk1 hg1
      obtain ⟨k, s', v', M, rfl, hk, HRN, HG, HSK, hS⟩ := hrel
      by_cases hlt : k < n
      · obtain ⟨⟨a, va⟩, ha⟩ : ∃ x, l[k]? = some x := ⟨_, List.getElem?_eq_getElem (by omega)⟩
        obtain ⟨b, o, hA, _⟩ := HRA.out _ ((HK2.out M _ hS.tail.tail).sub (List.sublist_append_right M J)) k a va ha
        have HRD := Lib.hid (fun (W : World) (h : Hp B w0 W (M ++ K2)) => show W.cell? ⟨b, o + k * 6, none⟩ = some (.int .i64 a.kind) ∧ W.cell? ⟨b, o + k * 6 + 1, none⟩ = some (.string a.path) ∧ W.cell? ⟨b, o + k * 6 + 2, none⟩ = some (.int .i64 a.rows) ∧
            W.cell? ⟨b, o + k * 6 + 3, none⟩ = some (.slice va.qa va.qn va.qc) ∧ W.cell? ⟨b, o + k * 6 + 4, none⟩ = some (.slice va.ra va.rn va.rc) ∧ W.cell? ⟨b, o + k * 6 + 5, none⟩ = some (.int .i64 a.next) from by
          obtain ⟨b', o', hA', c⟩ := HRA.out _ ((HK2.out M _ h).sub (List.sublist_append_right M J)) k a va ha
          obtain ⟨rfl, rfl⟩ : b = b' ∧ o = o' := by rw [hA] at hA'; simpa using hA'
          exact c)
        subst hA
        have hdr : (l.map (·.1)).drop k = a :: (l.map (·.1)).drop (k + 1) := by
          have h1 : (l.map (·.1))[k]? = some a := by rw [List.getElem?_map, ha]; rfl
          obtain ⟨h2, h3⟩ := List.getElem?_eq_some_iff.1 h1
          rw [List.drop_eq_getElem_cons h2, h3]
        have HRN2 := Lib.hid (show runA 0 s1 (l.map (·.1)) = if actE s' a = 0 then runA (k + 1) (actS s' a) ((l.map (·.1)).drop (k + 1)) else .error (actE s' a, k) by rw [HRN.out, hdr]; rfl)
        have hav := (HAV.out a va (List.mem_of_getElem? ha)).more fun W (h : Hp B w0 W (M ++ K2)) => (HK2.out M W h).sub (List.sublist_append_right M J)
        have hf40 := HG.out.fn HSK.out
        have HAC := Lib.hid (fun (W : World) (hW : Hp B w0 W (.blk g6 [.int .i64 s'.ver, .slice v'.ca v'.cn v'.cc, .int .i64 s'.next, .slice v'.fa v'.fn v'.fc] 33 :: .row 85 3 v'.fa v'.fn v'.fc (cellsE v'.evs) :: (M ++ K2))) =>
          action_any s' a va g6 v'.ca v'.fa v'.cn v'.cc v'.fn v'.fc v'.evs HSK.out.fl (by omega) HSK.out.fs HSK.out.fz HSK.out.cl HSK.out.cg HSK.out.cr (fun W h => HKP.out W ((HK2.out M W h).sub (List.sublist_append_right M J))) (fun W h => HK2.out M W h) hav (fun e he => by have := HG.out.mask he; omega) (w := W) (by unfold snB; exact hW))
        clear HRN hdr hav hf40 ha
        by_cases he : actE s' a = 0
        · have be : (actE s' a == 0) = true := by simp [he]
          ((try clear hF); refine hfI ?_; intro hF)
          go_wp2_with (first | (refine hab ?_; (try clear hF); clear hS; intro wk hS; (try simp only [List.set_cons_zero, List.set_cons_succ, heap_size, heap_set_size] at hS); ((try clear hF); refine hfI ?_; intro hF)) | (go_at_call 34; (with_reducible refine Calls.mono (HAC.out _ hS.tail) ?_); clear hS; rintro e wk ⟨he1, hW⟩; rw [he] at he1; subst he1; unfold ActRes at hW; rw [if_pos he] at hW; obtain ⟨Ac2, nc2, cc2, Af2, nf2, cf2, ev2, M2, hS, hfs2, hcl2, hcg2, hfl2, hfz2, hcr2⟩ := hW; rw [← List.append_assoc] at hS hfs2 hcr2; clear HRD; unfold snB eRow at hS; ((try clear hF); refine hfI ?_; intro hF)))
          go_roundw
          case rel => exact ⟨k + 1, actS s' a, ⟨Ac2, nc2, cc2, Af2, nf2, cf2, ev2⟩, M2 ++ M, by go_num, by omega, Lib.hid (by rw [HRN2.out, if_pos he]), Lib.hid (HG.out.act he), Lib.hid ⟨hfs2, hfl2, hfz2, hcl2, hcg2, hcr2⟩, hS⟩
          case measure => simp [intOf]; omega
        · have hDe : D = .error (actE s' a, some k) := by rw [HD1.out, HRN2.out, if_neg he]
          clear HD1
          subst hDe
          have be : (actE s' a == 0) = false := by simp [he]
          ((try clear hF); refine hfI ?_; intro hF)
          go_wp2_with (first | (refine hab ?_; (try clear hF); clear hS; intro wk hS; (try simp only [List.set_cons_zero, List.set_cons_succ, heap_size, heap_set_size] at hS); ((try clear hF); refine hfI ?_; intro hF)) | (go_at_call 34; (with_reducible refine Calls.mono (HAC.out _ hS.tail) ?_); clear hS; rintro e wk ⟨rfl, hW⟩; unfold ActRes at hW; rw [if_neg he] at hW; have hS := hW.sub (List.sublist_append_right M K2); clear hW HRD; rw [hK2] at hS; simp only [List.cons_append, List.nil_append] at hS; ((try clear hF); refine hfI ?_; intro hF)))
          have hT := ((hS.drop 1).drop 1).drop 1
          refine ⟨rfl, .tuple #[.agg #[.int .i64 0, .slice none 0 0, .int .i64 0, .slice none 0 0], .iface 94 (.pointer (some ⟨_, 0, none⟩))], ?_, ApRes.atE hT⟩
          simp [results, Tryz.results18, go_sem, hF]
      · obtain rfl : n = k := by omega
        have hDe : D = .ok s' := by rw [HD1.out, HRN.out, List.drop_eq_nil_of_le (by rw [List.length_map]; omega)]; rfl
        clear HD1
        subst hDe
        rw [hK2] at hS
        replace hS : Hp B w0 wr (.blk g4 [.int .i64 0, .slice none 0 0, .int .i64 0, .slice none 0 0] 33 :: .blk g6 [.int .i64 s'.ver, .slice v'.ca v'.cn v'.cc, .int .i64 s'.next, .slice v'.fa v'.fn v'.fc] 33 :: .row 85 3 v'.fa v'.fn v'.fc (cellsE v'.evs) :: (M ++ (.blk g3 [.string tx, .bool rd, .slice A n cap] 38 :: .blk w.heap.size [.int .i64 s.ver, .slice v.ca v.cn v.cc, .int .i64 s.next, .slice v.fa v.fn v.fc] 33 :: K))) := hS.perm (List.perm_middle (l₁ := _ :: _ :: M)).symm
        ((try clear hF); refine hfI ?_; intro hF)
        go_wp2_with (first | (refine hab ?_; (try clear hF); clear hS; intro wk hS; (try simp only [List.set_cons_zero, List.set_cons_succ, heap_size, heap_set_size] at hS); ((try clear hF); refine hfI ?_; intro hF)) | fail)
        have hT : Hp B w0 _ ((.row 85 3 v'.fa v'.fn v'.fc (cellsE v'.evs) :: M) ++ K) := (hS.tail.tail).sub (List.Sublist.cons_cons _ ((List.Sublist.refl M).append (List.sublist_append_right [_, _] K)))
        refine ⟨rfl, .tuple #[snV s' v', .nilIface], ?_, ApRes.good (M := .row 85 3 v'.fa v'.fn v'.fc (cellsE v'.evs) :: M) hT ⟨HSK.out.more fun W h => h.tail, fun W h => h.re 0 rfl⟩⟩
        simp [results, Tryz.results18, go_sem, hF]
end
end Go.Proofs.YtlgidjanmaijaaaGreatDoor

/- millpondkeep.set: a table's files, by their names. -/
namespace Go.Proofs.YtlgidjanmaijaaaGreatDoor
set_option linter.unusedSimpArgs false
set_option linter.unusedVariables false
open Go.RowKit
set_option linter.all false
open Go.Maps (Keyed)
/-- a map whose keys are those -/
structure KT (D : DataW Value) (ks : List ByteArray) : Prop where
  tidy : Maps.Tidy D
  nd : ks.Nodup
  mem : ∀ x, vhas D x = true ↔ x ∈ ks
  size : Maps.size D = ks.length
theorem KT.nil : KT (.map []) [] := ⟨⟨[], rfl, List.Pairwise.nil⟩, List.nodup_nil, fun x => by simp [vhas_none], rfl⟩
theorem KT.isMap {D : DataW Value} {ks : List ByteArray} (h : KT D ks) : Maps.IsMap D := by
  obtain ⟨es, he, _⟩ := h.tidy
  exact ⟨es, he⟩
theorem KT.put {D : DataW Value} {ks : List ByteArray} (h : KT D ks) (x : ByteArray) (v : Value) (hx : x ∉ ks) : KT (D.put (sk x) (.held v)) (ks ++ [x]) := by
  have hb : vhas D x = false := by
    cases hv : vhas D x with
    | false => rfl
    | true => exact absurd ((h.mem x).1 hv) hx
  refine ⟨h.tidy.put (k := sk x) trivial _, ?_, fun y => ?_, ?_⟩
  · rw [List.nodup_append]
    exact ⟨h.nd, by simp, fun a ha b hb2 e => hx (by rw [List.mem_singleton.1 hb2] at e; rw [← e]; exact ha)⟩
  · by_cases e : y = x
    · subst e
      rw [vhas_put_same h.isMap]
      simp
    · rw [vhas_put_other e, h.mem y]
      simp [e]
  · rw [Maps.size_put h.tidy, show Maps.has D (sk x) = false from hb, h.size]
    simp
theorem KT.eq {D1 D2 : DataW Value} {k1 k2 : List ByteArray} (h1 : KT D1 k1) (h2 : KT D2 k2) (h : ∀ x, x ∈ k1 ↔ x ∈ k2) : Maps.size D1 = Maps.size D2 := by
  rw [h1.size, h2.size]
  exact ((List.perm_ext_iff_of_nodup h1.nd h2.nd).2 fun a => h a).length_eq
/-- a file, as it lies in the map -/
abbrev evV (v : EV) : Value := .agg #[.string v.path, .int .i64 v.rows, .slice v.ma v.mn v.mc]
def setD (l : List EV) : DataW Value := l.foldl (fun D v => D.put (sk v.path) (.held (evV v))) (.map [])
theorem setD_snoc (l : List EV) (v : EV) : setD (l ++ [v]) = (setD l).put (sk v.path) (.held (evV v)) := by simp [setD, List.foldl_append]
theorem setD_take {l : List EV} {k : Nat} {v : EV} (h : l[k]? = some v) : setD (l.take (k + 1)) = (setD (l.take k)).put (sk v.path) (.held (evV v)) := by
  rw [← setD_snoc, List.take_add_one, h]
  rfl
theorem nodup_snoc {l : List ByteArray} {x : ByteArray} (h : (l ++ [x]).Nodup) : l.Nodup ∧ x ∉ l := by
  rw [List.nodup_append] at h
  exact ⟨h.1, fun hx => h.2.2 x hx x (by simp) rfl⟩
theorem setD_kt_rev : ∀ (r : List EV), (r.reverse.map (·.path)).Nodup → KT (setD r.reverse) (r.reverse.map (·.path))
  | [], _ => KT.nil
  | v :: r, h => by
    rw [List.reverse_cons, List.map_append] at h ⊢
    obtain ⟨h1, h2⟩ := nodup_snoc h
    rw [setD_snoc]
    exact (setD_kt_rev r h1).put v.path _ h2
theorem setD_kt {l : List EV} (h : (l.map (·.path)).Nodup) : KT (setD l) (l.map (·.path)) := by
  have := setD_kt_rev l.reverse (by rw [List.reverse_reverse]; exact h)
  rw [List.reverse_reverse] at this
  exact this
theorem setD_get_rev : ∀ (r : List EV), (r.reverse.map (·.path)).Nodup → ∀ v ∈ r, ∀ z, vget (setD r.reverse) v.path z = evV v
  | [], _, v, hv, z => by cases hv
  | u :: r, h, v, hv, z => by
    rw [List.reverse_cons, List.map_append] at h
    obtain ⟨h1, h2⟩ := nodup_snoc h
    rw [List.reverse_cons, setD_snoc]
    rcases List.mem_cons.1 hv with rfl | hv
    · exact vget_put_same (setD_kt_rev r h1).isMap _ _ _
    · rw [vget_put_other (fun e => h2 (by show u.path ∈ _; rw [← e]; exact List.mem_map.2 ⟨v, by simpa using hv, rfl⟩))]
      exact setD_get_rev r h1 v hv z
theorem setD_get {l : List EV} (h : (l.map (·.path)).Nodup) {v : EV} (hv : v ∈ l) (z : Value) : vget (setD l) v.path z = evV v := by
  have := setD_get_rev l.reverse (by rw [List.reverse_reverse]; exact h) v (by simpa using hv) z
  rw [List.reverse_reverse] at this
  exact this
set_option maxRecDepth 100000 in
set_option maxHeartbeats 8000000 in
theorem set_any {B : Nat} {w0 w : World} {K : List Item} (evs : List EV) (ver next : Int) (ca fa : Option Addr) (cn cc fn fc : Nat) (hl : evs.length = fn) (h1 : fn ≤ 1000) (hp : ∀ v ∈ evs, v.path.size ≤ maxLen)
    (HRE : Hid (∀ W, Hp B w0 W K → RE W fa evs)) (hS : Hp B w0 w K) :
    Calls Tryz.prog 28 #[.agg #[.int .i64 ver, .slice ca cn cc, .int .i64 next, .slice fa fn fc]] w fun e w' => ∃ g ob, e = .returned (.map (some g)) ∧ VFit Tryz.prog 9 fn (setD evs) ob ∧ Hp B w0 w' (.ob g ob :: K) := by
  have HL := Lib.hid hl
  have HP := Lib.hid hp
  clear hl hp
  have hF : True := trivial
  go_enter Tryz.func28, Tryz.ntmps28
  go_wp2_with (first | (refine hab ?_; (try clear hF); clear hS; intro wk hS; (try simp only [List.set_cons_zero, List.set_cons_succ, heap_size, heap_set_size] at hS); ((try clear hF); refine hfI ?_; intro hF)) | (refine wpList_makeMap_v (k := 9) rfl rfl hS ?_; clear hS; intro gm wk ob hf hS; ((try clear hF); refine hfI ?_; intro hF)))
  have HM0 := Lib.hid (show VFit Tryz.prog 9 0 (setD (evs.take 0)) ob from hf)
  clear hf
  go_loopw [10] (fun i wr => ∃ (k : Nat) (ob : Obj), i = .int .i64 k ∧ k ≤ fn ∧ Hid (VFit Tryz.prog 9 k (setD (evs.take k)) ob) ∧ Hp B w0 wr (.ob gm ob :: .blk w.heap.size [.int .i64 ver, .slice ca cn cc, .int .i64 next, .slice fa fn fc] 33 :: K)) (fun i _ => fn - (intOf i).toNat)
  case atStart => exact ⟨0, ob, rfl, Nat.zero_le _, HM0, hS⟩
  case round =>
    clear hS HM0
    obtain ⟨k, ob, rfl, hk, HM, hS⟩ := hrel
    by_cases hlt : k < fn
    · obtain ⟨v, hv⟩ : ∃ x, evs[k]? = some x := ⟨evs[k]'(by rw [HL.out]; exact hlt), List.getElem?_eq_getElem _⟩
      obtain ⟨b, o, hA, _⟩ := HRE.out _ hS.tail.tail k v hv
      have HRD := Lib.hid (fun (W : World) (h : Hp B w0 W K) => show W.cell? ⟨b, o + k * 3, none⟩ = some (.string v.path) ∧ W.cell? ⟨b, o + k * 3 + 1, none⟩ = some (.int .i64 v.rows) ∧ W.cell? ⟨b, o + k * 3 + 2, none⟩ = some (.slice v.ma v.mn v.mc) from by
          obtain ⟨b', o', hA', c⟩ := HRE.out _ h k v hv
          obtain ⟨rfl, rfl⟩ : b = b' ∧ o = o' := by rw [hA] at hA'; simpa using hA'
          exact c)
      subst hA
      have hkey := key_str (s := v.path) (HP.out v (List.mem_of_getElem? hv))
      have HST := Lib.hid (setD_take hv)
      have hM := HM.out
      clear hv HM
      ((try clear hF); refine hfI ?_; intro hF)
      go_wp2_with (first | (refine hab ?_; (try clear hF); clear hS; intro wk hS; (try simp only [List.set_cons_zero, List.set_cons_succ, heap_size, heap_set_size] at hS); ((try clear hF); refine hfI ?_; intro hF)) | (refine wpList_mapPut_v rfl _ _ _ (.inl rfl) Tryz.keyedStr Tryz.underlying81 1 hM hS rfl rfl (evV v) v.path rfl rfl hkey (by unfold maxLen; omega) ?_; clear hS; intro ob2 wk hf2 hS; (try simp only [List.eraseIdx_cons_zero, List.eraseIdx_cons_succ, List.set_cons_zero, List.set_cons_succ] at hS); ((try clear hF); refine hfI ?_; intro hF)))
      go_roundw
      case rel => exact ⟨k + 1, ob2, by go_num, by omega, Lib.hid (by rw [HST.out]; exact hf2), hS.sub (by simp)⟩
      case measure => simp [intOf]; omega
    · obtain rfl : fn = k := by omega
      have hM := HM.out
      ((try clear hF); refine hfI ?_; intro hF)
      go_wp2_with (first | (refine hab ?_; (try clear hF); clear hS; intro wk hS; (try simp only [List.set_cons_zero, List.set_cons_succ, heap_size, heap_set_size] at hS); ((try clear hF); refine hfI ?_; intro hF)) | fail)
      go_ret
      exact ⟨gm, ob, rfl, by rw [List.take_of_length_le (by rw [HL.out]; exact Nat.le_refl _)] at hM; exact hM, hS.sub (by simp)⟩
end Go.Proofs.YtlgidjanmaijaaaGreatDoor

/- what Apply leaves of a table: it stands, one version on. -/
namespace Go.Proofs.YtlgidjanmaijaaaGreatDoor
set_option linter.unusedSimpArgs false
set_option linter.unusedVariables false
open Go.RowKit
set_option linter.all false
theorem actS_ver (s : SN) (a : AN) : (actS s a).ver = s.ver := by
  unfold actS
  split
  · rfl
  split
  · rfl
  split
  · rfl
  split <;> rfl
theorem runA_good : ∀ (l : List AN) (k : Nat) (s s' : SN), Good s → runA k s l = .ok s' → Good s' ∧ s'.ver = s.ver
  | [], k, s, s', hg, h => by
    rw [runA] at h
    obtain rfl := Except.ok.inj h
    exact ⟨hg, rfl⟩
  | a :: l, k, s, s', hg, h => by
    rw [runA_cons] at h
    split at h
    · rename_i he
      have := runA_good l (k + 1) (actS s a) s' (hg.act he) h
      exact ⟨this.1, this.2.trans (actS_ver s a)⟩
    · cases h
theorem apply_good {s s' : SN} {tx : ByteArray} {l : List AN} (hg : Good s) (h : applyR s tx l = .ok s') : Good s' ∧ s'.ver = s.ver + 1 := by
  unfold applyR at h
  split at h
  · revert h
    cases hr : runA 0 { s with ver := s.ver + 1 } l with
    | ok x =>
      intro h
      obtain rfl := Except.ok.inj h
      exact runA_good l 0 _ _ (hg.ver _) hr
    | error e => intro h; cases h
  · cases h
end Go.Proofs.YtlgidjanmaijaaaGreatDoor
