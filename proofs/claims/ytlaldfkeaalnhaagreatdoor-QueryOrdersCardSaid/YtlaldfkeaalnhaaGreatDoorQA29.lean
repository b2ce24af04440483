/- Texts joined: query.Run: the walk. millpondkeep.runs, kept, rightRows: the walks. The tables that the rows of QueryParts and QueryOrders list: what they tell of the world; a world that has them. slices.SortFunc at rows; millpondkeep.sorted. QueryOrders, QueryParts: columns and rows that are right; what comes of the questions: plain. millpondkeep.kept, rightRows: the walks. The texts that QueryOrders asks: what they are read as: plain. -/
import Derived.Test.YtlaldfkeaalnhaaGreatDoorQA28
import Derived.Test.YtlaldfkeaalnhaaGreatDoorQA25
import Derived.Test.YtlaldfkeaalnhaaGreatDoorQA18
import Derived.Test.YtlaldfkeaalnhaaGreatDoorQA10
import Derived.Test.YtlaldfkeaalnhaaGreatDoorQA11
import Derived.Test.YtlaldfkeaalnhaaGreatDoorQA01
import Derived.Test.YtlaldfkeaalnhaaGreatDoorCards
import Derived.Test.YtlaldfkeaalnhaaGreatDoorTie
import Derived.LaidMore
import Derived.LaidHandle
import Derived.Lay
import Derived.OpenShut
import Derived.Stop.Joined
import Derived.SevenTiedAt
import Derived.Lib.LaidTab
import Derived.Stop.LaidErr
import Derived.LaidLaws
import Derived.HandedShaped
import Derived.Test.YtlaldfkeaalnhaaGreatDoorQA16
/- query.Run: the walk. -/
namespace Go.Proofs.YtlaldfkeaalnhaaGreatDoor
set_option linter.unusedSimpArgs false
set_option linter.unusedVariables false
open Go.RowKit
set_option linter.all false
theorem perm_row {a b : Item} {G : List Item} {L : List Item} : (a :: (G ++ [b])).Perm (a :: b :: G) := (List.perm_append_comm (l₁ := G) (l₂ := [b])).cons a
/-- what the sort is told of -/
def OutR (w1 wx : World) (out : List (List GV)) (lv : Value) : Prop :=
 ∃ (wB : World) (xs : List Mx) (gO k cO : Nat), lv = .slice (some ⟨gO, 0, none⟩) k cO ∧ Hid (Ext w1 wB) ∧ Hid (xs.map (·.2.2) = out) ∧ Hid (xs.length = k) ∧ k ≤ 1000 ∧ k ≤ cO ∧ Hp wB.heap.size wB wx (rowsI gO k cO xs :: xs.map rowI)
theorem plan_ok {cs : List CG} {q : QG} {is bs : List Int} (h : planE cs q = (0, is, bs)) : byE cs q.by_ = some bs ∧ (itemsE cs (someE q) bs q.items).1 = 0 ∧ (itemsE cs (someE q) bs q.items).2 = is := by
 unfold planE at h
 cases hb : byE cs q.by_ with
 | none => rw [hb] at h; cases h
 | some b =>
  rw [hb] at h
  simp only at h
  split at h
  ·rename_i h1; exact absurd (congrArg Prod.fst h) h1
  ·rename_i h1
   obtain ⟨h2, h3⟩ := (Prod.mk.injEq .. ▸ h : _ ∧ _)
   obtain ⟨rfl, rfl⟩ := (Prod.mk.injEq .. ▸ h3 : _ ∧ _)
   exact ⟨rfl, by simpa using h1, rfl⟩
theorem srt_run {w1 wB W : World} {gQ gO k cO : Nat} {xs : List Mx} {v : QV} {q : QG} (hq : QRead w1 v q) (hx1 : Ext w1 wB) (h3 : w1.cell? ⟨gQ, 3, none⟩ = some (.slice v.oa v.om v.oc)) (hlen : xs.length = k) (hk : k ≤ 1000) (hc : k ≤ cO) (ho : ∀ p ∈ q.ord, 0 ≤ p.1 ∧ p.1 < q.items.length) (hrow : ∀ x ∈ xs, x.2.2.length = q.items.length) (h : Hp wB.heap.size wB W (rowsI gO k cO xs :: xs.map rowI)) :
  Calls Tryz.prog 52 #[.slice (some ⟨gO, 0, none⟩) k cO, .func (.func 53) #[] #[.pointer (some ⟨gQ, 0, none⟩)]] W fun e w' => e = .returned (.tuple #[]) ∧ Hp wB.heap.size wB w' (rowsI gO k cO (stableL mx0 (ltM (ordC q.ord)) xs) :: xs.map rowI) :=
 stable_any xs 53 #[.pointer (some ⟨gQ, 0, none⟩)] (ordC q.ord) hlen hk hc eg_qrun2 (fun xs' W' hm' hl' hW x hx y hy => by
  have hx2 : Ext w1 W' := hx1.trans hW.ext
  have hib : q.items.length ≤ 1000 := by rw [hq.il]; exact hq.ib
  have e1 := hrow x hx
  have e2 := hrow y hy
  exact run2_any q.ord v.oa v.om v.oc gQ x y W' (hq.or_.ext hx2) hq.ol hq.ob (hx2.keeps h3) (rowI_rv hW.tail (List.mem_map.2 ⟨x, hx, rfl⟩)) (rowI_rv hW.tail (List.mem_map.2 ⟨y, hy, rfl⟩)) (by omega) (by omega) (fun p hp => by
   have := ho p hp
   omega)) h
theorem someE_no {q : QG} (h : someE q = false) : q.by_ = [] ∧ ∀ x ∈ q.items, x.fn = noS := by
 unfold someE at h
 rw [Bool.or_eq_false_iff] at h
 refine ⟨List.eq_nil_of_length_eq_zero (by have := of_decide_eq_false h.1; omega), fun x hx => ?_⟩
 have := List.any_eq_false.1 h.2 x hx
 simpa using this
set_option maxRecDepth 100000 in
set_option maxHeartbeats 8000000 in
theorem qrun_any (cs : List CG) (A : Option Addr) (n cap : Nat) (rs : List (List GV)) (A2 : Option Addr) (n2 cap2 : Nat) (v : QV) (q : QG) (w : World) (hn : cs.length = n) (hc : RC w A cs) (hl : n ≤ 1000) (hn2 : rs.length = n2) (hr : RR w A2 rs) (h0 : 1 ≤ n2) (hl2 : n2 ≤ 1000) (hrl : ∀ r ∈ rs, r.length = n) (hq : QRead w v q) (ho : ∀ p ∈ q.ord, 0 ≤ p.1 ∧ p.1 < q.items.length) (hst : ∀ x ∈ q.items, x.col = starS → x.fn = countS) :
  Calls Tryz.prog 17 #[.slice A n cap, .slice A2 n2 cap2, qV v] w (RunRes w (runE cs rs q)) := by
 obtain ⟨P, hP⟩ : ∃ P, P = planE cs q := ⟨_, rfl⟩
 have hpl := plan_any cs A n cap v q
 by_cases hE : P.1 = 0
 case neg =>
  have HPL := Lib.hid (fun (W : World) (hx : Ext w W) => show Calls Tryz.prog 46 #[.slice A n cap, qV v] W fun e w' => e = .returned (.tuple #[.slice none 0 0, .slice none 0 0, .iface 101 (.int .i64 P.1)]) ∧ Ext W w' from by
   have := hpl W hn (hc.ext hx) hl (hq.ext hx)
   rw [← hP] at this
   refine this.mono fun e w' h => ?_
   unfold PlanRes at h
   rwa [if_neg hE] at h)
  have HR := Lib.hid (show runE cs rs q = (P.1, []) by unfold runE; rw [← hP, if_pos hE])
  have HE := Lib.hid hE
  obtain ⟨pe, is, bs⟩ := P
  dsimp only at HPL HR HE
  clear hP hpl hE hn hc hn2 hr hrl hq ho hst
  obtain ⟨ia, im, ic, wp, ba, bn, bc, oa, om, oc, lim⟩ := v
  have hS := Hp.init w
  have hR := Reads.nil w
  go_enter Tryz.func17, Tryz.ntmps17
  go_wp2_with (first | (refine hab ?_; (try clear hF); clear hS; intro wk hS; (try simp only [List.set_cons_zero, List.set_cons_succ, heap_size, heap_set_size] at hS); ((try clear hF); refine hfI ?_; intro hF)) | (go_at_call 46; (with_reducible refine (HPL.out _ hS.ext).mono ?_); rintro e wk ⟨rfl, hX⟩; replace hS := hS.step hX; clear hX; ((try clear hF); refine hfI ?_; intro hF)))
  go_ret2
  rw [HR.out]
  unfold RunRes
  rw [if_neg HE.out]
  exact ⟨rfl, hS.ext⟩
 case pos =>
 obtain ⟨pe, is, bs⟩ := P
 obtain rfl : pe = 0 := hE
 obtain ⟨hby, hit, his⟩ := plan_ok hP.symm
 obtain ⟨hbl, hbk⟩ := byE_len cs q.by_ bs hby
 obtain ⟨hil, hik⟩ := itemsE_ok cs (someE q) bs q.items hit
 rw [his] at hil hik
 have HR := Lib.hid (show runE cs rs q = (0, limQ q.limit (srtR (ordC q.ord) (outQ q is bs rs))) by unfold runE; rw [← hP]; rfl)
 have HPL := Lib.hid (fun (W : World) (hx : Ext w W) => show Calls Tryz.prog 46 #[.slice A n cap, qV v] W fun e w' => ∃ (Ai : Option Addr) (ni ci : Nat) (Ab : Option Addr) (nb cb : Nat), e = .returned (.tuple #[.slice Ai ni ci, .slice Ab nb cb, .nilIface]) ∧ Hid (is.length = ni ∧ bs.length = nb) ∧ Hp W.heap.size W w' [.row 3 1 Ai ni ci (intsV is), .row 3 1 Ab nb cb (intsV bs)] from by
  have := hpl W hn (hc.ext hx) hl (hq.ext hx)
  rw [← hP] at this
  refine this.mono fun e w' h => ?_
  unfold PlanRes at h
  rwa [if_pos rfl] at h)
 have hrs : rs ≠ [] := fun e => by subst e; simp at hn2; omega
 obtain ⟨ht1, ht2⟩ := tog_ok bs rs hrs
 have HTK := Lib.hid ht2
 have HIK := Lib.hid hik
 have HIL := Lib.hid hil
 have HQ := Lib.hid hq
 have HN2 := Lib.hid hn2
 have HRL := Lib.hid hrl
 have HBK := Lib.hid hbk
 have HRR := Lib.hid hr
 have HN := Lib.hid hn
 have HTB := Lib.hid hst
 have HO := Lib.hid ho
 have HBL := Lib.hid hbl
 have hT1 := Lib.hid ht1
 clear hP hpl hn hc hn2 hr hrl hq ho hst hby hit his hbl hbk hil hik hrs ht1 ht2
 obtain ⟨R, hRR⟩ : ∃ R, R = runE cs rs q := ⟨_, rfl⟩
 rw [← hRR] at HR ⊢
 clear hRR
 obtain ⟨ia, im, ic, wp, ba, bn, bc, oa, om, oc, lim⟩ := v
 have hS := Hp.init w
 have hR := Reads.nil w
 go_enter Tryz.func17, Tryz.ntmps17
 go_upto_region 1 with (first | (refine hab ?_; (try clear hF); clear hS; intro wk hS; (try simp only [List.set_cons_zero, List.set_cons_succ, heap_size, heap_set_size] at hS); ((try clear hF); refine hfI ?_; intro hF)) | fail)
 go_upto_region 2 with (first | (refine hab ?_; (try clear hF); clear hS; intro wk hS; (try simp only [List.set_cons_zero, List.set_cons_succ, heap_size, heap_set_size] at hS); ((try clear hF); refine hfI ?_; intro hF)) | (go_at_call 46; (with_reducible refine Calls.mono (HPL.out _ hS.ext) ?_); rintro e w1 ⟨Ai, ni, ci, Ab, nb, cb, rfl, HLN, hP1⟩; (have HX1 := Lib.hid (hS.ext.trans hP1.ext)); (have hfx := (hS.step hP1.ext).facts); (simp only [HFacts, cellFacts, RFacts, cellOnly, and_true, true_and, Nat.zero_add, Nat.reduceAdd] at hfx); (have HRI := Lib.hid (hP1.riQ 0 rfl)); (have HRB := Lib.hid (hP1.riQ 1 rfl)); (obtain ⟨⟨q0, _⟩, ⟨q1, _⟩, ⟨q2, _⟩, ⟨q3, _⟩, q4, _⟩ := hfx); (clear hF hS hP1); (have hS := Hp.init w1); (have hR := Reads.cell q0 (Reads.cell q1 (Reads.cell q2 (Reads.cell q3 (Reads.cell q4 (Reads.nil w1)))))); ((try clear hF); refine hfI ?_; intro hF)))
 clear HPL
 obtain ⟨gq, hgq⟩ : ∃ g, g = w.heap.size := ⟨_, rfl⟩
 rw [← hgq] at q0 q1 q2 q3 q4 hR hF ⊢
 clear hgq
 have HQ0 := Lib.hid q0
 have HQ3 := Lib.hid q3
 have HQ4 := Lib.hid q4
 have HNI := Lib.hid HLN.out.1
 have HNB := Lib.hid HLN.out.2
 clear q0 q1 q2 q3 q4 HLN
 have HCF := Lib.hid (fun (W : World) (hx : Ext w1 W) => show Calls Tryz.prog 47 #[.slice ia im ic, .func (.func 48) #[] #[]] W fun e w' => e = .returned (.bool (q.items.any fnB)) ∧ Ext W w' from qcontainsFunc_any q.items ia im ic 48 #[] fnB W HQ.out.il (HQ.out.ir.ext (HX1.out.trans hx)) HQ.out.ib eg_qrun1 (fun W' _ x => qrun1_any x W'))
 have hib := HQ.out.ib
 dsimp only at hib
 have HIM := Lib.hid (show q.items.length = im from HQ.out.il)
 have hnib : ni ≤ 1000 := by rw [← HNI.out, HIL.out, HIM.out]; exact hib
 have HNM := Lib.hid (show ni = im by rw [← HNI.out, HIL.out, HIM.out])
 go_upto_region 5 with (first | (refine hab ?_; (try clear hF); clear hS; intro wk hS; (try simp only [List.set_cons_zero, List.set_cons_succ, heap_size, heap_set_size] at hS); ((try clear hF); refine hfI ?_; intro hF)) | fail)
 go_cut [12] (fun s12 wx => s12 = .bool (!someE q) ∧ Hp w1.heap.size w1 wx [])
 case first =>
  have hlb := HBL.out
  have hlb2 := HNB.out
  by_cases hb0 : nb = 0
  ·as_aux_lemma =>
   have hb1 : ((nb : Int) == 0) = true := by simp [hb0]
   have HSM := Lib.hid (show someE q = q.items.any fnB by
    unfold someE
    rw [decide_eq_false (show ¬ 0 < q.by_.length by omega)]
    rfl)
   clear hlb hlb2 hb0
   go_wp2_with (first | (refine hab ?_; (try clear hF); clear hS; intro wk hS; (try simp only [List.set_cons_zero, List.set_cons_succ, heap_size, heap_set_size] at hS); ((try clear hF); refine hfI ?_; intro hF)) | (go_at_call 47; (with_reducible refine (HCF.out _ hS.ext).mono ?_); rintro e wk ⟨rfl, hX⟩; replace hS := hS.step hX; clear hX; ((try clear hF); refine hfI ?_; intro hF)))
   go_meet
   case rel => exact ⟨by rw [HSM.out], hS⟩
  ·as_aux_lemma =>
   have hb1 : ((nb : Int) == 0) = false := by simp; omega
   have HSM := Lib.hid (show someE q = true by
    unfold someE
    rw [decide_eq_true (show 0 < q.by_.length by omega)]
    rfl)
   clear hlb hlb2 hb0
   go_wp2_with (first | (refine hab ?_; (try clear hF); clear hS; intro wk hS; (try simp only [List.set_cons_zero, List.set_cons_succ, heap_size, heap_set_size] at hS); ((try clear hF); refine hfI ?_; intro hF)) | (go_at_call 47; (with_reducible refine (HCF.out _ hS.ext).mono ?_); rintro e wk ⟨rfl, hX⟩; replace hS := hS.step hX; clear hX; ((try clear hF); refine hfI ?_; intro hF)))
   go_meet
   case rel => exact ⟨by rw [HSM.out]; rfl, hS⟩
 case rest =>
 obtain ⟨rfl, hS⟩ := hcut
 clear HCF
 obtain ⟨sm, hsm⟩ : ∃ x, x = someE q := ⟨_, rfl⟩
 have HSM := Lib.hid hsm
 rw [← hsm]
 clear hsm
 ((try clear hF); refine hfI ?_; intro hF)
 go_upto_if 39 with (first | (refine hab ?_; (try clear hF); clear hS; intro wk hS; (try simp only [List.set_cons_zero, List.set_cons_succ, heap_size, heap_set_size] at hS); ((try clear hF); refine hfI ?_; intro hF)))
 go_cut [11] (fun s11 wx => OutR w1 wx (outQ q is bs rs) s11)
 case first =>
  cases sm with
  | false => as_aux_lemma =>
   rw [show (!false) = true from rfl]
   have HOQ := Lib.hid (show outQ q is bs rs = rs.map (keyR is) by unfold outQ; rw [← HSM.out]; rfl)
   have HKP := Lib.hid (show ∀ k ∈ is, 0 ≤ k ∧ k < n from fun k hk => by
    obtain ⟨i, hi⟩ := List.getElem?_of_mem hk
    obtain ⟨x, hx⟩ : ∃ x, q.items[i]? = some x := ⟨q.items[i]'(by rw [← HIL.out]; exact (List.getElem?_eq_some_iff.1 hi).1), List.getElem?_eq_getElem _⟩
    obtain ⟨k1, k2, _, k3, _⟩ := HIK.out i x k hx hi
    refine ⟨?_, by rw [← HN.out]; exact k2⟩
    by_cases hk0 : k < 0
    ·have e1 := HTB.out x (List.mem_of_getElem? hx) (k3 hk0)
     have e2 := (someE_no HSM.out.symm).2 x (List.mem_of_getElem? hx)
     rw [e2] at e1
     exact absurd e1 (by decide)
    ·omega)
   clear HIK HTK HBK hT1 HTB HO
   go_wp2_with (first | (refine hab ?_; (try clear hF); clear hS; intro wk hS; (try simp only [List.set_cons_zero, List.set_cons_succ, heap_size, heap_set_size] at hS); ((try clear hF); refine hfI ?_; intro hF)) | fail)
   replace hS := hS.nilRow 35 1
   go_loopw [11, 14, 42] (fun lv _ i wr => ∃ (j : Nat) (xs : List Mx) (A' : Option Addr) (c' : Nat), i = .int .i64 j ∧ j ≤ n2 ∧ lv = .slice A' j c' ∧ Hid (xs.map (·.2.2) = (rs.take j).map (keyR is)) ∧ Hid (xs.length = j) ∧ Hp w1.heap.size w1 wr (.row 35 1 A' j c' (xs.map hdV) :: xs.map rowI)) (fun _ _ i _ => n2 - (intOf i).toNat)
   case atStart => exact ⟨0, [], none, 0, rfl, Nat.zero_le _, rfl, Lib.hid rfl, Lib.hid rfl, hS⟩
   case round =>
    clear hS
    obtain ⟨j, xs, A', c', rfl, hj, rfl, HXC, HXL, hS⟩ := hrel
    by_cases hlt : j < n2
    ·obtain ⟨r, hr'⟩ : ∃ x, rs[j]? = some x := ⟨rs[j]'(by rw [HN2.out]; exact hlt), List.getElem?_eq_getElem _⟩
     have hrl := HRL.out r (List.mem_of_getElem? hr')
     obtain ⟨b, o, A1, c1, rfl, h0', h1'⟩ := (HRR.out.ext HX1.out) j r hr'
     rw [hrl] at h0'
     have hR := Reads.cell h0' (Reads.nil w1)
     have HKY := Lib.hid (fun (W : World) (L : List Item) (h : Hp w1.heap.size w1 W L) => show Calls Tryz.prog 49 #[.slice A1 n c1, .slice Ai ni ci] W fun e w' => ∃ A' c', e = .returned (.slice A' ni c') ∧ Hp w1.heap.size w1 w' (.row 29 3 A' ni c' (cellsV (keyR is r)) :: L) from (qkey_any r A1 n c1 is Ai ni ci W hrl HNI.out (h1'.ext h.ext) (HRI.out.ext h.ext) hl hnib HKP.out).mono fun e w' ⟨A', c', he, hk⟩ => ⟨A', c', he, h.join hk⟩)
     have HXC2 := Lib.hid (show (rs.take (j + 1)).map (keyR is) = xs.map (·.2.2) ++ [keyR is r] by rw [List.take_add_one, hr', List.map_append, HXC.out]; rfl)
     have HKL := Lib.hid (show (keyR is r).length = ni by unfold keyR; rw [List.length_map, HNI.out])
     clear h0' h1' hr' hrl HKP HXC
     ((try clear hF); refine hfI ?_; intro hF)
     go_wp2_with (first | (refine hab ?_; (try clear hF); clear hS; intro wk hS; (try simp only [List.set_cons_zero, List.set_cons_succ, heap_size, heap_set_size] at hS); ((try clear hF); refine hfI ?_; intro hF)) | (go_at_call 49; (with_reducible refine Calls.mono (HKY.out _ _ hS) ?_); clear hS; rintro e wk ⟨A3, c3, rfl, hS⟩; ((try clear hF); refine hfI ?_; intro hF)) | (at_builtin; refine wpList_push_hp Tryz.elem_rows rfl (.tmp 46) (.tmp 50) rfl (hS.second 1 rfl) rfl rfl rfl (by simp [Value.oneCell']) (by omega) (by omega) ?_; clear hS; intro Ak capk wk hS; (try simp only [List.eraseIdx_cons_zero, List.eraseIdx_cons_succ, List.set_cons_zero, List.set_cons_succ] at hS); ((try clear hF); refine hfI ?_; intro hF)))
     go_roundw
     case rel =>
      refine ⟨j + 1, xs ++ [(A3, c3, keyR is r)], _, _, by go_num, by omega, rfl, Lib.hid (by rw [HXC2.out, List.map_append]; rfl), Lib.hid (by rw [List.length_append, HXL.out]; rfl), ?_⟩
      have e1 : hdV (A3, c3, keyR is r) = .slice A3 ni c3 := by show Value.slice _ (keyR is r).length _ = _; rw [HKL.out]
      have e2 : rowI (A3, c3, keyR is r) = .row 29 3 A3 ni c3 (cellsV (keyR is r)) := by show Item.row _ _ _ (keyR is r).length _ _ = _; rw [HKL.out]
      rw [List.map_append, List.map_append]
      show Hp _ _ _ (.row _ _ _ _ _ (xs.map hdV ++ [hdV (A3, c3, keyR is r)]) :: (xs.map rowI ++ [rowI (A3, c3, keyR is r)]))
      rw [e1, e2]
      exact hS.perm (perm_row (L := []))
     case measure => simp [intOf]; omega
    ·obtain rfl : j = n2 := by omega
     ((try clear hF); refine hfI ?_; intro hF)
     go_wp2_with (first | (refine hab ?_; (try clear hF); clear hS; intro wk hS; (try simp only [List.set_cons_zero, List.set_cons_succ, heap_size, heap_set_size] at hS); ((try clear hF); refine hfI ?_; intro hF)) | fail)
     go_meet
     case rel =>
      have hne : xs.map hdV ≠ [] := fun e => by
       have := congrArg List.length e
       rw [List.length_map, HXL.out] at this
       simp at this
       omega
      obtain ⟨gO, rfl⟩ := hS.rowSm 0 rfl hne
      exact ⟨w1, xs, gO, _, _, rfl, Lib.hid (Ext.refl w1), Lib.hid (by rw [HXC.out, HOQ.out, List.take_of_length_le (by rw [HN2.out]; exact Nat.le_refl _)]), HXL, hl2, (hS.rowLen 0 rfl).2, hS⟩
  | true => as_aux_lemma =>
   rw [show (!true) = false from rfl]
   have HOQ := Lib.hid (show outQ q is bs rs = (togG bs rs).map (rowQ q.items is) by unfold outQ; rw [← HSM.out]; rfl)
   have HTG := Lib.hid (fun (W : World) (hx : Ext w1 W) => together_any rs A2 n2 cap2 bs Ab nb cb W HN2.out (HRR.out.ext (HX1.out.trans hx)) (HRB.out.ext hx) HNB.out h0 hl2 (by rw [← HNB.out, HBL.out]; have := HQ.out.bl; have := HQ.out.bb; omega) (fun r hr => by rw [HRL.out r hr]; exact hl) (fun r hr k hk => by rw [HRL.out r hr, ← HN.out]; exact HBK.out k hk))
   go_wp2_with (first | (refine hab ?_; (try clear hF); clear hS; intro wk hS; (try simp only [List.set_cons_zero, List.set_cons_succ, heap_size, heap_set_size] at hS); ((try clear hF); refine hfI ?_; intro hF)) | (go_at_call 50; (with_reducible refine Calls.mono (HTG.out _ hS.ext) ?_); rintro e w2 ⟨A4, n4, c4, rfl, hn4, hn4b, hX2, hRG⟩; (have HX2 := Lib.hid (hS.ext.trans hX2)); (have HRG := Lib.hid hRG); (have HN4 := Lib.hid hn4); (clear hF hS hRG hn4 hX2); (have hS := Hp.init w2); (have hR := Reads.cell (HX2.out.keeps HQ0.out) (Reads.nil w2)); ((try clear hF); refine hfI ?_; intro hF)))
   clear HTG HBK HRB
   replace hS := hS.nilRow 35 1
   go_loopw [11, 16, 17, 18, 19, 57] (fun lv _ _ _ _ i wr => ∃ (j : Nat) (xs : List Mx) (A' : Option Addr) (c' : Nat), i = .int .i64 j ∧ j ≤ n4 ∧ lv = .slice A' j c' ∧ Hid (xs.map (·.2.2) = ((togG bs rs).take j).map (rowQ q.items is)) ∧ Hid (xs.length = j) ∧ Hp w2.heap.size w2 wr (.row 35 1 A' j c' (xs.map hdV) :: xs.map rowI)) (fun _ _ _ _ _ i _ => n4 - (intOf i).toNat)
   case atStart => exact ⟨0, [], none, 0, rfl, Nat.zero_le _, rfl, Lib.hid rfl, Lib.hid rfl, hS⟩
   case round =>
    clear hS
    obtain ⟨j, xs, A', c', rfl, hj, rfl, HXC, HXL, hS⟩ := hrel
    by_cases hlt : j < n4
    ·as_aux_lemma =>
     obtain ⟨pt, hpt⟩ : ∃ x, (togG bs rs)[j]? = some x := ⟨(togG bs rs)[j]'(by rw [HN4.out]; exact hlt), List.getElem?_eq_getElem _⟩
     obtain ⟨hp1, hp2⟩ := HTK.out pt (List.mem_of_getElem? hpt)
     obtain ⟨b, o, A5, c5, rfl, k0, k1⟩ := HRG.out j pt hpt
     have HXC2 := Lib.hid (show ((togG bs rs).take (j + 1)).map (rowQ q.items is) = xs.map (·.2.2) ++ [rowQ q.items is pt] by rw [List.take_add_one, hpt, List.map_append, HXC.out]; rfl)
     have HPL := Lib.hid hp2
     have HP1 := Lib.hid hp1
     have HK1 := Lib.hid k1
     have hptl : pt.length ≤ 1000 := by
      have := tog_plen bs rs pt (List.mem_of_getElem? hpt)
      have := HN2.out
      omega
     have hR := Reads.cell (HX2.out.keeps HQ0.out) (Reads.cell k0 (Reads.nil w2))
     clear k0 k1 hpt hp1 hp2 HXC
     ((try clear hF); refine hfI ?_; intro hF)
     go_wp2_with (first | (refine hab ?_; (try clear hF); clear hS; intro wk hS; (try simp only [List.set_cons_zero, List.set_cons_succ, heap_size, heap_set_size] at hS); ((try clear hF); refine hfI ?_; intro hF)) | fail)
     replace hS := hS.nilRow 29 3
     go_loopw [17, 18, 19, 64] (fun lv _ _ i wr => ∃ (t : Nat) (A6 : Option Addr) (c6 : Nat), i = .int .i64 t ∧ t ≤ im ∧ lv = .slice A6 t c6 ∧ Hp w2.heap.size w2 wr (.row 29 3 A6 t c6 (cellsV (((q.items.zip is).take t).map fun x => ofQ x.1 x.2 pt)) :: .row 35 1 A' j c' (xs.map hdV) :: xs.map rowI)) (fun _ _ _ i _ => im - (intOf i).toNat)
     case atStart => exact ⟨0, none, 0, rfl, Nat.zero_le _, rfl, hS⟩
     case round =>
      clear hS
      obtain ⟨t, A6, c6, rfl, ht, rfl, hS⟩ := hrel
      by_cases hlt2 : t < im
      ·as_aux_lemma =>
       obtain ⟨x, hx⟩ : ∃ x, q.items[t]? = some x := ⟨q.items[t]'(by rw [HIM.out]; exact hlt2), List.getElem?_eq_getElem _⟩
       obtain ⟨k, hk⟩ : ∃ k, is[t]? = some k := ⟨is[t]'(by rw [HIL.out, HIM.out]; exact hlt2), List.getElem?_eq_getElem _⟩
       obtain ⟨kk1, kk2, _, _, _⟩ := HIK.out t x k hx hk
       obtain ⟨bi, oi, hia, x0, x1⟩ := (HQ.out.ir.ext (HX1.out.trans HX2.out)) t x hx
       dsimp only at hia
       obtain ⟨bj, oj, hai, y0⟩ := (HRI.out.ext HX2.out) t k hk
       have HOF0 := Lib.hid (fun (W : World) (hx : Ext w2 W) => qof_any x k pt A5 pt.length c5 W rfl hptl (HK1.out.ext hx) (fun r hr => by rw [HRL.out r (HPL.out r hr), ← HN.out]; exact kk2) kk1 (.inr (.inl HP1.out)))
       have HZ := Lib.hid (zip_take hx hk pt)
       obtain ⟨v, hv⟩ : ∃ v, v = ofQ x k pt := ⟨_, rfl⟩
       rw [← hv] at HOF0 HZ
       obtain ⟨fn, col⟩ := x
       dsimp only at x0 x1
       have HOF := Lib.hid (fun (W : World) (hx : Ext w2 W) => show Calls Tryz.prog 51 #[.agg #[.string fn, .string col], .int .i64 k, .slice A5 pt.length c5] W fun e w' => e = .returned (.agg #[.int .i64 v.kind, .int .i64 v.num, .string v.text]) ∧ Ext W w' from HOF0.out W hx)
       obtain ⟨pn, hpn⟩ : ∃ pn, pn = pt.length := ⟨_, rfl⟩
       rw [← hpn] at HOF ⊢
       have hR := Reads.cell (HX2.out.keeps HQ0.out) (Reads.cell x0 (Reads.cell x1 (Reads.cell y0 (Reads.nil w2))))
       have hti : t < ni := by rw [HNM.out]; exact hlt2
       subst hia hai
       clear hx hk kk1 kk2 x0 x1 y0 HOF0 hv hpn hptl
       ((try clear hF); refine hfI ?_; intro hF)
       go_upto_region 19 with (first | (refine hab ?_; (try clear hF); clear hS; intro wk hS; (try simp only [List.set_cons_zero, List.set_cons_succ, heap_size, heap_set_size] at hS); ((try clear hF); refine hfI ?_; intro hF)) | fail)
       obtain ⟨g19, hg19⟩ := hS.named
       rw [← hg19] at hS hF ⊢
       clear hg19
       ((with_reducible refine wp_region_chain_hp [.q, .q, .q, .q, .q, .q, .q, .q, .t, .t, .t] [.blk g19 [.string fn, .string col] 79] (by kernel_rfl) rfl (by kernel_rfl) hS (fun w h => h.sub (by simp)) ?_); clear hS; (repeat ((with_reducible refine Walk.here ?_); (first | ((with_reducible apply Walk.skipQ); (first | rfl | exact wanted_false rfl rfl rfl (by assumption)); (try simp only [Mark.isQ, if_true, Bool.false_eq_true, if_false, Act.put, List.setIfInBounds_toArray, List.set_cons_zero, List.set_cons_succ])) | ((with_reducible apply Walk.val); (first | rfl | exact wanted_true rfl rfl rfl (by assumption)); (rintro w hS; ((try clear hF); refine hfI ?_; intro hF); go_simp; first | with_reducible rfl | (rw [if_neg (by first | omega | (simp only [ByteArray.size_append]; omega) | (simp [ByteArray.size_append]; omega))]; try with_reducible rfl)); (try simp only [Mark.isQ, if_true, Bool.false_eq_true, if_false, Act.put, List.setIfInBounds_toArray, List.set_cons_zero, List.set_cons_succ])) | ((with_reducible apply Walk.call); (first | rfl | exact wanted_true rfl rfl rfl (by assumption)); (rintro w hS; ((try clear hF); refine hfI ?_; intro hF); go_simp; exact ⟨rfl, rfl⟩); (rintro w hS; first | (with_reducible exact HOF.out w hS.ext)); (try simp only [Mark.isQ, if_true, Bool.false_eq_true, if_false, Act.put, List.setIfInBounds_toArray, List.set_cons_zero, List.set_cons_succ])) | ((with_reducible apply Walk.tail); (try simp only [Mark.isQ, if_true, Bool.false_eq_true, if_false, Act.put, List.setIfInBounds_toArray, List.set_cons_zero, List.set_cons_succ])) | ((with_reducible apply Walk.guardT); rfl; rfl; rfl; (all_goals intro hg)) | ((with_reducible apply Walk.guardF); rfl; rfl; rfl; (all_goals intro hg))))); refine Walk.done ?_; simp only [chainOf, Mark.isT, if_true, Bool.false_eq_true, if_false])
       refine Chain.alloc (cs := [.int .i64 v.kind, .int .i64 v.num, .string v.text]) (t := 29) (f := fun g => .slice (some ⟨g, 0, none⟩) 1 1) rfl (fun w h => h.sub (by simp)) (fun w hS => ?_) (fun gs => ?_)
       ·go_simp
       try simp only [Act.put, List.setIfInBounds_toArray, List.set_cons_zero, List.set_cons_succ]
       refine Chain.append Tryz.elem_vals rfl (.tmp 69) (.tmp 77) rfl 2 rfl rfl rfl ⟨gs, 0, none⟩ rfl rfl (fun w hS jj u hu => World.news_of_block hS.head.2 jj u (by simpa using hu)) (by simp [Value.oneCell']) (by omega) (by omega) (fun w h => h.sub (by simp)) (fun Ak capk => ?_)
       try simp only [Act.put, List.setIfInBounds_toArray, List.set_cons_zero, List.set_cons_succ]
       (refine Chain.val (by (first | rfl | exact wanted_true rfl rfl rfl (by assumption))) (fun w h => h.sub (by simp)) (by rintro w hS; ((try clear hF); refine hfI ?_; intro hF); go_simp; with_reducible rfl) ?_; try simp only [Act.put, List.setIfInBounds_toArray, List.set_cons_zero, List.set_cons_succ])
       (refine Chain.done ?_; (try clear hF); intro wk hS; ((try clear hF); refine hfI ?_; intro hF))
       go_wp2_with (first | (refine hab ?_; (try clear hF); clear hS; intro wk hS; (try simp only [List.set_cons_zero, List.set_cons_succ, heap_size, heap_set_size] at hS); ((try clear hF); refine hfI ?_; intro hF)) | fail)
       go_roundw
       case rel =>
        refine ⟨t + 1, Ak, capk, by go_num, by omega, rfl, ?_⟩
        rw [HZ.out, cellsV_append]
        exact hS.sub (List.Sublist.cons₂ _ (.cons _ (.cons _ (.refl _))))
       case measure => simp [intOf]; omega
      ·as_aux_lemma =>
       obtain rfl : t = im := by omega
       have HZL := Lib.hid (show ((q.items.zip is).take t).map (fun x => ofQ x.1 x.2 pt) = rowQ q.items is pt by
        unfold rowQ
        rw [List.take_of_length_le]
        rw [List.length_zip, HIL.out, HIM.out, Nat.min_self]; exact Nat.le_refl _)
       have HKL := Lib.hid (show (rowQ q.items is pt).length = t by rw [rowQ_len HIL.out, HIM.out])
       rw [HZL.out] at hS
       clear HZL
       obtain ⟨rq, hrq⟩ : ∃ r, r = rowQ q.items is pt := ⟨_, rfl⟩
       rw [← hrq] at hS HKL HXC2
       clear hrq
       ((try clear hF); refine hfI ?_; intro hF)
       go_wp2_with (first | (refine hab ?_; (try clear hF); clear hS; intro wk hS; (try simp only [List.set_cons_zero, List.set_cons_succ, heap_size, heap_set_size] at hS); ((try clear hF); refine hfI ?_; intro hF)) | (at_builtin; refine wpList_push_hp Tryz.elem_rows rfl (.tmp 80) (.tmp 82) rfl (hS.second 1 rfl) rfl rfl rfl (by simp [Value.oneCell']) (by omega) (by omega) ?_; clear hS; intro Ak capk wk hS; (try simp only [List.eraseIdx_cons_zero, List.eraseIdx_cons_succ, List.set_cons_zero, List.set_cons_succ] at hS); ((try clear hF); refine hfI ?_; intro hF)))
       go_roundw
       case rel =>
        refine ⟨j + 1, xs ++ [(A6, c6, rq)], _, _, by go_num, by omega, rfl, Lib.hid (by rw [HXC2.out, List.map_append]; rfl), Lib.hid (by rw [List.length_append, HXL.out]; rfl), ?_⟩
        have e1 : hdV (A6, c6, rq) = .slice A6 t c6 := by show Value.slice _ rq.length _ = _; rw [HKL.out]
        have e2 : rowI (A6, c6, rq) = .row 29 3 A6 t c6 (cellsV rq) := by show Item.row _ _ _ rq.length _ _ = _; rw [HKL.out]
        rw [List.map_append, List.map_append]
        show Hp _ _ _ (.row _ _ _ _ _ (xs.map hdV ++ [hdV (A6, c6, rq)]) :: (xs.map rowI ++ [rowI (A6, c6, rq)]))
        rw [e1, e2]
        exact hS.perm (perm_row (L := []))
       case measure => simp [intOf]; omega
    ·obtain rfl : j = n4 := by omega
     ((try clear hF); refine hfI ?_; intro hF)
     go_wp2_with (first | (refine hab ?_; (try clear hF); clear hS; intro wk hS; (try simp only [List.set_cons_zero, List.set_cons_succ, heap_size, heap_set_size] at hS); ((try clear hF); refine hfI ?_; intro hF)) | fail)
     go_meet
     case rel =>
      have hne : xs.map hdV ≠ [] := fun e => by
       have := congrArg List.length e
       rw [List.length_map, HXL.out, ← HN4.out] at this
       exact hT1.out (List.eq_nil_of_length_eq_zero (by simpa using this))
      obtain ⟨gO, rfl⟩ := hS.rowSm 0 rfl hne
      exact ⟨w2, xs, gO, _, _, rfl, HX2, Lib.hid (by rw [HXC.out, HOQ.out, List.take_of_length_le (by rw [HN4.out]; exact Nat.le_refl _)]), HXL, hn4b, (hS.rowLen 0 rfl).2, hS⟩
 case rest =>
 obtain ⟨wB, xs, gO, k, cO, rfl, HXB, HXC, HXL, hk1000, hkc, hS⟩ := hcut
 have HOL : ∀ x ∈ xs, x.2.2.length = q.items.length := fun x hx => by
  have hm : x.2.2 ∈ outQ q is bs rs := by rw [← HXC.out]; exact List.mem_map.2 ⟨x, hx, rfl⟩
  unfold outQ at hm
  split at hm
  ·obtain ⟨p, _, e⟩ := List.mem_map.1 hm
   rw [← e, rowQ_len HIL.out]
  ·obtain ⟨p, _, e⟩ := List.mem_map.1 hm
   rw [← e]
   unfold keyR
   rw [List.length_map, HIL.out]
 have HSR := Lib.hid (fun (W : World) (h : Hp wB.heap.size wB W (rowsI gO k cO xs :: xs.map rowI)) => srt_run (v := ⟨ia, im, ic, wp, ba, bn, bc, oa, om, oc, lim⟩) (HQ.out.ext HX1.out) HXB.out HQ3.out HXL.out hk1000 hkc HO.out HOL h)
 obtain ⟨ys, hys⟩ : ∃ ys, ys = stableL mx0 (ltM (ordC q.ord)) xs := ⟨_, rfl⟩
 rw [← hys] at HSR
 have hyp : ys.Perm xs := by rw [hys]; exact stableL_perm mx0 _ xs
 have HY := Lib.hid (show ys.map (·.2.2) = srtR (ordC q.ord) (outQ q is bs rs) by rw [hys, srtR_of, HXC.out])
 have HYL := Lib.hid (show ys.length = k by rw [hyp.length_eq, HXL.out])
 have HYX := Lib.hid (show ∀ y ∈ ys, y ∈ xs from fun y hy => hyp.mem_iff.1 hy)
 have HLM := Lib.hid (show lim = q.limit from HQ.out.lm)
 have HEX := Lib.hid (HX1.out.trans HXB.out)
 have hR := Reads.cell (HXB.out.keeps HQ4.out) (Reads.nil wB)
 clear hyp hys HOL HXC HTK HIK HBK hT1 HTB HO HRB HRI HQ0 HQ3 HXB HSM
 have HLMQ := Lib.hid (show R = (0, limQ lim (ys.map (·.2.2))) by rw [HR.out, HY.out, HLM.out])
 ((try clear hF); refine hfI ?_; intro hF)
 go_upto_region 24 with (first | (refine hab ?_; (try clear hF); clear hS; intro wk hS; (try simp only [List.set_cons_zero, List.set_cons_succ, heap_size, heap_set_size] at hS); ((try clear hF); refine hfI ?_; intro hF)) | (go_at_call 52; (with_reducible refine Calls.mono (HSR.out _ hS) ?_); clear hS; rintro e wk ⟨rfl, hS⟩; ((try clear hF); refine hfI ?_; intro hF)))
 clear HSR
 by_cases hl0 : 0 < lim
 ·obtain ⟨L, rfl⟩ : ∃ L : Nat, lim = (L : Int) := ⟨lim.toNat, by omega⟩
  have hl1 : decide ((0 : Int) < (L : Int)) = true := decide_eq_true hl0
  by_cases hlk : L < k
  ·as_aux_lemma =>
   have hl2' : decide ((L : Int) < (k : Int)) = true := by simp; omega
   have hl3 : (L : Int) < (k : Int) := by omega
   have hlc : (L : Int) ≤ (cO : Int) := by omega
   have HRE := Lib.hid (show R = (0, (ys.map (·.2.2)).take L) by
    rw [HLMQ.out, limQ, if_pos ⟨hl0, by rw [List.length_map, HYL.out]; omega⟩, Int.toNat_natCast])
   go_wp2_with (first | (refine hab ?_; (try clear hF); clear hS; intro wk hS; (try simp only [List.set_cons_zero, List.set_cons_succ, heap_size, heap_set_size] at hS); ((try clear hF); refine hfI ?_; intro hF)) | fail)
   go_ret2
   rw [HRE.out]
   unfold RunRes
   rw [if_pos rfl]
   exact own_of HEX.out HYX.out HYL.out (by omega) hk1000 hS
  ·as_aux_lemma =>
   have hl2' : decide ((L : Int) < (k : Int)) = false := by simp; omega
   have HRE := Lib.hid (show R = (0, (ys.map (·.2.2)).take k) by
    rw [HLMQ.out, limQ, if_neg (by rw [List.length_map, HYL.out]; omega), List.take_of_length_le (by rw [List.length_map, HYL.out]; exact Nat.le_refl _)])
   go_wp2_with (first | (refine hab ?_; (try clear hF); clear hS; intro wk hS; (try simp only [List.set_cons_zero, List.set_cons_succ, heap_size, heap_set_size] at hS); ((try clear hF); refine hfI ?_; intro hF)) | fail)
   go_ret2
   rw [HRE.out]
   unfold RunRes
   rw [if_pos rfl]
   exact own_of HEX.out HYX.out HYL.out (Nat.le_refl _) hk1000 hS
 ·as_aux_lemma =>
  have hl1 : decide ((0 : Int) < lim) = false := decide_eq_false hl0
  have HRE := Lib.hid (show R = (0, (ys.map (·.2.2)).take k) by
   rw [HLMQ.out, limQ, if_neg (fun h => hl0 h.1), List.take_of_length_le (by rw [List.length_map, HYL.out]; exact Nat.le_refl _)])
  go_wp2_with (first | (refine hab ?_; (try clear hF); clear hS; intro wk hS; (try simp only [List.set_cons_zero, List.set_cons_succ, heap_size, heap_set_size] at hS); ((try clear hF); refine hfI ?_; intro hF)) | fail)
  go_ret2
  rw [HRE.out]
  unfold RunRes
  rw [if_pos rfl]
  exact own_of HEX.out HYX.out HYL.out (Nat.le_refl _) hk1000 hS
end Go.Proofs.YtlaldfkeaalnhaaGreatDoor

/- millpondkeep.runs, kept, rightRows: the walks. -/
namespace Go.Proofs.YtlaldfkeaalnhaaGreatDoor
set_option linter.unusedSimpArgs false
set_option linter.unusedVariables false
open Go.RowKit
set_option linter.all false
def RunsRes (w : World) (l : List (List GV)) (e : Ending) (w' : World) : Prop :=
 ∃ A' n' c', e = .returned (.tuple #[.slice A' n' c', .bool true]) ∧ Hid (l.length = n' ∧ n' ≤ 1000 ∧ n' ≤ c') ∧ Ext w w' ∧ RR w' A' l
/-- the program's variables that questions read -/
structure EnvK (w : World) : Prop where
 marks : MarksAt w
 kept : KeptA w
 fns : FnsAt w
 syn : SynAt w
 rng : RngAt w
set_option maxRecDepth 100000 in
set_option maxHeartbeats 8000000 in
theorem runs_any (cs : List CG) (A : Option Addr) (n cap : Nat) (rs : List (List GV)) (A2 : Option Addr) (n2 cap2 : Nat) (s : ByteArray) (q : QG) (w : World) (hE : ∀ W, Ext w W → EnvK W) (hs : s.size ≤ 5000) (hq : parseQ s.data.toList = some q) (hp : (planE cs q).1 = 0) (hn : cs.length = n) (hc : RC w A cs) (hl : n ≤ 1000) (hn2 : rs.length = n2) (hr : RR w A2 rs) (h0 : 1 ≤ n2) (hl2 : n2 ≤ 1000) (hrl : ∀ r ∈ rs, r.length = n) (ho : ∀ p ∈ q.ord, 0 ≤ p.1 ∧ p.1 < q.items.length) (hst : ∀ x ∈ q.items, x.col = starS → x.fn = countS) :
  Calls Tryz.prog 11 #[.slice A n cap, .slice A2 n2 cap2, .string s] w (RunsRes w (runE cs rs q).2) := by
 have HPQ := Lib.hid (fun (W : World) (hx : Ext w W) => show Calls Tryz.prog 16 #[.string s] W (QryRes W [] (some q)) from by
  have hE := hE W hx
  have := parse_q s s.size rfl hs hE.marks hE.kept hE.fns hE.syn hE.rng (Hp.init W)
  rwa [hq] at this)
 have HRN := Lib.hid (fun (W : World) (hx : Ext w W) (v : QV) (hv : QRead W v q) => show Calls Tryz.prog 17 #[.slice A n cap, .slice A2 n2 cap2, qV v] W fun e w' => ∃ A' n' c', e = .returned (.tuple #[.slice A' n' c', .nilIface]) ∧ Hid ((runE cs rs q).2.length = n' ∧ n' ≤ 1000 ∧ n' ≤ c') ∧ Ext W w' ∧ RR w' A' (runE cs rs q).2 from by
  refine (qrun_any cs A n cap rs A2 n2 cap2 v q W hn (hc.ext hx) hl hn2 (hr.ext hx) h0 hl2 hrl hv ho hst).mono fun e w' h => ?_
  unfold RunRes at h
  rw [if_pos (by unfold runE; rw [if_neg (by simpa using hp)])] at h
  exact h.rr)
 clear hE hq hp hn hc hn2 hr hrl ho hst hs
 obtain ⟨R, hR0⟩ : ∃ R, R = (runE cs rs q).2 := ⟨_, rfl⟩
 rw [← hR0] at HRN ⊢
 clear hR0
 have hS := Hp.init w
 have hR := Reads.nil w
 go_enter Tryz.func11, Tryz.ntmps11
 go_upto_region 4 with (first | (refine hab ?_; (try clear hF); clear hS; intro wk hS; (try simp only [List.set_cons_zero, List.set_cons_succ, heap_size, heap_set_size] at hS); ((try clear hF); refine hfI ?_; intro hF)) | (go_at_call 16; (with_reducible refine Calls.mono (HPQ.out _ hS.ext) ?_); rintro e w1 ⟨v, X, rfl, HQI, hP1⟩; (obtain ⟨ia, im, ic, wp, ba, bn, bc, oa, om, oc, lim⟩ := v); (have HX1 := Lib.hid (hS.ext.trans hP1.ext)); (have HQR := Lib.hid (HQI.out _ (hP1.sub (List.sublist_append_left X [])))); ((try clear hF); clear hS hP1 HQI); (have hS := Hp.init w1); (have hR := Reads.nil w1); (try ((try clear hF); refine hfI ?_; intro hF))))
 have HRN2 := Lib.hid (fun (W : World) (hx : Ext w1 W) => show Calls Tryz.prog 17 #[.slice A n cap, .slice A2 n2 cap2, .agg #[.slice ia im ic, .pointer wp, .slice ba bn bc, .slice oa om oc, .int .i64 lim]] W fun e w' => ∃ A' n' c', e = .returned (.tuple #[.slice A' n' c', .nilIface]) ∧ Hid (R.length = n' ∧ n' ≤ 1000 ∧ n' ≤ c') ∧ Ext W w' ∧ RR w' A' R from HRN.out W (HX1.out.trans hx) ⟨ia, im, ic, wp, ba, bn, bc, oa, om, oc, lim⟩ (HQR.out.ext hx))
 clear HRN HQR HPQ
 go_upto_region 5 with (first | (refine hab ?_; (try clear hF); clear hS; intro wk hS; (try simp only [List.set_cons_zero, List.set_cons_succ, heap_size, heap_set_size] at hS); ((try clear hF); refine hfI ?_; intro hF)) | (go_at_call 17; (with_reducible refine Calls.mono (HRN2.out _ hS.ext) ?_); rintro e wk ⟨A3, n3, c3, rfl, HL, hX, hRR⟩; (have HRR := Lib.hid hRR); (have HX2 := Lib.hid (HX1.out.trans (hS.ext.trans hX))); ((try clear hF); clear hS hX hRR); (have hS := Hp.init wk); (have hR := Reads.nil wk); (try ((try clear hF); refine hfI ?_; intro hF))))
 ((with_reducible refine wp_region_hp (draw := true) (by kernel_rfl) (by kernel_rfl) hS ?_); (repeat ((with_reducible refine Fixed.here ?_); (first | ((with_reducible apply Fixed.skip); (first | rfl | exact wanted_false rfl rfl rfl (by assumption)); try simp only [Act.put, List.setIfInBounds_toArray, List.set_cons_zero, List.set_cons_succ]) | ((with_reducible apply Fixed.val); (first | rfl | exact wanted_true rfl rfl rfl (by assumption)); (rintro w hS; ((try clear hF); refine hfI ?_; intro hF); go_simp; with_reducible rfl); try simp only [Act.put, List.setIfInBounds_toArray, List.set_cons_zero, List.set_cons_succ])))); (with_reducible refine Fixed.done ?_); (try clear hF); clear hS; intro wk hS; ((try clear hF); refine hfI ?_; intro hF))
 go_wp2_with (first | (refine hab ?_; (try clear hF); clear hS; intro wk hS; (try simp only [List.set_cons_zero, List.set_cons_succ, heap_size, heap_set_size] at hS); ((try clear hF); refine hfI ?_; intro hF)) | fail)
 go_ret2
 exact ⟨_, _, _, rfl, HL, HX2.out.trans hS.ext, HRR.out.ext hS.ext⟩
theorem eg_kept1 : ∀ args w, (callFunc 22 args).run Tryz.prog w = .ok (.enter 22 args) w := fun _ _ => by kernel_rfl
end Go.Proofs.YtlaldfkeaalnhaaGreatDoor

/- The tables that the rows of QueryParts and QueryOrders list: what they tell of the world; a world that has them. -/
namespace Go.Proofs.YtlaldfkeaalnhaaGreatDoor
set_option linter.unusedSimpArgs false
set_option linter.unusedVariables false
open Go.RowKit
set_option linter.all false
open Go.ChangeShapes Go.WideShapes Go.ChangeAt Go.Joins
theorem gSyn : Tryz.prog.globalNamed "strconv.ErrSyntax" = some 6 := by kernel_rfl
theorem tSyn : (Tryz.prog.globals[6]?).map (·.type) = some 51 := by kernel_rfl
theorem gRng : Tryz.prog.globalNamed "strconv.ErrRange" = some 7 := by kernel_rfl
theorem tRng : (Tryz.prog.globals[7]?).map (·.type) = some 51 := by kernel_rfl
theorem gMarks : Tryz.prog.globalNamed "millpond/ask.marks" = some 5 := by kernel_rfl
theorem tMarks : (Tryz.prog.globals[5]?).map (·.type) = some 199 := by kernel_rfl
theorem gKeptA : Tryz.prog.globalNamed "millpond/ask.kept" = some 1 := by kernel_rfl
theorem tKeptA : (Tryz.prog.globals[1]?).map (·.type) = some 137 := by kernel_rfl
theorem c10 : Tryz.prog.cellsOf 199 = 10 := by kernel_rfl
theorem c11 : Tryz.prog.cellsOf 137 = 11 := by kernel_rfl
theorem c1 : Tryz.prog.cellsOf 9 = 1 := by kernel_rfl
theorem gKeptS : Tryz.prog.globalNamed "millpond/schema.kept" = some 3 := by kernel_rfl
theorem tKeptS : (Tryz.prog.globals[3]?).map (·.type) = some 171 := by kernel_rfl
theorem gFns : Tryz.prog.globalNamed "millpond/ask.fns" = some 0 := by kernel_rfl
theorem tFns : (Tryz.prog.globals[0]?).map (·.type) = some 134 := by kernel_rfl
theorem c5 : Tryz.prog.cellsOf 171 = 5 := by kernel_rfl
theorem c4 : Tryz.prog.cellsOf 134 = 4 := by kernel_rfl
/-- an error that is laid: some pointer -/
theorem laid_some {W : World} {n nm : String} {d : DataW Unit} {r : List (String × DataW Unit)} {g : Nat} (h : laidMet Tryz.prog ((n, .iface nm d) :: r) W) (hg : Tryz.prog.globalNamed n = some g) (ht : (Tryz.prog.globals[g]?).map (·.type) = some 51) : ∃ tp p, W.var? Tryz.prog n = some #[.iface tp p] := by
 obtain ⟨ps, ⟨g0, t0, cs0, f0, p0, q0, hg0, ht0, hv0, hd0, _, e0⟩, _, _⟩ := h
 obtain rfl := Option.some.inj (hg.symm.trans hg0)
 obtain rfl := Option.some.inj (ht.symm.trans ht0)
 obtain ⟨fuel', u, v, hcs, _, _⟩ := iface_of_trod Tryz.underlying51 hd0
 obtain ⟨l0⟩ := cs0
 have : l0 = [.iface u v] := hcs
 subst this
 exact ⟨u, v, hv0⟩
/-- an array of texts that is read -/
theorem strs_read {H : Type} {enc : TypeId × Value → H} {w : World} {base : Nat} {spare : Nat → Bool} {held : Bool} {fuel n : Nat} {t : TypeId} {cs : List Value} {q : List MemPlace} {ss : List (List UInt8)}
  (ht : Tryz.prog.underlying t = some (.array n 9)) (hc : Tryz.prog.cellsOf t = n) (h : DataW.trod enc Tryz.prog w base spare held fuel t cs = some (.agg (ss.map fun s => .lit (.string s)), q)) :
  cs = ss.map (fun s => Value.string ⟨s.toArray⟩) := by
 obtain ⟨xs, m1, rfl, hx1, hlen, hn3, hel⟩ := DataW.trod_array ht h
 have hx : xs.map (·.1) = ss.map fun s => .lit (.string s) := by
  have := (Prod.mk.inj hx1).1
  simpa [eq_comm] using this
 have hsl : ss.length = n := by
  have := congrArg List.length hx
  simp only [List.length_map] at this
  omega
 refine List.ext_getElem? fun j => ?_
 by_cases hj : j < n
 ·have hj' := hel j hj
  rw [c1, Nat.mul_one] at hj'
  obtain ⟨xj, hxj⟩ : ∃ x, xs[j]? = some x := ⟨_, List.getElem?_eq_getElem (by omega)⟩
  rw [hxj] at hj'
  obtain ⟨k, e1, e2, _⟩ := DataW.trod_string Tryz.underlying9 hj'
  have hk : (xs.map (·.1))[j]? = some (.lit (.string k.data.toList)) := by rw [List.getElem?_map, hxj, e2]; rfl
  rw [hx, List.getElem?_map] at hk
  have e3 := congrArg List.head? e1
  simp [List.head?_take, List.head?_drop] at e3
  rw [e3, List.getElem?_map]
  cases hs : ss[j]? with
  | none => rw [hs] at hk; cases hk
  | some s =>
   rw [hs] at hk
   simp only [Option.map_some, Option.some.injEq, DataW.lit.injEq, Lit.string.injEq] at hk
   simp only [Option.map_some, Option.some.injEq, Value.string.injEq]
   subst hk
   rfl
 ·rw [List.getElem?_eq_none (by rw [hlen, hc]; omega), List.getElem?_eq_none (by rw [List.length_map]; omega)]
theorem var_heap {w : World} {name : String} {g : Nat} {cs : Array Value} (hg : Tryz.prog.globalNamed name = some g) (h : w.var? Tryz.prog name = some cs) : ∃ t fr, w.heap[g]? = some (.cells cs t fr) := by
 unfold World.var? at h
 rw [hg] at h
 simp only [Option.bind_some] at h
 cases hh : w.heap[g]? with
 | none => rw [hh] at h; cases h
 | some o =>
  rw [hh] at h
  cases o with
  | cells c t fr =>
   simp only [Option.some.injEq] at h
   subst h
   exact ⟨t, fr, rfl⟩
  | _ => cases h
theorem gErr : Tryz.prog.globalNamed "errors.errorType" = some 4 := by kernel_rfl
theorem rtTy : (Tryz.prog.cutTypes.find? (·.1 == "internal/reflectlite.rtype")).map (·.2) = some 218 := by kernel_rfl
theorem oneRow : ((List.range 289).filter fun t => Tryz.prog.rowNamed t [101, 114, 114, 111, 114]) = [51] := by kernel_rfl
theorem szTypes : Tryz.prog.types.size = 289 := by kernel_rfl
theorem err_of {W : World} (h2 : handlesMet Tryz.prog [("errors.errorType", Rows.laid_errors_errorType)] W) : ErrAt W := by
 obtain ⟨name, u, ty, e1, e2, e3, e4, e5⟩ := h2 _ (List.mem_singleton.2 rfl)
 have en : name = [101, 114, 114, 111, 114] := (Option.some.inj e1).symm
 subst en
 obtain rfl := Option.some.inj (rtTy.symm.trans e2)
 have hm : ty ∈ (List.range 289).filter fun t => Tryz.prog.rowNamed t [101, 114, 114, 111, 114] := List.mem_filter.2 ⟨List.mem_range.2 (by rw [← szTypes]; exact e3), e4⟩
 rw [oneRow] at hm
 obtain rfl := List.mem_singleton.1 hm
 have hh : typeHandle Tryz.prog 51 = .pointer (some ⟨13, 51, none⟩) := by kernel_rfl
 rw [hh] at e5
 have e6 := World.var?_cell gErr e5 0
 simpa [ErrAt] using e6
def laidQ : List (String × DataW Unit) := [("math/bits.deBruijn32tab", Rows.laid_math_bits_deBruijn32tab), ("math/bits.deBruijn64tab", Rows.laid_math_bits_deBruijn64tab), ("internal/strconv.uint64pow10", Rows.laid_internal_strconv_uint64pow10), ("unicode/utf8.acceptRanges", Rows.laid_unicode_utf8_acceptRanges), ("errors.errorType", Rows.laid_errors_errorType), ("strconv.ErrRange", Rows.laid_strconv_ErrRange), ("strconv.ErrSyntax", Rows.laid_strconv_ErrSyntax), ("millpond/schema.kept", Rows.laid_millpond_schema_kept), ("millpond/ask.marks", Rows.laid_millpond_ask_marks), ("millpond/ask.kept", Rows.laid_millpond_ask_kept), ("millpond/ask.fns", Rows.laid_millpond_ask_fns), ("unicode/utf8.first", Rows.laid_unicode_utf8_first)]
def laidQT : List (String × DataW Unit) := [("math/bits.deBruijn32tab", Rows.laid_math_bits_deBruijn32tab), ("math/bits.deBruijn64tab", Rows.laid_math_bits_deBruijn64tab), ("internal/strconv.uint64pow10", Rows.laid_internal_strconv_uint64pow10), ("unicode/utf8.acceptRanges", Rows.laid_unicode_utf8_acceptRanges), ("strconv.ErrRange", Rows.laid_strconv_ErrRange), ("strconv.ErrSyntax", Rows.laid_strconv_ErrSyntax), ("millpond/schema.kept", Rows.laid_millpond_schema_kept), ("millpond/ask.marks", Rows.laid_millpond_ask_marks), ("millpond/ask.kept", Rows.laid_millpond_ask_kept), ("millpond/ask.fns", Rows.laid_millpond_ask_fns), ("unicode/utf8.first", Rows.laid_unicode_utf8_first)]
theorem laid_splitQ {W : World} (h : laidMetH Tryz.prog laidQ W) : laidMet Tryz.prog laidQT W ∧ handlesMet Tryz.prog [("errors.errorType", Rows.laid_errors_errorType)] W := h
theorem EnvK.ext {w w' : World} (h : EnvK w) (hx : Ext w w') : EnvK w' :=
 ⟨h.marks.ext hx, h.kept.ext hx, h.fns.ext hx, by obtain ⟨tp, p, e⟩ := h.syn; exact ⟨tp, p, var_ext gSyn e hx⟩, by obtain ⟨tp, p, e⟩ := h.rng; exact ⟨tp, p, var_ext gRng e hx⟩⟩
theorem of_laidQ {W : World} (h : laidMetH Tryz.prog laidQ W) : EnvK W ∧ KeptAt W ∧ ErrAt W := by
 obtain ⟨h1, he⟩ := laid_splitQ h
 have h2 : laidMet Tryz.prog _ W := laidMet.tail (laidMet.tail h1)
 have h4 : laidMet Tryz.prog _ W := laidMet.tail (laidMet.tail h2)
 have h5 : laidMet Tryz.prog _ W := laidMet.tail h4
 have h6 : laidMet Tryz.prog _ W := laidMet.tail h5
 have h7 : laidMet Tryz.prog _ W := laidMet.tail h6
 have h8 : laidMet Tryz.prog _ W := laidMet.tail h7
 have h9 : laidMet Tryz.prog _ W := laidMet.tail h8
 refine ⟨⟨?_, ?_, ?_, laid_some h5 gSyn tSyn, laid_some h4 gRng tRng⟩, ?_, err_of he⟩
 ·obtain ⟨ps, ⟨g0, t0, cs0, f0, p0, q0, hg0, ht0, hv0, hd0, _, _⟩, _, _⟩ := h7
  obtain rfl := Option.some.inj (gMarks.symm.trans hg0)
  obtain rfl := Option.some.inj (tMarks.symm.trans ht0)
  have e := strs_read (ss := marksL) Tryz.underlying199 c10 hd0
  obtain ⟨t, fr, hh⟩ := var_heap gMarks hv0
  refine ⟨t, fr, ?_⟩
  rw [hh]
  obtain ⟨l⟩ := cs0
  have e : l = marksL.map (fun s => Value.string ⟨s.toArray⟩) := e
  subst e
  rfl
 ·obtain ⟨ps, ⟨g0, t0, cs0, f0, p0, q0, hg0, ht0, hv0, hd0, _, _⟩, _, _⟩ := h8
  obtain rfl := Option.some.inj (gKeptA.symm.trans hg0)
  obtain rfl := Option.some.inj (tKeptA.symm.trans ht0)
  have e := strs_read (ss := kept11.map (·.data.toList)) Tryz.underlying137 c11 hd0
  obtain ⟨t, fr, hh⟩ := var_heap gKeptA hv0
  obtain ⟨l⟩ := cs0
  have e : l = (kept11.map (·.data.toList)).map (fun s => Value.string ⟨s.toArray⟩) := e
  subst e
  intro j hj
  simp only [World.cell?, hh]
  obtain rfl | rfl | rfl | rfl | rfl | rfl | rfl | rfl | rfl | rfl | rfl : j = 0 ∨ j = 1 ∨ j = 2 ∨ j = 3 ∨ j = 4 ∨ j = 5 ∨ j = 6 ∨ j = 7 ∨ j = 8 ∨ j = 9 ∨ j = 10 := by omega
  all_goals rfl
 ·obtain ⟨ps, ⟨g0, t0, cs0, f0, p0, q0, hg0, ht0, hv0, hd0, _, _⟩, _, _⟩ := h9
  obtain rfl := Option.some.inj (gFns.symm.trans hg0)
  obtain rfl := Option.some.inj (tFns.symm.trans ht0)
  have e := strs_read (ss := fns4.map (·.data.toList)) Tryz.underlying134 c4 hd0
  obtain ⟨t, fr, hh⟩ := var_heap gFns hv0
  obtain ⟨l⟩ := cs0
  have e : l = (fns4.map (·.data.toList)).map (fun s => Value.string ⟨s.toArray⟩) := e
  subst e
  intro j hj
  simp only [World.cell?, hh]
  obtain rfl | rfl | rfl | rfl : j = 0 ∨ j = 1 ∨ j = 2 ∨ j = 3 := by omega
  all_goals rfl
 ·obtain ⟨ps, ⟨g0, t0, cs0, f0, p0, q0, hg0, ht0, hv0, hd0, _, _⟩, _, _⟩ := h6
  obtain rfl := Option.some.inj (gKeptS.symm.trans hg0)
  obtain rfl := Option.some.inj (tKeptS.symm.trans ht0)
  have e := strs_read (ss := keptL.map (·.data.toList)) Tryz.underlying171 c5 hd0
  obtain ⟨t, fr, hh⟩ := var_heap gKeptS hv0
  obtain ⟨l⟩ := cs0
  have e : l = (keptL.map (·.data.toList)).map (fun s => Value.string ⟨s.toArray⟩) := e
  subst e
  intro j hj
  simp only [World.cell?, hh]
  obtain rfl | rfl | rfl | rfl | rfl : j = 0 ∨ j = 1 ∨ j = 2 ∨ j = 3 ∨ j = 4 := by omega
  all_goals rfl
/-- a start: the settled world, the handle's cell laid, the tables laid -/
noncomputable def baseQ (os : Os) : World :=
 let w0 := World.holding Tryz.prog os ⟨#[], #[], []⟩
 { w0 with heap := w0.heap.modify 4 fun
   | .cells _ t frozen => .cells #[.iface 218 (.agg #[.pointer (some ⟨13, 51, none⟩)])] t frozen
   | o => o }
noncomputable def startQ (os : Os) : World := (baseQ os).layVars Tryz.prog laidQT
theorem startQ_os (os : Os) : (startQ os).os = os := World.layVars_os _ _ _
theorem startQ_data (os : Os) (args : Array Value) : laidMet Tryz.prog laidQT ((startQ os).forCall (fun _ _ => 0) ⟨#[], args, []⟩).memory := by
 have e1 : (laidQT.filter fun x => (laidQT.map (·.1)).contains x.1) = laidQT := List.filter_eq_self.2 fun x hx => List.contains_iff_mem.2 (List.mem_map.2 ⟨x, hx, rfl⟩)
 have e2 : (laidQT.filter fun x => !(laidQT.map (·.1)).contains x.1) = [] := List.filter_eq_nil_iff.2 fun x hx => by rw [List.contains_iff_mem.2 (List.mem_map.2 ⟨x, hx, rfl⟩)]; simp
 have hf : (baseQ os).layFits Tryz.prog laidQT [] = true := by kernel_rfl
 have hi : (baseQ os).layIfaces Tryz.prog laidQT (startQ os) = true := by kernel_rfl
 have h : laidMet Tryz.prog laidQT (startQ os) := laidMet_layVars (w0 := baseQ os) (laidQT.map (·.1)) [] (by rw [e1]; rfl) (by rw [e1]; exact hf) (by rw [e1]; exact hi) (by rw [e2]; exact LaidIn.none)
 exact h.of_heap (by simp [World.memory, World.forCall, Input.heap])
theorem startQ_met (os : Os) (args : Array Value) : laidMetH Tryz.prog laidQ ((startQ os).forCall (fun _ _ => 0) ⟨#[], args, []⟩).memory :=
 laidMetH_of_parts3 (fuel := 8) (startQ_data os args) (by kernel_rfl) (by kernel_rfl)
end Go.Proofs.YtlaldfkeaalnhaaGreatDoor

/- slices.SortFunc at rows; millpondkeep.sorted. -/
namespace Go.Proofs.YtlaldfkeaalnhaaGreatDoor
set_option linter.unusedSimpArgs false
set_option linter.unusedVariables false
open Go.RowKit
set_option linter.all false
open Go.Sort
section
variable {α : Type} [Inhabited α] (f : α → Value)
theorem holds_any {w : World} {g : Nat} {cur : Array Value} {e : TypeId} {ss : List α} (hb : w.heap[g]? = some (.cells cur e (0, 0))) (ht : cur.toList.take ss.length = ss.map f) : Holds f w g 0 ss.toArray := by
 intro j hj
 have hj' : j < ss.length := by simpa using hj
 refine ⟨?_, by simp [World.frozen?, hb]⟩
 have h1 : (cur.toList.take ss.length)[j]? = (ss.map f)[j]? := by rw [ht]
 rw [List.getElem?_take_of_lt hj'] at h1
 simp only [World.cell?, hb, Nat.zero_add, Option.isSome_none, Bool.false_eq_true, if_false]
 rw [← Array.getElem?_toList, h1]
 simp [hj']
theorem heap_srt {w : World} {g n : Nat} {os : Array Obj} {cur : Array Value} {e : TypeId} {fr : Nat × Nat} (d : Array α) (hb : w.heap[g]? = some (.cells cur e fr)) :
  (sortWorld f w g 0 n d os).heap[g]? = some (.cells (putCells f 0 d cur) e fr) := by
 have hg : g < w.heap.size := (Array.getElem?_eq_some_iff.1 hb).1
 unfold sortWorld
 rw [heap_grow_old _ _ (by simpa using hg)]
 simp [putRow, mapBlock, Sort.ahead, Array.getElem?_modify, hb, onCells]
theorem grownBy_srt {w : World} {g n : Nat} {os : Array Obj} (d : Array α) : w.grownBy (sortWorld f w g 0 n d os) (some g) := by
 refine ⟨rfl, rfl, rfl, by simp [sortWorld], fun k hk hne => ?_⟩
 unfold sortWorld
 rw [heap_grow_old _ _ (by simpa using hk)]
 have : g ≠ k := fun e => hne (by rw [e])
 simp [putRow, mapBlock, Sort.ahead, Array.getElem?_modify, this]
theorem take_put (cur : Array Value) (ts : List α) (h : ts.length ≤ cur.size) : (putCells f 0 ts.toArray cur).toList.take ts.length = ts.map f := by
 apply List.ext_getElem?
 intro j
 by_cases hj : j < ts.length
 ·rw [List.getElem?_take_of_lt hj, Array.getElem?_toList]
  simp [putCells, hj, show j < cur.size by omega]
 ·rw [List.getElem?_take_eq_none (by omega), List.getElem?_eq_none (by simp; omega)]
theorem owns_srt {w : World} {base g cap n : Nat} {e : TypeId} {os : Array Obj} {cur : Array Value} {ts : List α} {k : Nat} (hl : ts.length = k) (hbase : base ≤ g) (hb : w.heap[g]? = some (.cells cur e (0, 0))) (h1 : k ≤ cap) (h2 : cap ≤ maxLen) (h3 : cur.size = cap * 1) :
  (sortWorld f w g 0 n ts.toArray os).ownsRow base e 1 (.slice (some ⟨g, 0, none⟩) k cap) k (ts.map f) :=
 ⟨by simp [hl], .inr ⟨g, cap, _, rfl, hbase, heap_srt f _ hb, h1, h2, by simp [putCells, h3], by rw [Nat.mul_one, ← hl]; exact take_put f cur ts (by omega)⟩⟩
end
/-- rows, in order -/
def sortG (l : List (List GV)) : List (List GV) := l.mergeSort fun a b => decide (cmpL a b ≤ 0)
theorem leL_trans : ∀ a b c : List GV, decide (cmpL a b ≤ 0) = true → decide (cmpL b c ≤ 0) = true → decide (cmpL a c ≤ 0) = true := fun a b c h1 h2 => by
 simp only [decide_eq_true_eq] at *
 exact cmpL_trans a b c h1 h2
theorem leL_total : ∀ a b : List GV, (decide (cmpL a b ≤ 0) || decide (cmpL b a ≤ 0)) = true := fun a b => by
 have := cmpL_anti a b
 simp only [Bool.or_eq_true, decide_eq_true_eq]
 omega
theorem sortG_uniq {l m : List (List GV)} (hp : l.Perm m) (hs : ∀ i j, i < j → j < l.length → cmpL (l.getD i []) (l.getD j []) ≤ 0) : l = sortG m := by
 refine List.Perm.eq_of_pairwise (le := fun a b => decide (cmpL a b ≤ 0) = true) (fun a b _ _ h1 h2 => ?_) ?_ (List.pairwise_mergeSort leL_trans leL_total _) (hp.trans (List.mergeSort_perm _ _).symm)
 ·simp only [decide_eq_true_eq] at h1 h2
  have := cmpL_anti a b
  exact (cmpL_zero a b).1 (by omega)
 ·rw [List.pairwise_iff_getElem]
  intro i j hi hj hij
  have := hs i j hij hj
  rw [List.getD_eq_getElem?_getD, List.getD_eq_getElem?_getD, List.getElem?_eq_getElem hi, List.getElem?_eq_getElem hj] at this
  simpa using this
theorem sortG_perm {l m : List (List GV)} (h : l.Perm m) : sortG l = sortG m := by
 refine List.Perm.eq_of_pairwise (le := fun a b => decide (cmpL a b ≤ 0) = true) (fun a b _ _ h1 h2 => ?_) (List.pairwise_mergeSort leL_trans leL_total _) (List.pairwise_mergeSort leL_trans leL_total _) ((List.mergeSort_perm _ _).trans (h.trans (List.mergeSort_perm _ _).symm))
 simp only [decide_eq_true_eq] at h1 h2
 have := cmpL_anti a b
 exact (cmpL_zero a b).1 (by omega)
theorem eg_sorted1 : ∀ args w, (callFunc 32 args).run Tryz.prog w = .ok (.enter 32 args) w := fun _ _ => by kernel_rfl
set_option maxRecDepth 100000 in
set_option maxHeartbeats 8000000 in
theorem sortR_any {w0 w : World} {L : List Item} {g n cap : Nat} (xs : List Mx) (hn : xs.length = n) (h0 : 1 ≤ n) (hn2 : n ≤ 1000) (hv : ∀ x ∈ xs, RV w0 x.1 x.2.2) (hl : ∀ x ∈ xs, x.2.2.length ≤ 1000) (hS : Hp w0.heap.size w0 w (rowsI g n cap xs :: L)) :
  Calls Tryz.prog 31 #[.slice (some ⟨g, 0, none⟩) n cap, .func (.func 32) #[] #[]] w fun e w' => e = .returned (.tuple #[]) ∧ ∃ ys : List Mx, ys.Perm xs ∧ (∀ i j, i < j → j < n → cmpL (ys.getD i mx0).2.2 (ys.getD j mx0).2.2 ≤ 0) ∧ Hp w0.heap.size w0 w' (rowsI g n cap ys :: L) := by
 obtain ⟨x0, hx0⟩ : ∃ x, x ∈ xs := by
  cases xs with
  | nil => simp at hn; omega
  | cons x l => exact ⟨x, by simp⟩
 letI : Inhabited {x : Mx // x ∈ xs} := ⟨⟨x0, hx0⟩⟩
 obtain ⟨ss, hss⟩ : ∃ ss, ss = xs.attach := ⟨_, rfl⟩
 have hsl : ss.length = n := by rw [hss, List.length_attach, hn]
 have hsm : ss.map (·.1) = xs := by rw [hss, List.attach_map_subtype_val]
 have hown : w.ownsRow w0.heap.size 35 1 (.slice (some ⟨g, 0, none⟩) n cap) n (xs.map hdV) := hS.head
 rcases hown.2 with ⟨hv, _⟩ | ⟨g', cp, cur, hv', hbase, hgb, r1, r2, r3, r4⟩
 ·cases hv
 obtain ⟨rfl, rfl⟩ : g = g' ∧ cap = cp := by simpa using hv'
 have e0 : xs.map hdV = ss.map (fun x => hdV x.1) := by
  have := congrArg (List.map hdV) hsm
  rw [List.map_map] at this
  exact this.symm
 have hH : Holds (fun x : {x : Mx // x ∈ xs} => hdV x.1) w g 0 ss.toArray := holds_any _ hgb (by rw [hsl, ← e0]; simpa using r4)
 have hgl : g < w.heap.size := (Array.getElem?_eq_some_iff.1 hgb).1
 have hds : ss.toArray.size = n := by simpa using hsl
 have hturn : ∀ (m : Nat) (os : Array Obj) (ts : List {x : Mx // x ∈ xs}), ts.length = n → Hp w0.heap.size w0 (sortWorld (fun x : {x : Mx // x ∈ xs} => hdV x.1) w g 0 m ts.toArray os) (rowsI g n cap (ts.map (·.1)) :: L) := fun m os ts ht => by
  refine hS.turn (row := some g) (grownBy_srt _ _) (.inr rfl) ?_ (.inl rfl)
  have := owns_srt (fun x : {x : Mx // x ∈ xs} => hdV x.1) (n := m) (os := os) (ts := ts) (k := n) ht hbase hgb r1 r2 r3
  show World.ownsRow _ _ _ _ _ _ ((ts.map (·.1)).map hdV)
  rw [List.map_map]
  exact this
 have ho : CmpOk (fun x y : {x : Mx // x ∈ xs} => cmpL x.1.2.2 y.1.2.2) := cmpL_ok.pull (fun x : {x : Mx // x ∈ xs} => x.1.2.2)
 have hO : SWO (ltOf fun x y : {x : Mx // x ∈ xs} => cmpL x.1.2.2 y.1.2.2) := by
  have h1 := ho.ord
  refine ⟨fun x => ?_, fun x y z a b => ?_, fun x y z a b => ?_⟩
  ·have := ho.anti x x
   simp only [ltOf, decide_eq_false_iff_not]
   omega
  ·simp only [ltOf, decide_eq_true_eq] at *
   have := ho.trans x y z (by omega) (by omega)
   by_cases he : cmpL x.1.2.2 z.1.2.2 = 0
   ·have a1 := ho.anti x z
    have a2 := ho.anti x y
    have := ho.trans y z x (by omega) (by omega)
    omega
   ·omega
  ·simp only [ltOf, decide_eq_false_iff_not] at *
   have a1 := ho.anti x y
   have a2 := ho.anti y z
   have a3 := ho.anti x z
   have := ho.trans z y x (by omega) (by omega)
   omega
 have hc := Any.slices_SortFunc (P := Tryz.prog) Tryz.sortRL (fun x : {x : Mx // x ∈ xs} => hdV x.1) (fun _ => rfl) (fun x y => cmpL x.1.2.2 y.1.2.2) hO 32 #[] g 0 cap ss.toArray w eg_sorted1 (fun m os dk hdk x y => by
   have hd2 : dk.toList.length = n := by rw [← hds]; simpa using hdk
   have hW := hturn m os dk.toList hd2
   rw [Array.toArray_toList] at hW
   refine (sorted1_any x.1 y.1 _ ((hv x.1 x.2).ext hW.ext) ((hv y.1 y.2).ext hW.ext) (hl x.1 x.2) (hl y.1 y.2)).mono fun e w' ⟨h1, h2⟩ => ⟨h1, h2.grow⟩) hH hgl (by rw [hds]; omega)
 rw [hds] at hc
 refine hc.mono fun e w' ⟨he, d', nn, os, hp, hs, hw⟩ => ⟨he, d'.toList.map (·.1), ?_, ?_, ?_⟩
 ·have hp3 := hp.2.2
  rw [show d'.extract 0 n = d' by rw [Array.extract_eq_self_of_le (by rw [hp.1, hds]; exact Nat.le_refl _)], show ss.toArray.extract 0 n = ss.toArray by rw [Array.extract_eq_self_of_le (by rw [hds]; exact Nat.le_refl _)]] at hp3
  have := hp3.map (·.1)
  rw [List.toList_toArray, hsm] at this
  exact this
 ·intro i j hij hj
  have h1 := hs i j (Nat.zero_le _) hij hj
  have hd' : d'.size = n := by rw [hp.1, hds]
  simp only [ltOf, decide_eq_false_iff_not] at h1
  have e1 : ∀ k, k < n → (d'.toList.map (·.1)).getD k mx0 = (d'[k]!).1 := fun k hk => by
   rw [List.getD_eq_getElem?_getD, List.getElem?_map, Array.getElem?_toList, Array.getElem?_eq_getElem (by omega), getElem!_pos d' k (by omega)]
   rfl
  rw [e1 i (by omega), e1 j hj]
  have := cmpL_anti (d'[j]!).1.2.2 (d'[i]!).1.2.2
  omega
 ·have hd' : d'.toList.length = n := by rw [Array.length_toList, hp.1, hds]
  have := hturn nn os d'.toList hd'
  rw [Array.toArray_toList] at this
  rw [hw]
  exact this
set_option maxRecDepth 100000 in
set_option maxHeartbeats 8000000 in
theorem ksorted_any (rs : List (List GV)) (A : Option Addr) (n cap : Nat) (w : World) (hn : rs.length = n) (hr : RR w A rs) (h0 : 1 ≤ n) (hl : n ≤ 1000) (hrl : ∀ r ∈ rs, r.length ≤ 1000) :
  Calls Tryz.prog 15 #[.slice A n cap] w fun e w' => ∃ A' c', e = .returned (.slice A' n c') ∧ Ext w w' ∧ RR w' A' (sortG rs) := by
 obtain ⟨b, o, hA⟩ : ∃ b o, A = some ⟨b, o, none⟩ := by
  cases rs with
  | nil => simp at hn; omega
  | cons r l =>
   obtain ⟨b, o, _, _, e, _⟩ := hr 0 r rfl
   exact ⟨b, o, e⟩
 subst hA
 obtain ⟨xs, hx1, hx2, hx3⟩ := rr_mx rs o hr
 have hxn : xs.length = n := by rw [← hn, ← hx1, List.length_map]
 have HCLN := Lib.hid (fun (W : World) (L : List Item) (h : Hp w.heap.size w W L) => show Calls Tryz.prog 30 #[.slice (some ⟨b, o, none⟩) n cap] W fun e w' => ∃ g c', e = .returned (.slice (some ⟨g, 0, none⟩) n c') ∧ n ≤ c' ∧ Hp w.heap.size w w' (rowsI g n c' xs :: L) from (rclone_any xs b o n cap W hxn (fun j x hj => h.ext.keeps (hx2 j x hj)) h0 hl).mono fun e w' ⟨g, c', he, hc, hk⟩ => ⟨g, c', he, hc, h.join hk⟩)
 have HSF := Lib.hid (fun (W : World) (g c : Nat) (L : List Item) (h : Hp w.heap.size w W (rowsI g n c xs :: L)) => sortR_any xs hxn h0 hl hx3 (fun x hx => hrl _ (by rw [← hx1]; exact List.mem_map.2 ⟨x, hx, rfl⟩)) h)
 have HRV := Lib.hid hx3
 have HX1 := Lib.hid hx1
 have HXN := Lib.hid hxn
 clear hx1 hx2 hx3 hxn hr hn hrl
 have hS := Hp.init w
 have hR := Reads.nil w
 go_enter Tryz.func15, Tryz.ntmps15
 go_wp2_with (first | (refine hab ?_; (try clear hF); clear hS; intro wk hS; (try simp only [List.set_cons_zero, List.set_cons_succ, heap_size, heap_set_size] at hS); ((try clear hF); refine hfI ?_; intro hF)) | (go_at_call 30; (with_reducible refine Calls.mono (HCLN.out _ _ hS) ?_); clear hS; rintro e wk ⟨g, c, rfl, hcc, hS⟩; ((try clear hF); refine hfI ?_; intro hF)) | (go_at_call 31; (with_reducible refine Calls.mono (HSF.out _ _ _ _ hS) ?_); clear hS; rintro e wk ⟨rfl, ys, hyp, hys, hS⟩; ((try clear hF); refine hfI ?_; intro hF)))
 go_ret
 refine ⟨_, _, rfl, hS.ext, ?_⟩
 have hyl : ys.length = n := by rw [hyp.length_eq, HXN.out]
 have e1 : ys.map (·.2.2) = sortG rs := by
  rw [← HX1.out]
  refine sortG_uniq (hyp.map _) (fun i j hij hj => ?_)
  rw [List.length_map, hyl] at hj
  have := hys i j hij hj
  rw [map_get (fun x : Mx => x.2.2) mx0 [] rfl, map_get (fun x : Mx => x.2.2) mx0 [] rfl]
  exact this
 rw [← e1]
 intro i r hi
 rw [List.getElem?_map] at hi
 cases hxi : ys[i]? with
 | none => rw [hxi] at hi; cases hi
 | some y =>
  rw [hxi] at hi
  obtain rfl : y.2.2 = r := by simpa using hi
  obtain ⟨g1, hg, c0, _⟩ := hS.rowCell 0 rfl (j := i) (u := hdV y) (by rw [List.getElem?_map, hxi]; rfl)
  exact ⟨g1, 0, y.1, y.2.1, hg, by simpa using c0, (HRV.out y (hyp.mem_iff.1 (List.mem_of_getElem? hxi))).ext hS.ext⟩
end Go.Proofs.YtlaldfkeaalnhaaGreatDoor

/- QueryOrders, QueryParts: columns and rows that are right; what comes of the questions: plain. -/
namespace Go.Proofs.YtlaldfkeaalnhaaGreatDoor
set_option linter.unusedSimpArgs false
set_option linter.unusedVariables false
open Go.RowKit
set_option linter.all false
def keptQ : List ByteArray := [⟨#[98, 121]⟩, ⟨#[100, 101, 115, 99]⟩, ⟨#[108, 105, 109, 105, 116]⟩, ⟨#[111, 114, 100, 101, 114]⟩, ⟨#[115, 101, 108, 101, 99, 116]⟩, ⟨#[119, 104, 101, 114, 101]⟩]
structure FineQ (cs : List CG) (rs : List (List GV)) : Prop where
 c1 : 1 ≤ cs.length
 c8 : cs.length ≤ 8
 name : ∀ c ∈ cs, nameT ⟨1, c.name⟩ = true
 kind : ∀ c ∈ cs, c.kind = 1 ∨ c.kind = 2
 first : ∀ (k : Nat) (c : CG), cs[k]? = some c → idxC (nmEq c.name) 0 cs = (k : Int)
 r1 : 1 ≤ rs.length
 r60 : rs.length ≤ 60
 rlen : ∀ r ∈ rs, r.length = cs.length
 cell : ∀ r ∈ rs, ∀ (k : Nat) (c : CG) (v : GV), cs[k]? = some c → r[k]? = some v → v.kind = 0 ∨ v.kind = c.kind
theorem rgt_first {next : Int} : ∀ (l pre : List CG), rgt next pre l = true → ∀ (k : Nat) (c : CG), l[k]? = some c → ∀ (i : Nat) (x : CG), i < k → l[i]? = some x → clashC c x = false
 | [], _, _, k, c, h => by simp at h
 | d :: l, pre, h, k, c, hk => by
  intro i x hi hx
  rw [rgt] at h
  simp only [Bool.and_eq_true] at h
  cases k with
  | zero => omega
  | succ k =>
   have hk' : l[k]? = some c := by simpa using hk
   cases i with
   | succ i => exact rgt_first l (pre ++ [d]) h.2 k c hk' i x (by omega) (by simpa using hx)
   | zero =>
    obtain rfl : d = x := by simpa using hx
    have : ∀ (l pre : List CG), rgt next pre l = true → ∀ c ∈ l, ∀ d ∈ pre, clashC c d = false := by
     intro l
     induction l with
     | nil => intro pre _ c hc; simp at hc
     | cons e l ih =>
      intro pre h c hc d hd
      rw [rgt] at h
      simp only [Bool.and_eq_true, Bool.not_eq_true'] at h
      rcases List.mem_cons.1 hc with rfl | hc
      ·exact List.any_eq_false.1 h.1.2 d hd |> fun h => by simpa using h
      ·exact ih (pre ++ [e]) h.2 c hc d (by simp [hd])
    exact this l (pre ++ [d]) h.2 c (List.mem_of_getElem? hk') d (by simp)
theorem idxQ_first (p : CG → Bool) : ∀ (l : List CG) (j k : Nat) (c : CG), l[k]? = some c → p c = true → (∀ i x, i < k → l[i]? = some x → p x = false) → idxC p j l = ((j + k : Nat) : Int)
 | [], _, _, _, h, _, _ => by cases h
 | x :: l, j, 0, c, h, hp, _ => by
  simp at h; subst h
  rw [idxC, if_pos hp, Nat.add_zero]
 | x :: l, j, k + 1, c, h, hp, hn => by
  rw [idxC, if_neg (by rw [hn 0 x (by omega) rfl]; decide), idxQ_first p l (j + 1) k c (by simpa using h) hp (fun i y hi hy => hn (i + 1) y (by omega) (by simpa using hy))]
  congr 1; omega
theorem fineQ {cs : List CG} {rs : List (List GV)} (hm : mkE cs rs = 0) (hk : (cs.any fun c => Lib.containsS keptQ c.name) = false) : FineQ cs rs := by
 unfold mkE at hm
 split at hm
 ·cases hm
 rename_i h1
 split at hm
 ·cases hm
 rename_i h2
 have hr : rightC cs (nextM cs) = true := by simpa using h1
 unfold rightC at hr
 simp only [Bool.and_eq_true, decide_eq_true_eq] at hr
 obtain ⟨hr, hl1, hl8⟩ := hr
 have hcol : ∀ c ∈ cs, colB c = true := by
  have : ∀ (l pre : List CG), rgt (nextM cs) pre l = true → ∀ c ∈ l, colB c = true := by
   intro l
   induction l with
   | nil => intro pre _ c hc; simp at hc
   | cons e l ih =>
    intro pre h c hc
    rw [rgt] at h
    simp only [Bool.and_eq_true] at h
    rcases List.mem_cons.1 hc with rfl | hc
    ·exact h.1.1.1
    ·exact ih _ h.2 c hc
  exact this cs [] hr
 have hrow := mk_rows hm
 refine ⟨hl1, hl8, fun c hc => ?_, fun c hc => ?_, fun k c hc => ?_, by omega, by omega, fun r hr => ?_, fun r hr k c v hc hv => ?_⟩
 ·have h3 := hcol c hc
  unfold colB at h3
  simp only [Bool.and_eq_true, Bool.not_eq_true'] at h3
  have h4 : keptB c.name = false := h3.1.1.1.1.2
  have h5 : Lib.containsS keptQ c.name = false := by
   have := List.any_eq_false.1 hk c hc
   simpa using this
  unfold nameT
  simp only [Bool.and_eq_true, Bool.not_eq_true']
  refine ⟨⟨rfl, ?_⟩, h3.1.1.1.1.1⟩
  cases hx : Lib.containsS kept11 c.name with
  | false => rfl
  | true =>
   have := (Lib.containsS_iff kept11 c.name).1 hx
   have e : kept11 = keptL ++ keptQ := rfl
   rw [e] at this
   rcases List.mem_append.1 this with h | h
   ·have h6 := (Lib.containsS_iff keptL c.name).2 h
    unfold keptB at h4
    rw [h4] at h6; cases h6
   ·have h6 := (Lib.containsS_iff keptQ c.name).2 h
    rw [h5] at h6; cases h6
 ·have h3 := hcol c hc
  unfold colB at h3
  simp only [Bool.and_eq_true, Bool.or_eq_true, beq_iff_eq] at h3
  exact h3.1.1.1.2
 ·have := idxQ_first (nmEq c.name) cs 0 k c hc (by simp [nmEq]) (fun i x hi hx => by
   have h3 := rgt_first cs [] hr k c hc i x hi hx
   unfold clashC at h3
   rw [Bool.or_eq_false_iff] at h3
   exact h3.2)
  simpa using this
 ·have := hrow r hr
  unfold rowE at this
  split at this
  ·assumption
  ·cases this
 ·have h3 := hrow r hr
  unfold rowE at h3
  split at h3
  ·have h4 := rowF_cell h3 hc hv
   unfold cellE at h4
   split at h4
   ·cases h4
   ·split at h4
    ·exact .inl (by assumption)
    ·split at h4
     ·exact .inr (by assumption)
     ·cases h4
  ·cases h3
theorem place_col {cs : List CG} {rs : List (List GV)} (hf : FineQ cs rs) {k : Nat} {c : CG} (hc : cs[k]? = some c) (fn : ByteArray) (hs : fn = sumS → c.kind = 1) : placeE cs ⟨fn, c.name⟩ = ((k : Int), 0) := by
 have hst := name_star (hf.name c (List.mem_of_getElem? hc))
 unfold placeE
 rw [if_neg hst, hf.first k c hc, if_neg (by omega), Int.toNat_natCast, hc]
 simp only
 rw [if_neg (fun h => h.2 (hs h.1))]
/-! QueryOrders -/
def nmI (c : CG) : IT := ⟨noS, c.name⟩
theorem items_names {cs : List CG} {rs : List (List GV)} (hf : FineQ cs rs) (bs : List Int) : ∀ (l : List CG) (j : Nat), cs.drop j = l → itemsE cs false bs (l.map nmI) = (0, (List.range' j l.length).map fun i => ((i : Nat) : Int))
 | [], j, h => rfl
 | c :: l, j, h => by
  have hc : cs[j]? = some c := by
   have := congrArg List.head? h
   rwa [List.head?_drop] at this
  have hd : cs.drop (j + 1) = l := by
   have := congrArg List.tail h
   rwa [List.tail_drop] at this
  have hp : placeE cs (nmI c) = ((j : Int), 0) := place_col hf hc noS (fun e => absurd e (by decide))
  rw [List.map_cons, itemsE, hp, items_names hf bs l (j + 1) hd]
  simp only [ne_eq, not_true_eq_false, if_false, Bool.false_eq_true, false_and, List.length_cons, List.range'_succ, List.map_cons]
def ordQ (cs : List CG) (ord : List (Int × Bool)) (lim : Int) : QG := ⟨cs.map nmI, .nil, [], ord, lim⟩
theorem some_names (cs : List CG) (ord : List (Int × Bool)) (lim : Int) : someE (ordQ cs ord lim) = false := by
 unfold someE ordQ
 rw [Bool.or_eq_false_iff]
 refine ⟨by simp, ?_⟩
 rw [List.any_eq_false]
 intro x hx
 obtain ⟨c, _, rfl⟩ := List.mem_map.1 hx
 simp [nmI]
theorem plan_names {cs : List CG} {rs : List (List GV)} (hf : FineQ cs rs) (ord : List (Int × Bool)) (lim : Int) : planE cs (ordQ cs ord lim) = (0, (List.range' 0 cs.length).map (fun i => ((i : Nat) : Int)), []) := by
 have h := items_names hf [] cs 0 rfl
 unfold planE
 rw [some_names]
 rw [show byE cs (ordQ cs ord lim).by_ = some [] from rfl]
 simp only
 show (if (itemsE cs false [] (cs.map nmI)).1 ≠ 0 then _ else (0, (itemsE cs false [] (cs.map nmI)).2, [])) = _
 rw [h]
 rfl
theorem key_all (r : List GV) (n : Nat) (h : r.length = n) : keyR ((List.range' 0 n).map fun i => ((i : Nat) : Int)) r = r := by
 unfold keyR
 rw [List.map_map]
 apply List.ext_getElem?
 intro i
 rw [List.getElem?_map]
 by_cases hi : i < n
 ·rw [List.getElem?_range' (by simpa using hi)]
  simp only [Option.map_some, Function.comp, atR, Nat.zero_add, Nat.one_mul, Int.toNat_natCast]
  rw [List.getD_eq_getElem?_getD, List.getElem?_eq_getElem (by omega)]
  rfl
 ·rw [List.getElem?_eq_none (by simpa using hi), List.getElem?_eq_none (by omega)]
  rfl
theorem run_names {cs : List CG} {rs : List (List GV)} (hf : FineQ cs rs) (ord : List (Int × Bool)) (lim : Int) : runE cs rs (ordQ cs ord lim) = (0, limQ lim (srtR (ordC ord) rs)) := by
 unfold runE
 rw [plan_names hf]
 simp only [ne_eq, not_true_eq_false, if_false]
 have : outQ (ordQ cs ord lim) ((List.range' 0 cs.length).map fun i => ((i : Nat) : Int)) [] rs = rs := by
  unfold outQ
  rw [some_names, if_neg (by simp)]
  rw [List.map_congr_left (g := id) (fun r hr => key_all r cs.length (hf.rlen r hr)), List.map_id]
 rw [this]
 rfl
theorem run_plain {cs : List CG} {rs : List (List GV)} (hf : FineQ cs rs) : runE cs rs (ordQ cs [] 0) = (0, rs) := by
 rw [run_names hf, show ordC [] = fun _ _ => 0 from rfl, srtR_id]
 unfold limQ
 rw [if_neg (by omega)]
theorem limQ_zero (l : List (List GV)) : limQ 0 l = l := by unfold limQ; rw [if_neg (by omega)]
theorem limQ_take (n : Nat) (l : List (List GV)) (h : 1 ≤ n) : limQ n l = l.take (min n l.length) := by
 unfold limQ
 by_cases h1 : n < l.length
 ·rw [if_pos ⟨by omega, by omega⟩, Int.toNat_natCast, Nat.min_eq_left (by omega)]
 ·rw [if_neg (by omega), Nat.min_eq_right (by omega), List.take_length]
/-- up, down: one by the other -/
theorem ord_up (k : Nat) (dsc : Bool) (rs : List (List GV)) {i : Nat} (h : i + 1 < rs.length) {a b : List GV} (ha : (srtR (ordC [((k : Int), dsc)]) rs)[i]? = some a) (hb : (srtR (ordC [((k : Int), dsc)]) rs)[i + 1]? = some b) : if dsc = true then 0 ≤ cmpG (atR a k) (atR b k) else cmpG (atR a k) (atR b k) ≤ 0 := by
 have h1 := srtR_srt (ordC_ok [((k : Int), dsc)]) rs i (i + 1) (Nat.zero_le _) (by omega) h
 rw [List.getD_eq_getElem?_getD, List.getD_eq_getElem?_getD, ha, hb] at h1
 have h2 : ¬ ordC [((k : Int), dsc)] b a < 0 := by simpa [ltR] using h1
 have a1 := cmpG_anti (atR a k) (atR b k)
 simp only [ordC] at h2
 cases dsc with
 | true =>
  simp only [if_true] at h2 ⊢
  split at h2 <;> omega
 | false =>
  simp only [Bool.false_eq_true, if_false] at h2 ⊢
  split at h2 <;> omega
end Go.Proofs.YtlaldfkeaalnhaaGreatDoor

/- millpondkeep.kept, rightRows: the walks. -/
namespace Go.Proofs.YtlaldfkeaalnhaaGreatDoor
set_option linter.unusedSimpArgs false
set_option linter.unusedVariables false
open Go.RowKit
set_option linter.all false
theorem kq_any (g : Nat) (t : TypeId) (s : ByteArray) (W : World) (h : W.heap[g]? = some (.cells #[.string ⟨#[98, 121]⟩, .string ⟨#[100, 101, 115, 99]⟩, .string ⟨#[108, 105, 109, 105, 116]⟩, .string ⟨#[111, 114, 100, 101, 114]⟩, .string ⟨#[115, 101, 108, 101, 99, 116]⟩, .string ⟨#[119, 104, 101, 114, 101]⟩] t (0, 0))) :
  Calls Tryz.prog 23 #[.slice (some ⟨g, 0, none⟩) 6 6, .string s] W fun e w' => e = .returned (.bool (Lib.containsS keptQ s)) ∧ Ext W w' :=
 (Tryz.slices_Contains_string g 0 6 6 keptQ s W (by decide) (by decide) (fun j hj => by
  simp only [World.cell?, h, Option.isSome_none, Bool.false_eq_true, if_false, Nat.zero_add]
  have hj : j < 6 := hj
  obtain rfl | rfl | rfl | rfl | rfl | rfl : j = 0 ∨ j = 1 ∨ j = 2 ∨ j = 3 ∨ j = 4 ∨ j = 5 := by omega
  all_goals rfl)).mono fun e w' ⟨h1, h2⟩ => ⟨h1, by rw [h2]; exact Ext.refl _⟩
set_option maxRecDepth 100000 in
set_option maxHeartbeats 8000000 in
theorem kept1_any (c : CG) (w : World) : Calls Tryz.prog 22 #[.agg #[.int .i64 c.id, .string c.name, .int .i64 c.kind, .bool c.must, .int .i64 c.d.kind, .int .i64 c.d.num, .string c.d.text]] w fun e w' => e = .returned (.bool (Lib.containsS keptQ c.name)) ∧ Ext w w' := by
 obtain ⟨id, name, kind, must, d⟩ := c
 obtain ⟨dk, dn, dt⟩ := d
 dsimp only
 obtain ⟨b, hb⟩ : ∃ b, b = Lib.containsS keptQ name := ⟨_, rfl⟩
 have HKQ := Lib.hid (fun (W : World) (g : Nat) (t : TypeId) (h : W.heap[g]? = some (.cells #[.string ⟨#[98, 121]⟩, .string ⟨#[100, 101, 115, 99]⟩, .string ⟨#[108, 105, 109, 105, 116]⟩, .string ⟨#[111, 114, 100, 101, 114]⟩, .string ⟨#[115, 101, 108, 101, 99, 116]⟩, .string ⟨#[119, 104, 101, 114, 101]⟩] t (0, 0))) => kq_any g t name W h)
 rw [← hb] at HKQ ⊢
 clear hb
 have hS := Hp.init w
 have hR := Reads.nil w
 go_enter Tryz.func22, Tryz.ntmps22
 go_wp2_with (first | (refine hab ?_; (try clear hF); clear hS; intro wk hS; (try simp only [List.set_cons_zero, List.set_cons_succ, heap_size, heap_set_size] at hS); ((try clear hF); refine hfI ?_; intro hF)) | (go_at_call 23; (with_reducible refine (HKQ.out _ _ _ (hS.blkAt 0 rfl)).mono ?_); rintro e wk ⟨rfl, hX⟩; replace hS := hS.step hX; clear hX; ((try clear hF); refine hfI ?_; intro hF)))
 go_ret
 exact ⟨rfl, hS.ext⟩
set_option maxRecDepth 100000 in
set_option maxHeartbeats 8000000 in
theorem kept_law (cs : List CG) (A : Option Addr) (n cap : Nat) (w : World) (hn : cs.length = n) (hr : RC w A cs) (hl : n ≤ 1000) :
  Calls Tryz.prog 9 #[.slice A n cap] w fun e w' => e = .returned (.bool (cs.any fun c => Lib.containsS keptQ c.name)) ∧ Ext w w' := by
 subst hn
 have HC := Lib.hid (fun (W : World) (hx : Ext w W) => ccontainsFunc_any cs A cap 22 #[] (fun c => Lib.containsS keptQ c.name) W (hr.ext hx) (by omega) eg_kept1 (fun W' _ c => kept1_any c W'))
 obtain ⟨b, hb⟩ : ∃ b, b = cs.any fun c => Lib.containsS keptQ c.name := ⟨_, rfl⟩
 rw [← hb] at HC ⊢
 clear hb hr
 have hS := Hp.init w
 have hR := Reads.nil w
 go_enter Tryz.func9, Tryz.ntmps9
 go_wp2_with (first | (refine hab ?_; (try clear hF); clear hS; intro wk hS; (try simp only [List.set_cons_zero, List.set_cons_succ, heap_size, heap_set_size] at hS); ((try clear hF); refine hfI ?_; intro hF)) | (go_at_call 21; (with_reducible refine (HC.out _ hS.ext).mono ?_); rintro e wk ⟨rfl, hX⟩; replace hS := hS.step hX; clear hX; ((try clear hF); refine hfI ?_; intro hF)))
 go_ret
 exact ⟨rfl, hS.ext⟩
set_option maxRecDepth 100000 in
set_option maxHeartbeats 8000000 in
theorem rightRows_any (cs : List CG) (rs : List (List GV)) (A A2 : Option Addr) (n n2 cap cap2 : Nat) (w : World) (hn : cs.length = n) (hn2 : rs.length = n2) (hc : RC w A cs) (hr : RR w A2 rs) (hcap : n ≤ cap) (hcap2 : n2 ≤ cap2) (hcap3 : cap2 ≤ 140737488355328) (hl : n ≤ 1000) (hl2 : n2 ≤ 1000)
  (hrl : ∀ r ∈ rs, r.length ≤ 1000) (hi : ∀ c ∈ cs, i64 c.id) (hv : ∀ r ∈ rs, ∀ x ∈ r, i64 x.num) (hK : KeptAt w) (hE : ErrAt w) :
  Calls Tryz.prog 8 #[.slice A n cap, .slice A2 n2 cap2] w fun e w' => e = .returned (.bool (decide (mkE cs rs = 0))) ∧ Ext w w' := by
 subst hn hn2
 have hm := fun (W : World) (hx : Ext w W) => fmake_any cs rs A A2 cap cap2 W (hc.ext hx) (hr.ext hx) hcap hcap2 hcap3 hl hl2 hrl hi hv (hK.ext hx) (hE.ext hx)
 by_cases h0 : mkE cs rs = 0
 ·have HM := Lib.hid (fun (W : World) (hx : Ext w W) => show Calls Tryz.prog 20 #[.slice A cs.length cap, .slice A2 rs.length cap2] W fun e w' => ∃ Ac nc cc Ag ng cg, e = .returned (.tuple #[.agg #[.slice Ac nc cc, .slice Ag ng cg], .nilIface]) ∧ Ext W w' from (hm W hx).mono fun e w' h => by
   unfold MkRes at h
   rw [if_pos h0] at h
   obtain ⟨v, e1, e2, e3⟩ := h
   obtain ⟨Ac, cc, Ag, cg, rfl, _, _, _⟩ := e3
   exact ⟨_, _, _, _, _, _, e1, e2⟩)
  rw [decide_eq_true h0]
  clear hm h0 hc hr hrl hi hv
  have hS := Hp.init w
  have hR := Reads.nil w
  go_enter Tryz.func8, Tryz.ntmps8
  go_wp2_with (first | (refine hab ?_; (try clear hF); clear hS; intro wk hS; (try simp only [List.set_cons_zero, List.set_cons_succ, heap_size, heap_set_size] at hS); ((try clear hF); refine hfI ?_; intro hF)) | (go_at_call 20; (with_reducible refine Calls.mono (HM.out _ hS.ext) ?_); rintro e wk ⟨Ac, nc, cc, Ag, ng, cg, rfl, hX⟩; replace hS := hS.step hX; clear hX; ((try clear hF); refine hfI ?_; intro hF)))
  go_ret
  exact ⟨rfl, hS.ext⟩
 ·have HM := Lib.hid (fun (W : World) (hx : Ext w W) => show Calls Tryz.prog 20 #[.slice A cs.length cap, .slice A2 rs.length cap2] W fun e w' => ∃ t v, e = .returned (.tuple #[.agg #[.slice none 0 0, .slice none 0 0], .iface t v]) ∧ Ext W w' from (hm W hx).mono fun e w' h => by
   unfold MkRes at h
   rw [if_neg h0] at h
   obtain ⟨er, e1, e2, e3⟩ := h
   rcases e2 with rfl | ⟨g, i, rfl, _⟩
   ·exact ⟨_, _, e1, e3⟩
   ·exact ⟨_, _, e1, e3⟩)
  rw [decide_eq_false h0]
  clear hm h0 hc hr hrl hi hv
  have hS := Hp.init w
  have hR := Reads.nil w
  go_enter Tryz.func8, Tryz.ntmps8
  go_wp2_with (first | (refine hab ?_; (try clear hF); clear hS; intro wk hS; (try simp only [List.set_cons_zero, List.set_cons_succ, heap_size, heap_set_size] at hS); ((try clear hF); refine hfI ?_; intro hF)) | (go_at_call 20; (with_reducible refine Calls.mono (HM.out _ hS.ext) ?_); rintro e wk ⟨t, v, rfl, hX⟩; replace hS := hS.step hX; clear hX; ((try clear hF); refine hfI ?_; intro hF)))
  go_ret
  exact ⟨rfl, hS.ext⟩
end Go.Proofs.YtlaldfkeaalnhaaGreatDoor

/- The texts that QueryOrders asks: what they are read as: plain. -/
namespace Go.Proofs.YtlaldfkeaalnhaaGreatDoor
set_option linter.unusedSimpArgs false
set_option linter.unusedVariables false
open Go.RowKit
set_option linter.all false
/-- the text on the way: select, and names -/
def txtQ (l : List CG) : List UInt8 := selL ++ [32] ++ itsL (l.map nmI)
theorem itL_nm (c : CG) : itL (nmI c) = c.name.data.toList := by unfold itL nmI; rw [if_pos rfl]
theorem restL_snoc (l : List IT) (x : IT) : restL (l ++ [x]) = restL l ++ ([44, 32] ++ itL x) := by simp [restL]
theorem txtQ_one (c : CG) : txtQ [c] = selL ++ [32] ++ c.name.data.toList := by
 unfold txtQ
 rw [List.map_cons, List.map_nil, itsL, itL_nm]
 simp [restL]
theorem txtQ_snoc (l : List CG) (c : CG) (h : l ≠ []) : txtQ (l ++ [c]) = txtQ l ++ [44, 32] ++ c.name.data.toList := by
 cases l with
 | nil => exact absurd rfl h
 | cons d l =>
  unfold txtQ
  simp only [List.cons_append, List.map_cons, List.map_append, itsL, List.map_nil, restL_snoc, itL_nm, List.append_assoc]
theorem name_size {c : ByteArray} (h : nameT ⟨1, c⟩ = true) : c.size ≤ 16 := by
 unfold nameT nameB at h
 simp only [Bool.and_eq_true, decide_eq_true_eq] at h
 exact h.2.1.1.2
theorem itoa_small {k : Nat} (h : k < 10) : itoaL (k : Int) = [UInt8.ofNat (48 + k)] := by
 have : ∀ k : Fin 10, itoaL ((k : Nat) : Int) = [UInt8.ofNat (48 + k)] := by decide +kernel
 exact this ⟨k, h⟩
theorem ok_names {cs : List CG} {rs : List (List GV)} (hf : FineQ cs rs) : ∀ x ∈ cs.map nmI, OkI x := fun x hx => by
 obtain ⟨c, hc, rfl⟩ := List.mem_map.1 hx
 exact .inl ⟨rfl, hf.name c hc⟩
theorem ne_names {cs : List CG} {rs : List (List GV)} (hf : FineQ cs rs) : cs.map nmI ≠ [] := fun e => by
 have h1 : cs.length = 0 := by simpa using congrArg List.length e
 have := hf.c1
 omega
theorem itT_nm (c : CG) : (itT (nmI c)).length = 1 := by unfold itT nmI; rw [if_pos rfl]; rfl
theorem restT_names : ∀ (l : List CG), (restT (l.map nmI)).length = 2 * l.length
 | [] => rfl
 | c :: l => by
  have := restT_names l
  have e : restT ((c :: l).map nmI) = mkT 4 [44] :: itT (nmI c) ++ restT (l.map nmI) := by simp [restT]
  rw [e]
  simp only [List.length_append, List.length_cons, itT_nm]
  omega
theorem len_names (l : List CG) : (itsT (l.map nmI)).length ≤ 2 * l.length := by
 cases l with
 | nil => simp [itsT]
 | cons c l =>
  rw [List.map_cons, itsT, List.length_append, itT_nm, restT_names, List.length_cons]
  omega
theorem parse_plain {cs : List CG} {rs : List (List GV)} (hf : FineQ cs rs) : parseQ (txtQ cs) = some (ordQ cs [] 0) := by
 have := parse_of (ok_names hf) (ne_names hf) (tail := []) (R := []) (q := ordQ cs [] 0) rfl Lx.nil (by have := len_names cs; have := hf.c8; simp; omega) rfl rfl (q1_end _)
 rwa [List.append_nil] at this
def ordT (k : Nat) : List UInt8 := [32, 111, 114, 100, 101, 114, 32] ++ [UInt8.ofNat (49 + k)]
theorem itoa_k {k : Nat} (h : k < 9) : itoaL ((k : Int) + 1) = [UInt8.ofNat (49 + k)] := by
 have := itoa_small (k := k + 1) (by omega)
 rw [show ((k + 1 : Nat) : Int) = (k : Int) + 1 by push_cast; rfl, show 48 + (k + 1) = 49 + k by omega] at this
 exact this
theorem ordT_eq {k : Nat} (h : k < 9) (t : List UInt8) : ordT k ++ t = [32] ++ (ordL ++ ([32] ++ (itoaL ((k : Int) + 1) ++ t))) := by
 rw [itoa_k h]
 simp [ordT, ordL]
theorem lx_ord {k : Nat} (h : k < 9) {t : List UInt8} {ts : List Tk} (hs : digitB (t.headD 0) = false) (hx : Lx t ts) : Lx (ordT k ++ t) (mkT 1 ordL :: mkT 2 (itoaL ((k : Int) + 1)) :: ts) := by
 rw [ordT_eq h]
 exact Lx.sp (lx_kw ⟨_, _, rfl, rfl⟩ (by decide) (sep_sp _) (Lx.sp (lx_num _ hs hx)))
theorem parse_up {cs : List CG} {rs : List (List GV)} (hf : FineQ cs rs) {k : Nat} (hk : k < cs.length) : parseQ (txtQ cs ++ ordT k) = some (ordQ cs [((k : Int), false)] 0) := by
 have hc8 := hf.c8
 have hx := lx_ord (k := k) (by omega) (t := []) rfl Lx.nil
 rw [List.append_nil] at hx
 refine parse_of (ok_names hf) (ne_names hf) rfl hx (by have := len_names cs; simp; omega) rfl rfl ?_
 exact q1_ord _ (k := k) (R := [endTk]) (dsc := false) (by omega) (by show (k : Int) < ((cs.map nmI).length : Int); rw [List.length_map]; omega) (by omega) rfl rfl (q4_end _)
theorem parse_down {cs : List CG} {rs : List (List GV)} (hf : FineQ cs rs) {k : Nat} (hk : k < cs.length) : parseQ (txtQ cs ++ (ordT k ++ [32, 100, 101, 115, 99])) = some (ordQ cs [((k : Int), true)] 0) := by
 have hc8 := hf.c8
 have hd : Lx [32, 100, 101, 115, 99] [mkT 1 descL] := Lx.sp (by have := lx_kw (w := descL) ⟨_, _, rfl, rfl⟩ (by decide) (rest := []) (.inl rfl) Lx.nil; rwa [List.append_nil] at this)
 have hx := lx_ord (k := k) (by omega) rfl hd
 refine parse_of (ok_names hf) (ne_names hf) rfl hx (by have := len_names cs; simp; omega) rfl rfl ?_
 exact q1_ord _ (k := k) (R := [mkT 1 descL, endTk]) (dsc := true) (by omega) (by show (k : Int) < ((cs.map nmI).length : Int); rw [List.length_map]; omega) (by omega) rfl rfl (q4_end _)
theorem parse_few {cs : List CG} {rs : List (List GV)} (hf : FineQ cs rs) {k : Nat} (hk : k < cs.length) {m : Nat} (h1 : 1 ≤ m) (h2 : m < 10) : parseQ (txtQ cs ++ (ordT k ++ ([32, 108, 105, 109, 105, 116, 32] ++ [UInt8.ofNat (48 + m)]))) = some (ordQ cs [((k : Int), false)] m) := by
 have hc8 := hf.c8
 have hd : Lx ([32, 108, 105, 109, 105, 116, 32] ++ [UInt8.ofNat (48 + m)]) [mkT 1 limL, mkT 2 (itoaL (m : Int))] := by
  have e : [32, 108, 105, 109, 105, 116, 32] ++ [UInt8.ofNat (48 + m)] = [32] ++ (limL ++ ([32] ++ (itoaL (m : Int) ++ []))) := by rw [itoa_small h2]; simp [limL]
  rw [e]
  exact Lx.sp (lx_kw ⟨_, _, rfl, rfl⟩ (by decide) (sep_sp _) (Lx.sp (lx_num _ rfl Lx.nil)))
 have hx := lx_ord (k := k) (by omega) rfl hd
 refine parse_of (ok_names hf) (ne_names hf) rfl hx (by have := len_names cs; simp; omega) rfl rfl ?_
 refine q1_ord _ (k := k) (R := [mkT 1 limL, mkT 2 (itoaL (m : Int)), endTk]) (dsc := false) (by omega) (by show (k : Int) < ((cs.map nmI).length : Int); rw [List.length_map]; omega) (by omega) ?_ ?_ ?_
 ·rw [see_at (.inl rfl)]; rfl
 ·rw [if_neg (by simp), see_at (.inl rfl)]; rfl
 ·exact q4_lim _ (n := m) (by omega) (by omega)
end Go.Proofs.YtlaldfkeaalnhaaGreatDoor
