/- Texts joined: log.masks. log.action. log.action: what it does, kind by kind. log.action: columns anew. a table that stands: what an action leaves of it. millpondkeep.set: a table's files, by their names. -/
import Derived.Test.YtcpnnffnkegamaaGreatDoorLY06
import Derived.Test.YtcpnnffnkegamaaGreatDoorLY04
import Derived.Test.YtcpnnffnkegamaaGreatDoorLY03
import Derived.StringKeys
/- log.masks. -/
namespace Go.Proofs.YtcpnnffnkegamaaGreatDoor
set_option linter.unusedSimpArgs false
set_option linter.unusedVariables false
open Go.RowKit
set_option linter.all false
set_option maxRecDepth 100000 in
theorem eg_lmasks1 : ∀ args w, (callFunc 65 args).run Tryz.prog w = .ok (.enter 65 args) w := fun _ _ => by kernel_rfl
set_option maxRecDepth 100000 in
set_option maxHeartbeats 8000000 in
theorem lmasks1_any (x : Int) (g : Nat) (mk : List Int) (A : Option Addr) (n cap : Nat) (w : World) (hn : mk.length = n) (hl : n ≤ 1000) (hr : RI w A mk) (h : w.cell? ⟨g, 2, none⟩ = some (.slice A n cap)) :
    Calls Tryz.prog 65 #[.int .i64 x, .pointer (some ⟨g, 0, none⟩)] w fun e w' => e = .returned (.bool (mk.contains x)) ∧ Ext w w' := by
  have HC := Lib.hid (fun (W : World) (hx : Ext w W) => icontains_any (x := x) (cap := cap) hn (by omega) (hr.ext hx))
  have hS := Hp.init w
  have hR := Reads.cell h (Reads.nil w)
  clear h hr hn
  obtain ⟨b, hb⟩ : ∃ b, b = mk.contains x := ⟨_, rfl⟩
  rw [← hb] at HC ⊢
  clear hb
  ((try clear hF); (first | have hF := And.intro hS.facts (HRD.out _ (hS.sub (by first | simp | ((repeat (first | exact List.nil_sublist _ | exact List.Sublist.refl _ | with_reducible apply List.Sublist.cons₂ | apply List.Sublist.cons)))))) | have hF := And.intro hS.facts (hR.at hS.ext) | have hF := hS.facts); simp only [HFacts, cellFacts, RFacts, cellOnly, and_true, true_and, Nat.zero_add, Nat.reduceAdd] at hF)
  go_enter Tryz.func65, Tryz.ntmps65
  go_wp2_with (first | ((with_reducible first | refine nhLa ?_ | refine nhLs ?_ | refine nhLd ?_ | refine nhCa ?_ | refine nhCs ?_ | refine nhCd ?_ | refine nhPa ?_ | refine nhPs ?_ | refine nhPd ?_ | refine nhKa ?_ | refine nhKs ?_ | refine nhKd ?_); ((try clear hF); clear hS; intro wk hS; (try simp only [List.set_cons_zero, List.set_cons_succ, heap_size, heap_set_size] at hS); ((try clear hF); (first | have hF := And.intro hS.facts (HRD.out _ (hS.sub (by first | simp | ((repeat (first | exact List.nil_sublist _ | exact List.Sublist.refl _ | with_reducible apply List.Sublist.cons₂ | apply List.Sublist.cons)))))) | have hF := And.intro hS.facts (hR.at hS.ext) | have hF := hS.facts); simp only [HFacts, cellFacts, RFacts, cellOnly, and_true, true_and, Nat.zero_add, Nat.reduceAdd] at hF))) | (go_at_call 66; (with_reducible refine (HC.out _ hS.ext).mono ?_); rintro e wk ⟨rfl, hX⟩; replace hS := hS.step hX; clear hX; ((try clear hF); (first | have hF := And.intro hS.facts (HRD.out _ (hS.sub (by first | simp | ((repeat (first | exact List.nil_sublist _ | exact List.Sublist.refl _ | with_reducible apply List.Sublist.cons₂ | apply List.Sublist.cons)))))) | have hF := And.intro hS.facts (hR.at hS.ext) | have hF := hS.facts); simp only [HFacts, cellFacts, RFacts, cellOnly, and_true, true_and, Nat.zero_add, Nat.reduceAdd] at hF)))
  go_ret
  exact ⟨rfl, hS.ext⟩
theorem cellsE_set : ∀ (l : List EV) (k : Nat) (v : EV), k < l.length → (((cellsE l).set (k * 3) (.string v.path)).set (k * 3 + 1) (.int .i64 v.rows)).set (k * 3 + 2) (.slice v.ma v.mn v.mc) = cellsE (l.set k v)
  | [], k, v, h => by simp at h
  | x :: l, 0, v, h => by simp [cellsE]
  | x :: l, k + 1, v, h => by
    have := cellsE_set l k v (by simpa using h)
    rw [show (k + 1) * 3 = k * 3 + 3 by omega]
    simp only [cellsE, List.set_cons_succ]
    rw [this]
/-- what masks answers -/
def masksE (v : Int) (mk l : List Int) : Int := if l.length = 0 ∨ maskB l v = false then 1 else if l.any mk.contains = true then 6 else 0
def snB (gs : Nat) (ver : Int) (Ac : Option Addr) (nc cc : Nat) (nx : Int) (Af : Option Addr) (nf cf : Nat) : Item := .blk gs [.int .i64 ver, .slice Ac nc cc, .int .i64 nx, .slice Af nf cf] 27
set_option maxRecDepth 100000 in
set_option maxHeartbeats 8000000 in
theorem masks_any {B : Nat} {w0 w : World} {K : List Item} (gs gf k : Nat) (ver nx : Int) (Ac Al : Option Addr) (nc cc nf cf nl cl : Nat) (evs : List EV) (v : EV) (mk l : List Int) (hnf : evs.length = nf) (hk : evs[k]? = some v) (hl : l.length = nl) (hl2 : nl ≤ 100) (hmn : mk.length = v.mn) (hmn2 : v.mn ≤ 100)
    (hz : v.ma = none → v.mc = 0) (hzl : Al = none → cl = 0) (HMK : Hid (∀ W, Hp B w0 W K → RI W v.ma mk)) (HL : Hid (∀ W, Hp B w0 W K → RI W Al l))
    (hS : Hp B w0 w (snB gs ver Ac nc cc nx (some ⟨gf, 0, none⟩) nf cf :: eRow (some ⟨gf, 0, none⟩) nf cf evs :: K)) :
    Calls Tryz.prog 43 #[.pointer (some ⟨gs, 0, none⟩), .int .i64 k, .slice Al nl cl] w fun e w' => e = .returned (.int .i64 (masksE v.rows mk l)) ∧
      if masksE v.rows mk l = 0 then ∃ Am cm, (Am = none → cm = 0) ∧ Hp B w0 w' (snB gs ver Ac nc cc nx (some ⟨gf, 0, none⟩) nf cf :: eRow (some ⟨gf, 0, none⟩) nf cf (evs.set k ⟨v.path, v.rows, Am, v.mn + nl, cm⟩) :: .row 3 1 Am (v.mn + nl) cm (intsV (sortI (mk ++ l))) :: K)
      else Hp B w0 w' (snB gs ver Ac nc cc nx (some ⟨gf, 0, none⟩) nf cf :: eRow (some ⟨gf, 0, none⟩) nf cf evs :: K) := by
  unfold snB eRow at *
  have hkl := (List.getElem?_eq_some_iff.1 hk).1
  obtain ⟨b0, o0, hA, q0, q1, q2⟩ := (hS.re 1 rfl) k v hk
  obtain ⟨rfl, rfl⟩ : gf = b0 ∧ 0 = o0 := by simpa using hA
  simp only [Nat.zero_add] at q0 q1 q2
  have hkf : k < nf := by omega
  have hk0 : (0 : Int) ≤ (k : Int) := by omega
  have HMB := Lib.hid (fun (W : World) (h : Hp B w0 W K) => mask_any l Al nl cl v.rows W hl (by omega) (HL.out W h))
  by_cases hl0 : nl = 0
  · subst hl0
    have e0 : masksE v.rows mk l = 1 := by unfold masksE; rw [if_pos (.inl hl)]
    rw [e0]
    clear HMB HMK HL hkl hA e0
    ((try clear hF); (first | have hF := And.intro hS.facts (HRD.out _ (hS.sub (by first | simp | ((repeat (first | exact List.nil_sublist _ | exact List.Sublist.refl _ | with_reducible apply List.Sublist.cons₂ | apply List.Sublist.cons)))))) | have hF := And.intro hS.facts (hR.at hS.ext) | have hF := hS.facts); simp only [HFacts, cellFacts, RFacts, cellOnly, and_true, true_and, Nat.zero_add, Nat.reduceAdd] at hF)
    go_enter Tryz.func43, Tryz.ntmps43
    go_wp2_with (first | ((with_reducible first | refine nhLa ?_ | refine nhLs ?_ | refine nhLd ?_ | refine nhCa ?_ | refine nhCs ?_ | refine nhCd ?_ | refine nhPa ?_ | refine nhPs ?_ | refine nhPd ?_ | refine nhKa ?_ | refine nhKs ?_ | refine nhKd ?_); ((try clear hF); clear hS; intro wk hS; (try simp only [List.set_cons_zero, List.set_cons_succ, heap_size, heap_set_size] at hS); ((try clear hF); (first | have hF := And.intro hS.facts (HRD.out _ (hS.sub (by first | simp | ((repeat (first | exact List.nil_sublist _ | exact List.Sublist.refl _ | with_reducible apply List.Sublist.cons₂ | apply List.Sublist.cons)))))) | have hF := And.intro hS.facts (hR.at hS.ext) | have hF := hS.facts); simp only [HFacts, cellFacts, RFacts, cellOnly, and_true, true_and, Nat.zero_add, Nat.reduceAdd] at hF))) | fail)
    go_ret
    exact ⟨rfl, hS.tail⟩
  · have hln : ¬ ((nl : Int) = 0) := by omega
    have HCF := Lib.hid (fun (W : World) (g7 : Nat) (h : Hp B w0 W K) (h2 : W.cell? ⟨g7, 2, none⟩ = some (.slice v.ma v.mn v.mc)) => icontainsFunc_any l Al nl cl 65 #[.pointer (some ⟨g7, 0, none⟩)] mk.contains W hl (HL.out W h) (by omega) eg_lmasks1 (fun W' hx x => lmasks1_any x g7 mk v.ma v.mn v.mc W' hmn (by omega) ((HMK.out W h).ext hx) (hx.keeps h2)))
    have HCC := Lib.hid (fun (W : World) (gq : Nat) (t : TypeId) (h : Hp B w0 W K) (h2 : W.heap[gq]? = some (.cells #[.slice v.ma v.mn v.mc, .slice Al nl cl] t (0, 0))) => iconcat_any mk l v.ma Al v.mn nl v.mc cl gq t W hmn hl (by omega) (by omega) (HMK.out W h) (HL.out W h) hz hzl h2)
    have HME := Lib.hid (show masksE v.rows mk l = if maskB l v.rows = false then 1 else if l.any mk.contains = true then 6 else 0 by unfold masksE; rw [hl]; simp [hl0])
    obtain ⟨mb, hmb⟩ : ∃ b, b = maskB l v.rows := ⟨_, rfl⟩
    obtain ⟨an, han⟩ : ∃ b, b = l.any mk.contains := ⟨_, rfl⟩
    rw [← hmb] at HMB HME
    rw [← han] at HCF HME
    clear hmb han hA hkl
    cases mb with
    | false =>
      rw [HME.out, if_pos rfl]
      clear HCF HCC HME
      ((try clear hF); (first | have hF := And.intro hS.facts (HRD.out _ (hS.sub (by first | simp | ((repeat (first | exact List.nil_sublist _ | exact List.Sublist.refl _ | with_reducible apply List.Sublist.cons₂ | apply List.Sublist.cons)))))) | have hF := And.intro hS.facts (hR.at hS.ext) | have hF := hS.facts); simp only [HFacts, cellFacts, RFacts, cellOnly, and_true, true_and, Nat.zero_add, Nat.reduceAdd] at hF)
      go_enter Tryz.func43, Tryz.ntmps43
      go_wp2_with (first | ((with_reducible first | refine nhLa ?_ | refine nhLs ?_ | refine nhLd ?_ | refine nhCa ?_ | refine nhCs ?_ | refine nhCd ?_ | refine nhPa ?_ | refine nhPs ?_ | refine nhPd ?_ | refine nhKa ?_ | refine nhKs ?_ | refine nhKd ?_); ((try clear hF); clear hS; intro wk hS; (try simp only [List.set_cons_zero, List.set_cons_succ, heap_size, heap_set_size] at hS); ((try clear hF); (first | have hF := And.intro hS.facts (HRD.out _ (hS.sub (by first | simp | ((repeat (first | exact List.nil_sublist _ | exact List.Sublist.refl _ | with_reducible apply List.Sublist.cons₂ | apply List.Sublist.cons)))))) | have hF := And.intro hS.facts (hR.at hS.ext) | have hF := hS.facts); simp only [HFacts, cellFacts, RFacts, cellOnly, and_true, true_and, Nat.zero_add, Nat.reduceAdd] at hF))) | (go_at_call 33; (with_reducible refine (HMB.out _ (hS.sub (by first | simp | ((repeat (first | exact List.nil_sublist _ | exact List.Sublist.refl _ | with_reducible apply List.Sublist.cons₂ | apply List.Sublist.cons)))))).mono ?_); rintro e wk ⟨rfl, hX⟩; replace hS := hS.step hX; clear hX; ((try clear hF); (first | have hF := And.intro hS.facts (HRD.out _ (hS.sub (by first | simp | ((repeat (first | exact List.nil_sublist _ | exact List.Sublist.refl _ | with_reducible apply List.Sublist.cons₂ | apply List.Sublist.cons)))))) | have hF := And.intro hS.facts (hR.at hS.ext) | have hF := hS.facts); simp only [HFacts, cellFacts, RFacts, cellOnly, and_true, true_and, Nat.zero_add, Nat.reduceAdd] at hF)))
      go_ret
      exact ⟨rfl, hS.tail⟩
    | true => cases an with
      | true =>
        rw [HME.out, if_neg (by decide), if_pos rfl]
        clear HCC HME
        ((try clear hF); (first | have hF := And.intro hS.facts (HRD.out _ (hS.sub (by first | simp | ((repeat (first | exact List.nil_sublist _ | exact List.Sublist.refl _ | with_reducible apply List.Sublist.cons₂ | apply List.Sublist.cons)))))) | have hF := And.intro hS.facts (hR.at hS.ext) | have hF := hS.facts); simp only [HFacts, cellFacts, RFacts, cellOnly, and_true, true_and, Nat.zero_add, Nat.reduceAdd] at hF)
        go_enter Tryz.func43, Tryz.ntmps43
        go_wp2_with (first | ((with_reducible first | refine nhLa ?_ | refine nhLs ?_ | refine nhLd ?_ | refine nhCa ?_ | refine nhCs ?_ | refine nhCd ?_ | refine nhPa ?_ | refine nhPs ?_ | refine nhPd ?_ | refine nhKa ?_ | refine nhKs ?_ | refine nhKd ?_); ((try clear hF); clear hS; intro wk hS; (try simp only [List.set_cons_zero, List.set_cons_succ, heap_size, heap_set_size] at hS); ((try clear hF); (first | have hF := And.intro hS.facts (HRD.out _ (hS.sub (by first | simp | ((repeat (first | exact List.nil_sublist _ | exact List.Sublist.refl _ | with_reducible apply List.Sublist.cons₂ | apply List.Sublist.cons)))))) | have hF := And.intro hS.facts (hR.at hS.ext) | have hF := hS.facts); simp only [HFacts, cellFacts, RFacts, cellOnly, and_true, true_and, Nat.zero_add, Nat.reduceAdd] at hF))) | (go_at_call 33; (with_reducible refine (HMB.out _ (hS.sub (by first | simp | ((repeat (first | exact List.nil_sublist _ | exact List.Sublist.refl _ | with_reducible apply List.Sublist.cons₂ | apply List.Sublist.cons)))))).mono ?_); rintro e wk ⟨rfl, hX⟩; replace hS := hS.step hX; clear hX; ((try clear hF); (first | have hF := And.intro hS.facts (HRD.out _ (hS.sub (by first | simp | ((repeat (first | exact List.nil_sublist _ | exact List.Sublist.refl _ | with_reducible apply List.Sublist.cons₂ | apply List.Sublist.cons)))))) | have hF := And.intro hS.facts (hR.at hS.ext) | have hF := hS.facts); simp only [HFacts, cellFacts, RFacts, cellOnly, and_true, true_and, Nat.zero_add, Nat.reduceAdd] at hF)) | (go_at_call 64; (with_reducible refine (HCF.out _ _ (hS.sub (by first | simp | ((repeat (first | exact List.nil_sublist _ | exact List.Sublist.refl _ | with_reducible apply List.Sublist.cons₂ | apply List.Sublist.cons))))) hF.1.2.2.1).mono ?_); rintro e wk ⟨rfl, hX⟩; replace hS := hS.step hX; clear hX; ((try clear hF); (first | have hF := And.intro hS.facts (HRD.out _ (hS.sub (by first | simp | ((repeat (first | exact List.nil_sublist _ | exact List.Sublist.refl _ | with_reducible apply List.Sublist.cons₂ | apply List.Sublist.cons)))))) | have hF := And.intro hS.facts (hR.at hS.ext) | have hF := hS.facts); simp only [HFacts, cellFacts, RFacts, cellOnly, and_true, true_and, Nat.zero_add, Nat.reduceAdd] at hF)))
        go_ret
        exact ⟨rfl, hS.tail⟩
      | false =>
        rw [HME.out, if_neg (by decide), if_neg (by decide)]
        clear HME
        ((try clear hF); (first | have hF := And.intro hS.facts (HRD.out _ (hS.sub (by first | simp | ((repeat (first | exact List.nil_sublist _ | exact List.Sublist.refl _ | with_reducible apply List.Sublist.cons₂ | apply List.Sublist.cons)))))) | have hF := And.intro hS.facts (hR.at hS.ext) | have hF := hS.facts); simp only [HFacts, cellFacts, RFacts, cellOnly, and_true, true_and, Nat.zero_add, Nat.reduceAdd] at hF)
        go_enter Tryz.func43, Tryz.ntmps43
        go_wp2_with (first | ((with_reducible first | refine nhLa ?_ | refine nhLs ?_ | refine nhLd ?_ | refine nhCa ?_ | refine nhCs ?_ | refine nhCd ?_ | refine nhPa ?_ | refine nhPs ?_ | refine nhPd ?_ | refine nhKa ?_ | refine nhKs ?_ | refine nhKd ?_); ((try clear hF); clear hS; intro wk hS; (try simp only [List.set_cons_zero, List.set_cons_succ, heap_size, heap_set_size] at hS); ((try clear hF); (first | have hF := And.intro hS.facts (HRD.out _ (hS.sub (by first | simp | ((repeat (first | exact List.nil_sublist _ | exact List.Sublist.refl _ | with_reducible apply List.Sublist.cons₂ | apply List.Sublist.cons)))))) | have hF := And.intro hS.facts (hR.at hS.ext) | have hF := hS.facts); simp only [HFacts, cellFacts, RFacts, cellOnly, and_true, true_and, Nat.zero_add, Nat.reduceAdd] at hF))) | (go_at_call 33; (with_reducible refine (HMB.out _ (hS.sub (by first | simp | ((repeat (first | exact List.nil_sublist _ | exact List.Sublist.refl _ | with_reducible apply List.Sublist.cons₂ | apply List.Sublist.cons)))))).mono ?_); rintro e wk ⟨rfl, hX⟩; replace hS := hS.step hX; clear hX; ((try clear hF); (first | have hF := And.intro hS.facts (HRD.out _ (hS.sub (by first | simp | ((repeat (first | exact List.nil_sublist _ | exact List.Sublist.refl _ | with_reducible apply List.Sublist.cons₂ | apply List.Sublist.cons)))))) | have hF := And.intro hS.facts (hR.at hS.ext) | have hF := hS.facts); simp only [HFacts, cellFacts, RFacts, cellOnly, and_true, true_and, Nat.zero_add, Nat.reduceAdd] at hF)) | (go_at_call 64; (with_reducible refine (HCF.out _ _ (hS.sub (by first | simp | ((repeat (first | exact List.nil_sublist _ | exact List.Sublist.refl _ | with_reducible apply List.Sublist.cons₂ | apply List.Sublist.cons))))) hF.1.2.2.1).mono ?_); rintro e wk ⟨rfl, hX⟩; replace hS := hS.step hX; clear hX; ((try clear hF); (first | have hF := And.intro hS.facts (HRD.out _ (hS.sub (by first | simp | ((repeat (first | exact List.nil_sublist _ | exact List.Sublist.refl _ | with_reducible apply List.Sublist.cons₂ | apply List.Sublist.cons)))))) | have hF := And.intro hS.facts (hR.at hS.ext) | have hF := hS.facts); simp only [HFacts, cellFacts, RFacts, cellOnly, and_true, true_and, Nat.zero_add, Nat.reduceAdd] at hF)) | (go_at_call 67; (with_reducible refine Calls.mono (HCC.out _ _ _ (hS.sub (by first | simp | ((repeat (first | exact List.nil_sublist _ | exact List.Sublist.refl _ | with_reducible apply List.Sublist.cons₂ | apply List.Sublist.cons))))) (hS.blkAt 0 rfl)) ?_); rintro e wk ⟨Am, cm, rfl, hW⟩; replace hS := hS.join hW; clear hW; simp only [List.cons_append, List.nil_append] at hS; ((try clear hF); (first | have hF := And.intro hS.facts (HRD.out _ (hS.sub (by first | simp | ((repeat (first | exact List.nil_sublist _ | exact List.Sublist.refl _ | with_reducible apply List.Sublist.cons₂ | apply List.Sublist.cons)))))) | have hF := And.intro hS.facts (hR.at hS.ext) | have hF := hS.facts); simp only [HFacts, cellFacts, RFacts, cellOnly, and_true, true_and, Nat.zero_add, Nat.reduceAdd] at hF)) | (go_at_call 68; (with_reducible refine Calls.mono (isort_any (mk ++ l) (by rw [List.length_append, hmn, hl]) (by omega) hS) ?_); clear hS; rintro e wk ⟨rfl, hS⟩; ((try clear hF); (first | have hF := And.intro hS.facts (HRD.out _ (hS.sub (by first | simp | ((repeat (first | exact List.nil_sublist _ | exact List.Sublist.refl _ | with_reducible apply List.Sublist.cons₂ | apply List.Sublist.cons)))))) | have hF := And.intro hS.facts (hR.at hS.ext) | have hF := hS.facts); simp only [HFacts, cellFacts, RFacts, cellOnly, and_true, true_and, Nat.zero_add, Nat.reduceAdd] at hF)))
        ((with_reducible refine wp_region_tail_hp (id := 8) [.q, .q, .q, .q, .q, .q, .q, .t] (by kernel_rfl) rfl (by kernel_rfl) hS ?_); (repeat ((with_reducible refine Walk.here ?_); (first | ((with_reducible apply Walk.skipQ); (first | rfl | exact wanted_false rfl rfl rfl (by assumption)); (try simp only [Mark.isQ, if_true, Bool.false_eq_true, if_false, Act.put, List.setIfInBounds_toArray, List.set_cons_zero, List.set_cons_succ])) | ((with_reducible apply Walk.skipP); (first | rfl | exact wanted_false rfl rfl rfl (by assumption)); (try simp only [Mark.isQ, if_true, Bool.false_eq_true, if_false, Act.put, List.setIfInBounds_toArray, List.set_cons_zero, List.set_cons_succ])) | ((with_reducible apply Walk.val); (first | rfl | exact wanted_true rfl rfl rfl (by assumption)); (rintro w hS; ((try clear hF); (first | have hF := And.intro hS.facts (HRD.out _ (hS.sub (by first | simp | ((repeat (first | exact List.nil_sublist _ | exact List.Sublist.refl _ | with_reducible apply List.Sublist.cons₂ | apply List.Sublist.cons)))))) | have hF := And.intro hS.facts (hR.at hS.ext) | have hF := hS.facts); simp only [HFacts, cellFacts, RFacts, cellOnly, and_true, true_and, Nat.zero_add, Nat.reduceAdd] at hF); go_simp; with_reducible rfl); (try simp only [Mark.isQ, if_true, Bool.false_eq_true, if_false, Act.put, List.setIfInBounds_toArray, List.set_cons_zero, List.set_cons_succ])) | ((with_reducible apply Walk.pure); (first | rfl | exact wanted_true rfl rfl rfl (by assumption)); (intro w; go_simp; with_reducible rfl); (try simp only [Mark.isQ, if_true, Bool.false_eq_true, if_false, Act.put, List.setIfInBounds_toArray, List.set_cons_zero, List.set_cons_succ])) | ((with_reducible apply Walk.blk); (focus (intro w; go_simp; try with_reducible rfl)); (try simp only [Mark.isQ, if_true, Bool.false_eq_true, if_false, Act.put, List.setIfInBounds_toArray, List.set_cons_zero, List.set_cons_succ])) | ((with_reducible apply Walk.tail); (try simp only [Mark.isQ, if_true, Bool.false_eq_true, if_false, Act.put, List.setIfInBounds_toArray, List.set_cons_zero, List.set_cons_succ])) | ((with_reducible apply Walk.guardT); rfl; rfl; rfl; (all_goals intro hg)) | ((with_reducible apply Walk.guardF); rfl; rfl; rfl; (all_goals intro hg))))); refine Walk.done ?_; (try clear hF); clear hS; intro bs wk hS QN hQN; simp only [itemsOf, blksOf, List.map_cons, List.map_nil, List.cons_append, List.nil_append, Nat.reduceAdd, Nat.zero_add] at hS; simp only [tailsOf, putB, Act.put, List.setIfInBounds_toArray, List.set_cons_zero, List.set_cons_succ, Nat.reduceAdd, Nat.zero_add]; ((try clear hF); (first | have hF := And.intro hS.facts (HRD.out _ (hS.sub (by first | simp | ((repeat (first | exact List.nil_sublist _ | exact List.Sublist.refl _ | with_reducible apply List.Sublist.cons₂ | apply List.Sublist.cons)))))) | have hF := And.intro hS.facts (hR.at hS.ext) | have hF := hS.facts); simp only [HFacts, cellFacts, RFacts, cellOnly, and_true, true_and, Nat.zero_add, Nat.reduceAdd] at hF))
        obtain ⟨z0, z1, z2⟩ := cellsE_at evs k v hk
        obtain ⟨ga, hga, d0, f0⟩ := hS.rowCell 4 rfl z0
        obtain rfl : gf = ga := by simpa using hga
        obtain ⟨gb, hgb, d1, f1⟩ := hS.rowCell 4 rfl z1
        obtain rfl : gf = gb := by simpa using hgb
        obtain ⟨gc, hgc, d2, f2⟩ := hS.rowCell 4 rfl z2
        obtain rfl : gf = gc := by simpa using hgc
        clear hga hgb hgc z0 z1 z2
        go_wp2_with fail
        go_ret
        have hS2 := (((hS.front 4 rfl).putRow (k * 3) (.string v.path)).putRow (k * 3 + 1) (.int .i64 v.rows)).putRow (k * 3 + 2) (.slice Am (v.mn + nl) cm)
        have hset := cellsE_set evs k ⟨v.path, v.rows, Am, v.mn + nl, cm⟩ (by omega)
        simp only at hset
        rw [hset] at hS2
        simp only [List.eraseIdx_cons_zero, List.eraseIdx_cons_succ] at hS2
        have hS3 := (hS2.sub (M := .row 43 3 (some ⟨gf, 0, none⟩) nf cf (cellsE (evs.set k ⟨v.path, v.rows, Am, v.mn + nl, cm⟩)) :: .row 3 1 Am (v.mn + nl) cm (intsV (sortI (mk ++ l))) :: .blk gs [.int .i64 ver, .slice Ac nc cc, .int .i64 nx, .slice (some ⟨gf, 0, none⟩) nf cf] 27 :: K) (by first | simp | ((repeat (first | exact List.nil_sublist _ | exact List.Sublist.refl _ | with_reducible apply List.Sublist.cons₂ | apply List.Sublist.cons))))).front 2 rfl
        simp only [List.eraseIdx_cons_zero, List.eraseIdx_cons_succ] at hS3
        refine ⟨rfl, ?_⟩
        first
          | exact ⟨Am, cm, fun h => by subst h; exact (hS.rowNil 0 rfl).2.1, hS3⟩
          | (rw [if_pos rfl]; exact ⟨Am, cm, fun h => by subst h; exact (hS.rowNil 0 rfl).2.1, hS3⟩)
end Go.Proofs.YtcpnnffnkegamaaGreatDoor

/- log.action. -/
namespace Go.Proofs.YtcpnnffnkegamaaGreatDoor
set_option linter.unusedSimpArgs false
set_option linter.unusedVariables false
open Go.RowKit
set_option linter.all false
/-- a file of a table; a table; an action -/
structure EN where
  path : ByteArray
  rows : Int
  mask : List Int
structure SN where
  ver : Int
  cols : List CG
  next : Int
  files : List EN
structure AN where
  kind : Int
  path : ByteArray
  rows : Int
  mask : List Int
  cols : List CG
  next : Int
def pathEq (p : ByteArray) (q : ByteArray) : Bool := q.toList == p.toList
def idxP (p : ByteArray) : Nat → List ByteArray → Int
  | _, [] => -1
  | k, x :: l => if pathEq p x then k else idxP p (k + 1) l
def actE (s : SN) (a : AN) : Int :=
  if a.kind = 4 then (if rightC a.cols a.next = false ∨ a.next < s.next then 1 else 0)
  else if a.kind = 1 then (if nameB a.path = false ∨ a.rows < 1 ∨ 60 < a.rows then 1 else if 0 ≤ idxP a.path 0 (s.files.map (·.path)) then 9 else if s.cols.length = 0 then 6 else if 40 ≤ s.files.length then 12 else 0)
  else if a.kind = 2 ∨ a.kind = 3 then (if idxP a.path 0 (s.files.map (·.path)) < 0 then 7 else if a.kind = 2 then 0 else match s.files[(idxP a.path 0 (s.files.map (·.path))).toNat]? with | some e => masksE e.rows e.mask a.mask | none => 1)
  else 1
def actS (s : SN) (a : AN) : SN :=
  if a.kind = 4 then { s with cols := a.cols, next := a.next }
  else if a.kind = 1 then { s with files := s.files ++ [⟨a.path, a.rows, []⟩] }
  else if a.kind = 2 then { s with files := s.files.eraseIdx (idxP a.path 0 (s.files.map (·.path))).toNat }
  else match s.files[(idxP a.path 0 (s.files.map (·.path))).toNat]? with
    | some e => { s with files := s.files.set (idxP a.path 0 (s.files.map (·.path))).toNat ⟨e.path, e.rows, sortI (e.mask ++ a.mask)⟩ }
    | none => s
/-- a file in memory reads so, as long as the things of K stand -/
structure EvOk (B : Nat) (w0 : World) (K : List Item) (v : EV) (e : EN) : Prop where
  path : v.path = e.path
  rows : v.rows = e.rows
  len : e.mask.length = v.mn
  nil : v.ma = none → v.mc = 0
  mask : ∀ W, Hp B w0 W K → RI W v.ma e.mask
structure FsOk (B : Nat) (w0 : World) (K : List Item) (evs : List EV) (ens : List EN) : Prop where
  len : evs.length = ens.length
  one : ∀ (i : Nat) (v : EV) (e : EN), evs[i]? = some v → ens[i]? = some e → EvOk B w0 K v e
theorem EvOk.more {B : Nat} {w0 : World} {K K' : List Item} {v : EV} {e : EN} (h : EvOk B w0 K v e) (hK : ∀ W, Hp B w0 W K' → Hp B w0 W K) : EvOk B w0 K' v e := ⟨h.path, h.rows, h.len, h.nil, fun W hW => h.mask W (hK W hW)⟩
theorem FsOk.more {B : Nat} {w0 : World} {K K' : List Item} {evs : List EV} {ens : List EN} (h : FsOk B w0 K evs ens) (hK : ∀ W, Hp B w0 W K' → Hp B w0 W K) : FsOk B w0 K' evs ens := ⟨h.len, fun i v e h1 h2 => (h.one i v e h1 h2).more hK⟩
theorem FsOk.paths {B : Nat} {w0 : World} {K : List Item} {evs : List EV} {ens : List EN} (h : FsOk B w0 K evs ens) : evs.map (·.path) = ens.map (·.path) := by
  refine List.ext_getElem (by simp [h.len]) fun i h1 h2 => ?_
  simp only [List.getElem_map]
  exact (h.one i _ _ (List.getElem?_eq_getElem (by simpa using h1)) (List.getElem?_eq_getElem (by simpa using h2))).path
theorem idxE_P (p : ByteArray) : ∀ (l : List EV) (k : Nat), idxE (fun v => pathEq p v.path) k l = idxP p k (l.map (·.path))
  | [], k => rfl
  | x :: l, k => by
    rw [List.map_cons, idxE, idxP, idxE_P p l (k + 1)]
theorem FsOk.set {B : Nat} {w0 : World} {K : List Item} {evs : List EV} {ens : List EN} (h : FsOk B w0 K evs ens) (k : Nat) {v : EV} {e : EN} (hv : EvOk B w0 K v e) : FsOk B w0 K (evs.set k v) (ens.set k e) :=
  ⟨by rw [List.length_set, List.length_set, h.len], fun i a b h1 h2 => by
    rw [List.getElem?_set] at h1 h2
    by_cases hk : k = i
    · rw [if_pos hk] at h1 h2
      split at h1
      · split at h2
        · obtain rfl := Option.some.inj h1
          obtain rfl := Option.some.inj h2
          exact hv
        · cases h2
      · cases h1
    · rw [if_neg hk] at h1 h2
      exact h.one i a b h1 h2⟩
theorem FsOk.erase {B : Nat} {w0 : World} {K : List Item} {evs : List EV} {ens : List EN} (h : FsOk B w0 K evs ens) (k : Nat) : FsOk B w0 K (evs.eraseIdx k) (ens.eraseIdx k) :=
  ⟨by rw [List.length_eraseIdx, List.length_eraseIdx, h.len], fun i a b h1 h2 => by
    rw [List.getElem?_eraseIdx] at h1 h2
    split at h1
    · exact h.one i a b h1 (by rw [if_pos (by assumption)] at h2; exact h2)
    · exact h.one _ a b h1 (by rw [if_neg (by assumption)] at h2; exact h2)⟩
theorem FsOk.push {B : Nat} {w0 : World} {K : List Item} {evs : List EV} {ens : List EN} (h : FsOk B w0 K evs ens) {v : EV} {e : EN} (hv : EvOk B w0 K v e) : FsOk B w0 K (evs ++ [v]) (ens ++ [e]) :=
  ⟨by rw [List.length_append, List.length_append, h.len]; rfl, fun i a b h1 h2 => by
    by_cases hi : i < evs.length
    · rw [List.getElem?_append_left hi] at h1
      rw [List.getElem?_append_left (by rw [← h.len]; exact hi)] at h2
      exact h.one i a b h1 h2
    · rw [List.getElem?_append_right (by omega)] at h1
      rw [List.getElem?_append_right (by rw [← h.len]; omega)] at h2
      have hlt := (List.getElem?_eq_some_iff.1 h1).1
      obtain hz : i - evs.length = 0 := by simpa using hlt
      rw [hz] at h1
      rw [← h.len, hz] at h2
      obtain rfl : v = a := by simpa using h1
      obtain rfl : e = b := by simpa using h2
      exact hv⟩
set_option maxRecDepth 100000 in
theorem eg_laction1 : ∀ args w, (callFunc 40 args).run Tryz.prog w = .ok (.enter 40 args) w := fun _ _ => by kernel_rfl
set_option maxRecDepth 100000 in
set_option maxHeartbeats 8000000 in
theorem laction1_any (p : ByteArray) (v : EV) (g : Nat) (w : World) (h : w.cell? ⟨g, 1, none⟩ = some (.string p)) :
    Calls Tryz.prog 40 #[.agg #[.string v.path, .int .i64 v.rows, .slice v.ma v.mn v.mc], .pointer (some ⟨g, 0, none⟩)] w fun e w' => e = .returned (.bool (pathEq p v.path)) ∧ Ext w w' := by
  have hS := Hp.init w
  have hR := Reads.cell h (Reads.nil w)
  clear h
  unfold pathEq
  ((try clear hF); (first | have hF := And.intro hS.facts (HRD.out _ (hS.sub (by first | simp | ((repeat (first | exact List.nil_sublist _ | exact List.Sublist.refl _ | with_reducible apply List.Sublist.cons₂ | apply List.Sublist.cons)))))) | have hF := And.intro hS.facts (hR.at hS.ext) | have hF := hS.facts); simp only [HFacts, cellFacts, RFacts, cellOnly, and_true, true_and, Nat.zero_add, Nat.reduceAdd] at hF)
  go_enter Tryz.func40, Tryz.ntmps40
  go_wp2_with (first | ((with_reducible first | refine nhLa ?_ | refine nhLs ?_ | refine nhLd ?_ | refine nhCa ?_ | refine nhCs ?_ | refine nhCd ?_ | refine nhPa ?_ | refine nhPs ?_ | refine nhPd ?_ | refine nhKa ?_ | refine nhKs ?_ | refine nhKd ?_); ((try clear hF); clear hS; intro wk hS; (try simp only [List.set_cons_zero, List.set_cons_succ, heap_size, heap_set_size] at hS); ((try clear hF); (first | have hF := And.intro hS.facts (HRD.out _ (hS.sub (by first | simp | ((repeat (first | exact List.nil_sublist _ | exact List.Sublist.refl _ | with_reducible apply List.Sublist.cons₂ | apply List.Sublist.cons)))))) | have hF := And.intro hS.facts (hR.at hS.ext) | have hF := hS.facts); simp only [HFacts, cellFacts, RFacts, cellOnly, and_true, true_and, Nat.zero_add, Nat.reduceAdd] at hF))) | fail)
  go_ret
  exact ⟨rfl, hS.ext⟩
end Go.Proofs.YtcpnnffnkegamaaGreatDoor

/- log.action: what it does, kind by kind. -/
namespace Go.Proofs.YtcpnnffnkegamaaGreatDoor
set_option linter.unusedSimpArgs false
set_option linter.unusedVariables false
open Go.RowKit
set_option linter.all false
/-- what action leaves -/
def ActRes (B : Nat) (w0 w' : World) (gs : Nat) (K J : List Item) (s : SN) (a : AN) : Prop :=
  if actE s a = 0 then ∃ (Ac : Option Addr) (nc cc : Nat) (Af : Option Addr) (nf cf : Nat) (evs : List EV) (M : List Item), Hp B w0 w' (snB gs (actS s a).ver Ac nc cc (actS s a).next Af nf cf :: eRow Af nf cf evs :: (M ++ K)) ∧ FsOk B w0 (M ++ J) evs (actS s a).files ∧
    (actS s a).cols.length = nc ∧ nc ≤ cc ∧ evs.length = nf ∧ (Af = none → cf = 0) ∧ (∀ W, Hp B w0 W (M ++ J) → RC W Ac (actS s a).cols)
  else Hp B w0 w' K
theorem ActRes.bad {B : Nat} {w0 w' : World} {gs : Nat} {K J : List Item} {s : SN} {a : AN} {n : Int} (h : actE s a = n) (hn : n ≠ 0) (hS : Hp B w0 w' K) : ActRes B w0 w' gs K J s a := by
  unfold ActRes
  rw [if_neg (by rw [h]; exact hn)]
  exact hS
theorem ActRes.good {B : Nat} {w0 w' : World} {gs : Nat} {K J : List Item} {s : SN} {a : AN} (h : actE s a = 0) (hh : ∃ (Ac : Option Addr) (nc cc : Nat) (Af : Option Addr) (nf cf : Nat) (evs : List EV) (M : List Item), Hp B w0 w' (snB gs (actS s a).ver Ac nc cc (actS s a).next Af nf cf :: eRow Af nf cf evs :: (M ++ K)) ∧ FsOk B w0 (M ++ J) evs (actS s a).files ∧
    (actS s a).cols.length = nc ∧ nc ≤ cc ∧ evs.length = nf ∧ (Af = none → cf = 0) ∧ (∀ W, Hp B w0 W (M ++ J) → RC W Ac (actS s a).cols)) : ActRes B w0 w' gs K J s a := by
  unfold ActRes
  rw [if_pos h]
  exact hh
abbrev actV (a : AN) (Aq : Option Addr) (nq cq : Nat) (Ar : Option Addr) (nr cr : Nat) : Value := .agg #[.int .i64 a.kind, .string a.path, .int .i64 a.rows, .slice Aq nq cq, .slice Ar nr cr, .int .i64 a.next]
section
variable {B : Nat} {w0 w : World} {K J : List Item}
theorem lpath_any (p : ByteArray) (w : World) : Calls Tryz.prog 31 #[.string p] w fun e w' => e = .returned (.bool (nameB p)) ∧ Ext w w' := by
  have HN := Lib.hid (fun W => name_any p W)
  obtain ⟨b, hb⟩ : ∃ b, b = nameB p := ⟨_, rfl⟩
  rw [← hb] at HN ⊢
  clear hb
  have hS := Hp.init w
  have hR := Reads.nil w
  go_enter Tryz.func31, Tryz.ntmps31
  go_wp2_with (first | ((with_reducible first | refine nhLa ?_ | refine nhLs ?_ | refine nhLd ?_ | refine nhCa ?_ | refine nhCs ?_ | refine nhCd ?_ | refine nhPa ?_ | refine nhPs ?_ | refine nhPd ?_ | refine nhKa ?_ | refine nhKs ?_ | refine nhKd ?_); ((try clear hF); clear hS; intro wk hS; (try simp only [List.set_cons_zero, List.set_cons_succ, heap_size, heap_set_size] at hS); ((try clear hF); (first | have hF := And.intro hS.facts (HRD.out _ (hS.sub (by first | simp | ((repeat (first | exact List.nil_sublist _ | exact List.Sublist.refl _ | with_reducible apply List.Sublist.cons₂ | apply List.Sublist.cons)))))) | have hF := And.intro hS.facts (hR.at hS.ext) | have hF := hS.facts); simp only [HFacts, cellFacts, RFacts, cellOnly, and_true, true_and, Nat.zero_add, Nat.reduceAdd] at hF))) | (go_at_call 21; (with_reducible refine (HN.out _).mono ?_); rintro e wk ⟨rfl, hX⟩; replace hS := hS.step hX; clear hX; ((try clear hF); (first | have hF := And.intro hS.facts (HRD.out _ (hS.sub (by first | simp | ((repeat (first | exact List.nil_sublist _ | exact List.Sublist.refl _ | with_reducible apply List.Sublist.cons₂ | apply List.Sublist.cons)))))) | have hF := And.intro hS.facts (hR.at hS.ext) | have hF := hS.facts); simp only [HFacts, cellFacts, RFacts, cellOnly, and_true, true_and, Nat.zero_add, Nat.reduceAdd] at hF)))
  go_ret
  exact ⟨rfl, hS.ext⟩
theorem aindex_any (s : SN) (a : AN) {Af : Option Addr} {nf cf : Nat} {evs : List EV} (hnf : evs.length = nf) (hnf2 : nf ≤ 1000) (hF : FsOk B w0 K evs s.files) (g : Nat) {w : World} (hr : RE w Af evs) (h : w.cell? ⟨g, 1, none⟩ = some (.string a.path)) :
    Calls Tryz.prog 39 #[.slice Af nf cf, .func (.func 40) #[] #[.pointer (some ⟨g, 0, none⟩)]] w fun e w' => e = .returned (.int .i64 (idxP a.path 0 (s.files.map (·.path)))) ∧ Ext w w' := by
  have := eindexFunc_any evs Af nf cf 40 #[.pointer (some ⟨g, 0, none⟩)] (fun v => pathEq a.path v.path) w hnf hr (by omega) eg_laction1 (fun W hx v => laction1_any a.path v g W (hx.keeps h))
  rw [idxE_P, hF.paths] at this
  exact this
set_option maxRecDepth 100000 in
set_option maxHeartbeats 8000000 in
/-- of another kind -/
theorem act_other (s : SN) (a : AN) (gs : Nat) (Ac Af Aq Ar : Option Addr) (nc cc nf cf nq cq nr cr : Nat) (evs : List EV) (hnf : evs.length = nf) (hnf2 : nf ≤ 1000) (HFS : Hid (FsOk B w0 J evs s.files))
    (h4 : a.kind ≠ 4) (h1 : a.kind ≠ 1) (h2 : a.kind ≠ 2) (h3 : a.kind ≠ 3)
    (hS : Hp B w0 w (snB gs s.ver Ac nc cc s.next Af nf cf :: eRow Af nf cf evs :: K)) :
    Calls Tryz.prog 23 #[.pointer (some ⟨gs, 0, none⟩), actV a Aq nq cq Ar nr cr] w fun e w' => e = .returned (.int .i64 (actE s a)) ∧ ActRes B w0 w' gs K J s a := by
  unfold snB eRow at hS
  have HIX := Lib.hid (fun (W : World) (g : Nat) (hr : RE W Af evs) h => aindex_any (cf := cf) s a hnf hnf2 HFS.out g hr h)
  have e0 : actE s a = 1 := by unfold actE; rw [if_neg h4, if_neg h1, if_neg (by omega)]
  have HE := Lib.hid e0
  rw [e0]
  have b1 : (a.kind == 1) = false := by simp [h1]
  have b2 : (a.kind == 2) = false := by simp [h2]
  have b3 : (a.kind == 3) = false := by simp [h3]
  have b4 : (a.kind == 4) = false := by simp [h4]
  clear h1 h2 h3 h4 e0
  ((try clear hF); (first | have hF := And.intro hS.facts (HRD.out _ (hS.sub (by first | simp | ((repeat (first | exact List.nil_sublist _ | exact List.Sublist.refl _ | with_reducible apply List.Sublist.cons₂ | apply List.Sublist.cons)))))) | have hF := And.intro hS.facts (hR.at hS.ext) | have hF := hS.facts); simp only [HFacts, cellFacts, RFacts, cellOnly, and_true, true_and, Nat.zero_add, Nat.reduceAdd] at hF)
  go_enter Tryz.func23, Tryz.ntmps23
  go_wp2_with (first | ((with_reducible first | refine nhLa ?_ | refine nhLs ?_ | refine nhLd ?_ | refine nhCa ?_ | refine nhCs ?_ | refine nhCd ?_ | refine nhPa ?_ | refine nhPs ?_ | refine nhPd ?_ | refine nhKa ?_ | refine nhKs ?_ | refine nhKd ?_); ((try clear hF); clear hS; intro wk hS; (try simp only [List.set_cons_zero, List.set_cons_succ, heap_size, heap_set_size] at hS); ((try clear hF); (first | have hF := And.intro hS.facts (HRD.out _ (hS.sub (by first | simp | ((repeat (first | exact List.nil_sublist _ | exact List.Sublist.refl _ | with_reducible apply List.Sublist.cons₂ | apply List.Sublist.cons)))))) | have hF := And.intro hS.facts (hR.at hS.ext) | have hF := hS.facts); simp only [HFacts, cellFacts, RFacts, cellOnly, and_true, true_and, Nat.zero_add, Nat.reduceAdd] at hF))) | (go_at_call 39; (with_reducible refine (HIX.out _ _ (hS.re 2 rfl) hF.1.2.1.1).mono ?_); rintro e wk ⟨rfl, hX⟩; replace hS := hS.step hX; clear hX; ((try clear hF); (first | have hF := And.intro hS.facts (HRD.out _ (hS.sub (by first | simp | ((repeat (first | exact List.nil_sublist _ | exact List.Sublist.refl _ | with_reducible apply List.Sublist.cons₂ | apply List.Sublist.cons)))))) | have hF := And.intro hS.facts (hR.at hS.ext) | have hF := hS.facts); simp only [HFacts, cellFacts, RFacts, cellOnly, and_true, true_and, Nat.zero_add, Nat.reduceAdd] at hF)))
  go_ret
  exact ⟨rfl, ActRes.bad HE.out (by decide) (hS.sub (by first | simp | ((try simp only [List.eraseIdx_cons_zero, List.eraseIdx_cons_succ]); (repeat (first | exact List.nil_sublist _ | exact List.Sublist.refl _ | with_reducible apply List.Sublist.cons₂ | apply List.Sublist.cons)))))⟩
end
end Go.Proofs.YtcpnnffnkegamaaGreatDoor

/- log.action: columns anew. -/
namespace Go.Proofs.YtcpnnffnkegamaaGreatDoor
set_option linter.unusedSimpArgs false
set_option linter.unusedVariables false
open Go.RowKit
set_option linter.all false
section
variable {B : Nat} {w0 w : World} {K J : List Item}
set_option maxRecDepth 100000 in
set_option maxHeartbeats 8000000 in
theorem act_schema (s : SN) (a : AN) (gs : Nat) (Ac Af Aq Ar : Option Addr) (nc cc nf cf nq cq nr cr : Nat) (evs : List EV) (hnf : evs.length = nf) (hnf2 : nf ≤ 1000) (HFS : Hid (FsOk B w0 J evs s.files)) (hAf : Af = none → cf = 0)
    (hr : a.cols.length = nr) (hr2 : nr ≤ 1000) (hr3 : nr ≤ cr) (HRC : Hid (∀ W, Hp B w0 W K → RC W Ar a.cols)) (HKP : Hid (∀ W, Hp B w0 W K → KeptAt W))
    (h4 : a.kind = 4) (hS : Hp B w0 w (snB gs s.ver Ac nc cc s.next Af nf cf :: eRow Af nf cf evs :: K)) :
    Calls Tryz.prog 23 #[.pointer (some ⟨gs, 0, none⟩), actV a Aq nq cq Ar nr cr] w fun e w' => e = .returned (.int .i64 (actE s a)) ∧ ActRes B w0 w' gs K J s a := by
  unfold snB eRow at hS
  have HIX := Lib.hid (fun (W : World) (g : Nat) (hr : RE W Af evs) h => aindex_any (cf := cf) s a hnf hnf2 HFS.out g hr h)
  have HSR := Lib.hid (fun (W : World) (h : Hp B w0 W K) => show Calls Tryz.prog 10 #[.slice Ar nr cr, .int .i64 a.next] W (fun e w' => e = .returned (.bool (rightC a.cols a.next)) ∧ Ext W w') from by
    have := sright_any a.cols Ar cr a.next W (HRC.out W h) (by omega) (by omega) (HKP.out W h)
    rw [hr] at this
    exact this)
  have HE := Lib.hid (show actE s a = if rightC a.cols a.next = false ∨ a.next < s.next then 1 else 0 by unfold actE; rw [if_pos h4])
  have HS4 := Lib.hid (show actS s a = { s with cols := a.cols, next := a.next } by unfold actS; rw [if_pos h4])
  obtain ⟨ix, hix⟩ : ∃ x, x = idxP a.path 0 (s.files.map (·.path)) := ⟨_, rfl⟩
  rw [← hix] at HIX
  obtain ⟨rb, hrb⟩ : ∃ b, b = rightC a.cols a.next := ⟨_, rfl⟩
  have HRB := Lib.hid hrb
  rw [← hrb] at HSR HE
  clear hix hrb
  have b4 : (a.kind == 4) = true := by simp [h4]
  cases rb with
  | false =>
    have HE1 := Lib.hid (show actE s a = 1 by rw [HE.out, if_pos (.inl rfl)])
    rw [HE1.out]
    clear HE
    ((try clear hF); (first | have hF := And.intro hS.facts (HRD.out _ (hS.sub (by first | simp | ((repeat (first | exact List.nil_sublist _ | exact List.Sublist.refl _ | with_reducible apply List.Sublist.cons₂ | apply List.Sublist.cons)))))) | have hF := And.intro hS.facts (hR.at hS.ext) | have hF := hS.facts); simp only [HFacts, cellFacts, RFacts, cellOnly, and_true, true_and, Nat.zero_add, Nat.reduceAdd] at hF)
    go_enter Tryz.func23, Tryz.ntmps23
    go_wp2_with (first | ((with_reducible first | refine nhLa ?_ | refine nhLs ?_ | refine nhLd ?_ | refine nhCa ?_ | refine nhCs ?_ | refine nhCd ?_ | refine nhPa ?_ | refine nhPs ?_ | refine nhPd ?_ | refine nhKa ?_ | refine nhKs ?_ | refine nhKd ?_); ((try clear hF); clear hS; intro wk hS; (try simp only [List.set_cons_zero, List.set_cons_succ, heap_size, heap_set_size] at hS); ((try clear hF); (first | have hF := And.intro hS.facts (HRD.out _ (hS.sub (by first | simp | ((repeat (first | exact List.nil_sublist _ | exact List.Sublist.refl _ | with_reducible apply List.Sublist.cons₂ | apply List.Sublist.cons)))))) | have hF := And.intro hS.facts (hR.at hS.ext) | have hF := hS.facts); simp only [HFacts, cellFacts, RFacts, cellOnly, and_true, true_and, Nat.zero_add, Nat.reduceAdd] at hF))) | (go_at_call 39; (with_reducible refine (HIX.out _ _ (hS.re 2 rfl) hF.1.2.1.1).mono ?_); rintro e wk ⟨rfl, hX⟩; replace hS := hS.step hX; clear hX; ((try clear hF); (first | have hF := And.intro hS.facts (HRD.out _ (hS.sub (by first | simp | ((repeat (first | exact List.nil_sublist _ | exact List.Sublist.refl _ | with_reducible apply List.Sublist.cons₂ | apply List.Sublist.cons)))))) | have hF := And.intro hS.facts (hR.at hS.ext) | have hF := hS.facts); simp only [HFacts, cellFacts, RFacts, cellOnly, and_true, true_and, Nat.zero_add, Nat.reduceAdd] at hF)) | (first | (with_reducible refine wp_region_hp (draw := true) (by kernel_rfl) (by kernel_rfl) hS ?_) | ((with_reducible refine Fixed.here ?_); (first | ((with_reducible apply Fixed.skip); (first | rfl | exact wanted_false rfl rfl rfl (by assumption)); try simp only [Act.put, List.setIfInBounds_toArray, List.set_cons_zero, List.set_cons_succ]) | ((with_reducible apply Fixed.val); (first | rfl | exact wanted_true rfl rfl rfl (by assumption)); (rintro w hS; ((try clear hF); (first | have hF := And.intro hS.facts (HRD.out _ (hS.sub (by first | simp | ((repeat (first | exact List.nil_sublist _ | exact List.Sublist.refl _ | with_reducible apply List.Sublist.cons₂ | apply List.Sublist.cons)))))) | have hF := And.intro hS.facts (hR.at hS.ext) | have hF := hS.facts); simp only [HFacts, cellFacts, RFacts, cellOnly, and_true, true_and, Nat.zero_add, Nat.reduceAdd] at hF); go_simp; with_reducible rfl); try simp only [Act.put, List.setIfInBounds_toArray, List.set_cons_zero, List.set_cons_succ]) | ((with_reducible apply Fixed.call); (first | rfl | exact wanted_true rfl rfl rfl (by assumption)); (rintro w hS; ((try clear hF); (first | have hF := And.intro hS.facts (HRD.out _ (hS.sub (by first | simp | ((repeat (first | exact List.nil_sublist _ | exact List.Sublist.refl _ | with_reducible apply List.Sublist.cons₂ | apply List.Sublist.cons)))))) | have hF := And.intro hS.facts (hR.at hS.ext) | have hF := hS.facts); simp only [HFacts, cellFacts, RFacts, cellOnly, and_true, true_and, Nat.zero_add, Nat.reduceAdd] at hF); go_simp; exact ⟨rfl, rfl⟩); (rintro w hS; first | (with_reducible exact HSR.out w (hS.sub (by first | simp | ((try simp only [List.eraseIdx_cons_zero, List.eraseIdx_cons_succ]); (repeat (first | exact List.nil_sublist _ | exact List.Sublist.refl _ | with_reducible apply List.Sublist.cons₂ | apply List.Sublist.cons))))))); try simp only [Act.put, List.setIfInBounds_toArray, List.set_cons_zero, List.set_cons_succ]) | ((with_reducible apply Fixed.guardT); rfl; rfl; rfl; (all_goals intro hg)) | ((with_reducible apply Fixed.guardF); rfl; rfl; rfl; (all_goals intro hg)) | (with_reducible refine Fixed.done ?_; (try clear hF); clear hS; intro wk hS; ((try clear hF); (first | have hF := And.intro hS.facts (HRD.out _ (hS.sub (by first | simp | ((repeat (first | exact List.nil_sublist _ | exact List.Sublist.refl _ | with_reducible apply List.Sublist.cons₂ | apply List.Sublist.cons)))))) | have hF := And.intro hS.facts (hR.at hS.ext) | have hF := hS.facts); simp only [HFacts, cellFacts, RFacts, cellOnly, and_true, true_and, Nat.zero_add, Nat.reduceAdd] at hF))))))
    go_ret
    exact ⟨rfl, ActRes.bad HE1.out (by decide) (hS.sub (by first | simp | ((try simp only [List.eraseIdx_cons_zero, List.eraseIdx_cons_succ]); (repeat (first | exact List.nil_sublist _ | exact List.Sublist.refl _ | with_reducible apply List.Sublist.cons₂ | apply List.Sublist.cons)))))⟩
  | true =>
    by_cases hnx : a.next < s.next
    · have HE1 := Lib.hid (show actE s a = 1 by rw [HE.out, if_pos (.inr hnx)])
      rw [HE1.out]
      clear HE
      ((try clear hF); (first | have hF := And.intro hS.facts (HRD.out _ (hS.sub (by first | simp | ((repeat (first | exact List.nil_sublist _ | exact List.Sublist.refl _ | with_reducible apply List.Sublist.cons₂ | apply List.Sublist.cons)))))) | have hF := And.intro hS.facts (hR.at hS.ext) | have hF := hS.facts); simp only [HFacts, cellFacts, RFacts, cellOnly, and_true, true_and, Nat.zero_add, Nat.reduceAdd] at hF)
      go_enter Tryz.func23, Tryz.ntmps23
      go_wp2_with (first | ((with_reducible first | refine nhLa ?_ | refine nhLs ?_ | refine nhLd ?_ | refine nhCa ?_ | refine nhCs ?_ | refine nhCd ?_ | refine nhPa ?_ | refine nhPs ?_ | refine nhPd ?_ | refine nhKa ?_ | refine nhKs ?_ | refine nhKd ?_); ((try clear hF); clear hS; intro wk hS; (try simp only [List.set_cons_zero, List.set_cons_succ, heap_size, heap_set_size] at hS); ((try clear hF); (first | have hF := And.intro hS.facts (HRD.out _ (hS.sub (by first | simp | ((repeat (first | exact List.nil_sublist _ | exact List.Sublist.refl _ | with_reducible apply List.Sublist.cons₂ | apply List.Sublist.cons)))))) | have hF := And.intro hS.facts (hR.at hS.ext) | have hF := hS.facts); simp only [HFacts, cellFacts, RFacts, cellOnly, and_true, true_and, Nat.zero_add, Nat.reduceAdd] at hF))) | (go_at_call 39; (with_reducible refine (HIX.out _ _ (hS.re 2 rfl) hF.1.2.1.1).mono ?_); rintro e wk ⟨rfl, hX⟩; replace hS := hS.step hX; clear hX; ((try clear hF); (first | have hF := And.intro hS.facts (HRD.out _ (hS.sub (by first | simp | ((repeat (first | exact List.nil_sublist _ | exact List.Sublist.refl _ | with_reducible apply List.Sublist.cons₂ | apply List.Sublist.cons)))))) | have hF := And.intro hS.facts (hR.at hS.ext) | have hF := hS.facts); simp only [HFacts, cellFacts, RFacts, cellOnly, and_true, true_and, Nat.zero_add, Nat.reduceAdd] at hF)) | (first | (with_reducible refine wp_region_hp (draw := true) (by kernel_rfl) (by kernel_rfl) hS ?_) | ((with_reducible refine Fixed.here ?_); (first | ((with_reducible apply Fixed.skip); (first | rfl | exact wanted_false rfl rfl rfl (by assumption)); try simp only [Act.put, List.setIfInBounds_toArray, List.set_cons_zero, List.set_cons_succ]) | ((with_reducible apply Fixed.val); (first | rfl | exact wanted_true rfl rfl rfl (by assumption)); (rintro w hS; ((try clear hF); (first | have hF := And.intro hS.facts (HRD.out _ (hS.sub (by first | simp | ((repeat (first | exact List.nil_sublist _ | exact List.Sublist.refl _ | with_reducible apply List.Sublist.cons₂ | apply List.Sublist.cons)))))) | have hF := And.intro hS.facts (hR.at hS.ext) | have hF := hS.facts); simp only [HFacts, cellFacts, RFacts, cellOnly, and_true, true_and, Nat.zero_add, Nat.reduceAdd] at hF); go_simp; with_reducible rfl); try simp only [Act.put, List.setIfInBounds_toArray, List.set_cons_zero, List.set_cons_succ]) | ((with_reducible apply Fixed.call); (first | rfl | exact wanted_true rfl rfl rfl (by assumption)); (rintro w hS; ((try clear hF); (first | have hF := And.intro hS.facts (HRD.out _ (hS.sub (by first | simp | ((repeat (first | exact List.nil_sublist _ | exact List.Sublist.refl _ | with_reducible apply List.Sublist.cons₂ | apply List.Sublist.cons)))))) | have hF := And.intro hS.facts (hR.at hS.ext) | have hF := hS.facts); simp only [HFacts, cellFacts, RFacts, cellOnly, and_true, true_and, Nat.zero_add, Nat.reduceAdd] at hF); go_simp; exact ⟨rfl, rfl⟩); (rintro w hS; first | (with_reducible exact HSR.out w (hS.sub (by first | simp | ((try simp only [List.eraseIdx_cons_zero, List.eraseIdx_cons_succ]); (repeat (first | exact List.nil_sublist _ | exact List.Sublist.refl _ | with_reducible apply List.Sublist.cons₂ | apply List.Sublist.cons))))))); try simp only [Act.put, List.setIfInBounds_toArray, List.set_cons_zero, List.set_cons_succ]) | ((with_reducible apply Fixed.guardT); rfl; rfl; rfl; (all_goals intro hg)) | ((with_reducible apply Fixed.guardF); rfl; rfl; rfl; (all_goals intro hg)) | (with_reducible refine Fixed.done ?_; (try clear hF); clear hS; intro wk hS; ((try clear hF); (first | have hF := And.intro hS.facts (HRD.out _ (hS.sub (by first | simp | ((repeat (first | exact List.nil_sublist _ | exact List.Sublist.refl _ | with_reducible apply List.Sublist.cons₂ | apply List.Sublist.cons)))))) | have hF := And.intro hS.facts (hR.at hS.ext) | have hF := hS.facts); simp only [HFacts, cellFacts, RFacts, cellOnly, and_true, true_and, Nat.zero_add, Nat.reduceAdd] at hF))))))
      go_ret
      exact ⟨rfl, ActRes.bad HE1.out (by decide) (hS.sub (by first | simp | ((try simp only [List.eraseIdx_cons_zero, List.eraseIdx_cons_succ]); (repeat (first | exact List.nil_sublist _ | exact List.Sublist.refl _ | with_reducible apply List.Sublist.cons₂ | apply List.Sublist.cons)))))⟩
    · have HE1 := Lib.hid (show actE s a = 0 by rw [HE.out, if_neg (by simp; omega)])
      rw [HE1.out]
      clear HE
      have hr1 : 1 ≤ nr := by
        have := HRB.out
        unfold rightC at this
        simp only [Bool.true_eq, Bool.and_eq_true, decide_eq_true_eq] at this
        omega
      have HCL := Lib.hid (fun (W : World) (L : List Item) (hW : Hp B w0 W L) (h : Hp B w0 W K) => show Calls Tryz.prog 41 #[.slice Ar nr cr] W (fun e w' => ∃ A' cap', e = .returned (.slice A' nr cap') ∧ nr ≤ cap' ∧ Hp B w0 w' (.row 61 7 A' nr cap' (cellsC a.cols) :: L)) from by
        obtain ⟨b, o, hA, _⟩ := HRC.out W h 0 (a.cols[0]'(by omega)) (List.getElem?_eq_getElem _)
        have hc := HRC.out W h
        rw [hA] at hc ⊢
        have := clone_any a.cols b o cr W hc (by omega)
        rw [hr] at this
        refine this.mono fun e w' ⟨A', cap', e1, e2⟩ => ⟨A', cap', e1, ?_, ?_⟩
        · unfold cRow at e2
          have := (e2.rowLen 0 rfl).2
          omega
        · unfold cRow at e2
          rw [hr] at e2
          exact hW.join e2)
      ((try clear hF); (first | have hF := And.intro hS.facts (HRD.out _ (hS.sub (by first | simp | ((repeat (first | exact List.nil_sublist _ | exact List.Sublist.refl _ | with_reducible apply List.Sublist.cons₂ | apply List.Sublist.cons)))))) | have hF := And.intro hS.facts (hR.at hS.ext) | have hF := hS.facts); simp only [HFacts, cellFacts, RFacts, cellOnly, and_true, true_and, Nat.zero_add, Nat.reduceAdd] at hF)
      go_enter Tryz.func23, Tryz.ntmps23
      go_upto_region 6 with (first | ((with_reducible first | refine nhLa ?_ | refine nhLs ?_ | refine nhLd ?_ | refine nhCa ?_ | refine nhCs ?_ | refine nhCd ?_ | refine nhPa ?_ | refine nhPs ?_ | refine nhPd ?_ | refine nhKa ?_ | refine nhKs ?_ | refine nhKd ?_); ((try clear hF); clear hS; intro wk hS; (try simp only [List.set_cons_zero, List.set_cons_succ, heap_size, heap_set_size] at hS); ((try clear hF); (first | have hF := And.intro hS.facts (HRD.out _ (hS.sub (by first | simp | ((repeat (first | exact List.nil_sublist _ | exact List.Sublist.refl _ | with_reducible apply List.Sublist.cons₂ | apply List.Sublist.cons)))))) | have hF := And.intro hS.facts (hR.at hS.ext) | have hF := hS.facts); simp only [HFacts, cellFacts, RFacts, cellOnly, and_true, true_and, Nat.zero_add, Nat.reduceAdd] at hF))) | (go_at_call 39; (with_reducible refine (HIX.out _ _ (hS.re 2 rfl) hF.1.2.1.1).mono ?_); rintro e wk ⟨rfl, hX⟩; replace hS := hS.step hX; clear hX; ((try clear hF); (first | have hF := And.intro hS.facts (HRD.out _ (hS.sub (by first | simp | ((repeat (first | exact List.nil_sublist _ | exact List.Sublist.refl _ | with_reducible apply List.Sublist.cons₂ | apply List.Sublist.cons)))))) | have hF := And.intro hS.facts (hR.at hS.ext) | have hF := hS.facts); simp only [HFacts, cellFacts, RFacts, cellOnly, and_true, true_and, Nat.zero_add, Nat.reduceAdd] at hF)) | (first | (with_reducible refine wp_region_hp (draw := true) (by kernel_rfl) (by kernel_rfl) hS ?_) | ((with_reducible refine Fixed.here ?_); (first | ((with_reducible apply Fixed.skip); (first | rfl | exact wanted_false rfl rfl rfl (by assumption)); try simp only [Act.put, List.setIfInBounds_toArray, List.set_cons_zero, List.set_cons_succ]) | ((with_reducible apply Fixed.val); (first | rfl | exact wanted_true rfl rfl rfl (by assumption)); (rintro w hS; ((try clear hF); (first | have hF := And.intro hS.facts (HRD.out _ (hS.sub (by first | simp | ((repeat (first | exact List.nil_sublist _ | exact List.Sublist.refl _ | with_reducible apply List.Sublist.cons₂ | apply List.Sublist.cons)))))) | have hF := And.intro hS.facts (hR.at hS.ext) | have hF := hS.facts); simp only [HFacts, cellFacts, RFacts, cellOnly, and_true, true_and, Nat.zero_add, Nat.reduceAdd] at hF); go_simp; with_reducible rfl); try simp only [Act.put, List.setIfInBounds_toArray, List.set_cons_zero, List.set_cons_succ]) | ((with_reducible apply Fixed.call); (first | rfl | exact wanted_true rfl rfl rfl (by assumption)); (rintro w hS; ((try clear hF); (first | have hF := And.intro hS.facts (HRD.out _ (hS.sub (by first | simp | ((repeat (first | exact List.nil_sublist _ | exact List.Sublist.refl _ | with_reducible apply List.Sublist.cons₂ | apply List.Sublist.cons)))))) | have hF := And.intro hS.facts (hR.at hS.ext) | have hF := hS.facts); simp only [HFacts, cellFacts, RFacts, cellOnly, and_true, true_and, Nat.zero_add, Nat.reduceAdd] at hF); go_simp; exact ⟨rfl, rfl⟩); (rintro w hS; first | (with_reducible exact HSR.out w (hS.sub (by first | simp | ((try simp only [List.eraseIdx_cons_zero, List.eraseIdx_cons_succ]); (repeat (first | exact List.nil_sublist _ | exact List.Sublist.refl _ | with_reducible apply List.Sublist.cons₂ | apply List.Sublist.cons))))))); try simp only [Act.put, List.setIfInBounds_toArray, List.set_cons_zero, List.set_cons_succ]) | ((with_reducible apply Fixed.guardT); rfl; rfl; rfl; (all_goals intro hg)) | ((with_reducible apply Fixed.guardF); rfl; rfl; rfl; (all_goals intro hg)) | (with_reducible refine Fixed.done ?_; (try clear hF); clear hS; intro wk hS; ((try clear hF); (first | have hF := And.intro hS.facts (HRD.out _ (hS.sub (by first | simp | ((repeat (first | exact List.nil_sublist _ | exact List.Sublist.refl _ | with_reducible apply List.Sublist.cons₂ | apply List.Sublist.cons)))))) | have hF := And.intro hS.facts (hR.at hS.ext) | have hF := hS.facts); simp only [HFacts, cellFacts, RFacts, cellOnly, and_true, true_and, Nat.zero_add, Nat.reduceAdd] at hF))))))
      have fin : ∀ (A' : Option Addr) (cap' : Nat) (W : World), nr ≤ cap' → Hp B w0 W (.blk gs [.int .i64 s.ver, .slice A' nr cap', .int .i64 a.next, .slice Af nf cf] 27 :: .row 43 3 Af nf cf (cellsE evs) :: .row 61 7 A' nr cap' (cellsC a.cols) :: K) → ActRes B w0 W gs K J s a := fun A' cap' W hcp hW => ActRes.good HE1.out (by
        rw [HS4.out]
        exact ⟨A', nr, cap', Af, nf, cf, evs, [.row 61 7 A' nr cap' (cellsC a.cols)], hW, HFS.out.more fun W' h => h.tail, hr, hcp, hnf, hAf, fun W' h => h.rc 0 rfl⟩)
      have FIN := Lib.hid fin
      clear fin
      have fin := FIN.out
      ((with_reducible refine wp_region_braidz_hp [.q, .q, .q, .q, .t, .q, .q, .t, .t, .t, .t, .t, .t] 13 [.blk w.heap.size [.int .i64 4, .string a.path, .int .i64 a.rows, .slice Aq nq cq, .slice Ar nr cr, .int .i64 a.next] 63] (by kernel_rfl) rfl (by kernel_rfl) hS (fun w h => h.sub (by simp)) ?_); clear hS; (repeat ((with_reducible refine Walk.here ?_); (first | ((with_reducible apply Walk.skipQ); (first | rfl | exact wanted_false rfl rfl rfl (by assumption)); (try simp only [Mark.isQ, if_true, Bool.false_eq_true, if_false, Act.put, List.setIfInBounds_toArray, List.set_cons_zero, List.set_cons_succ])) | ((with_reducible apply Walk.val); (first | rfl | exact wanted_true rfl rfl rfl (by assumption)); (rintro w hS; ((try clear hF); (first | have hF := And.intro hS.facts (HRD.out _ (hS.sub (by first | simp | ((repeat (first | exact List.nil_sublist _ | exact List.Sublist.refl _ | with_reducible apply List.Sublist.cons₂ | apply List.Sublist.cons)))))) | have hF := And.intro hS.facts (hR.at hS.ext) | have hF := hS.facts); simp only [HFacts, cellFacts, RFacts, cellOnly, and_true, true_and, Nat.zero_add, Nat.reduceAdd] at hF); go_simp; first | with_reducible rfl | (rw [if_neg (by first | omega | (simp only [ByteArray.size_append]; omega) | (simp [ByteArray.size_append]; omega))]; try with_reducible rfl)); (try simp only [Mark.isQ, if_true, Bool.false_eq_true, if_false, Act.put, List.setIfInBounds_toArray, List.set_cons_zero, List.set_cons_succ])) | ((with_reducible apply Walk.tail); (try simp only [Mark.isQ, if_true, Bool.false_eq_true, if_false, Act.put, List.setIfInBounds_toArray, List.set_cons_zero, List.set_cons_succ])) | ((with_reducible apply Walk.guardT); rfl; rfl; rfl; (all_goals intro hg)) | ((with_reducible apply Walk.guardF); rfl; rfl; rfl; (all_goals intro hg))))); refine Walk.done ?_; show BraidZ _ _ _ _ 13 7 [4, 7, 8, 9, 10, 11, 12] _ _)
      (refine BraidZ.next1 (i := 4) (by kernel_rfl) (by kernel_rfl) rfl ?_; (try simp only [List.getElem_toArray, List.getElem_cons_succ, List.getElem_cons_zero]))
      (refine ZStep.call (by (first | rfl | exact wanted_true rfl rfl rfl (by assumption))) (by rintro w hS; ((try clear hF); (first | have hF := And.intro hS.facts (HRD.out _ (hS.sub (by first | simp | ((repeat (first | exact List.nil_sublist _ | exact List.Sublist.refl _ | with_reducible apply List.Sublist.cons₂ | apply List.Sublist.cons)))))) | have hF := And.intro hS.facts (hR.at hS.ext) | have hF := hS.facts); simp only [HFacts, cellFacts, RFacts, cellOnly, and_true, true_and, Nat.zero_add, Nat.reduceAdd] at hF); go_simp; exact ⟨rfl, rfl⟩) ?_; (intro w hS); (with_reducible refine Calls.mono (HCL.out _ _ hS (hS.sub (by first | simp | ((try simp only [List.eraseIdx_cons_zero, List.eraseIdx_cons_succ]); (repeat (first | exact List.nil_sublist _ | exact List.Sublist.refl _ | with_reducible apply List.Sublist.cons₂ | apply List.Sublist.cons)))))) ?_); clear hS; rintro e wk ⟨A', cap', rfl, hcp, hS⟩; (try simp only [List.eraseIdx_cons_zero, List.eraseIdx_cons_succ, List.set_cons_zero, List.set_cons_succ] at hS); refine ⟨_, _, rfl, hS, (fun w h => h.sub (by simp)), ?_⟩; (clear hS); try simp only [Act.put, List.setIfInBounds_toArray, List.set_cons_zero, List.set_cons_succ])
      (refine BraidZ.next1 (i := 7) (by kernel_rfl) (by kernel_rfl) rfl ?_; (try simp only [List.getElem_toArray, List.getElem_cons_succ, List.getElem_cons_zero]))
      (refine ZStep.val (by (first | rfl | exact wanted_true rfl rfl rfl (by assumption))) (fun w h => h.sub (by first | simp | ((try simp only [List.eraseIdx_cons_zero, List.eraseIdx_cons_succ]); (repeat (first | exact List.nil_sublist _ | exact List.Sublist.refl _ | with_reducible apply List.Sublist.cons₂ | apply List.Sublist.cons))))) (by rintro w hS; ((try clear hF); (first | have hF := And.intro hS.facts (HRD.out _ (hS.sub (by first | simp | ((repeat (first | exact List.nil_sublist _ | exact List.Sublist.refl _ | with_reducible apply List.Sublist.cons₂ | apply List.Sublist.cons)))))) | have hF := And.intro hS.facts (hR.at hS.ext) | have hF := hS.facts); simp only [HFacts, cellFacts, RFacts, cellOnly, and_true, true_and, Nat.zero_add, Nat.reduceAdd] at hF); go_simp; with_reducible rfl) ?_; try simp only [Act.put, List.setIfInBounds_toArray, List.set_cons_zero, List.set_cons_succ])
      (refine BraidZ.next1 (i := 8) (by kernel_rfl) (by kernel_rfl) rfl ?_; (try simp only [List.getElem_toArray, List.getElem_cons_succ, List.getElem_cons_zero]))
      (refine ZStep.val (by (first | rfl | exact wanted_true rfl rfl rfl (by assumption))) (fun w h => h.sub (by first | simp | ((try simp only [List.eraseIdx_cons_zero, List.eraseIdx_cons_succ]); (repeat (first | exact List.nil_sublist _ | exact List.Sublist.refl _ | with_reducible apply List.Sublist.cons₂ | apply List.Sublist.cons))))) (by rintro w hS; ((try clear hF); (first | have hF := And.intro hS.facts (HRD.out _ (hS.sub (by first | simp | ((repeat (first | exact List.nil_sublist _ | exact List.Sublist.refl _ | with_reducible apply List.Sublist.cons₂ | apply List.Sublist.cons)))))) | have hF := And.intro hS.facts (hR.at hS.ext) | have hF := hS.facts); simp only [HFacts, cellFacts, RFacts, cellOnly, and_true, true_and, Nat.zero_add, Nat.reduceAdd] at hF); go_simp; with_reducible rfl) ?_; try simp only [Act.put, List.setIfInBounds_toArray, List.set_cons_zero, List.set_cons_succ])
      (refine BraidZ.next1 (i := 9) (by kernel_rfl) (by kernel_rfl) rfl ?_; (try simp only [List.getElem_toArray, List.getElem_cons_succ, List.getElem_cons_zero]))
      (refine ZStep.turnF (by (first | rfl | exact wanted_true rfl rfl rfl (by assumption))) (fun w hS => ⟨w.setCell ⟨gs, 1, none⟩ (.slice A' nr cap'), .inl (by ((try clear hF); (first | have hF := And.intro hS.facts (HRD.out _ (hS.sub (by first | simp | ((repeat (first | exact List.nil_sublist _ | exact List.Sublist.refl _ | with_reducible apply List.Sublist.cons₂ | apply List.Sublist.cons)))))) | have hF := And.intro hS.facts (hR.at hS.ext) | have hF := hS.facts); simp only [HFacts, cellFacts, RFacts, cellOnly, and_true, true_and, Nat.zero_add, Nat.reduceAdd] at hF); go_simp), hS.put (i := 2) rfl⟩) (fun w h => h.sub (by first | simp | ((try simp only [List.eraseIdx_cons_zero, List.eraseIdx_cons_succ]); (repeat (first | exact List.nil_sublist _ | exact List.Sublist.refl _ | with_reducible apply List.Sublist.cons₂ | apply List.Sublist.cons))))) ?_; (try simp only [List.set_cons_zero, List.set_cons_succ]); try simp only [Act.put, List.setIfInBounds_toArray, List.set_cons_zero, List.set_cons_succ])
      (refine BraidZ.next1 (i := 10) (by kernel_rfl) (by kernel_rfl) rfl ?_; (try simp only [List.getElem_toArray, List.getElem_cons_succ, List.getElem_cons_zero]))
      (refine ZStep.val (by (first | rfl | exact wanted_true rfl rfl rfl (by assumption))) (fun w h => h.sub (by first | simp | ((try simp only [List.eraseIdx_cons_zero, List.eraseIdx_cons_succ]); (repeat (first | exact List.nil_sublist _ | exact List.Sublist.refl _ | with_reducible apply List.Sublist.cons₂ | apply List.Sublist.cons))))) (by rintro w hS; ((try clear hF); (first | have hF := And.intro hS.facts (HRD.out _ (hS.sub (by first | simp | ((repeat (first | exact List.nil_sublist _ | exact List.Sublist.refl _ | with_reducible apply List.Sublist.cons₂ | apply List.Sublist.cons)))))) | have hF := And.intro hS.facts (hR.at hS.ext) | have hF := hS.facts); simp only [HFacts, cellFacts, RFacts, cellOnly, and_true, true_and, Nat.zero_add, Nat.reduceAdd] at hF); go_simp; with_reducible rfl) ?_; try simp only [Act.put, List.setIfInBounds_toArray, List.set_cons_zero, List.set_cons_succ])
      (refine BraidZ.next1 (i := 11) (by kernel_rfl) (by kernel_rfl) rfl ?_; (try simp only [List.getElem_toArray, List.getElem_cons_succ, List.getElem_cons_zero]))
      (refine ZStep.val (by (first | rfl | exact wanted_true rfl rfl rfl (by assumption))) (fun w h => h.sub (by first | simp | ((try simp only [List.eraseIdx_cons_zero, List.eraseIdx_cons_succ]); (repeat (first | exact List.nil_sublist _ | exact List.Sublist.refl _ | with_reducible apply List.Sublist.cons₂ | apply List.Sublist.cons))))) (by rintro w hS; ((try clear hF); (first | have hF := And.intro hS.facts (HRD.out _ (hS.sub (by first | simp | ((repeat (first | exact List.nil_sublist _ | exact List.Sublist.refl _ | with_reducible apply List.Sublist.cons₂ | apply List.Sublist.cons)))))) | have hF := And.intro hS.facts (hR.at hS.ext) | have hF := hS.facts); simp only [HFacts, cellFacts, RFacts, cellOnly, and_true, true_and, Nat.zero_add, Nat.reduceAdd] at hF); go_simp; with_reducible rfl) ?_; try simp only [Act.put, List.setIfInBounds_toArray, List.set_cons_zero, List.set_cons_succ])
      (refine BraidZ.next1 (i := 12) (by kernel_rfl) (by kernel_rfl) rfl ?_; (try simp only [List.getElem_toArray, List.getElem_cons_succ, List.getElem_cons_zero]))
      (refine ZStep.turnF (by (first | rfl | exact wanted_true rfl rfl rfl (by assumption))) (fun w hS => ⟨w.setCell ⟨gs, 2, none⟩ (.int .i64 a.next), .inl (by ((try clear hF); (first | have hF := And.intro hS.facts (HRD.out _ (hS.sub (by first | simp | ((repeat (first | exact List.nil_sublist _ | exact List.Sublist.refl _ | with_reducible apply List.Sublist.cons₂ | apply List.Sublist.cons)))))) | have hF := And.intro hS.facts (hR.at hS.ext) | have hF := hS.facts); simp only [HFacts, cellFacts, RFacts, cellOnly, and_true, true_and, Nat.zero_add, Nat.reduceAdd] at hF); go_simp), hS.put (i := 2) rfl⟩) (fun w h => h.sub (by first | simp | ((try simp only [List.eraseIdx_cons_zero, List.eraseIdx_cons_succ]); (repeat (first | exact List.nil_sublist _ | exact List.Sublist.refl _ | with_reducible apply List.Sublist.cons₂ | apply List.Sublist.cons))))) ?_; (try simp only [List.set_cons_zero, List.set_cons_succ]); try simp only [Act.put, List.setIfInBounds_toArray, List.set_cons_zero, List.set_cons_succ])
      (refine BraidZ.last (by kernel_rfl) ?_; (try clear hF); intro wk hS; ((try clear hF); (first | have hF := And.intro hS.facts (HRD.out _ (hS.sub (by first | simp | ((repeat (first | exact List.nil_sublist _ | exact List.Sublist.refl _ | with_reducible apply List.Sublist.cons₂ | apply List.Sublist.cons)))))) | have hF := And.intro hS.facts (hR.at hS.ext) | have hF := hS.facts); simp only [HFacts, cellFacts, RFacts, cellOnly, and_true, true_and, Nat.zero_add, Nat.reduceAdd] at hF))
      go_wp2_with fail
      go_ret
      exact ⟨rfl, fin _ _ _ hcp ((((hS.drop 1).front 0 rfl).front 2 rfl).front 2 rfl)⟩
end
end Go.Proofs.YtcpnnffnkegamaaGreatDoor

/- a table that stands: what an action leaves of it. -/
namespace Go.Proofs.YtcpnnffnkegamaaGreatDoor
set_option linter.unusedSimpArgs false
set_option linter.unusedVariables false
open Go.RowKit
set_option linter.all false
theorem maskFrom_iff (rows : Int) : ∀ (l : List Int) (lo : Int), maskFrom rows lo l = true ↔ l.Pairwise (· < ·) ∧ ∀ x ∈ l, 0 ≤ x ∧ x < rows ∧ lo < x
  | [], lo => by simp [maskFrom]
  | x :: l, lo => by
    rw [maskFrom, Bool.and_eq_true, maskFrom_iff rows l x]
    simp only [Bool.and_eq_true, decide_eq_true_eq, List.pairwise_cons, List.mem_cons]
    constructor
    · rintro ⟨⟨⟨h1, h2⟩, h3⟩, h4, h5⟩
      refine ⟨⟨fun y hy => (h5 y hy).2.2, h4⟩, ?_⟩
      rintro y (rfl | hy)
      · exact ⟨h1, h2, h3⟩
      · have := h5 y hy
        exact ⟨this.1, this.2.1, by omega⟩
    · rintro ⟨⟨h1, h2⟩, h3⟩
      have hx := h3 x (.inl rfl)
      exact ⟨⟨⟨hx.1, hx.2.1⟩, hx.2.2⟩, h2, fun y hy => ⟨(h3 y (.inr hy)).1, (h3 y (.inr hy)).2.1, h1 y hy⟩⟩
theorem maskB_iff (rows : Int) (l : List Int) : maskB l rows = true ↔ l.Pairwise (· < ·) ∧ ∀ x ∈ l, 0 ≤ x ∧ x < rows := by
  unfold maskB
  rw [maskFrom_iff]
  refine and_congr_right fun _ => forall_congr' fun x => forall_congr' fun _ => ?_
  constructor
  · rintro ⟨a, b, c⟩; exact ⟨a, b⟩
  · rintro ⟨a, b⟩; exact ⟨a, b, by omega⟩
theorem maskFrom_len (rows : Int) : ∀ (l : List Int) (lo : Int), lo < rows → maskFrom rows lo l = true → (l.length : Int) ≤ rows - 1 - lo
  | [], lo, h, _ => by simp; omega
  | x :: l, lo, h, h2 => by
    rw [maskFrom, Bool.and_eq_true] at h2
    simp only [Bool.and_eq_true, decide_eq_true_eq] at h2
    have := maskFrom_len rows l x (by omega) h2.2
    simp only [List.length_cons]
    omega
theorem maskB_len {rows : Int} {l : List Int} (h : maskB l rows = true) (hr : 0 ≤ rows) : (l.length : Int) ≤ rows := by
  have := maskFrom_len rows l (-1) (by omega) h
  omega
/-- masked more -/
theorem maskB_sort {rows : Int} {m l : List Int} (hm : maskB m rows = true) (hl : maskB l rows = true) (hd : l.any m.contains = false) : maskB (sortI (m ++ l)) rows = true := by
  rw [maskB_iff] at *
  have hp : (sortI (m ++ l)).Perm (m ++ l) := List.mergeSort_perm _ _
  have hle : (sortI (m ++ l)).Pairwise (fun a b => decide (a ≤ b) = true) := List.pairwise_mergeSort (fun a b c h1 h2 => by simp only [decide_eq_true_eq] at *; omega) (fun a b => by simp only [Bool.or_eq_true, decide_eq_true_eq]; omega) _
  have hn : (m ++ l).Pairwise (· ≠ ·) := by
    rw [List.pairwise_append]
    refine ⟨hm.1.imp fun h => by omega, hl.1.imp fun h => by omega, fun a ha b hb he => ?_⟩
    subst he
    rw [List.any_eq_false] at hd
    exact hd a hb (by simpa using ha)
  have hn2 : (sortI (m ++ l)).Pairwise (· ≠ ·) := hp.symm.pairwise hn (fun h => Ne.symm h)
  refine ⟨(hle.and hn2).imp fun h => by have := h.1; simp only [decide_eq_true_eq] at this; have := h.2; omega, fun x hx => ?_⟩
  rcases List.mem_append.1 (hp.mem_iff.1 hx) with h | h
  · exact hm.2 x h
  · exact hl.2 x h
/-- a table that may be -/
structure Good (s : SN) : Prop where
  files : ∀ e ∈ s.files, maskB e.mask e.rows = true ∧ 1 ≤ e.rows ∧ e.rows ≤ 60
  few : s.files.length ≤ 40
  once : (s.files.map (·.path)).Nodup
  cols : s.cols = [] ∨ rightC s.cols s.next = true
theorem Good.mask {s : SN} (h : Good s) {e : EN} (he : e ∈ s.files) : e.mask.length ≤ 60 := by
  have := maskB_len (h.files e he).1 (by have := (h.files e he).2.1; omega)
  have := (h.files e he).2.2
  omega
theorem idxP_none (p : ByteArray) : ∀ (l : List ByteArray) (k : Nat), ¬ 0 ≤ idxP p k l → p ∉ l
  | [], k, _ => by simp
  | x :: l, k, h => by
    rw [idxP] at h
    split at h
    · omega
    · rename_i hx
      simp only [List.mem_cons, not_or]
      refine ⟨fun he => hx (by rw [he]; unfold pathEq; simp), idxP_none p l (k + 1) h⟩
theorem Good.nil (v n : Int) : Good ⟨v, [], n, []⟩ := ⟨by simp, by simp, by simp, .inl rfl⟩
theorem Good.ver {s : SN} (h : Good s) (v : Int) : Good { s with ver := v } := ⟨h.files, h.few, h.once, h.cols⟩
theorem Good.act {s : SN} {a : AN} (h : Good s) (he : actE s a = 0) : Good (actS s a) := by
  unfold actE at he
  unfold actS
  by_cases h4 : a.kind = 4
  · rw [if_pos h4] at he ⊢
    refine ⟨h.files, h.few, h.once, .inr ?_⟩
    split at he
    · cases he
    · rename_i hb
      simp only [not_or] at hb
      simpa using hb.1
  rw [if_neg h4] at he ⊢
  by_cases h1 : a.kind = 1
  · rw [if_pos h1] at he ⊢
    split at he
    · cases he
    rename_i hb
    simp only [not_or] at hb
    split at he
    · cases he
    rename_i hi
    split at he
    · cases he
    split at he
    · cases he
    rename_i hc hf
    refine ⟨fun e hm => ?_, ?_, ?_, h.cols⟩
    · rcases List.mem_append.1 hm with hm | hm
      · exact h.files e hm
      · obtain rfl := List.mem_singleton.1 hm
        exact ⟨rfl, by show (1 : Int) ≤ a.rows; omega, by show a.rows ≤ 60; omega⟩
    · simp only [List.length_append, List.length_cons, List.length_nil]; omega
    · simp only [List.map_append, List.map_cons, List.map_nil]
      rw [List.nodup_append]
      exact ⟨h.once, by simp, fun x hx y hy hxy => idxP_none a.path _ 0 hi (by rw [List.mem_singleton.1 hy] at hxy; rw [← hxy]; exact hx)⟩
  rw [if_neg h1] at he ⊢
  split at he
  rotate_left
  · cases he
  rename_i h23
  split at he
  · cases he
  by_cases h2 : a.kind = 2
  · rw [if_pos h2]
    refine ⟨fun e hm => h.files e (List.mem_of_mem_eraseIdx hm), ?_, ?_, h.cols⟩
    · exact Nat.le_trans (List.length_eraseIdx_le _ _) h.few
    · exact h.once.sublist ((List.eraseIdx_sublist _ _).map _)
  · rw [if_neg h2] at he ⊢
    revert he
    cases hx : s.files[(idxP a.path 0 (s.files.map (·.path))).toNat]? with
    | none => intro he; cases he
    | some e =>
      intro he
      simp only at he ⊢
      have hem := h.files e (List.mem_of_getElem? hx)
      unfold masksE at he
      split at he
      · cases he
      rename_i hb
      simp only [not_or] at hb
      split at he
      · cases he
      rename_i hd
      refine ⟨fun e' hm => ?_, ?_, ?_, h.cols⟩
      · rcases List.mem_or_eq_of_mem_set hm with hm | rfl
        · exact h.files e' hm
        · exact ⟨maskB_sort hem.1 (by simpa using hb.2) (by simpa using hd), hem.2⟩
      · rw [List.length_set]; exact h.few
      · rw [List.map_set]
        have : (s.files.map (·.path)).set (idxP a.path 0 (s.files.map (·.path))).toNat e.path = s.files.map (·.path) := by
          refine List.ext_getElem? fun i => ?_
          rw [List.getElem?_set]
          split
          · rename_i hi
            subst hi
            rw [List.getElem?_map, hx]
            have := (List.getElem?_eq_some_iff.1 hx).1
            simp [this]
          · rfl
        rw [this]
        exact h.once
end Go.Proofs.YtcpnnffnkegamaaGreatDoor

/- millpondkeep.set: a table's files, by their names. -/
namespace Go.Proofs.YtcpnnffnkegamaaGreatDoor
set_option linter.unusedSimpArgs false
set_option linter.unusedVariables false
open Go.RowKit
set_option linter.all false
open Go.Maps (Keyed)
theorem Tryz.keyedStr : Keyed Tryz.prog 9 := Go.Maps.string_keyed Tryz.underlying9
theorem key_str {s : ByteArray} (h : s.size ≤ maxLen) : keyOf Tryz.prog 9 (.string s) = some (sk s) := Go.WideMaps.keyOf_string_mk Tryz.underlying9 h
/-- a map whose keys are those -/
structure KT (D : DataW Value) (ks : List ByteArray) : Prop where
  tidy : Maps.Tidy D
  nd : ks.Nodup
  mem : ∀ x, vhas D x = true ↔ x ∈ ks
  size : Maps.size D = ks.length
theorem KT.nil : KT (.map []) [] := ⟨⟨[], rfl, List.Pairwise.nil⟩, List.nodup_nil, fun x => by simp [vhas_none], rfl⟩
theorem KT.isMap {D : DataW Value} {ks : List ByteArray} (h : KT D ks) : Maps.IsMap D := by
  obtain ⟨es, he, _⟩ := h.tidy
  exact ⟨es, he⟩
theorem KT.put {D : DataW Value} {ks : List ByteArray} (h : KT D ks) (x : ByteArray) (v : Value) (hx : x ∉ ks) : KT (D.put (sk x) (.held v)) (ks ++ [x]) := by
  have hb : vhas D x = false := by
    cases hv : vhas D x with
    | false => rfl
    | true => exact absurd ((h.mem x).1 hv) hx
  refine ⟨h.tidy.put (k := sk x) trivial _, ?_, fun y => ?_, ?_⟩
  · rw [List.nodup_append]
    exact ⟨h.nd, by simp, fun a ha b hb2 e => hx (by rw [List.mem_singleton.1 hb2] at e; rw [← e]; exact ha)⟩
  · by_cases e : y = x
    · subst e
      rw [vhas_put_same h.isMap]
      simp
    · rw [vhas_put_other e, h.mem y]
      simp [e]
  · rw [Maps.size_put h.tidy, show Maps.has D (sk x) = false from hb, h.size]
    simp
/-- a file, as it lies in the map -/
abbrev evV (v : EV) : Value := .agg #[.string v.path, .int .i64 v.rows, .slice v.ma v.mn v.mc]
def setD (l : List EV) : DataW Value := l.foldl (fun D v => D.put (sk v.path) (.held (evV v))) (.map [])
theorem setD_snoc (l : List EV) (v : EV) : setD (l ++ [v]) = (setD l).put (sk v.path) (.held (evV v)) := by simp [setD, List.foldl_append]
theorem setD_take {l : List EV} {k : Nat} {v : EV} (h : l[k]? = some v) : setD (l.take (k + 1)) = (setD (l.take k)).put (sk v.path) (.held (evV v)) := by
  rw [← setD_snoc, List.take_add_one, h]
  rfl
theorem nodup_snoc {l : List ByteArray} {x : ByteArray} (h : (l ++ [x]).Nodup) : l.Nodup ∧ x ∉ l := by
  rw [List.nodup_append] at h
  exact ⟨h.1, fun hx => h.2.2 x hx x (by simp) rfl⟩
theorem setD_kt_rev : ∀ (r : List EV), (r.reverse.map (·.path)).Nodup → KT (setD r.reverse) (r.reverse.map (·.path))
  | [], _ => KT.nil
  | v :: r, h => by
    rw [List.reverse_cons, List.map_append] at h ⊢
    obtain ⟨h1, h2⟩ := nodup_snoc h
    rw [setD_snoc]
    exact (setD_kt_rev r h1).put v.path _ h2
theorem setD_kt {l : List EV} (h : (l.map (·.path)).Nodup) : KT (setD l) (l.map (·.path)) := by
  have := setD_kt_rev l.reverse (by rw [List.reverse_reverse]; exact h)
  rw [List.reverse_reverse] at this
  exact this
theorem setD_get_rev : ∀ (r : List EV), (r.reverse.map (·.path)).Nodup → ∀ v ∈ r, ∀ z, vget (setD r.reverse) v.path z = evV v
  | [], _, v, hv, z => by cases hv
  | u :: r, h, v, hv, z => by
    rw [List.reverse_cons, List.map_append] at h
    obtain ⟨h1, h2⟩ := nodup_snoc h
    rw [List.reverse_cons, setD_snoc]
    rcases List.mem_cons.1 hv with rfl | hv
    · exact vget_put_same (setD_kt_rev r h1).isMap _ _ _
    · rw [vget_put_other (fun e => h2 (by show u.path ∈ _; rw [← e]; exact List.mem_map.2 ⟨v, by simpa using hv, rfl⟩))]
      exact setD_get_rev r h1 v hv z
theorem setD_get {l : List EV} (h : (l.map (·.path)).Nodup) {v : EV} (hv : v ∈ l) (z : Value) : vget (setD l) v.path z = evV v := by
  have := setD_get_rev l.reverse (by rw [List.reverse_reverse]; exact h) v (by simpa using hv) z
  rw [List.reverse_reverse] at this
  exact this
set_option maxRecDepth 100000 in
set_option maxHeartbeats 8000000 in
theorem set_any {B : Nat} {w0 w : World} {K : List Item} (evs : List EV) (ver next : Int) (ca fa : Option Addr) (cn cc fn fc : Nat) (hl : evs.length = fn) (h1 : fn ≤ 1000) (hp : ∀ v ∈ evs, v.path.size ≤ maxLen)
    (HRE : Hid (∀ W, Hp B w0 W K → RE W fa evs)) (hS : Hp B w0 w K) :
    Calls Tryz.prog 7 #[.agg #[.int .i64 ver, .slice ca cn cc, .int .i64 next, .slice fa fn fc]] w fun e w' => ∃ g ob, e = .returned (.map (some g)) ∧ VFit Tryz.prog 9 fn (setD evs) ob ∧ Hp B w0 w' (.ob g ob :: K) := by
  have HL := Lib.hid hl
  have HP := Lib.hid hp
  clear hl hp
  have hF : True := trivial
  go_enter Tryz.func7, Tryz.ntmps7
  go_wp2_with (first | ((with_reducible first | refine nhLa ?_ | refine nhLs ?_ | refine nhLd ?_ | refine nhCa ?_ | refine nhCs ?_ | refine nhCd ?_ | refine nhPa ?_ | refine nhPs ?_ | refine nhPd ?_ | refine nhKa ?_ | refine nhKs ?_ | refine nhKd ?_); ((try clear hF); clear hS; intro wk hS; (try simp only [List.set_cons_zero, List.set_cons_succ, heap_size, heap_set_size] at hS); ((try clear hF); (first | have hF := And.intro hS.facts (HRD.out _ (hS.sub (by first | simp | ((repeat (first | exact List.nil_sublist _ | exact List.Sublist.refl _ | with_reducible apply List.Sublist.cons₂ | apply List.Sublist.cons)))))) | have hF := And.intro hS.facts (hR.at hS.ext) | have hF := hS.facts); simp only [HFacts, cellFacts, RFacts, cellOnly, and_true, true_and, Nat.zero_add, Nat.reduceAdd] at hF))) | (refine wpList_makeMap_v (k := 9) rfl rfl hS ?_; clear hS; intro gm wk ob hf hS; ((try clear hF); (first | have hF := And.intro hS.facts (HRD.out _ (hS.sub (by first | simp | ((repeat (first | exact List.nil_sublist _ | exact List.Sublist.refl _ | with_reducible apply List.Sublist.cons₂ | apply List.Sublist.cons)))))) | have hF := And.intro hS.facts (hR.at hS.ext) | have hF := hS.facts); simp only [HFacts, cellFacts, RFacts, cellOnly, and_true, true_and, Nat.zero_add, Nat.reduceAdd] at hF)))
  have HM0 := Lib.hid (show VFit Tryz.prog 9 0 (setD (evs.take 0)) ob from hf)
  clear hf
  go_loopw [10] (fun i wr => ∃ (k : Nat) (ob : Obj), i = .int .i64 k ∧ k ≤ fn ∧ Hid (VFit Tryz.prog 9 k (setD (evs.take k)) ob) ∧ Hp B w0 wr (.ob gm ob :: .blk w.heap.size [.int .i64 ver, .slice ca cn cc, .int .i64 next, .slice fa fn fc] 27 :: K)) (fun i _ => fn - (intOf i).toNat)
  case atStart => exact ⟨0, ob, rfl, Nat.zero_le _, HM0, hS⟩
  case round =>
    clear hS HM0
    obtain ⟨k, ob, rfl, hk, HM, hS⟩ := hrel
    by_cases hlt : k < fn
    · obtain ⟨v, hv⟩ : ∃ x, evs[k]? = some x := ⟨evs[k]'(by rw [HL.out]; exact hlt), List.getElem?_eq_getElem _⟩
      obtain ⟨b, o, hA, _⟩ := HRE.out _ hS.tail.tail k v hv
      have HRD := Lib.hid (fun (W : World) (h : Hp B w0 W K) => show W.cell? ⟨b, o + k * 3, none⟩ = some (.string v.path) ∧ W.cell? ⟨b, o + k * 3 + 1, none⟩ = some (.int .i64 v.rows) ∧ W.cell? ⟨b, o + k * 3 + 2, none⟩ = some (.slice v.ma v.mn v.mc) from by
          obtain ⟨b', o', hA', c⟩ := HRE.out _ h k v hv
          obtain ⟨rfl, rfl⟩ : b = b' ∧ o = o' := by rw [hA] at hA'; simpa using hA'
          exact c)
      subst hA
      have hkey := key_str (s := v.path) (HP.out v (List.mem_of_getElem? hv))
      have HST := Lib.hid (setD_take hv)
      have hM := HM.out
      clear hv HM
      ((try clear hF); (first | have hF := And.intro hS.facts (HRD.out _ (hS.sub (by first | simp | ((repeat (first | exact List.nil_sublist _ | exact List.Sublist.refl _ | with_reducible apply List.Sublist.cons₂ | apply List.Sublist.cons)))))) | have hF := And.intro hS.facts (hR.at hS.ext) | have hF := hS.facts); simp only [HFacts, cellFacts, RFacts, cellOnly, and_true, true_and, Nat.zero_add, Nat.reduceAdd] at hF)
      go_wp2_with (first | ((with_reducible first | refine nhLa ?_ | refine nhLs ?_ | refine nhLd ?_ | refine nhCa ?_ | refine nhCs ?_ | refine nhCd ?_ | refine nhPa ?_ | refine nhPs ?_ | refine nhPd ?_ | refine nhKa ?_ | refine nhKs ?_ | refine nhKd ?_); ((try clear hF); clear hS; intro wk hS; (try simp only [List.set_cons_zero, List.set_cons_succ, heap_size, heap_set_size] at hS); ((try clear hF); (first | have hF := And.intro hS.facts (HRD.out _ (hS.sub (by first | simp | ((repeat (first | exact List.nil_sublist _ | exact List.Sublist.refl _ | with_reducible apply List.Sublist.cons₂ | apply List.Sublist.cons)))))) | have hF := And.intro hS.facts (hR.at hS.ext) | have hF := hS.facts); simp only [HFacts, cellFacts, RFacts, cellOnly, and_true, true_and, Nat.zero_add, Nat.reduceAdd] at hF))) | (refine wpList_mapPut_v rfl _ _ _ (.inl rfl) Tryz.keyedStr Tryz.underlying29 1 hM hS rfl rfl (evV v) v.path rfl rfl hkey (by unfold maxLen; omega) ?_; clear hS; intro ob2 wk hf2 hS; (try simp only [List.eraseIdx_cons_zero, List.eraseIdx_cons_succ, List.set_cons_zero, List.set_cons_succ] at hS); ((try clear hF); (first | have hF := And.intro hS.facts (HRD.out _ (hS.sub (by first | simp | ((repeat (first | exact List.nil_sublist _ | exact List.Sublist.refl _ | with_reducible apply List.Sublist.cons₂ | apply List.Sublist.cons)))))) | have hF := And.intro hS.facts (hR.at hS.ext) | have hF := hS.facts); simp only [HFacts, cellFacts, RFacts, cellOnly, and_true, true_and, Nat.zero_add, Nat.reduceAdd] at hF)))
      go_roundw
      case rel => exact ⟨k + 1, ob2, by go_num, by omega, Lib.hid (by rw [HST.out]; exact hf2), hS.sub (by simp)⟩
      case measure => simp [intOf]; omega
    · obtain rfl : fn = k := by omega
      have hM := HM.out
      ((try clear hF); (first | have hF := And.intro hS.facts (HRD.out _ (hS.sub (by first | simp | ((repeat (first | exact List.nil_sublist _ | exact List.Sublist.refl _ | with_reducible apply List.Sublist.cons₂ | apply List.Sublist.cons)))))) | have hF := And.intro hS.facts (hR.at hS.ext) | have hF := hS.facts); simp only [HFacts, cellFacts, RFacts, cellOnly, and_true, true_and, Nat.zero_add, Nat.reduceAdd] at hF)
      go_wp2_with (first | ((with_reducible first | refine nhLa ?_ | refine nhLs ?_ | refine nhLd ?_ | refine nhCa ?_ | refine nhCs ?_ | refine nhCd ?_ | refine nhPa ?_ | refine nhPs ?_ | refine nhPd ?_ | refine nhKa ?_ | refine nhKs ?_ | refine nhKd ?_); ((try clear hF); clear hS; intro wk hS; (try simp only [List.set_cons_zero, List.set_cons_succ, heap_size, heap_set_size] at hS); ((try clear hF); (first | have hF := And.intro hS.facts (HRD.out _ (hS.sub (by first | simp | ((repeat (first | exact List.nil_sublist _ | exact List.Sublist.refl _ | with_reducible apply List.Sublist.cons₂ | apply List.Sublist.cons)))))) | have hF := And.intro hS.facts (hR.at hS.ext) | have hF := hS.facts); simp only [HFacts, cellFacts, RFacts, cellOnly, and_true, true_and, Nat.zero_add, Nat.reduceAdd] at hF))) | fail)
      go_ret
      exact ⟨gm, ob, rfl, by rw [List.take_of_length_le (by rw [HL.out]; exact Nat.le_refl _)] at hM; exact hM, hS.sub (by simp)⟩
end Go.Proofs.YtcpnnffnkegamaaGreatDoor
