/- Texts joined: ask.Print: a condition as text; ask.Cond of what is fixed. millpondkeep.AskBack: its parts. millpondkeep.AskBack: at all arguments. The tables that AskBack's row lists: what they tell of the world; a world that has them. -/
import Derived.Test.YtmfilblbofkmcaaDoorAX11
import Derived.Test.YtmfilblbofkmcaaDoorAX03
import Derived.Test.YtmfilblbofkmcaaDoorAX01
import Derived.Test.YtmfilblbofkmcaaDoorCards
import Derived.Test.YtmfilblbofkmcaaDoorTie
import Derived.LaidMore
import Derived.LaidHandle
import Derived.Lay
import Derived.OpenShut
import Derived.Stop.Joined
import Derived.SevenTiedAt
import Derived.Lib.LaidTab
import Derived.Stop.LaidErr
import Derived.LaidLaws
import Derived.HandedShaped
/- ask.Print: a condition as text; ask.Cond of what is fixed. -/
namespace Go.Proofs.YtmfilblbofkmcaaDoor
set_option linter.unusedSimpArgs false
set_option linter.unusedVariables false
open Go.RowKit
set_option linter.all false
theorem CondAt.ptr {w : World} {v : Value} {t : CT} (h : CondAt w v t) : ∃ p, v = .pointer p := by
  cases t with
  | nil => exact ⟨_, h⟩
  | node => obtain ⟨b, _, _, h, _⟩ := h; exact ⟨_, h⟩
theorem written_any : ∀ (t : CT) (v : Value) (w : World), okW t → CondAt w v t → WrC w v t
  | .nil, v, w, h, _ => h.elim
  | .node c col x l r, v, w, hw, hc => by
    obtain ⟨b, lv, rv, rfl, hb, hl, hr⟩ := hc
    intro least W hx h2 hlen
    have hlt : b < w.heap.size := by
      rcases Nat.lt_or_ge b w.heap.size with h | h
      · exact h
      · rw [Array.getElem?_eq_none h] at hb; cases hb
    have hbW := (hx.block b hlt).trans hb
    have C0 : W.cell? ⟨b, 0, none⟩ = some (.int .i64 c) := by simp [World.cell?, hbW]
    have C1 : W.cell? ⟨b, 1, none⟩ = some (.string col) := by simp [World.cell?, hbW]
    have C2 : W.cell? ⟨b, 2, none⟩ = some (.int .i64 x.kind) := by simp [World.cell?, hbW]
    have C3 : W.cell? ⟨b, 3, none⟩ = some (.int .i64 x.num) := by simp [World.cell?, hbW]
    have C4 : W.cell? ⟨b, 4, none⟩ = some (.string x.text) := by simp [World.cell?, hbW]
    obtain ⟨lp, rfl⟩ := hl.ptr
    obtain ⟨rp, rfl⟩ := hr.ptr
    have C5 : W.cell? ⟨b, 5, none⟩ = some (.pointer lp) := by simp [World.cell?, hbW]
    have C6 : W.cell? ⟨b, 6, none⟩ = some (.pointer rp) := by simp [World.cell?, hbW]
    have hl' := hl.ext hx
    have hr' := hr.ext hx
    unfold okW at hw
    by_cases h11 : c = 11
    · subst h11
      rw [if_pos rfl] at hw
      exact wr_not x col l r b lp W C0 C5 (written_any l _ W hw hl') least h2 hlen
    rw [if_neg h11] at hw
    by_cases h9 : c = 9
    · subst h9
      rw [if_pos (.inl rfl)] at hw
      exact wr_and x col l r b lp rp W C0 C5 C6 (written_any l _ W hw.1 hl') (written_any r _ W hw.2 hr') least h2 hlen
    by_cases h10 : c = 10
    · subst h10
      rw [if_pos (.inr rfl)] at hw
      exact wr_or x col l r b lp rp W C0 C5 C6 (written_any l _ W hw.1 hl') (written_any r _ W hw.2 hr') least h2 hlen
    rw [if_neg (by omega)] at hw
    obtain ⟨h1, h8, hi, ht⟩ := hw
    obtain rfl | rfl | rfl | rfl | rfl | rfl | rfl | rfl : c = 1 ∨ c = 2 ∨ c = 3 ∨ c = 4 ∨ c = 5 ∨ c = 6 ∨ c = 7 ∨ c = 8 := by omega
    · exact wr_op1 x col l r b W C0 C1 C2 C3 C4 hi ht least h2 hlen
    · exact wr_op2 x col l r b W C0 C1 C2 C3 C4 hi ht least h2 hlen
    · exact wr_op3 x col l r b W C0 C1 C2 C3 C4 hi ht least h2 hlen
    · exact wr_op4 x col l r b W C0 C1 C2 C3 C4 hi ht least h2 hlen
    · exact wr_op5 x col l r b W C0 C1 C2 C3 C4 hi ht least h2 hlen
    · exact wr_op6 x col l r b W C0 C1 C2 C3 C4 hi ht least h2 hlen
    · exact wr_null x col l r b W C0 C1 least h2 hlen
    · exact wr_notnull x col l r b W C0 C1 least h2 hlen
set_option maxRecDepth 100000 in
set_option maxHeartbeats 8000000 in
theorem aprint_any (t : CT) (v : Option Addr) (w : World) (ht : t = .nil ∨ okW t ∧ (writL t 0).length ≤ 4800) (hc : CondAt w (.pointer v) t) :
    Calls Tryd.prog 7 #[.pointer v] w fun e w' => e = .returned (.string ⟨(condW t).toArray⟩) ∧ Ext w w' := by
  have hS := Hp.init w
  have hR := Reads.nil w
  cases t with
  | nil =>
    have hv : v = none := by
      have : (Value.pointer v) = .pointer none := hc
      simpa using this
    subst hv
    go_enter Tryd.func7, Tryd.ntmps7
    go_wp2_with (first | ((with_reducible first | refine nhLa ?_ | refine nhLs ?_ | refine nhLd ?_ | refine nhCa ?_ | refine nhCs ?_ | refine nhCd ?_ | refine nhPa ?_ | refine nhPs ?_ | refine nhPd ?_ | refine nhKa ?_ | refine nhKs ?_ | refine nhKd ?_); ((try clear hF); clear hS; intro wk hS; (try simp only [List.set_cons_zero, List.set_cons_succ, heap_size, heap_set_size] at hS); ((try clear hF); (first | have hF := And.intro hS.facts (HRD.out _ (hS.sub (by first | simp | ((repeat (first | exact List.nil_sublist _ | exact List.Sublist.refl _ | with_reducible apply List.Sublist.cons₂ | apply List.Sublist.cons)))))) | have hF := And.intro hS.facts (hR.at hS.ext) | have hF := hS.facts); simp only [HFacts, cellFacts, RFacts, cellOnly, and_true, true_and, Nat.zero_add, Nat.reduceAdd] at hF))) | fail)
    go_ret
    exact ⟨rfl, hS.ext⟩
  | node c col x l r =>
    rcases ht with h | ⟨h1, h2⟩
    · cases h
    have HW := Lib.hid (fun (W : World) (hx : Ext w W) => show Calls Tryd.prog 15 #[.pointer v, .int .i64 0] W _ from written_any _ _ w h1 hc 0 W hx (by omega) (by omega))
    have hv : ∃ b, v = some ⟨b, 0, none⟩ := by
      obtain ⟨b, _, _, h, _⟩ := hc
      exact ⟨b, by simpa using h⟩
    obtain ⟨b, rfl⟩ := hv
    have e : condW (.node c col x l r) = writL (.node c col x l r) 0 := rfl
    rw [e]
    obtain ⟨S, hS'⟩ : ∃ S : ByteArray, S = ⟨(writL (.node c col x l r) 0).toArray⟩ := ⟨_, rfl⟩
    rw [← hS'] at HW ⊢
    clear hS' e hc h1 h2
    go_enter Tryd.func7, Tryd.ntmps7
    go_wp2_with (first | ((with_reducible first | refine nhLa ?_ | refine nhLs ?_ | refine nhLd ?_ | refine nhCa ?_ | refine nhCs ?_ | refine nhCd ?_ | refine nhPa ?_ | refine nhPs ?_ | refine nhPd ?_ | refine nhKa ?_ | refine nhKs ?_ | refine nhKd ?_); ((try clear hF); clear hS; intro wk hS; (try simp only [List.set_cons_zero, List.set_cons_succ, heap_size, heap_set_size] at hS); ((try clear hF); (first | have hF := And.intro hS.facts (HRD.out _ (hS.sub (by first | simp | ((repeat (first | exact List.nil_sublist _ | exact List.Sublist.refl _ | with_reducible apply List.Sublist.cons₂ | apply List.Sublist.cons)))))) | have hF := And.intro hS.facts (hR.at hS.ext) | have hF := hS.facts); simp only [HFacts, cellFacts, RFacts, cellOnly, and_true, true_and, Nat.zero_add, Nat.reduceAdd] at hF))) | (go_at_call 15; (with_reducible refine (HW.out _ hS.ext).mono ?_); rintro e wk ⟨rfl, hX⟩; replace hS := hS.step hX; clear hX; ((try clear hF); (first | have hF := And.intro hS.facts (HRD.out _ (hS.sub (by first | simp | ((repeat (first | exact List.nil_sublist _ | exact List.Sublist.refl _ | with_reducible apply List.Sublist.cons₂ | apply List.Sublist.cons)))))) | have hF := And.intro hS.facts (hR.at hS.ext) | have hF := hS.facts); simp only [HFacts, cellFacts, RFacts, cellOnly, and_true, true_and, Nat.zero_add, Nat.reduceAdd] at hF)))
    go_ret
    exact ⟨rfl, hS.ext⟩
def askedL : List UInt8 := [110, 111, 116, 40, 97, 61, 49, 32, 111, 114, 32, 98, 32, 105, 115, 32, 110, 111, 116, 32, 110, 117, 108, 108, 41, 97, 110, 100, 32, 99, 60, 62, 39, 120, 32, 121, 39]
def askedC : CT := opA 9 (opA 11 (opA 10 (.node 1 ⟨#[97]⟩ ⟨1, 1, ⟨#[]⟩⟩ .nil .nil) (.node 8 ⟨#[98]⟩ zV .nil .nil)) .nil) (.node 2 ⟨#[99]⟩ ⟨2, 0, ⟨#[120, 32, 121]⟩⟩ .nil .nil)
theorem asked_cond : condP askedL = some askedC := by kernel_rfl
theorem asked_text : condW askedC = [110, 111, 116, 32, 40, 97, 32, 61, 32, 49, 32, 111, 114, 32, 98, 32, 105, 115, 32, 110, 111, 116, 32, 110, 117, 108, 108, 41, 32, 97, 110, 100, 32, 99, 32, 60, 62, 32, 39, 120, 32, 121, 39] := by
  have h1 : itoaL 1 = [49] := by
    unfold itoaL
    rw [show (1 : Int).natAbs = 1 from rfl, revDig_last 1 (by decide)]
    rfl
  simp [askedC, condW, opA, writL, parL, opL, printL, h1]
end Go.Proofs.YtmfilblbofkmcaaDoor

/- millpondkeep.AskBack: its parts. -/
namespace Go.Proofs.YtmfilblbofkmcaaDoor
set_option linter.unusedSimpArgs false
set_option linter.unusedVariables false
open Go.RowKit
set_option linter.all false
/-- a column's value: of names below b the one, else the other -/
def pickA (a b : GV) (s : ByteArray) : GV := if Op.bytesLess s.toList [98] then a else b
theorem eg_get : ∀ (args : Array Value) (w : World), (callFunc 8 args).run Tryd.prog w = .ok (.enter 8 args) w := fun _ _ => by kernel_rfl
set_option maxRecDepth 100000 in
set_option maxHeartbeats 8000000 in
theorem get_any (a b : GV) (pa pb : Nat) (s : ByteArray) (w : World)
    (a0 : w.cell? ⟨pa, 0, none⟩ = some (.int .i64 a.kind)) (a1 : w.cell? ⟨pa, 1, none⟩ = some (.int .i64 a.num)) (a2 : w.cell? ⟨pa, 2, none⟩ = some (.string a.text))
    (b0 : w.cell? ⟨pb, 0, none⟩ = some (.int .i64 b.kind)) (b1 : w.cell? ⟨pb, 1, none⟩ = some (.int .i64 b.num)) (b2 : w.cell? ⟨pb, 2, none⟩ = some (.string b.text)) :
    Calls Tryd.prog 8 #[.string s, .pointer (some ⟨pa, 0, none⟩), .pointer (some ⟨pb, 0, none⟩)] w fun e w' => e = .returned (.agg #[.int .i64 (pickA a b s).kind, .int .i64 (pickA a b s).num, .string (pickA a b s).text]) ∧ Ext w w' := by
  have hS := Hp.init w
  have hR := Reads.cell a0 (Reads.cell a1 (Reads.cell a2 (Reads.cell b0 (Reads.cell b1 (Reads.cell b2 (Reads.nil w))))))
  clear a0 a1 a2 b0 b1 b2
  cases h : Op.bytesLess s.toList [98] with
  | true =>
    have fin : pickA a b s = a := by simp only [pickA, h, if_true]
    rw [fin]
    clear fin
    ((try clear hF); (first | have hF := And.intro hS.facts (HRD.out _ (hS.sub (by first | simp | ((repeat (first | exact List.nil_sublist _ | exact List.Sublist.refl _ | with_reducible apply List.Sublist.cons₂ | apply List.Sublist.cons)))))) | have hF := And.intro hS.facts (hR.at hS.ext) | have hF := hS.facts); simp only [HFacts, cellFacts, RFacts, cellOnly, and_true, true_and, Nat.zero_add, Nat.reduceAdd] at hF)
    go_enter Tryd.func8, Tryd.ntmps8
    go_wp2_with (first | ((with_reducible first | refine nhLa ?_ | refine nhLs ?_ | refine nhLd ?_ | refine nhCa ?_ | refine nhCs ?_ | refine nhCd ?_ | refine nhPa ?_ | refine nhPs ?_ | refine nhPd ?_ | refine nhKa ?_ | refine nhKs ?_ | refine nhKd ?_); ((try clear hF); clear hS; intro wk hS; (try simp only [List.set_cons_zero, List.set_cons_succ, heap_size, heap_set_size] at hS); ((try clear hF); (first | have hF := And.intro hS.facts (HRD.out _ (hS.sub (by first | simp | ((repeat (first | exact List.nil_sublist _ | exact List.Sublist.refl _ | with_reducible apply List.Sublist.cons₂ | apply List.Sublist.cons)))))) | have hF := And.intro hS.facts (hR.at hS.ext) | have hF := hS.facts); simp only [HFacts, cellFacts, RFacts, cellOnly, and_true, true_and, Nat.zero_add, Nat.reduceAdd] at hF))) | fail)
    refine bodyPost_ret (v := .agg #[.int .i64 a.kind, .int .i64 a.num, .string a.text]) ?_ rfl ⟨rfl, hS.ext⟩
    simp [results, Tryd.results8, go_sem, hF]
  | false =>
    have fin : pickA a b s = b := by simp only [pickA, h, Bool.false_eq_true, if_false]
    rw [fin]
    clear fin
    ((try clear hF); (first | have hF := And.intro hS.facts (HRD.out _ (hS.sub (by first | simp | ((repeat (first | exact List.nil_sublist _ | exact List.Sublist.refl _ | with_reducible apply List.Sublist.cons₂ | apply List.Sublist.cons)))))) | have hF := And.intro hS.facts (hR.at hS.ext) | have hF := hS.facts); simp only [HFacts, cellFacts, RFacts, cellOnly, and_true, true_and, Nat.zero_add, Nat.reduceAdd] at hF)
    go_enter Tryd.func8, Tryd.ntmps8
    go_wp2_with (first | ((with_reducible first | refine nhLa ?_ | refine nhLs ?_ | refine nhLd ?_ | refine nhCa ?_ | refine nhCs ?_ | refine nhCd ?_ | refine nhPa ?_ | refine nhPs ?_ | refine nhPd ?_ | refine nhKa ?_ | refine nhKs ?_ | refine nhKd ?_); ((try clear hF); clear hS; intro wk hS; (try simp only [List.set_cons_zero, List.set_cons_succ, heap_size, heap_set_size] at hS); ((try clear hF); (first | have hF := And.intro hS.facts (HRD.out _ (hS.sub (by first | simp | ((repeat (first | exact List.nil_sublist _ | exact List.Sublist.refl _ | with_reducible apply List.Sublist.cons₂ | apply List.Sublist.cons)))))) | have hF := And.intro hS.facts (hR.at hS.ext) | have hF := hS.facts); simp only [HFacts, cellFacts, RFacts, cellOnly, and_true, true_and, Nat.zero_add, Nat.reduceAdd] at hF))) | fail)
    refine bodyPost_ret (v := .agg #[.int .i64 b.kind, .int .i64 b.num, .string b.text]) ?_ rfl ⟨rfl, hS.ext⟩
    simp [results, Tryd.results8, go_sem, hF]
theorem drop_all {p : UInt8 → Bool} : ∀ {l : List UInt8}, (∀ x ∈ l, p x = true) → l.dropWhile p = []
  | [], _ => rfl
  | a :: l, h => by
    rw [List.dropWhile_cons, if_pos (h a (by simp))]
    exact drop_all fun x hx => h x (by simp [hx])
theorem trim_blank {l : List UInt8} (h : ∀ b ∈ l, b = 32) : Lib.trimS l [32] = [] := by
  rw [Lib.trimS_one]
  unfold Lib.trimB Lib.trimRightB Lib.trimLeftB
  have h1 : l.reverse.dropWhile (· == 32) = [] := drop_all fun x hx => by simp [h x (by simpa using hx)]
  rw [h1]
  rfl
theorem trimA_any (s : ByteArray) (hs : s.size ≤ 1000000) (w : World) : Calls Tryd.prog 10 #[.string s, .string ⟨#[32]⟩] w fun e w' => e = .returned (.string ⟨(Lib.trimS s.data.toList [32]).toArray⟩) ∧ Ext w w' :=
  Any.strings_Trim_laid Tryd.lays160 (by kernel_rfl) s ⟨#[32]⟩ w (by omega) (by decide) (Go.Proofs.ascii_of_all (by decide))
/-- the tables that AskBack reads -/
def TabsA (w : World) : Prop := MarksAt w ∧ KeptA w ∧ SynAt w ∧ RngAt w
theorem TabsA.ext {w w' : World} (h : TabsA w) (hx : Ext w w') : TabsA w' := ⟨h.1.ext hx, h.2.1.ext hx, h.2.2.1.ext hx, h.2.2.2.ext hx⟩
set_option maxRecDepth 100000 in
set_option maxHeartbeats 8000000 in
theorem asked_any (w : World) (hT : TabsA w) : Calls Tryd.prog 4 #[] w fun e w' => e = .returned (.bool true) ∧ Ext w w' := by
  have HC := Lib.hid (fun (W : World) (hx : Ext w W) => show Calls Tryd.prog 6 #[.string ⟨#[110, 111, 116, 40, 97, 61, 49, 32, 111, 114, 32, 98, 32, 105, 115, 32, 110, 111, 116, 32, 110, 117, 108, 108, 41, 97, 110, 100, 32, 99, 60, 62, 39, 120, 32, 121, 39]⟩] W (CondRes W (some askedC)) from by
    have := acond_any ⟨askedL.toArray⟩ W askedL.length rfl (by decide) (hT.ext hx).1 (hT.ext hx).2.1 (hT.ext hx).2.2.1 (hT.ext hx).2.2.2
    rw [show (⟨askedL.toArray⟩ : ByteArray).data.toList = askedL from rfl, asked_cond] at this
    exact this)
  have hok : okW askedC := by
    rcases (cond_back asked_cond).2 with ⟨h, _⟩ | ⟨_, h, _⟩
    · cases h
    · exact h
  have HP := Lib.hid (fun (v : Option Addr) (W : World) (h : CondAt W (.pointer v) askedC) => aprint_any askedC v W (.inr ⟨hok, by rw [show writL askedC 0 = condW askedC from rfl, asked_text]; decide⟩) h)
  obtain ⟨S, hS'⟩ : ∃ S : ByteArray, S = ⟨(condW askedC).toArray⟩ := ⟨_, rfl⟩
  have q1 : (S.toList == [110, 111, 116, 32, 40, 97, 32, 61, 32, 49, 32, 111, 114, 32, 98, 32, 105, 115, 32, 110, 111, 116, 32, 110, 117, 108, 108, 41, 32, 97, 110, 100, 32, 99, 32, 60, 62, 32, 39, 120, 32, 121, 39]) = true := by
    rw [hS', ByteArray.toList_eq, asked_text]
    decide
  rw [← hS'] at HP
  clear hS'
  have hS := Hp.init w
  have hR := Reads.nil w
  clear hok hT
  go_enter Tryd.func4, Tryd.ntmps4
  go_wp2_with (first | ((with_reducible first | refine nhLa ?_ | refine nhLs ?_ | refine nhLd ?_ | refine nhCa ?_ | refine nhCs ?_ | refine nhCd ?_ | refine nhPa ?_ | refine nhPs ?_ | refine nhPd ?_ | refine nhKa ?_ | refine nhKs ?_ | refine nhKd ?_); ((try clear hF); clear hS; intro wk hS; (try simp only [List.set_cons_zero, List.set_cons_succ, heap_size, heap_set_size] at hS); ((try clear hF); (first | have hF := And.intro hS.facts (HRD.out _ (hS.sub (by first | simp | ((repeat (first | exact List.nil_sublist _ | exact List.Sublist.refl _ | with_reducible apply List.Sublist.cons₂ | apply List.Sublist.cons)))))) | have hF := And.intro hS.facts (hR.at hS.ext) | have hF := hS.facts); simp only [HFacts, cellFacts, RFacts, cellOnly, and_true, true_and, Nat.zero_add, Nat.reduceAdd] at hF))) | (go_at_call 6; (with_reducible refine Calls.mono (HC.out _ hS.ext) ?_); rintro e wk ⟨v, rfl, hc, hX⟩; replace hS := hS.step hX; clear hX; ((try clear hF); (first | have hF := And.intro hS.facts (HRD.out _ (hS.sub (by first | simp | ((repeat (first | exact List.nil_sublist _ | exact List.Sublist.refl _ | with_reducible apply List.Sublist.cons₂ | apply List.Sublist.cons)))))) | have hF := And.intro hS.facts (hR.at hS.ext) | have hF := hS.facts); simp only [HFacts, cellFacts, RFacts, cellOnly, and_true, true_and, Nat.zero_add, Nat.reduceAdd] at hF)) | (go_at_call 7; (with_reducible refine Calls.mono (HP.out _ _ hc) ?_); rintro e wk ⟨rfl, hX⟩; replace hS := hS.step hX; clear hX; ((try clear hF); (first | have hF := And.intro hS.facts (HRD.out _ (hS.sub (by first | simp | ((repeat (first | exact List.nil_sublist _ | exact List.Sublist.refl _ | with_reducible apply List.Sublist.cons₂ | apply List.Sublist.cons)))))) | have hF := And.intro hS.facts (hR.at hS.ext) | have hF := hS.facts); simp only [HFacts, cellFacts, RFacts, cellOnly, and_true, true_and, Nat.zero_add, Nat.reduceAdd] at hF)))
  go_ret
  exact ⟨rfl, hS.ext⟩
end Go.Proofs.YtmfilblbofkmcaaDoor

/- millpondkeep.AskBack: at all arguments. -/
namespace Go.Proofs.YtmfilblbofkmcaaDoor
set_option linter.unusedSimpArgs false
set_option linter.unusedVariables false
open Go.RowKit
set_option linter.all false
theorem holdsA (a b : GV) (pa pb : Nat) (ta tb : TypeId) (fa fb : Nat × Nat) (base : World) (h1 : base.heap[pa]? = some (.cells #[.int .i64 a.kind, .int .i64 a.num, .string a.text] ta fa)) (h2 : base.heap[pb]? = some (.cells #[.int .i64 b.kind, .int .i64 b.num, .string b.text] tb fb))
    (t : CT) (v : Value) (W : World) (hc : CondAt W v t) (hx : Ext base W) :
    Calls Tryd.prog 9 #[v, .func (.func 8) #[] #[.pointer (some ⟨pa, 0, none⟩), .pointer (some ⟨pb, 0, none⟩)]] W fun e w' => e = .returned (.int .i64 (evalC (pickA a b) t)) ∧ Ext W w' :=
  holds_any base 8 #[.pointer (some ⟨pa, 0, none⟩), .pointer (some ⟨pb, 0, none⟩)] (pickA a b) eg_get (fun W hx s => get_any a b pa pb s W
    (hx.keeps (by simp [World.cell?, h1])) (hx.keeps (by simp [World.cell?, h1])) (hx.keeps (by simp [World.cell?, h1])) (hx.keeps (by simp [World.cell?, h2])) (hx.keeps (by simp [World.cell?, h2])) (hx.keeps (by simp [World.cell?, h2]))) t v W hc hx
theorem rightA (a b : GV) (g : Nat) (t : TypeId) (fr : Nat × Nat) (W : World) (h : W.heap[g]? = some (.cells #[.int .i64 a.kind, .int .i64 a.num, .string a.text, .int .i64 b.kind, .int .i64 b.num, .string b.text] t fr)) :
    Calls Tryd.prog 5 #[.slice (some ⟨g, 0, none⟩) 2 2] W fun e w' => e = .returned (.bool (okV a && okV b)) ∧ Ext W w' := by
  have := right_list [a, b] (some ⟨g, 0, none⟩) 2 W (RV.block h rfl) (by simp)
  simpa using this
set_option maxRecDepth 100000 in
set_option maxHeartbeats 8000000 in
theorem askback_any (s : ByteArray) (a b : GV) (w : World) (hT : TabsA w) :
    Calls Tryd.prog 3 #[.string s, .agg #[.int .i64 a.kind, .int .i64 a.num, .string a.text], .agg #[.int .i64 b.kind, .int .i64 b.num, .string b.text]] w fun e w' => e = .returned (.bool true) ∧ Ext w w' := by
  have HA := Lib.hid (fun (W : World) (hx : Ext w W) => asked_any W (hT.ext hx))
  have HRT := Lib.hid (fun (g : Nat) (t : TypeId) (fr : Nat × Nat) (W : World) h => rightA a b g t fr W h)
  have hS := Hp.init w
  have hR := Reads.nil w
  have hmf : ∀ (fn : Fn) (first cap : Array Value) (w : World), (Instr.makeFunc fn first cap).run Tryd.prog w = .ok (.func fn first cap) w := fun _ _ _ _ => rfl
  by_cases h6 : 600 < s.size
  · clear hT HRT
    go_enter Tryd.func3, Tryd.ntmps3
    go_wp2_with (first | ((with_reducible first | refine nhLa ?_ | refine nhLs ?_ | refine nhLd ?_ | refine nhCa ?_ | refine nhCs ?_ | refine nhCd ?_ | refine nhPa ?_ | refine nhPs ?_ | refine nhPd ?_ | refine nhKa ?_ | refine nhKs ?_ | refine nhKd ?_); ((try clear hF); clear hS; intro wk hS; (try simp only [List.set_cons_zero, List.set_cons_succ, heap_size, heap_set_size] at hS); ((try clear hF); (first | have hF := And.intro hS.facts (HRD.out _ (hS.sub (by first | simp | ((repeat (first | exact List.nil_sublist _ | exact List.Sublist.refl _ | with_reducible apply List.Sublist.cons₂ | apply List.Sublist.cons)))))) | have hF := And.intro hS.facts (hR.at hS.ext) | have hF := hS.facts); simp only [HFacts, cellFacts, RFacts, cellOnly, and_true, true_and, Nat.zero_add, Nat.reduceAdd] at hF))) | (go_at_call 4; (with_reducible refine (HA.out _ hS.ext).mono ?_); rintro e wk ⟨rfl, hX⟩; replace hS := hS.step hX; clear hX; ((try clear hF); (first | have hF := And.intro hS.facts (HRD.out _ (hS.sub (by first | simp | ((repeat (first | exact List.nil_sublist _ | exact List.Sublist.refl _ | with_reducible apply List.Sublist.cons₂ | apply List.Sublist.cons)))))) | have hF := And.intro hS.facts (hR.at hS.ext) | have hF := hS.facts); simp only [HFacts, cellFacts, RFacts, cellOnly, and_true, true_and, Nat.zero_add, Nat.reduceAdd] at hF)))
    go_ret
    exact ⟨rfl, hS.ext⟩
  cases hok : (okV a && okV b) with
  | false =>
    rw [hok] at HRT
    clear hT hok
    go_enter Tryd.func3, Tryd.ntmps3
    go_wp2_with (first | ((with_reducible first | refine nhLa ?_ | refine nhLs ?_ | refine nhLd ?_ | refine nhCa ?_ | refine nhCs ?_ | refine nhCd ?_ | refine nhPa ?_ | refine nhPs ?_ | refine nhPd ?_ | refine nhKa ?_ | refine nhKs ?_ | refine nhKd ?_); ((try clear hF); clear hS; intro wk hS; (try simp only [List.set_cons_zero, List.set_cons_succ, heap_size, heap_set_size] at hS); ((try clear hF); (first | have hF := And.intro hS.facts (HRD.out _ (hS.sub (by first | simp | ((repeat (first | exact List.nil_sublist _ | exact List.Sublist.refl _ | with_reducible apply List.Sublist.cons₂ | apply List.Sublist.cons)))))) | have hF := And.intro hS.facts (hR.at hS.ext) | have hF := hS.facts); simp only [HFacts, cellFacts, RFacts, cellOnly, and_true, true_and, Nat.zero_add, Nat.reduceAdd] at hF))) | (go_at_call 4; (with_reducible refine (HA.out _ hS.ext).mono ?_); rintro e wk ⟨rfl, hX⟩; replace hS := hS.step hX; clear hX; ((try clear hF); (first | have hF := And.intro hS.facts (HRD.out _ (hS.sub (by first | simp | ((repeat (first | exact List.nil_sublist _ | exact List.Sublist.refl _ | with_reducible apply List.Sublist.cons₂ | apply List.Sublist.cons)))))) | have hF := And.intro hS.facts (hR.at hS.ext) | have hF := hS.facts); simp only [HFacts, cellFacts, RFacts, cellOnly, and_true, true_and, Nat.zero_add, Nat.reduceAdd] at hF)) | (go_at_call 5; (with_reducible refine (HRT.out _ _ _ _ (hS.blkAt 0 rfl)).mono ?_); rintro e wk ⟨rfl, hX⟩; replace hS := hS.step hX; clear hX; ((try clear hF); (first | have hF := And.intro hS.facts (HRD.out _ (hS.sub (by first | simp | ((repeat (first | exact List.nil_sublist _ | exact List.Sublist.refl _ | with_reducible apply List.Sublist.cons₂ | apply List.Sublist.cons)))))) | have hF := And.intro hS.facts (hR.at hS.ext) | have hF := hS.facts); simp only [HFacts, cellFacts, RFacts, cellOnly, and_true, true_and, Nat.zero_add, Nat.reduceAdd] at hF)))
    go_ret
    exact ⟨rfl, hS.ext⟩
  | true =>
    rw [hok] at HRT
    clear hok
    have HT := Lib.hid hT
    clear hT
    go_enter Tryd.func3, Tryd.ntmps3
    go_upto_region 5 with (first | ((with_reducible first | refine nhLa ?_ | refine nhLs ?_ | refine nhLd ?_ | refine nhCa ?_ | refine nhCs ?_ | refine nhCd ?_ | refine nhPa ?_ | refine nhPs ?_ | refine nhPd ?_ | refine nhKa ?_ | refine nhKs ?_ | refine nhKd ?_); ((try clear hF); clear hS; intro wk hS; (try simp only [List.set_cons_zero, List.set_cons_succ, heap_size, heap_set_size] at hS); ((try clear hF); (first | have hF := And.intro hS.facts (HRD.out _ (hS.sub (by first | simp | ((repeat (first | exact List.nil_sublist _ | exact List.Sublist.refl _ | with_reducible apply List.Sublist.cons₂ | apply List.Sublist.cons)))))) | have hF := And.intro hS.facts (hR.at hS.ext) | have hF := hS.facts); simp only [HFacts, cellFacts, RFacts, cellOnly, and_true, true_and, Nat.zero_add, Nat.reduceAdd] at hF))) | (go_at_call 4; (with_reducible refine (HA.out _ hS.ext).mono ?_); rintro e wk ⟨rfl, hX⟩; replace hS := hS.step hX; clear hX; ((try clear hF); (first | have hF := And.intro hS.facts (HRD.out _ (hS.sub (by first | simp | ((repeat (first | exact List.nil_sublist _ | exact List.Sublist.refl _ | with_reducible apply List.Sublist.cons₂ | apply List.Sublist.cons)))))) | have hF := And.intro hS.facts (hR.at hS.ext) | have hF := hS.facts); simp only [HFacts, cellFacts, RFacts, cellOnly, and_true, true_and, Nat.zero_add, Nat.reduceAdd] at hF)) | (go_at_call 5; (with_reducible refine (HRT.out _ _ _ _ (hS.blkAt 0 rfl)).mono ?_); rintro e wk ⟨rfl, hX⟩; replace hS := hS.step hX; clear hX; ((try clear hF); (first | have hF := And.intro hS.facts (HRD.out _ (hS.sub (by first | simp | ((repeat (first | exact List.nil_sublist _ | exact List.Sublist.refl _ | with_reducible apply List.Sublist.cons₂ | apply List.Sublist.cons)))))) | have hF := And.intro hS.facts (hR.at hS.ext) | have hF := hS.facts); simp only [HFacts, cellFacts, RFacts, cellOnly, and_true, true_and, Nat.zero_add, Nat.reduceAdd] at hF)))
    have HX1 := Lib.hid hS.ext
    have HB1 := Lib.hid (hS.blkAt 2 rfl)
    have HB2 := Lib.hid (hS.blkAt 1 rfl)
    have HH := Lib.hid (fun (t : CT) (v : Value) (W : World) (hc : CondAt W v t) (hx : Ext wk W) => holdsA a b _ _ _ _ _ _ wk HB1.out HB2.out t v W hc hx)
    replace HT := Lib.hid (HT.out.ext HX1.out)
    clear HA HRT hS hF hR HB1 HB2
    obtain ⟨w1, hw1⟩ : ∃ w1, w1 = wk := ⟨_, rfl⟩
    have hS := Hp.init wk
    have hR := Reads.nil wk
    have HC1 := Lib.hid (fun (W : World) (hx : Ext wk W) => acond_any s W s.size rfl (by omega) (HT.out.ext hx).1 (HT.out.ext hx).2.1 (HT.out.ext hx).2.2.1 (HT.out.ext hx).2.2.2)
    clear hw1
    cases hcd : condP s.data.toList with
    | none =>
      rw [hcd] at HC1
      clear hcd HH HT
      go_wp2_with (first | ((with_reducible first | refine nhLa ?_ | refine nhLs ?_ | refine nhLd ?_ | refine nhCa ?_ | refine nhCs ?_ | refine nhCd ?_ | refine nhPa ?_ | refine nhPs ?_ | refine nhPd ?_ | refine nhKa ?_ | refine nhKs ?_ | refine nhKd ?_); ((try clear hF); clear hS; intro wk hS; (try simp only [List.set_cons_zero, List.set_cons_succ, heap_size, heap_set_size] at hS); ((try clear hF); (first | have hF := And.intro hS.facts (HRD.out _ (hS.sub (by first | simp | ((repeat (first | exact List.nil_sublist _ | exact List.Sublist.refl _ | with_reducible apply List.Sublist.cons₂ | apply List.Sublist.cons)))))) | have hF := And.intro hS.facts (hR.at hS.ext) | have hF := hS.facts); simp only [HFacts, cellFacts, RFacts, cellOnly, and_true, true_and, Nat.zero_add, Nat.reduceAdd] at hF))) | (go_at_call 6; (with_reducible refine Calls.mono (HC1.out _ hS.ext) ?_); rintro e wk2 ⟨⟨tp, pv, rfl⟩, hX⟩; replace hS := hS.step hX; clear hX))
      go_ret
      exact ⟨rfl, HX1.out.trans hS.ext⟩
    | some c =>
      rw [hcd] at HC1
      obtain ⟨hbk, hcs⟩ := cond_back hcd
      clear hcd
      have hpr : c = .nil ∨ okW c ∧ (writL c 0).length ≤ 4800 := by
        rcases hcs with ⟨h, _⟩ | ⟨_, h1, h2⟩
        · exact .inl h
        · exact .inr ⟨h1, h2⟩
      have HPA := Lib.hid (fun (v : Option Addr) (W : World) (h : CondAt W (.pointer v) c) => aprint_any c v W hpr h)
      obtain ⟨T, hT⟩ : ∃ T : ByteArray, T = ⟨(condW c).toArray⟩ := ⟨_, rfl⟩
      have hTd : T.data.toList = condW c := by rw [hT]
      have hTz : T.size ≤ 4800 := by
        rw [Lib.size_eq, hTd]
        rcases hcs with ⟨h, _⟩ | ⟨h, _, h2⟩
        · subst h; decide
        · cases c with
          | nil => exact absurd rfl h
          | node => exact h2
      have HC2 := Lib.hid (fun (W : World) (hx : Ext wk W) => acond_any T W T.size rfl (by omega) (HT.out.ext hx).1 (HT.out.ext hx).2.1 (HT.out.ext hx).2.2.1 (HT.out.ext hx).2.2.2)
      rw [hTd, hbk] at HC2
      rw [← hT] at HPA
      have HCS := Lib.hid hcs
      clear hT hTd hTz hbk hcs hpr HT
      go_upto_region 6 with (first | ((with_reducible first | refine nhLa ?_ | refine nhLs ?_ | refine nhLd ?_ | refine nhCa ?_ | refine nhCs ?_ | refine nhCd ?_ | refine nhPa ?_ | refine nhPs ?_ | refine nhPd ?_ | refine nhKa ?_ | refine nhKs ?_ | refine nhKd ?_); ((try clear hF); clear hS; intro wk hS; (try simp only [List.set_cons_zero, List.set_cons_succ, heap_size, heap_set_size] at hS); ((try clear hF); (first | have hF := And.intro hS.facts (HRD.out _ (hS.sub (by first | simp | ((repeat (first | exact List.nil_sublist _ | exact List.Sublist.refl _ | with_reducible apply List.Sublist.cons₂ | apply List.Sublist.cons)))))) | have hF := And.intro hS.facts (hR.at hS.ext) | have hF := hS.facts); simp only [HFacts, cellFacts, RFacts, cellOnly, and_true, true_and, Nat.zero_add, Nat.reduceAdd] at hF))) | (go_at_call 6; (with_reducible refine Calls.mono (HC1.out _ hS.ext) ?_); rintro e wk2 ⟨v, rfl, hc, hX⟩; replace hS := hS.step hX; clear hX))
      have HX2 := Lib.hid hS.ext
      have HP1 := Lib.hid (fun (W : World) (hx : Ext wk2 W) => HPA.out v W (hc.ext hx))
      have HD2 := Lib.hid (fun (W : World) (hx : Ext wk2 W) => HC2.out W (HX2.out.trans hx))
      have HC := Lib.hid hc
      clear hS hR HC1 HC2 hc
      have hS := Hp.init wk2
      have hR := Reads.nil wk2
      go_upto_region 10 with (first | ((with_reducible first | refine nhLa ?_ | refine nhLs ?_ | refine nhLd ?_ | refine nhCa ?_ | refine nhCs ?_ | refine nhCd ?_ | refine nhPa ?_ | refine nhPs ?_ | refine nhPd ?_ | refine nhKa ?_ | refine nhKs ?_ | refine nhKd ?_); ((try clear hF); clear hS; intro wk hS; (try simp only [List.set_cons_zero, List.set_cons_succ, heap_size, heap_set_size] at hS); ((try clear hF); (first | have hF := And.intro hS.facts (HRD.out _ (hS.sub (by first | simp | ((repeat (first | exact List.nil_sublist _ | exact List.Sublist.refl _ | with_reducible apply List.Sublist.cons₂ | apply List.Sublist.cons)))))) | have hF := And.intro hS.facts (hR.at hS.ext) | have hF := hS.facts); simp only [HFacts, cellFacts, RFacts, cellOnly, and_true, true_and, Nat.zero_add, Nat.reduceAdd] at hF))) | (go_at_call 7; (with_reducible refine (HP1.out _ hS.ext).mono ?_); rintro e wk3 ⟨rfl, hX⟩; replace hS := hS.step hX; clear hX) | (go_at_call 6; (with_reducible refine Calls.mono (HD2.out _ hS.ext) ?_); rintro e wk3 ⟨v2, rfl, hc2, hX⟩; replace hS := hS.step hX; clear hX))
      have HX3 := Lib.hid hS.ext
      have HP2 := Lib.hid (fun (W : World) (hx : Ext wk3 W) => HPA.out v2 W (hc2.ext hx))
      have HH1 := Lib.hid (fun (W : World) (hx : Ext wk3 W) => HH.out c (.pointer v) W ((HC.out.ext HX3.out).ext hx) (HX2.out.trans (HX3.out.trans hx)))
      have HH2 := Lib.hid (fun (W : World) (hx : Ext wk3 W) => HH.out c (.pointer v2) W (hc2.ext hx) (HX2.out.trans (HX3.out.trans hx)))
      obtain ⟨n, hn⟩ : ∃ n, n = evalC (pickA a b) c := ⟨_, rfl⟩
      rw [← hn] at HH1 HH2
      have HE := Lib.hid (HX1.out.trans (HX2.out.trans HX3.out))
      clear hS hR HH HPA HP1 HD2 hn HX1 HX2 HX3 hc2
      have hS := Hp.init wk3
      have hR := Reads.nil wk3
      cases c with
      | nil =>
        have hv : v = none := by
          have : (Value.pointer v) = .pointer none := HC.out
          simpa using this
        subst hv
        have hbl : ∀ x ∈ s.data.toList, x = 32 := by
          rcases HCS.out with ⟨_, h⟩ | ⟨h, _⟩
          · exact h
          · exact absurd rfl h
        have HTR := Lib.hid (fun (W : World) => show Calls Tryd.prog 10 #[.string s, .string ⟨#[32]⟩] W fun e w' => e = .returned (.string ⟨#[]⟩) ∧ Ext W w' from by
          have := trimA_any s (by omega) W
          rw [trim_blank hbl] at this
          exact this)
        clear hbl HCS HC
        go_wp2_with (first | ((with_reducible first | refine nhLa ?_ | refine nhLs ?_ | refine nhLd ?_ | refine nhCa ?_ | refine nhCs ?_ | refine nhCd ?_ | refine nhPa ?_ | refine nhPs ?_ | refine nhPd ?_ | refine nhKa ?_ | refine nhKs ?_ | refine nhKd ?_); ((try clear hF); clear hS; intro wk hS; (try simp only [List.set_cons_zero, List.set_cons_succ, heap_size, heap_set_size] at hS); ((try clear hF); (first | have hF := And.intro hS.facts (HRD.out _ (hS.sub (by first | simp | ((repeat (first | exact List.nil_sublist _ | exact List.Sublist.refl _ | with_reducible apply List.Sublist.cons₂ | apply List.Sublist.cons)))))) | have hF := And.intro hS.facts (hR.at hS.ext) | have hF := hS.facts); simp only [HFacts, cellFacts, RFacts, cellOnly, and_true, true_and, Nat.zero_add, Nat.reduceAdd] at hF))) | (go_at_call 7; (with_reducible refine (HP2.out _ hS.ext).mono ?_); rintro e wk4 ⟨rfl, hX⟩; replace hS := hS.step hX; clear hX) | (go_at_call 9; first | ((with_reducible refine (HH1.out _ hS.ext).mono ?_); rintro e wk4 ⟨rfl, hX⟩; replace hS := hS.step hX; clear hX HH1) | ((with_reducible refine (HH2.out _ hS.ext).mono ?_); rintro e wk4 ⟨rfl, hX⟩; replace hS := hS.step hX; clear hX)) | (go_at_call 10; (with_reducible refine (HTR.out _).mono ?_); rintro e wk ⟨rfl, hX⟩; replace hS := hS.step hX; clear hX; ((try clear hF); (first | have hF := And.intro hS.facts (HRD.out _ (hS.sub (by first | simp | ((repeat (first | exact List.nil_sublist _ | exact List.Sublist.refl _ | with_reducible apply List.Sublist.cons₂ | apply List.Sublist.cons)))))) | have hF := And.intro hS.facts (hR.at hS.ext) | have hF := hS.facts); simp only [HFacts, cellFacts, RFacts, cellOnly, and_true, true_and, Nat.zero_add, Nat.reduceAdd] at hF)))
        go_ret
        exact ⟨rfl, HE.out.trans hS.ext⟩
      | node cc col x l r =>
        have hv : ∃ p, v = some ⟨p, 0, none⟩ := by
          obtain ⟨p, _, _, h, _⟩ := HC.out
          exact ⟨p, by simpa using h⟩
        obtain ⟨p, rfl⟩ := hv
        clear HCS HC
        go_wp2_with (first | ((with_reducible first | refine nhLa ?_ | refine nhLs ?_ | refine nhLd ?_ | refine nhCa ?_ | refine nhCs ?_ | refine nhCd ?_ | refine nhPa ?_ | refine nhPs ?_ | refine nhPd ?_ | refine nhKa ?_ | refine nhKs ?_ | refine nhKd ?_); ((try clear hF); clear hS; intro wk hS; (try simp only [List.set_cons_zero, List.set_cons_succ, heap_size, heap_set_size] at hS); ((try clear hF); (first | have hF := And.intro hS.facts (HRD.out _ (hS.sub (by first | simp | ((repeat (first | exact List.nil_sublist _ | exact List.Sublist.refl _ | with_reducible apply List.Sublist.cons₂ | apply List.Sublist.cons)))))) | have hF := And.intro hS.facts (hR.at hS.ext) | have hF := hS.facts); simp only [HFacts, cellFacts, RFacts, cellOnly, and_true, true_and, Nat.zero_add, Nat.reduceAdd] at hF))) | (go_at_call 7; (with_reducible refine (HP2.out _ hS.ext).mono ?_); rintro e wk4 ⟨rfl, hX⟩; replace hS := hS.step hX; clear hX) | (go_at_call 9; first | ((with_reducible refine (HH1.out _ hS.ext).mono ?_); rintro e wk4 ⟨rfl, hX⟩; replace hS := hS.step hX; clear hX HH1) | ((with_reducible refine (HH2.out _ hS.ext).mono ?_); rintro e wk4 ⟨rfl, hX⟩; replace hS := hS.step hX; clear hX)))
        go_ret
        exact ⟨rfl, HE.out.trans hS.ext⟩
end Go.Proofs.YtmfilblbofkmcaaDoor

/- The tables that AskBack's row lists: what they tell of the world; a world that has them. -/
namespace Go.Proofs.YtmfilblbofkmcaaDoor
set_option linter.unusedSimpArgs false
set_option linter.unusedVariables false
open Go.RowKit
set_option linter.all false
open Go.ChangeShapes Go.WideShapes Go.ChangeAt Go.Joins
theorem gSyn : Tryd.prog.globalNamed "strconv.ErrSyntax" = some 5 := by kernel_rfl
theorem tSyn : (Tryd.prog.globals[5]?).map (·.type) = some 28 := by kernel_rfl
theorem gRng : Tryd.prog.globalNamed "strconv.ErrRange" = some 6 := by kernel_rfl
theorem tRng : (Tryd.prog.globals[6]?).map (·.type) = some 28 := by kernel_rfl
theorem gMarks : Tryd.prog.globalNamed "millpond/ask.marks" = some 0 := by kernel_rfl
theorem tMarks : (Tryd.prog.globals[0]?).map (·.type) = some 89 := by kernel_rfl
theorem gKeptA : Tryd.prog.globalNamed "millpond/ask.kept" = some 3 := by kernel_rfl
theorem tKeptA : (Tryd.prog.globals[3]?).map (·.type) = some 108 := by kernel_rfl
theorem c10 : Tryd.prog.cellsOf 89 = 10 := by kernel_rfl
theorem c11 : Tryd.prog.cellsOf 108 = 11 := by kernel_rfl
theorem c1 : Tryd.prog.cellsOf 9 = 1 := by kernel_rfl
def laidA : List (String × DataW Unit) := [("math/bits.deBruijn32tab", Rows.laid_math_bits_deBruijn32tab), ("math/bits.deBruijn64tab", Rows.laid_math_bits_deBruijn64tab), ("internal/strconv.uint64pow10", Rows.laid_internal_strconv_uint64pow10), ("unicode/utf8.acceptRanges", Rows.laid_unicode_utf8_acceptRanges), ("strconv.ErrRange", Rows.laid_strconv_ErrRange), ("strconv.ErrSyntax", Rows.laid_strconv_ErrSyntax), ("millpond/ask.marks", Rows.laid_millpond_ask_marks), ("millpond/ask.kept", Rows.laid_millpond_ask_kept), ("unicode/utf8.first", Rows.laid_unicode_utf8_first)]
/-- an error that is laid: some pointer -/
theorem laid_some {W : World} {n nm : String} {d : DataW Unit} {r : List (String × DataW Unit)} {g : Nat} (h : laidMet Tryd.prog ((n, .iface nm d) :: r) W) (hg : Tryd.prog.globalNamed n = some g) (ht : (Tryd.prog.globals[g]?).map (·.type) = some 28) : ∃ tp p, W.var? Tryd.prog n = some #[.iface tp p] := by
  obtain ⟨ps, ⟨g0, t0, cs0, f0, p0, q0, hg0, ht0, hv0, hd0, _, e0⟩, _, _⟩ := h
  obtain rfl := Option.some.inj (hg.symm.trans hg0)
  obtain rfl := Option.some.inj (ht.symm.trans ht0)
  obtain ⟨fuel', u, v, hcs, _, _⟩ := iface_of_trod Tryd.underlying28 hd0
  obtain ⟨l0⟩ := cs0
  have : l0 = [.iface u v] := hcs
  subst this
  exact ⟨u, v, hv0⟩
/-- an array of texts that is read -/
theorem strs_read {H : Type} {enc : TypeId × Value → H} {w : World} {base : Nat} {spare : Nat → Bool} {held : Bool} {fuel n : Nat} {t : TypeId} {cs : List Value} {q : List MemPlace} {ss : List (List UInt8)}
    (ht : Tryd.prog.underlying t = some (.array n 9)) (hc : Tryd.prog.cellsOf t = n) (h : DataW.trod enc Tryd.prog w base spare held fuel t cs = some (.agg (ss.map fun s => .lit (.string s)), q)) :
    cs = ss.map (fun s => Value.string ⟨s.toArray⟩) := by
  obtain ⟨xs, m1, rfl, hx1, hlen, hn3, hel⟩ := DataW.trod_array ht h
  have hx : xs.map (·.1) = ss.map fun s => .lit (.string s) := by
    have := (Prod.mk.inj hx1).1
    simpa [eq_comm] using this
  have hsl : ss.length = n := by
    have := congrArg List.length hx
    simp only [List.length_map] at this
    omega
  refine List.ext_getElem? fun j => ?_
  by_cases hj : j < n
  · have hj' := hel j hj
    rw [c1, Nat.mul_one] at hj'
    obtain ⟨xj, hxj⟩ : ∃ x, xs[j]? = some x := ⟨_, List.getElem?_eq_getElem (by omega)⟩
    rw [hxj] at hj'
    obtain ⟨k, e1, e2, _⟩ := DataW.trod_string Tryd.underlying9 hj'
    have hk : (xs.map (·.1))[j]? = some (.lit (.string k.data.toList)) := by rw [List.getElem?_map, hxj, e2]; rfl
    rw [hx, List.getElem?_map] at hk
    have e3 := congrArg List.head? e1
    simp [List.head?_take, List.head?_drop] at e3
    rw [e3, List.getElem?_map]
    cases hs : ss[j]? with
    | none => rw [hs] at hk; cases hk
    | some s =>
      rw [hs] at hk
      simp only [Option.map_some, Option.some.injEq, DataW.lit.injEq, Lit.string.injEq] at hk
      simp only [Option.map_some, Option.some.injEq, Value.string.injEq]
      subst hk
      rfl
  · rw [List.getElem?_eq_none (by rw [hlen, hc]; omega), List.getElem?_eq_none (by rw [List.length_map]; omega)]
theorem var_heap {w : World} {name : String} {g : Nat} {cs : Array Value} (hg : Tryd.prog.globalNamed name = some g) (h : w.var? Tryd.prog name = some cs) : ∃ t fr, w.heap[g]? = some (.cells cs t fr) := by
  unfold World.var? at h
  rw [hg] at h
  simp only [Option.bind_some] at h
  cases hh : w.heap[g]? with
  | none => rw [hh] at h; cases h
  | some o =>
    rw [hh] at h
    cases o with
    | cells c t fr =>
      simp only [Option.some.injEq] at h
      subst h
      exact ⟨t, fr, rfl⟩
    | _ => cases h
theorem of_laidA {W : World} (h : laidMetH Tryd.prog laidA W) : TabsA W := by
  rw [MakeChecks.laidMetH_plain _ _ _ (by kernel_rfl)] at h
  have h2 : laidMet Tryd.prog _ W := laidMet.tail (laidMet.tail h)
  have h4 : laidMet Tryd.prog _ W := laidMet.tail (laidMet.tail h2)
  have h5 : laidMet Tryd.prog _ W := laidMet.tail h4
  have h6 : laidMet Tryd.prog _ W := laidMet.tail h5
  have h7 : laidMet Tryd.prog _ W := laidMet.tail h6
  refine ⟨?_, ?_, laid_some h5 gSyn tSyn, laid_some h4 gRng tRng⟩
  · obtain ⟨ps, ⟨g0, t0, cs0, f0, p0, q0, hg0, ht0, hv0, hd0, _, _⟩, _, _⟩ := h6
    obtain rfl := Option.some.inj (gMarks.symm.trans hg0)
    obtain rfl := Option.some.inj (tMarks.symm.trans ht0)
    have e := strs_read (ss := marksL) Tryd.underlying89 c10 hd0
    obtain ⟨t, fr, hh⟩ := var_heap gMarks hv0
    refine ⟨t, fr, ?_⟩
    rw [hh]
    obtain ⟨l⟩ := cs0
    have e : l = marksL.map (fun s => Value.string ⟨s.toArray⟩) := e
    subst e
    rfl
  · obtain ⟨ps, ⟨g0, t0, cs0, f0, p0, q0, hg0, ht0, hv0, hd0, _, _⟩, _, _⟩ := h7
    obtain rfl := Option.some.inj (gKeptA.symm.trans hg0)
    obtain rfl := Option.some.inj (tKeptA.symm.trans ht0)
    have e := strs_read (ss := kept11.map (·.data.toList)) Tryd.underlying108 c11 hd0
    obtain ⟨t, fr, hh⟩ := var_heap gKeptA hv0
    obtain ⟨l⟩ := cs0
    have e : l = (kept11.map (·.data.toList)).map (fun s => Value.string ⟨s.toArray⟩) := e
    subst e
    intro j hj
    simp only [World.cell?, hh]
    obtain rfl | rfl | rfl | rfl | rfl | rfl | rfl | rfl | rfl | rfl | rfl : j = 0 ∨ j = 1 ∨ j = 2 ∨ j = 3 ∨ j = 4 ∨ j = 5 ∨ j = 6 ∨ j = 7 ∨ j = 8 ∨ j = 9 ∨ j = 10 := by omega
    all_goals rfl
/-- a start: the settled world, the tables laid -/
noncomputable def baseW (os : Os) : World := World.holding Tryd.prog os ⟨#[], #[], []⟩
noncomputable def startA (os : Os) : World := (baseW os).layVars Tryd.prog laidA
theorem startA_os (os : Os) : (startA os).os = os := World.layVars_os _ _ _
theorem startA_data (os : Os) (args : Array Value) : laidMet Tryd.prog laidA ((startA os).forCall (fun _ _ => 0) ⟨#[], args, []⟩).memory := by
  have e1 : (laidA.filter fun x => (laidA.map (·.1)).contains x.1) = laidA := List.filter_eq_self.2 fun x hx => List.contains_iff_mem.2 (List.mem_map.2 ⟨x, hx, rfl⟩)
  have e2 : (laidA.filter fun x => !(laidA.map (·.1)).contains x.1) = [] := List.filter_eq_nil_iff.2 fun x hx => by rw [List.contains_iff_mem.2 (List.mem_map.2 ⟨x, hx, rfl⟩)]; simp
  have hf : (baseW os).layFits Tryd.prog laidA [] = true := by kernel_rfl
  have hi : (baseW os).layIfaces Tryd.prog laidA (startA os) = true := by kernel_rfl
  have h : laidMet Tryd.prog laidA (startA os) := laidMet_layVars (w0 := baseW os) (laidA.map (·.1)) [] (by rw [e1]; rfl) (by rw [e1]; exact hf) (by rw [e1]; exact hi) (by rw [e2]; exact LaidIn.none)
  exact h.of_heap (by simp [World.memory, World.forCall, Input.heap])
theorem startA_met (os : Os) (args : Array Value) : laidMetH Tryd.prog laidA ((startA os).forCall (fun _ _ => 0) ⟨#[], args, []⟩).memory :=
  laidMetH_of_parts3 (fuel := 8) (startA_data os args) (by kernel_rfl) (by kernel_rfl)
end Go.Proofs.YtmfilblbofkmcaaDoor
