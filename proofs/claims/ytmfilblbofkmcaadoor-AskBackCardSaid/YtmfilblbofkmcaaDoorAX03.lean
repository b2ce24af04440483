/- Texts joined: value.Right: what it answers; the world has at most new blocks. schema.Name: what it answers. Slices of values: what their cells hold. millpondkeep.right. -/
import Derived.Test.YtmfilblbofkmcaaDoorAX01
import Derived.Test.YtmfilblbofkmcaaDoorAX02
import Derived.Deep.QuietTactic
import Derived.Shelf.Abstract
import Derived.Shelf.Strings.SlTrimAscii
/- value.Right: what it answers; the world has at most new blocks. -/
namespace Go.Proofs.YtmfilblbofkmcaaDoor
set_option linter.all false
set_option linter.unusedSimpArgs false
set_option linter.unusedVariables false
open Go.RowKit
/-- what value.Right answers -/
def rightB (k n : Int) (s : ByteArray) : Bool :=
  if k = 0 then decide (n = 0) && decide (s = ⟨#[]⟩) else if k = 1 then decide (s = ⟨#[]⟩) else if k = 2 then decide (n = 0) && decide (s.size ≤ 40) && okText s else false

set_option maxHeartbeats 8000000 in
theorem right1_any (r : Nat) (w : World) : Calls Tryd.prog 25 #[.int .i32 (r : Int)] w fun e w' => e = .returned (.bool (badL r)) ∧ ∃ q, w' = w.drewN q := by
  unfold badL
  by_cases h1 : r < 32
  · have f : (decide (r < 32) || decide (126 < r) || decide (r = 39)) = true := by simp [h1]
    rw [f]
    go_enter Tryd.func25, Tryd.ntmps25
    go_wp2
    go_ret
    exact ⟨rfl, 0, rfl⟩
  · by_cases h2 : 126 < r
    · have f : (decide (r < 32) || decide (126 < r) || decide (r = 39)) = true := by simp [h2]
      rw [f]
      go_enter Tryd.func25, Tryd.ntmps25
      go_wp2
      go_ret
      exact ⟨rfl, 0, rfl⟩
    · by_cases h3 : r = 39
      · subst h3
        go_enter Tryd.func25, Tryd.ntmps25
        go_wp2
        go_ret
        exact ⟨rfl, 0, rfl⟩
      · have f : (decide (r < 32) || decide (126 < r) || decide (r = 39)) = false := by simp [h1, h2, h3]
        have b3 : ((r : Int) == 39) = false := by simp; omega
        rw [f]
        have c1 : (decide ((r : Int) < 32)) = false := by simp; omega
        have c2 : (decide ((126 : Int) < r)) = false := by simp; omega
        go_enter Tryd.func25, Tryd.ntmps25
        go_wp2
        go_ret
        exact ⟨rfl, 0, rfl⟩
theorem nil_iff (s : ByteArray) : s.toList = [] ↔ s = ⟨#[]⟩ := by
  rw [ByteArray.toList_eq]
  constructor
  · intro h; apply ByteArray.ext; apply Array.toList_inj.1; simpa using h
  · intro h; rw [h]
theorem right1_at (w : World) : PredAt Tryd.prog 25 #[] encR badL w := fun W x _ => right1_any x W
theorem enters_right1 : ∀ (args : Array Value) (w : World), (callFunc 25 args).run Tryd.prog w = .ok (.enter 25 args) w := by
  exact Go.Proofs.enters_of Tryd.func25 (by kernel_rfl) rfl

set_option maxHeartbeats 8000000 in
theorem right_any (k n : Int) (s : ByteArray) (w : World) :
    Calls Tryd.prog 11 #[.agg #[.int .i64 k, .int .i64 n, .string s]] w fun e w' => e = .returned (.bool (rightB k n s)) ∧ Ext w w' := by
  by_cases k0 : k = 0
  · subst k0
    by_cases hn : n = 0
    · subst hn
      by_cases hs : s = ⟨#[]⟩
      · subst hs
        have f : rightB 0 0 ⟨#[]⟩ = true := by simp [rightB]
        rw [f]; clear f
        go_enter Tryd.func11, Tryd.ntmps11
        go_wp2
        go_ret
        refine ⟨rfl, ?_⟩
        (repeat (first | with_reducible exact Ext.refl _ | with_reducible assumption | with_reducible refine Ext.drew ?_ | with_reducible refine Ext.alloc ?_ _ | with_reducible refine Ext.drewN ?_ _ | refine Ext.trans ?_ (by with_reducible assumption)))
      · have f : rightB 0 0 s = false := by simp [rightB, hs]
        have hs' : ¬ s.toList = [] := by rw [nil_iff]; exact hs
        rw [f]; clear f hs
        go_enter Tryd.func11, Tryd.ntmps11
        go_wp2
        go_ret
        refine ⟨rfl, ?_⟩
        (repeat (first | with_reducible exact Ext.refl _ | with_reducible assumption | with_reducible refine Ext.drew ?_ | with_reducible refine Ext.alloc ?_ _ | with_reducible refine Ext.drewN ?_ _ | refine Ext.trans ?_ (by with_reducible assumption)))
    · have f : rightB 0 n s = false := by simp [rightB, hn]
      rw [f]; clear f
      go_enter Tryd.func11, Tryd.ntmps11
      go_wp2
      go_ret
      refine ⟨rfl, ?_⟩
      (repeat (first | with_reducible exact Ext.refl _ | with_reducible assumption | with_reducible refine Ext.drew ?_ | with_reducible refine Ext.alloc ?_ _ | with_reducible refine Ext.drewN ?_ _ | refine Ext.trans ?_ (by with_reducible assumption)))
  · have b0 : (k == 0) = false := by simp [k0]
    by_cases k1 : k = 1
    · subst k1
      by_cases hs : s = ⟨#[]⟩
      · subst hs
        have f : rightB 1 n ⟨#[]⟩ = true := by simp [rightB]
        rw [f]; clear f
        go_enter Tryd.func11, Tryd.ntmps11
        go_wp2
        go_ret
        refine ⟨rfl, ?_⟩
        (repeat (first | with_reducible exact Ext.refl _ | with_reducible assumption | with_reducible refine Ext.drew ?_ | with_reducible refine Ext.alloc ?_ _ | with_reducible refine Ext.drewN ?_ _ | refine Ext.trans ?_ (by with_reducible assumption)))
      · have f : rightB 1 n s = false := by simp [rightB, hs]
        have hs' : s.toList.isEmpty = false := by simpa [nil_iff] using hs
        rw [f]; clear f hs
        go_enter Tryd.func11, Tryd.ntmps11
        go_wp2
        go_ret
        refine ⟨?_, ?_⟩
        · simp [hs']
        · (repeat (first | with_reducible exact Ext.refl _ | with_reducible assumption | with_reducible refine Ext.drew ?_ | with_reducible refine Ext.alloc ?_ _ | with_reducible refine Ext.drewN ?_ _ | refine Ext.trans ?_ (by with_reducible assumption)))
    · have b1 : (k == 1) = false := by simp [k1]
      by_cases k2 : k = 2
      · subst k2
        clear k0 k1 b0 b1
        by_cases hn : n = 0
        · subst hn
          by_cases hz : s.size ≤ 40
          · have f : rightB 2 0 s = decide (Lib.idxFunc badL true s < 0) := by rw [idx_ok]; simp [rightB, hz]
            rw [f]; clear f
            go_enter Tryd.func11, Tryd.ntmps11
            go_wp2_with (go_at_call 24; refine (Tryd.strings_IndexFunc 25 #[] enters_right1 badL _ _ (right1_at _)).mono ?_; rintro e w1 ⟨rfl, hb1⟩; have hx1 := Ext.mk hb1; clear hb1)

            go_ret
            refine ⟨rfl, ?_⟩
            (repeat (first | with_reducible exact Ext.refl _ | with_reducible assumption | with_reducible refine Ext.drew ?_ | with_reducible refine Ext.alloc ?_ _ | with_reducible refine Ext.drewN ?_ _ | refine Ext.trans ?_ (by with_reducible assumption)))
          · have f : rightB 2 0 s = false := by simp [rightB, hz]
            rw [f]; clear f
            go_enter Tryd.func11, Tryd.ntmps11
            go_wp2_with fail
            go_ret
            refine ⟨rfl, ?_⟩
            (repeat (first | with_reducible exact Ext.refl _ | with_reducible assumption | with_reducible refine Ext.drew ?_ | with_reducible refine Ext.alloc ?_ _ | with_reducible refine Ext.drewN ?_ _ | refine Ext.trans ?_ (by with_reducible assumption)))
        · have f : rightB 2 n s = false := by simp [rightB, hn]
          have bn : (n == 0) = false := by simp [hn]
          rw [f]; clear f hn
          go_enter Tryd.func11, Tryd.ntmps11
          go_wp2_with fail
          go_ret
          refine ⟨rfl, ?_⟩
          (repeat (first | with_reducible exact Ext.refl _ | with_reducible assumption | with_reducible refine Ext.drew ?_ | with_reducible refine Ext.alloc ?_ _ | with_reducible refine Ext.drewN ?_ _ | refine Ext.trans ?_ (by with_reducible assumption)))
      · have b2 : (k == 2) = false := by simp [k2]
        have f : rightB k n s = false := by simp [rightB, k0, k1, k2]
        rw [f]
        clear f k0 k1 k2
        go_enter Tryd.func11, Tryd.ntmps11
        go_wp2
        go_ret
        refine ⟨rfl, ?_⟩
        (repeat (first | with_reducible exact Ext.refl _ | with_reducible assumption | with_reducible refine Ext.drew ?_ | with_reducible refine Ext.alloc ?_ _ | with_reducible refine Ext.drewN ?_ _ | refine Ext.trans ?_ (by with_reducible assumption)))
end Go.Proofs.YtmfilblbofkmcaaDoor

/- schema.Name: what it answers. -/
namespace Go.Proofs.YtmfilblbofkmcaaDoor
set_option linter.all false
set_option linter.unusedSimpArgs false
set_option linter.unusedVariables false
open Go.RowKit
def lettersL : List UInt8 := [97, 98, 99, 100, 101, 102, 103, 104, 105, 106, 107, 108, 109, 110, 111, 112, 113, 114, 115, 116, 117, 118, 119, 120, 121, 122]
def cutL : List UInt8 := lettersL ++ [48, 49, 50, 51, 52, 53, 54, 55, 56, 57, 95]
/-- what schema.Name answers -/
def nameB (s : ByteArray) : Bool := decide (0 < s.size) && decide (s.size ≤ 16) && decide ((0 : Int) ≤ Lib.indexByte lettersL (s.data.toList.headD 0)) && (Lib.trimS s.data.toList cutL).isEmpty
theorem trim_any (s : ByteArray) (hs : s.size ≤ 1000000) (w : World) : Calls Tryd.prog 10 #[.string s, .string ⟨cutL.toArray⟩] w fun e w' => e = .returned (.string ⟨(Lib.trimS s.data.toList cutL).toArray⟩) ∧ Ext w w' :=
  Any.strings_Trim_laid Tryd.lays160 (by kernel_rfl) s ⟨cutL.toArray⟩ w (by omega) (by decide) (Go.Proofs.ascii_of_all (by decide))
set_option maxRecDepth 100000 in
set_option maxHeartbeats 8000000 in
theorem name_any (s : ByteArray) (w : World) : Calls Tryd.prog 68 #[.string s] w fun e w' => e = .returned (.bool (nameB s)) ∧ Ext w w' := by
  have hS := Hp.init w
  have hR := Reads.nil w
  by_cases h0 : s.size = 0
  · have e : nameB s = false := by unfold nameB; simp [h0]
    have hs : s = ⟨#[]⟩ := by apply ByteArray.ext; apply Array.eq_empty_of_size_eq_zero; exact h0
    rw [e]
    subst hs
    clear e h0
    go_enter Tryd.func68, Tryd.ntmps68
    go_wp2_with (first | ((with_reducible first | refine nhLa ?_ | refine nhLs ?_ | refine nhLd ?_ | refine nhCa ?_ | refine nhCs ?_ | refine nhCd ?_ | refine nhPa ?_ | refine nhPs ?_ | refine nhPd ?_ | refine nhKa ?_ | refine nhKs ?_ | refine nhKd ?_); ((try clear hF); clear hS; intro wk hS; (try simp only [List.set_cons_zero, List.set_cons_succ, heap_size, heap_set_size] at hS); ((try clear hF); (first | have hF := And.intro hS.facts (HRD.out _ (hS.sub (by first | simp | ((repeat (first | exact List.nil_sublist _ | exact List.Sublist.refl _ | with_reducible apply List.Sublist.cons₂ | apply List.Sublist.cons)))))) | have hF := And.intro hS.facts (hR.at hS.ext) | have hF := hS.facts); simp only [HFacts, cellFacts, RFacts, cellOnly, and_true, true_and, Nat.zero_add, Nat.reduceAdd] at hF))) | fail)
    go_ret
    exact ⟨rfl, hS.ext⟩
  by_cases h16 : 16 < s.size
  · have e : nameB s = false := by unfold nameB; simp; omega
    have hne : s.toList.isEmpty = false := by
      rw [Lib.toList_data]
      cases h : s.data.toList with
      | nil => have := Lib.size_eq s; rw [h, List.length_nil] at this; omega
      | cons _ _ => rfl
    rw [e]
    clear e
    go_enter Tryd.func68, Tryd.ntmps68
    go_wp2_with (first | ((with_reducible first | refine nhLa ?_ | refine nhLs ?_ | refine nhLd ?_ | refine nhCa ?_ | refine nhCs ?_ | refine nhCd ?_ | refine nhPa ?_ | refine nhPs ?_ | refine nhPd ?_ | refine nhKa ?_ | refine nhKs ?_ | refine nhKd ?_); ((try clear hF); clear hS; intro wk hS; (try simp only [List.set_cons_zero, List.set_cons_succ, heap_size, heap_set_size] at hS); ((try clear hF); (first | have hF := And.intro hS.facts (HRD.out _ (hS.sub (by first | simp | ((repeat (first | exact List.nil_sublist _ | exact List.Sublist.refl _ | with_reducible apply List.Sublist.cons₂ | apply List.Sublist.cons)))))) | have hF := And.intro hS.facts (hR.at hS.ext) | have hF := hS.facts); simp only [HFacts, cellFacts, RFacts, cellOnly, and_true, true_and, Nat.zero_add, Nat.reduceAdd] at hF))) | fail)
    go_ret
    exact ⟨rfl, hS.ext⟩
  have hne : s.toList.isEmpty = false := by
    rw [Lib.toList_data]
    cases h : s.data.toList with
    | nil => have := Lib.size_eq s; rw [h, List.length_nil] at this; omega
    | cons _ _ => rfl
  have hb0 : (0 : Int) < (s.size : Int) := by omega
  have hb1 : 0 < s.size := by omega
  have hd : s.data.toList.headD 0 = s[0] := by
    have e : s.data.toList[0]? = some s[0] := List.getElem?_eq_getElem (by exact hb1)
    cases h : s.data.toList with
    | nil => rw [h] at e; cases e
    | cons a l => rw [h] at e; exact Option.some.inj e
  have HI := Lib.hid (fun W => show Calls Tryd.prog 53 #[.string ⟨#[97, 98, 99, 100, 101, 102, 103, 104, 105, 106, 107, 108, 109, 110, 111, 112, 113, 114, 115, 116, 117, 118, 119, 120, 121, 122]⟩, .int .u8 (s[0].toNat : Int)] W fun e w' => e = .returned (.int .i64 (Lib.indexByte lettersL s[0])) ∧ Ext W w' from by
    refine (Tryd.strings_IndexByte ⟨lettersL.toArray⟩ (s[0].toNat : Int) W).mono fun e w' ⟨h1, h2⟩ => ⟨?_, by rw [h2]; exact Ext.refl _⟩
    rw [h1]
    congr 3
    simp)
  have HT := Lib.hid (fun W => show Calls Tryd.prog 10 #[.string s, .string ⟨#[97, 98, 99, 100, 101, 102, 103, 104, 105, 106, 107, 108, 109, 110, 111, 112, 113, 114, 115, 116, 117, 118, 119, 120, 121, 122, 48, 49, 50, 51, 52, 53, 54, 55, 56, 57, 95]⟩] W fun e w' => e = .returned (.string ⟨(Lib.trimS s.data.toList cutL).toArray⟩) ∧ Ext W w' from trim_any s (by omega) W)
  have e : nameB s = (decide ((0 : Int) ≤ Lib.indexByte lettersL s[0]) && (Lib.trimS s.data.toList cutL).isEmpty) := by
    unfold nameB
    rw [decide_eq_true hb1, decide_eq_true (by omega : s.size ≤ 16), hd]
    simp
  rw [e]
  obtain ⟨ix, hix⟩ : ∃ ix, ix = Lib.indexByte lettersL s[0] := ⟨_, rfl⟩
  obtain ⟨ts, hts⟩ : ∃ ts : ByteArray, ts = ⟨(Lib.trimS s.data.toList cutL).toArray⟩ := ⟨_, rfl⟩
  rw [← hix] at HI ⊢
  rw [← hts] at HT
  have he2 : (Lib.trimS s.data.toList cutL).isEmpty = ts.toList.isEmpty := by rw [hts, Lib.toList_data]
  rw [he2]
  clear e hix hts he2 hd
  by_cases hx : (0 : Int) ≤ ix
  · have hxd : decide ((0 : Int) ≤ ix) = true := by simp [hx]
    rw [hxd, Bool.true_and]
    clear hxd
    cases hte : ts.toList.isEmpty with
    | true =>
      go_enter Tryd.func68, Tryd.ntmps68
      go_wp2_with (first | ((with_reducible first | refine nhLa ?_ | refine nhLs ?_ | refine nhLd ?_ | refine nhCa ?_ | refine nhCs ?_ | refine nhCd ?_ | refine nhPa ?_ | refine nhPs ?_ | refine nhPd ?_ | refine nhKa ?_ | refine nhKs ?_ | refine nhKd ?_); ((try clear hF); clear hS; intro wk hS; (try simp only [List.set_cons_zero, List.set_cons_succ, heap_size, heap_set_size] at hS); ((try clear hF); (first | have hF := And.intro hS.facts (HRD.out _ (hS.sub (by first | simp | ((repeat (first | exact List.nil_sublist _ | exact List.Sublist.refl _ | with_reducible apply List.Sublist.cons₂ | apply List.Sublist.cons)))))) | have hF := And.intro hS.facts (hR.at hS.ext) | have hF := hS.facts); simp only [HFacts, cellFacts, RFacts, cellOnly, and_true, true_and, Nat.zero_add, Nat.reduceAdd] at hF))) | (go_at_call 53; (with_reducible refine (HI.out _).mono ?_); rintro e wk ⟨rfl, hX⟩; replace hS := hS.step hX; clear hX; ((try clear hF); (first | have hF := And.intro hS.facts (HRD.out _ (hS.sub (by first | simp | ((repeat (first | exact List.nil_sublist _ | exact List.Sublist.refl _ | with_reducible apply List.Sublist.cons₂ | apply List.Sublist.cons)))))) | have hF := And.intro hS.facts (hR.at hS.ext) | have hF := hS.facts); simp only [HFacts, cellFacts, RFacts, cellOnly, and_true, true_and, Nat.zero_add, Nat.reduceAdd] at hF)) | (go_at_call 10; (with_reducible refine (HT.out _).mono ?_); rintro e wk ⟨rfl, hX⟩; replace hS := hS.step hX; clear hX; ((try clear hF); (first | have hF := And.intro hS.facts (HRD.out _ (hS.sub (by first | simp | ((repeat (first | exact List.nil_sublist _ | exact List.Sublist.refl _ | with_reducible apply List.Sublist.cons₂ | apply List.Sublist.cons)))))) | have hF := And.intro hS.facts (hR.at hS.ext) | have hF := hS.facts); simp only [HFacts, cellFacts, RFacts, cellOnly, and_true, true_and, Nat.zero_add, Nat.reduceAdd] at hF)))
      go_ret
      exact ⟨rfl, hS.ext⟩
    | false =>
      go_enter Tryd.func68, Tryd.ntmps68
      go_wp2_with (first | ((with_reducible first | refine nhLa ?_ | refine nhLs ?_ | refine nhLd ?_ | refine nhCa ?_ | refine nhCs ?_ | refine nhCd ?_ | refine nhPa ?_ | refine nhPs ?_ | refine nhPd ?_ | refine nhKa ?_ | refine nhKs ?_ | refine nhKd ?_); ((try clear hF); clear hS; intro wk hS; (try simp only [List.set_cons_zero, List.set_cons_succ, heap_size, heap_set_size] at hS); ((try clear hF); (first | have hF := And.intro hS.facts (HRD.out _ (hS.sub (by first | simp | ((repeat (first | exact List.nil_sublist _ | exact List.Sublist.refl _ | with_reducible apply List.Sublist.cons₂ | apply List.Sublist.cons)))))) | have hF := And.intro hS.facts (hR.at hS.ext) | have hF := hS.facts); simp only [HFacts, cellFacts, RFacts, cellOnly, and_true, true_and, Nat.zero_add, Nat.reduceAdd] at hF))) | (go_at_call 53; (with_reducible refine (HI.out _).mono ?_); rintro e wk ⟨rfl, hX⟩; replace hS := hS.step hX; clear hX; ((try clear hF); (first | have hF := And.intro hS.facts (HRD.out _ (hS.sub (by first | simp | ((repeat (first | exact List.nil_sublist _ | exact List.Sublist.refl _ | with_reducible apply List.Sublist.cons₂ | apply List.Sublist.cons)))))) | have hF := And.intro hS.facts (hR.at hS.ext) | have hF := hS.facts); simp only [HFacts, cellFacts, RFacts, cellOnly, and_true, true_and, Nat.zero_add, Nat.reduceAdd] at hF)) | (go_at_call 10; (with_reducible refine (HT.out _).mono ?_); rintro e wk ⟨rfl, hX⟩; replace hS := hS.step hX; clear hX; ((try clear hF); (first | have hF := And.intro hS.facts (HRD.out _ (hS.sub (by first | simp | ((repeat (first | exact List.nil_sublist _ | exact List.Sublist.refl _ | with_reducible apply List.Sublist.cons₂ | apply List.Sublist.cons)))))) | have hF := And.intro hS.facts (hR.at hS.ext) | have hF := hS.facts); simp only [HFacts, cellFacts, RFacts, cellOnly, and_true, true_and, Nat.zero_add, Nat.reduceAdd] at hF)))
      go_ret
      exact ⟨rfl, hS.ext⟩
  · have hxd : decide ((0 : Int) ≤ ix) = false := by simp; omega
    rw [hxd, Bool.false_and]
    clear hxd
    go_enter Tryd.func68, Tryd.ntmps68
    go_wp2_with (first | ((with_reducible first | refine nhLa ?_ | refine nhLs ?_ | refine nhLd ?_ | refine nhCa ?_ | refine nhCs ?_ | refine nhCd ?_ | refine nhPa ?_ | refine nhPs ?_ | refine nhPd ?_ | refine nhKa ?_ | refine nhKs ?_ | refine nhKd ?_); ((try clear hF); clear hS; intro wk hS; (try simp only [List.set_cons_zero, List.set_cons_succ, heap_size, heap_set_size] at hS); ((try clear hF); (first | have hF := And.intro hS.facts (HRD.out _ (hS.sub (by first | simp | ((repeat (first | exact List.nil_sublist _ | exact List.Sublist.refl _ | with_reducible apply List.Sublist.cons₂ | apply List.Sublist.cons)))))) | have hF := And.intro hS.facts (hR.at hS.ext) | have hF := hS.facts); simp only [HFacts, cellFacts, RFacts, cellOnly, and_true, true_and, Nat.zero_add, Nat.reduceAdd] at hF))) | (go_at_call 53; (with_reducible refine (HI.out _).mono ?_); rintro e wk ⟨rfl, hX⟩; replace hS := hS.step hX; clear hX; ((try clear hF); (first | have hF := And.intro hS.facts (HRD.out _ (hS.sub (by first | simp | ((repeat (first | exact List.nil_sublist _ | exact List.Sublist.refl _ | with_reducible apply List.Sublist.cons₂ | apply List.Sublist.cons)))))) | have hF := And.intro hS.facts (hR.at hS.ext) | have hF := hS.facts); simp only [HFacts, cellFacts, RFacts, cellOnly, and_true, true_and, Nat.zero_add, Nat.reduceAdd] at hF)) | (go_at_call 10; (with_reducible refine (HT.out _).mono ?_); rintro e wk ⟨rfl, hX⟩; replace hS := hS.step hX; clear hX; ((try clear hF); (first | have hF := And.intro hS.facts (HRD.out _ (hS.sub (by first | simp | ((repeat (first | exact List.nil_sublist _ | exact List.Sublist.refl _ | with_reducible apply List.Sublist.cons₂ | apply List.Sublist.cons)))))) | have hF := And.intro hS.facts (hR.at hS.ext) | have hF := hS.facts); simp only [HFacts, cellFacts, RFacts, cellOnly, and_true, true_and, Nat.zero_add, Nat.reduceAdd] at hF)))
    go_ret
    exact ⟨rfl, hS.ext⟩
end Go.Proofs.YtmfilblbofkmcaaDoor

/- Slices of values: what their cells hold. -/
namespace Go.Proofs.YtmfilblbofkmcaaDoor
set_option linter.all false
set_option linter.unusedSimpArgs false
set_option linter.unusedVariables false
open Go.RowKit

/-- the slice at A reads as the values l -/
def RV (w : World) (A : Option Addr) (l : List GV) : Prop :=
  ∀ (i : Nat) (x : GV), l[i]? = some x → ∃ b o : Nat, A = some ⟨b, o, none⟩ ∧ w.cell? ⟨b, o + i * 3, none⟩ = some (.int .i64 x.kind) ∧ w.cell? ⟨b, o + i * 3 + 1, none⟩ = some (.int .i64 x.num) ∧ w.cell? ⟨b, o + i * 3 + 2, none⟩ = some (.string x.text)
theorem RV.ext {w w' : World} {A : Option Addr} {l : List GV} (h : RV w A l) (hx : Ext w w') : RV w' A l := fun i x hi => by
  obtain ⟨b, o, hA, h0, h1, h2⟩ := h i x hi
  exact ⟨b, o, hA, hx.keeps h0, hx.keeps h1, hx.keeps h2⟩

/-- the cells of values -/
def cellsV : List GV → List Value
  | [] => []
  | x :: l => .int .i64 x.kind :: .int .i64 x.num :: .string x.text :: cellsV l
theorem cellsV_len : ∀ l : List GV, (cellsV l).length = l.length * 3
  | [] => rfl
  | x :: l => by simp [cellsV, cellsV_len l]; omega
theorem cellsV_at : ∀ (l : List GV) (i : Nat) (x : GV), l[i]? = some x → (cellsV l)[i * 3]? = some (.int .i64 x.kind) ∧ (cellsV l)[i * 3 + 1]? = some (.int .i64 x.num) ∧ (cellsV l)[i * 3 + 2]? = some (.string x.text)
  | [], i, x, h => by simp at h
  | y :: l, 0, x, h => by simp at h; subst h; simp [cellsV]
  | y :: l, i + 1, x, h => by
    have := cellsV_at l i x (by simpa using h)
    rw [show (i + 1) * 3 = i * 3 + 3 by omega]
    simpa [cellsV] using this
theorem RV.block {w : World} {l : List GV} {g : Nat} {cs : Array Value} {t : TypeId} {fr : Nat × Nat} (h : w.heap[g]? = some (.cells cs t fr)) (hcs : cs = (cellsV l).toArray) : RV w (some ⟨g, 0, none⟩) l := fun i x hi => by
  subst hcs
  obtain ⟨h0, h1, h2⟩ := cellsV_at l i x hi
  refine ⟨g, 0, rfl, ?_, ?_, ?_⟩ <;> simp [World.cell?, h, *]
theorem RV.own {w : World} {B : Nat} {e : TypeId} {g cap n : Nat} {l : List GV} (h : w.ownsRow B e 3 (.slice (some ⟨g, 0, none⟩) n cap) n (cellsV l)) : RV w (some ⟨g, 0, none⟩) l := fun i x hi => by
  obtain ⟨h0, h1, h2⟩ := cellsV_at l i x hi
  have hn : l.length = n := by have := h.1; rw [cellsV_len] at this; omega
  have hi' : i < n := by rw [← hn]; exact (List.getElem?_eq_some_iff.1 hi).1
  refine ⟨g, 0, rfl, ?_, ?_, ?_⟩
  · rw [Nat.zero_add, h.cellAt _ (by omega), h0]
  · rw [Nat.zero_add, h.cellAt _ (by omega), h1]
  · rw [Nat.zero_add, h.cellAt _ (by omega), h2]

/-- what millpondkeep.right asks of a value -/
def okV (x : GV) : Bool := decide (x.text.size ≤ 100) && rightB x.kind x.num x.text

end Go.Proofs.YtmfilblbofkmcaaDoor

/- millpondkeep.right. -/
namespace Go.Proofs.YtmfilblbofkmcaaDoor
set_option linter.all false
set_option linter.unusedSimpArgs false
set_option linter.unusedVariables false
open Go.RowKit
set_option maxHeartbeats 8000000 in
theorem right_list (l : List GV) (A : Option Addr) (cap : Nat) (w : World) (hr : RV w A l) (hl : l.length ≤ 140737488355328) :
    Calls Tryd.prog 5 #[.slice A l.length cap] w fun e w' => e = .returned (.bool (decide (l.length ≤ 70) && l.all okV)) ∧ Ext w w' := by
  by_cases h70 : l.length ≤ 70
  · rw [show decide (l.length ≤ 70) = true by simp [h70], Bool.true_and]
    obtain ⟨n, hn⟩ : ∃ n, n = l.length := ⟨_, rfl⟩
    rw [← hn]
    have Hn := Lib.hid hn
    rw [← hn] at h70 hl
    clear hn
    go_enter Tryd.func5, Tryd.ntmps5
    go_wp2
    go_loopw [3] (fun i wr => ∃ k : Nat, i = .int .i64 k ∧ k ≤ n ∧ Ext w wr ∧ (l.take k).all okV = true) (fun i _ => n - (intOf i).toNat)
    case atStart => exact ⟨0, rfl, Nat.zero_le _, Ext.refl _, by simp⟩
    case round =>
      obtain ⟨k, rfl, hk, hx, hall⟩ := hrel
      by_cases hlt : k < n
      · have hlt' : k < l.length := by rw [← Hn.out]; exact hlt
        obtain ⟨x, hx'⟩ : ∃ x, l[k]? = some x := ⟨l[k], List.getElem?_eq_getElem hlt'⟩
        obtain ⟨b, o, rfl, c0, c1, c2⟩ := hr.ext hx k x hx'
        have HX := Lib.hid hx'; clear hx' hlt'
        have HA := Lib.hid hall; clear hall hr
        by_cases h100 : x.text.size ≤ 100
        · cases hb : rightB x.kind x.num x.text with
          | true =>
            go_wp2_with (go_at_call 11; refine (right_any _ _ _ _).mono ?_; rintro e w1 ⟨rfl, hw1⟩)
            go_roundw
            case rel =>
              refine ⟨k + 1, by simp, by omega, hx.trans hw1, ?_⟩
              rw [List.take_add_one, HX.out, List.all_append, HA.out]
              simp [okV, h100, hb]
            case measure => simp [intOf]; omega
          | false =>
            have fin : l.all okV = false := by
              rw [List.all_eq_false]
              exact ⟨x, List.mem_of_getElem? HX.out, by simp [okV, hb]⟩
            have FIN := Lib.hid fin; clear fin
            go_wp2_with (go_at_call 11; refine (right_any _ _ _ _).mono ?_; rintro e w1 ⟨rfl, hw1⟩)
            go_ret
            exact ⟨by rw [FIN.out]; rfl, hx.trans hw1⟩
        · have fin : l.all okV = false := by
            rw [List.all_eq_false]
            exact ⟨x, List.mem_of_getElem? HX.out, by simp [okV, h100]⟩
          have FIN := Lib.hid fin; clear fin
          go_wp2
          go_ret
          exact ⟨by rw [FIN.out]; rfl, hx⟩
      · obtain rfl : k = n := by omega
        have fin : l.all okV = true := by rw [← hall, Hn.out, List.take_length]
        have FIN := Lib.hid fin; clear fin
        go_wp2
        go_ret
        exact ⟨by rw [FIN.out]; rfl, hx⟩
  · rw [show decide (l.length ≤ 70) = false by simp [h70], Bool.false_and]
    go_enter Tryd.func5, Tryd.ntmps5
    go_wp2
    go_ret
    exact ⟨rfl, Ext.refl _⟩
end Go.Proofs.YtmfilblbofkmcaaDoor
