/- log.literal: a value in letters. -/
import Derived.Test.YtcpnnffnkegamaaGreatDoorLZ10
import Derived.Test.YtcpnnffnkegamaaGreatDoorLZ06
import Derived.Test.YtcpnnffnkegamaaGreatDoorLZ03
import Derived.Deep.DeepCutAuto
namespace Go.Proofs.YtcpnnffnkegamaaGreatDoor
set_option linter.unusedSimpArgs false
set_option linter.unusedVariables false
open Go.RowKit
set_option linter.all false
/-- the value that a text is, as it is written -/
def litOf (s : ByteArray) : Option GV :=
  if (s.toList == [110, 117, 108, 108]) = true then some ⟨0, 0, ⟨#[]⟩⟩
  else match numOf s with
  | some n => some ⟨1, n, ⟨#[]⟩⟩
  | none => if s.size < 2 ∨ s.data.toList.getD 0 0 ≠ 39 ∨ s.data.toList.getD (s.size - 1) 0 ≠ 39 then none
    else if rightB 2 0 (s.extract 1 (s.size - 1)) = true then some ⟨2, 0, s.extract 1 (s.size - 1)⟩ else none
abbrev gvV (v : GV) : Value := .agg #[.int .i64 v.kind, .int .i64 v.num, .string v.text]
/-- what log.literal answers -/
def LitE (s : ByteArray) (e : Ending) : Prop := ∃ (v : GV) (b : Bool), e = .returned (.tuple #[gvV v, .bool b]) ∧ i64 v.num ∧ litOf s = if b = true then some v else none
theorem LitE.mk {s : ByteArray} (v : GV) (b : Bool) (h : i64 v.num) (h2 : litOf s = if b = true then some v else none) : LitE s (.returned (.tuple #[gvV v, .bool b])) := ⟨v, b, rfl, h, h2⟩
theorem getD_at (s : ByteArray) (k : Nat) (h : k < s.size) : s.data.toList.getD k 0 = s[k] := by
  rw [List.getD_eq_getElem?_getD, List.getElem?_eq_getElem (by rw [Array.length_toList]; exact h)]
  rfl
theorem Hp.nameL {B : Nat} {w0 w : World} {L : List Item} (_ : Hp B w0 w L) {g : Nat} {cs : List Value} {T : TypeId} (i : Nat) (_ : L[i]? = some (.blk g cs T)) : ∃ g', g' = g := ⟨g, rfl⟩
theorem u8_neL {a b : UInt8} (h : a ≠ b) : ((a.toNat : Int) != (b.toNat : Int)) = true := by
  simp only [bne_iff_ne, ne_eq]
  intro e
  exact h (UInt8.toNat_inj.1 (by omega))
set_option maxRecDepth 100000 in
set_option maxHeartbeats 8000000 in
theorem literal_any (s : ByteArray) (hs : s.size ≤ 1000000) (w : World) (ht : TabAt w) (hy : SynAt w) (hr : RngAt w) :
    Calls Tryz.prog 52 #[.string s] w fun e w' => LitE s e ∧ Ext w w' := by
  have HP := Lib.hid (fun (W : World) (hx : Ext w W) => parseInt_any s hs W (hy.ext hx) (hr.ext hx))
  have HFM := Lib.hid (fun (n : Int) (hn : i64 n) (W : World) (hx : Ext w W) => format_any n hn W (ht.ext hx))
  clear ht hy hr
  have hS := Hp.init w
  have hR := Reads.nil w
  obtain ⟨nb, hnb⟩ : ∃ x, (s.toList == [110, 117, 108, 108]) = x := ⟨_, rfl⟩
  have HL0 := Lib.hid (show litOf s = if nb = true then some ⟨0, 0, ⟨#[]⟩⟩ else match numOf s with
    | some n => some ⟨1, n, ⟨#[]⟩⟩
    | none => if s.size < 2 ∨ s.data.toList.getD 0 0 ≠ 39 ∨ s.data.toList.getD (s.size - 1) 0 ≠ 39 then none else if rightB 2 0 (s.extract 1 (s.size - 1)) = true then some ⟨2, 0, s.extract 1 (s.size - 1)⟩ else none by unfold litOf; rw [hnb])
  cases nb with
  | true =>
    have HL := Lib.hid (show litOf s = some ⟨0, 0, ⟨#[]⟩⟩ by rw [HL0.out]; rfl)
    clear HL0
    go_enter Tryz.func52, Tryz.ntmps52
    go_wp2_with (first | ((with_reducible first | refine nhLa ?_ | refine nhLs ?_ | refine nhLd ?_ | refine nhCa ?_ | refine nhCs ?_ | refine nhCd ?_ | refine nhPa ?_ | refine nhPs ?_ | refine nhPd ?_ | refine nhKa ?_ | refine nhKs ?_ | refine nhKd ?_); ((try clear hF); clear hS; intro wk hS; (try simp only [List.set_cons_zero, List.set_cons_succ, heap_size, heap_set_size] at hS); ((try clear hF); (first | have hF := And.intro hS.facts (HRD.out _ (hS.sub (by first | simp | ((repeat (first | exact List.nil_sublist _ | exact List.Sublist.refl _ | with_reducible apply List.Sublist.cons₂ | apply List.Sublist.cons)))))) | have hF := And.intro hS.facts (hR.at hS.ext) | have hF := hS.facts); simp only [HFacts, cellFacts, RFacts, cellOnly, and_true, true_and, Nat.zero_add, Nat.reduceAdd] at hF))) | fail)
    refine ⟨rfl, .tuple #[gvV ⟨0, 0, ⟨#[]⟩⟩, .bool true], ?_, LitE.mk ⟨0, 0, ⟨#[]⟩⟩ true (⟨by decide, by decide⟩) HL.out, hS.ext⟩
    simp [results, Tryz.results52, go_sem, hF]
  | false =>
    have HL1 := Lib.hid (show litOf s = match numOf s with
      | some n => some ⟨1, n, ⟨#[]⟩⟩
      | none => if s.size < 2 ∨ s.data.toList.getD 0 0 ≠ 39 ∨ s.data.toList.getD (s.size - 1) 0 ≠ 39 then none else if rightB 2 0 (s.extract 1 (s.size - 1)) = true then some ⟨2, 0, s.extract 1 (s.size - 1)⟩ else none by rw [HL0.out]; rfl)
    clear HL0
    go_enter Tryz.func52, Tryz.ntmps52
    go_upto_region 4 with (first | ((with_reducible first | refine nhLa ?_ | refine nhLs ?_ | refine nhLd ?_ | refine nhCa ?_ | refine nhCs ?_ | refine nhCd ?_ | refine nhPa ?_ | refine nhPs ?_ | refine nhPd ?_ | refine nhKa ?_ | refine nhKs ?_ | refine nhKd ?_); ((try clear hF); clear hS; intro wk hS; (try simp only [List.set_cons_zero, List.set_cons_succ, heap_size, heap_set_size] at hS); ((try clear hF); (first | have hF := And.intro hS.facts (HRD.out _ (hS.sub (by first | simp | ((repeat (first | exact List.nil_sublist _ | exact List.Sublist.refl _ | with_reducible apply List.Sublist.cons₂ | apply List.Sublist.cons)))))) | have hF := And.intro hS.facts (hR.at hS.ext) | have hF := hS.facts); simp only [HFacts, cellFacts, RFacts, cellOnly, and_true, true_and, Nat.zero_add, Nat.reduceAdd] at hF))) | (go_at_call 77; (with_reducible refine Calls.mono (HP.out _ hS.ext) ?_); rintro e wk ⟨⟨n, er, rfl, hend⟩, hX⟩; replace hS := hS.step hX; clear hX; ((try clear hF); (first | have hF := And.intro hS.facts (HRD.out _ (hS.sub (by first | simp | ((repeat (first | exact List.nil_sublist _ | exact List.Sublist.refl _ | with_reducible apply List.Sublist.cons₂ | apply List.Sublist.cons)))))) | have hF := And.intro hS.facts (hR.at hS.ext) | have hF := hS.facts); simp only [HFacts, cellFacts, RFacts, cellOnly, and_true, true_and, Nat.zero_add, Nat.reduceAdd] at hF)))
    have HE := Lib.hid hend
    clear hend HP
    go_cut [22] (fun c wx => c = .bool (numOf s == some n) ∧ ((numOf s == some n) = false → numOf s = none) ∧ Hp w.heap.size w wx [.blk w.heap.size [.int .i64 0, .int .i64 0, .string ⟨#[]⟩] 59])
    case first =>
      rcases HE.out with ⟨rfl, h1⟩ | ⟨⟨tp, pv, rfl⟩, h1⟩
      · have hi := parse_i64 h1
        obtain ⟨eb, heb⟩ : ∃ x, ((itoS n).toList == s.toList) = x := ⟨_, rfl⟩
        have HO := Lib.hid (show numOf s = if eb = true then some n else none by rw [← numOf64_eq]; unfold numOf64; rw [h1]; simp only [heb])
        have HI2 := Lib.hid (HFM.out n hi)
        clear h1 HE hi HFM
        ((try clear hF); (first | have hF := And.intro hS.facts (HRD.out _ (hS.sub (by first | simp | ((repeat (first | exact List.nil_sublist _ | exact List.Sublist.refl _ | with_reducible apply List.Sublist.cons₂ | apply List.Sublist.cons)))))) | have hF := And.intro hS.facts (hR.at hS.ext) | have hF := hS.facts); simp only [HFacts, cellFacts, RFacts, cellOnly, and_true, true_and, Nat.zero_add, Nat.reduceAdd] at hF)
        go_wp2_with (first | ((with_reducible first | refine nhLa ?_ | refine nhLs ?_ | refine nhLd ?_ | refine nhCa ?_ | refine nhCs ?_ | refine nhCd ?_ | refine nhPa ?_ | refine nhPs ?_ | refine nhPd ?_ | refine nhKa ?_ | refine nhKs ?_ | refine nhKd ?_); ((try clear hF); clear hS; intro wk hS; (try simp only [List.set_cons_zero, List.set_cons_succ, heap_size, heap_set_size] at hS); ((try clear hF); (first | have hF := And.intro hS.facts (HRD.out _ (hS.sub (by first | simp | ((repeat (first | exact List.nil_sublist _ | exact List.Sublist.refl _ | with_reducible apply List.Sublist.cons₂ | apply List.Sublist.cons)))))) | have hF := And.intro hS.facts (hR.at hS.ext) | have hF := hS.facts); simp only [HFacts, cellFacts, RFacts, cellOnly, and_true, true_and, Nat.zero_add, Nat.reduceAdd] at hF))) | (go_at_call 78; (with_reducible refine (HI2.out _ hS.ext).mono ?_); rintro e wk ⟨rfl, hX⟩; replace hS := hS.step hX; clear hX; ((try clear hF); (first | have hF := And.intro hS.facts (HRD.out _ (hS.sub (by first | simp | ((repeat (first | exact List.nil_sublist _ | exact List.Sublist.refl _ | with_reducible apply List.Sublist.cons₂ | apply List.Sublist.cons)))))) | have hF := And.intro hS.facts (hR.at hS.ext) | have hF := hS.facts); simp only [HFacts, cellFacts, RFacts, cellOnly, and_true, true_and, Nat.zero_add, Nat.reduceAdd] at hF)))
        go_meet
        case rel =>
          refine ⟨congrArg Value.bool ?_, fun h => ?_, hS⟩
          · rw [HO.out]; cases eb <;> simp
          · rw [HO.out] at h ⊢; cases eb <;> simp at h ⊢
      · have HO := Lib.hid (show numOf s = none by rw [← numOf64_eq]; exact h1)
        clear h1 HE HFM
        ((try clear hF); (first | have hF := And.intro hS.facts (HRD.out _ (hS.sub (by first | simp | ((repeat (first | exact List.nil_sublist _ | exact List.Sublist.refl _ | with_reducible apply List.Sublist.cons₂ | apply List.Sublist.cons)))))) | have hF := And.intro hS.facts (hR.at hS.ext) | have hF := hS.facts); simp only [HFacts, cellFacts, RFacts, cellOnly, and_true, true_and, Nat.zero_add, Nat.reduceAdd] at hF)
        go_wp2_with (first | ((with_reducible first | refine nhLa ?_ | refine nhLs ?_ | refine nhLd ?_ | refine nhCa ?_ | refine nhCs ?_ | refine nhCd ?_ | refine nhPa ?_ | refine nhPs ?_ | refine nhPd ?_ | refine nhKa ?_ | refine nhKs ?_ | refine nhKd ?_); ((try clear hF); clear hS; intro wk hS; (try simp only [List.set_cons_zero, List.set_cons_succ, heap_size, heap_set_size] at hS); ((try clear hF); (first | have hF := And.intro hS.facts (HRD.out _ (hS.sub (by first | simp | ((repeat (first | exact List.nil_sublist _ | exact List.Sublist.refl _ | with_reducible apply List.Sublist.cons₂ | apply List.Sublist.cons)))))) | have hF := And.intro hS.facts (hR.at hS.ext) | have hF := hS.facts); simp only [HFacts, cellFacts, RFacts, cellOnly, and_true, true_and, Nat.zero_add, Nat.reduceAdd] at hF))) | fail)
        go_meet
        case rel => exact ⟨congrArg Value.bool (by rw [HO.out]; rfl), fun _ => HO.out, hS⟩
    case rest =>
      obtain ⟨rfl, hno, hS⟩ := hcut
      have HNO := Lib.hid hno
      clear hno HFM HE
      obtain ⟨b, hb⟩ : ∃ x, (numOf s == some n) = x := ⟨_, rfl⟩
      rw [hb]
      have HB := Lib.hid hb
      clear hb
      cases b with
      | true =>
        have hq : numOf s = some n := by have := HB.out; simpa using this
        have HL := Lib.hid (show litOf s = some ⟨1, n, ⟨#[]⟩⟩ by rw [HL1.out, hq])
        have hi := (numOf_iff.1 hq).1
        have HI := Lib.hid hi
        clear HL1 HB HNO hq hi
        ((try clear hF); (first | have hF := And.intro hS.facts (HRD.out _ (hS.sub (by first | simp | ((repeat (first | exact List.nil_sublist _ | exact List.Sublist.refl _ | with_reducible apply List.Sublist.cons₂ | apply List.Sublist.cons)))))) | have hF := And.intro hS.facts (hR.at hS.ext) | have hF := hS.facts); simp only [HFacts, cellFacts, RFacts, cellOnly, and_true, true_and, Nat.zero_add, Nat.reduceAdd] at hF)
        go_wp2_with (first | ((with_reducible first | refine nhLa ?_ | refine nhLs ?_ | refine nhLd ?_ | refine nhCa ?_ | refine nhCs ?_ | refine nhCd ?_ | refine nhPa ?_ | refine nhPs ?_ | refine nhPd ?_ | refine nhKa ?_ | refine nhKs ?_ | refine nhKd ?_); ((try clear hF); clear hS; intro wk hS; (try simp only [List.set_cons_zero, List.set_cons_succ, heap_size, heap_set_size] at hS); ((try clear hF); (first | have hF := And.intro hS.facts (HRD.out _ (hS.sub (by first | simp | ((repeat (first | exact List.nil_sublist _ | exact List.Sublist.refl _ | with_reducible apply List.Sublist.cons₂ | apply List.Sublist.cons)))))) | have hF := And.intro hS.facts (hR.at hS.ext) | have hF := hS.facts); simp only [HFacts, cellFacts, RFacts, cellOnly, and_true, true_and, Nat.zero_add, Nat.reduceAdd] at hF))) | fail)
        refine ⟨rfl, .tuple #[gvV ⟨1, n, ⟨#[]⟩⟩, .bool true], ?_, LitE.mk ⟨1, n, ⟨#[]⟩⟩ true (HI.out) HL.out, hS.ext⟩
        simp [results, Tryz.results52, go_sem, hF]
      | false =>
        have hq : numOf s = none := HNO.out HB.out
        have HL2 := Lib.hid (show litOf s = if s.size < 2 ∨ s.data.toList.getD 0 0 ≠ 39 ∨ s.data.toList.getD (s.size - 1) 0 ≠ 39 then none else if rightB 2 0 (s.extract 1 (s.size - 1)) = true then some ⟨2, 0, s.extract 1 (s.size - 1)⟩ else none by rw [HL1.out, hq])
        clear HL1 HB HNO hq
        ((try clear hF); (first | have hF := And.intro hS.facts (HRD.out _ (hS.sub (by first | simp | ((repeat (first | exact List.nil_sublist _ | exact List.Sublist.refl _ | with_reducible apply List.Sublist.cons₂ | apply List.Sublist.cons)))))) | have hF := And.intro hS.facts (hR.at hS.ext) | have hF := hS.facts); simp only [HFacts, cellFacts, RFacts, cellOnly, and_true, true_and, Nat.zero_add, Nat.reduceAdd] at hF)
        by_cases h2 : s.size < 2
        · have HL3 := Lib.hid (show litOf s = none by rw [HL2.out, if_pos (Or.inl h2)])
          have h2' : (s.size : Int) < 2 := by omega
          clear HL2
          ((try clear hF); (first | have hF := And.intro hS.facts (HRD.out _ (hS.sub (by first | simp | ((repeat (first | exact List.nil_sublist _ | exact List.Sublist.refl _ | with_reducible apply List.Sublist.cons₂ | apply List.Sublist.cons)))))) | have hF := And.intro hS.facts (hR.at hS.ext) | have hF := hS.facts); simp only [HFacts, cellFacts, RFacts, cellOnly, and_true, true_and, Nat.zero_add, Nat.reduceAdd] at hF)
          go_wp2_with (first | ((with_reducible first | refine nhLa ?_ | refine nhLs ?_ | refine nhLd ?_ | refine nhCa ?_ | refine nhCs ?_ | refine nhCd ?_ | refine nhPa ?_ | refine nhPs ?_ | refine nhPd ?_ | refine nhKa ?_ | refine nhKs ?_ | refine nhKd ?_); ((try clear hF); clear hS; intro wk hS; (try simp only [List.set_cons_zero, List.set_cons_succ, heap_size, heap_set_size] at hS); ((try clear hF); (first | have hF := And.intro hS.facts (HRD.out _ (hS.sub (by first | simp | ((repeat (first | exact List.nil_sublist _ | exact List.Sublist.refl _ | with_reducible apply List.Sublist.cons₂ | apply List.Sublist.cons)))))) | have hF := And.intro hS.facts (hR.at hS.ext) | have hF := hS.facts); simp only [HFacts, cellFacts, RFacts, cellOnly, and_true, true_and, Nat.zero_add, Nat.reduceAdd] at hF))) | fail)
          refine ⟨rfl, .tuple #[gvV ⟨0, 0, ⟨#[]⟩⟩, .bool false], ?_, LitE.mk ⟨0, 0, ⟨#[]⟩⟩ false (⟨by decide, by decide⟩) HL3.out, hS.ext⟩
          simp [results, Tryz.results52, go_sem, hF]
        have h2' : ¬ (s.size : Int) < 2 := by omega
        have hz0 : 0 < s.size := by omega
        have hz1 : s.size - 1 < s.size := by omega
        have hw1 : IntKind.i64.wrap ((s.size : Int) - 1) = ((s.size - 1 : Nat) : Int) := by rw [IntWalk.i64_in _ (by omega)]; omega
        have c0' := getD_at s 0 hz0
        have c1' := getD_at s (s.size - 1) hz1
        by_cases h0 : s.data.toList.getD 0 0 = 39
        case neg =>
          have HL3 := Lib.hid (show litOf s = none by rw [HL2.out, if_pos (Or.inr (Or.inl h0))])
          rw [c0'] at h0
          have hq := u8_neL h0
          clear HL2 c0' c1' h0
          change ((s[0].toNat : Int) != 39) = true at hq
          ((try clear hF); (first | have hF := And.intro hS.facts (HRD.out _ (hS.sub (by first | simp | ((repeat (first | exact List.nil_sublist _ | exact List.Sublist.refl _ | with_reducible apply List.Sublist.cons₂ | apply List.Sublist.cons)))))) | have hF := And.intro hS.facts (hR.at hS.ext) | have hF := hS.facts); simp only [HFacts, cellFacts, RFacts, cellOnly, and_true, true_and, Nat.zero_add, Nat.reduceAdd] at hF)
          go_wp2_with (first | ((with_reducible first | refine nhLa ?_ | refine nhLs ?_ | refine nhLd ?_ | refine nhCa ?_ | refine nhCs ?_ | refine nhCd ?_ | refine nhPa ?_ | refine nhPs ?_ | refine nhPd ?_ | refine nhKa ?_ | refine nhKs ?_ | refine nhKd ?_); ((try clear hF); clear hS; intro wk hS; (try simp only [List.set_cons_zero, List.set_cons_succ, heap_size, heap_set_size] at hS); ((try clear hF); (first | have hF := And.intro hS.facts (HRD.out _ (hS.sub (by first | simp | ((repeat (first | exact List.nil_sublist _ | exact List.Sublist.refl _ | with_reducible apply List.Sublist.cons₂ | apply List.Sublist.cons)))))) | have hF := And.intro hS.facts (hR.at hS.ext) | have hF := hS.facts); simp only [HFacts, cellFacts, RFacts, cellOnly, and_true, true_and, Nat.zero_add, Nat.reduceAdd] at hF))) | fail)
          refine ⟨rfl, .tuple #[gvV ⟨0, 0, ⟨#[]⟩⟩, .bool false], ?_, LitE.mk ⟨0, 0, ⟨#[]⟩⟩ false (⟨by decide, by decide⟩) HL3.out, hS.ext⟩
          simp [results, Tryz.results52, go_sem, hF]
        have c0 : ((s[0].toNat : Int) != 39) = false := by rw [← c0', h0]; rfl
        by_cases h1 : s.data.toList.getD (s.size - 1) 0 = 39
        case neg =>
          have HL3 := Lib.hid (show litOf s = none by rw [HL2.out, if_pos (Or.inr (Or.inr h1))])
          rw [c1'] at h1
          have hq := u8_neL h1
          clear HL2 c0' c1' h0 h1
          change ((s[s.size - 1].toNat : Int) != 39) = true at hq
          ((try clear hF); (first | have hF := And.intro hS.facts (HRD.out _ (hS.sub (by first | simp | ((repeat (first | exact List.nil_sublist _ | exact List.Sublist.refl _ | with_reducible apply List.Sublist.cons₂ | apply List.Sublist.cons)))))) | have hF := And.intro hS.facts (hR.at hS.ext) | have hF := hS.facts); simp only [HFacts, cellFacts, RFacts, cellOnly, and_true, true_and, Nat.zero_add, Nat.reduceAdd] at hF)
          go_wp2_with (first | ((with_reducible first | refine nhLa ?_ | refine nhLs ?_ | refine nhLd ?_ | refine nhCa ?_ | refine nhCs ?_ | refine nhCd ?_ | refine nhPa ?_ | refine nhPs ?_ | refine nhPd ?_ | refine nhKa ?_ | refine nhKs ?_ | refine nhKd ?_); ((try clear hF); clear hS; intro wk hS; (try simp only [List.set_cons_zero, List.set_cons_succ, heap_size, heap_set_size] at hS); ((try clear hF); (first | have hF := And.intro hS.facts (HRD.out _ (hS.sub (by first | simp | ((repeat (first | exact List.nil_sublist _ | exact List.Sublist.refl _ | with_reducible apply List.Sublist.cons₂ | apply List.Sublist.cons)))))) | have hF := And.intro hS.facts (hR.at hS.ext) | have hF := hS.facts); simp only [HFacts, cellFacts, RFacts, cellOnly, and_true, true_and, Nat.zero_add, Nat.reduceAdd] at hF))) | fail)
          refine ⟨rfl, .tuple #[gvV ⟨0, 0, ⟨#[]⟩⟩, .bool false], ?_, LitE.mk ⟨0, 0, ⟨#[]⟩⟩ false (⟨by decide, by decide⟩) HL3.out, hS.ext⟩
          simp [results, Tryz.results52, go_sem, hF]
        have c1 : ((s[s.size - 1].toNat : Int) != 39) = false := by rw [← c1', h1]; rfl
        clear c0' c1'
        have g0 := c0
        have g1 := c1
        obtain ⟨x, hx⟩ : ∃ x, s.extract 1 (s.size - 1) = x := ⟨_, rfl⟩
        have HR := Lib.hid (fun (W : World) => right_any 2 0 x W)
        obtain ⟨b, hb⟩ : ∃ y, rightB 2 0 x = y := ⟨_, rfl⟩
        have HL3 := Lib.hid (show litOf s = if b = true then some ⟨2, 0, x⟩ else none by rw [HL2.out, if_neg (fun h => h.elim h2 (fun h => h.elim (fun k => k h0) (fun k => k h1))), hx, hb])
        rw [hb] at HR
        have HX := Lib.hid hx
        clear hb HL2 h0 h1 c0 c1 hx
        ((try clear hF); (first | have hF := And.intro hS.facts (HRD.out _ (hS.sub (by first | simp | ((repeat (first | exact List.nil_sublist _ | exact List.Sublist.refl _ | with_reducible apply List.Sublist.cons₂ | apply List.Sublist.cons)))))) | have hF := And.intro hS.facts (hR.at hS.ext) | have hF := hS.facts); simp only [HFacts, cellFacts, RFacts, cellOnly, and_true, true_and, Nat.zero_add, Nat.reduceAdd] at hF)
        go_upto_region 9 with (first | ((with_reducible first | refine nhLa ?_ | refine nhLs ?_ | refine nhLd ?_ | refine nhCa ?_ | refine nhCs ?_ | refine nhCd ?_ | refine nhPa ?_ | refine nhPs ?_ | refine nhPd ?_ | refine nhKa ?_ | refine nhKs ?_ | refine nhKd ?_); ((try clear hF); clear hS; intro wk hS; (try simp only [List.set_cons_zero, List.set_cons_succ, heap_size, heap_set_size] at hS); ((try clear hF); (first | have hF := And.intro hS.facts (HRD.out _ (hS.sub (by first | simp | ((repeat (first | exact List.nil_sublist _ | exact List.Sublist.refl _ | with_reducible apply List.Sublist.cons₂ | apply List.Sublist.cons)))))) | have hF := And.intro hS.facts (hR.at hS.ext) | have hF := hS.facts); simp only [HFacts, cellFacts, RFacts, cellOnly, and_true, true_and, Nat.zero_add, Nat.reduceAdd] at hF))) | fail)
        rw [HX.out] at hS hF
        ((with_reducible refine wp_region_tail_hp (id := 9) [.q, .q, .q, .t, .t] (by kernel_rfl) rfl (by kernel_rfl) hS ?_); (repeat ((with_reducible refine Walk.here ?_); (first | ((with_reducible apply Walk.skipQ); (first | rfl | exact wanted_false rfl rfl rfl (by assumption)); (try simp only [Mark.isQ, if_true, Bool.false_eq_true, if_false, Act.put, List.setIfInBounds_toArray, List.set_cons_zero, List.set_cons_succ])) | ((with_reducible apply Walk.skipP); (first | rfl | exact wanted_false rfl rfl rfl (by assumption)); (try simp only [Mark.isQ, if_true, Bool.false_eq_true, if_false, Act.put, List.setIfInBounds_toArray, List.set_cons_zero, List.set_cons_succ])) | ((with_reducible apply Walk.val); (first | rfl | exact wanted_true rfl rfl rfl (by assumption)); (rintro w hS; ((try clear hF); (first | have hF := And.intro hS.facts (HRD.out _ (hS.sub (by first | simp | ((repeat (first | exact List.nil_sublist _ | exact List.Sublist.refl _ | with_reducible apply List.Sublist.cons₂ | apply List.Sublist.cons)))))) | have hF := And.intro hS.facts (hR.at hS.ext) | have hF := hS.facts); simp only [HFacts, cellFacts, RFacts, cellOnly, and_true, true_and, Nat.zero_add, Nat.reduceAdd] at hF); go_simp; with_reducible rfl); (try simp only [Mark.isQ, if_true, Bool.false_eq_true, if_false, Act.put, List.setIfInBounds_toArray, List.set_cons_zero, List.set_cons_succ])) | ((with_reducible apply Walk.pure); (first | rfl | exact wanted_true rfl rfl rfl (by assumption)); (intro w; go_simp; with_reducible rfl); (try simp only [Mark.isQ, if_true, Bool.false_eq_true, if_false, Act.put, List.setIfInBounds_toArray, List.set_cons_zero, List.set_cons_succ])) | ((with_reducible apply Walk.call); (first | rfl | exact wanted_true rfl rfl rfl (by assumption)); (rintro w hS; ((try clear hF); (first | have hF := And.intro hS.facts (HRD.out _ (hS.sub (by first | simp | ((repeat (first | exact List.nil_sublist _ | exact List.Sublist.refl _ | with_reducible apply List.Sublist.cons₂ | apply List.Sublist.cons)))))) | have hF := And.intro hS.facts (hR.at hS.ext) | have hF := hS.facts); simp only [HFacts, cellFacts, RFacts, cellOnly, and_true, true_and, Nat.zero_add, Nat.reduceAdd] at hF); go_simp; exact ⟨rfl, rfl⟩); (rintro w hS; first | (with_reducible exact HR.out w)); (try simp only [Mark.isQ, if_true, Bool.false_eq_true, if_false, Act.put, List.setIfInBounds_toArray, List.set_cons_zero, List.set_cons_succ])) | ((with_reducible apply Walk.blk); (focus (intro w; go_simp; try with_reducible rfl)); (try simp only [Mark.isQ, if_true, Bool.false_eq_true, if_false, Act.put, List.setIfInBounds_toArray, List.set_cons_zero, List.set_cons_succ])) | ((with_reducible apply Walk.tail); (try simp only [Mark.isQ, if_true, Bool.false_eq_true, if_false, Act.put, List.setIfInBounds_toArray, List.set_cons_zero, List.set_cons_succ])) | ((with_reducible apply Walk.guardT); rfl; rfl; rfl; (all_goals intro hg)) | ((with_reducible apply Walk.guardF); rfl; rfl; rfl; (all_goals intro hg))))); refine Walk.done ?_; (try clear hF); clear hS; intro bs wk hS QN hQN; simp only [itemsOf, blksOf, List.map_cons, List.map_nil, List.cons_append, List.nil_append, Nat.reduceAdd, Nat.zero_add] at hS; simp only [tailsOf, putB, Act.put, List.setIfInBounds_toArray, List.set_cons_zero, List.set_cons_succ, Nat.reduceAdd, Nat.zero_add]; ((try clear hF); (first | have hF := And.intro hS.facts (HRD.out _ (hS.sub (by first | simp | ((repeat (first | exact List.nil_sublist _ | exact List.Sublist.refl _ | with_reducible apply List.Sublist.cons₂ | apply List.Sublist.cons)))))) | have hF := And.intro hS.facts (hR.at hS.ext) | have hF := hS.facts); simp only [HFacts, cellFacts, RFacts, cellOnly, and_true, true_and, Nat.zero_add, Nat.reduceAdd] at hF))
        go_wp2_with (first | ((with_reducible first | refine nhLa ?_ | refine nhLs ?_ | refine nhLd ?_ | refine nhCa ?_ | refine nhCs ?_ | refine nhCd ?_ | refine nhPa ?_ | refine nhPs ?_ | refine nhPd ?_ | refine nhKa ?_ | refine nhKs ?_ | refine nhKd ?_); ((try clear hF); clear hS; intro wk hS; (try simp only [List.set_cons_zero, List.set_cons_succ, heap_size, heap_set_size] at hS); ((try clear hF); (first | have hF := And.intro hS.facts (HRD.out _ (hS.sub (by first | simp | ((repeat (first | exact List.nil_sublist _ | exact List.Sublist.refl _ | with_reducible apply List.Sublist.cons₂ | apply List.Sublist.cons)))))) | have hF := And.intro hS.facts (hR.at hS.ext) | have hF := hS.facts); simp only [HFacts, cellFacts, RFacts, cellOnly, and_true, true_and, Nat.zero_add, Nat.reduceAdd] at hF))) | fail)
        refine ⟨rfl, .tuple #[gvV ⟨2, 0, x⟩, .bool b], ?_, LitE.mk ⟨2, 0, x⟩ b (show i64 0 from ⟨by decide, by decide⟩) HL3.out, hS.ext⟩
        simp [results, Tryz.results52, go_sem, hF]
end Go.Proofs.YtcpnnffnkegamaaGreatDoor
