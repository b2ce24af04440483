/- slices.Index, IndexFunc, Contains, ContainsFunc, Equal at values. -/
import Derived.Test.YtcpllhjhnfmepaaGreatDoorFW05
namespace Go.Proofs.YtcpllhjhnfmepaaGreatDoor
set_option linter.all false
set_option linter.unusedSimpArgs false
set_option linter.unusedVariables false
open Go.RowKit
def eqG (a b : GV) : Bool := a.kind == b.kind && a.num == b.num && a.text.toList == b.text.toList
theorem text_eqL (a b : ByteArray) : a.toList = b.toList ↔ a = b := by
  rw [ByteArray.toList_eq, ByteArray.toList_eq]
  exact ⟨fun h => ByteArray.ext (Array.toList_inj.1 h), fun h => by rw [h]⟩
theorem eqG_iff (a b : GV) : eqG a b = true ↔ a = b := by
  unfold eqG
  simp only [Bool.and_eq_true, beq_iff_eq, text_eqL]
  constructor
  · rintro ⟨⟨h1, h2⟩, h3⟩; cases a; cases b; simp_all
  · rintro rfl; exact ⟨⟨rfl, rfl⟩, rfl⟩
theorem eqG_self (a : GV) : eqG a a = true := (eqG_iff a a).2 rfl
theorem eqlG (a b : GV) (w : World) :
    (binOp .eql 45 (.agg #[.int .i64 a.kind, .int .i64 a.num, .string a.text]) (.agg #[.int .i64 b.kind, .int .i64 b.num, .string b.text])).run Tryz.prog w = .ok (.bool (eqG a b)) w := by
  unfold eqG
  by_cases h1 : a.kind = b.kind <;> by_cases h2 : a.num = b.num <;> by_cases h3 : a.text.toList = b.text.toList <;> simp [go_sem, h1, h2, h3]
/-- the first place, from k on, where p holds; or -1 -/
def idxP (p : GV → Bool) : Nat → List GV → Int
  | _, [] => -1
  | k, x :: l => if p x then k else idxP p (k + 1) l
theorem idxP_any (p : GV → Bool) : ∀ (l : List GV) (k : Nat), decide (0 ≤ idxP p k l) = l.any p
  | [], k => rfl
  | x :: l, k => by
    unfold idxP
    rw [List.any_cons]
    cases h : p x with
    | true => simp
    | false => simpa using idxP_any p l (k + 1)
/-- the place is one of the list -/
theorem idxP_range (p : GV → Bool) : ∀ (l : List GV) (k : Nat), -1 ≤ idxP p k l ∧ idxP p k l < k + l.length
  | [], k => by simp [idxP]; omega
  | x :: l, k => by
    unfold idxP
    have := idxP_range p l (k + 1)
    split <;> simp <;> omega
theorem drop_at {l : List GV} {k : Nat} {x : GV} (h : l[k]? = some x) : l.drop k = x :: l.drop (k + 1) := by
  obtain ⟨h1, e⟩ := List.getElem?_eq_some_iff.1 h
  rw [List.drop_eq_getElem_cons h1, e]
set_option maxRecDepth 100000 in
set_option maxHeartbeats 8000000 in
theorem index_any (l : List GV) (A : Option Addr) (cap : Nat) (v : GV) (w : World) (hr : RV w A l) (hl : l.length ≤ 140737488355328) :
    Calls Tryz.prog 94 #[.slice A l.length cap, .agg #[.int .i64 v.kind, .int .i64 v.num, .string v.text]] w fun e w' => e = .returned (.int .i64 (idxP (eqG v) 0 l)) ∧ Ext w w' := by
  obtain ⟨n, hn⟩ : ∃ n, n = l.length := ⟨_, rfl⟩
  rw [← hn]
  have Hn := Lib.hid hn
  rw [← hn] at hl
  clear hn
  have hS := Hp.init w
  have hR := Reads.nil w
  go_enter Tryz.func94, Tryz.ntmps94
  go_wp2_with (first | ((with_reducible first | refine nhLa ?_ | refine nhLs ?_ | refine nhLd ?_ | refine nhCa ?_ | refine nhCs ?_ | refine nhCd ?_ | refine nhPa ?_ | refine nhPs ?_ | refine nhPd ?_ | refine nhKa ?_ | refine nhKs ?_ | refine nhKd ?_); ((try clear hF); clear hS; intro wk hS; (try simp only [List.set_cons_zero, List.set_cons_succ, heap_size, heap_set_size] at hS); ((try clear hF); (first | have hF := And.intro hS.facts (hR.at hS.ext) | have hF := hS.facts); simp only [HFacts, cellFacts, RFacts, cellOnly, and_true, true_and, Nat.zero_add, Nat.reduceAdd] at hF))) | fail)
  go_loopw [8, 5] (fun i _ wr => ∃ k : Nat, i = .int .i64 k ∧ k ≤ n ∧ Hid (idxP (eqG v) 0 l = idxP (eqG v) k (l.drop k)) ∧ Hp w.heap.size w wr [.blk w.heap.size [.int .i64 v.kind, .int .i64 v.num, .string v.text] 45]) (fun i _ _ => n - (intOf i).toNat)
  case atStart => exact ⟨0, rfl, Nat.zero_le _, Lib.hid rfl, hS⟩
  case round =>
    clear hS hF
    obtain ⟨k, rfl, hk, hf, hS⟩ := hrel
    by_cases hlt : k < n
    · have hlt' : k < l.length := by rw [← Hn.out]; exact hlt
      obtain ⟨x, hx'⟩ : ∃ x, l[k]? = some x := ⟨l[k], List.getElem?_eq_getElem hlt'⟩
      obtain ⟨b, o, rfl, c0, c1, c2⟩ := hr k x hx'
      have hR := Reads.cell c0 (Reads.cell c1 (Reads.cell c2 (Reads.nil w)))
      have HD := Lib.hid (drop_at hx')
      have b5 := eqlG v x
      clear hx' hlt' c0 c1 c2 hr
      ((try clear hF); (first | have hF := And.intro hS.facts (hR.at hS.ext) | have hF := hS.facts); simp only [HFacts, cellFacts, RFacts, cellOnly, and_true, true_and, Nat.zero_add, Nat.reduceAdd] at hF)
      go_wp2_with (first | ((with_reducible first | refine nhLa ?_ | refine nhLs ?_ | refine nhLd ?_ | refine nhCa ?_ | refine nhCs ?_ | refine nhCd ?_ | refine nhPa ?_ | refine nhPs ?_ | refine nhPd ?_ | refine nhKa ?_ | refine nhKs ?_ | refine nhKd ?_); ((try clear hF); clear hS; intro wk hS; (try simp only [List.set_cons_zero, List.set_cons_succ, heap_size, heap_set_size] at hS); ((try clear hF); (first | have hF := And.intro hS.facts (hR.at hS.ext) | have hF := hS.facts); simp only [HFacts, cellFacts, RFacts, cellOnly, and_true, true_and, Nat.zero_add, Nat.reduceAdd] at hF))) | (first | (with_reducible refine wp_region_hp (draw := true) (by kernel_rfl) (by kernel_rfl) hS ?_) | ((with_reducible refine Fixed.here ?_); (first | ((with_reducible apply Fixed.skip); (first | rfl | exact wanted_false rfl rfl rfl (by assumption)); try simp only [Act.put, List.setIfInBounds_toArray, List.set_cons_zero, List.set_cons_succ]) | ((with_reducible apply Fixed.val); (first | rfl | exact wanted_true rfl rfl rfl (by assumption)); (rintro w hS; ((try clear hF); (first | have hF := And.intro hS.facts (hR.at hS.ext) | have hF := hS.facts); simp only [HFacts, cellFacts, RFacts, cellOnly, and_true, true_and, Nat.zero_add, Nat.reduceAdd] at hF); go_simp; with_reducible rfl); try simp only [Act.put, List.setIfInBounds_toArray, List.set_cons_zero, List.set_cons_succ]) | ((with_reducible apply Fixed.guardT); rfl; rfl; rfl; (all_goals intro hg)) | ((with_reducible apply Fixed.guardF); rfl; rfl; rfl; (all_goals intro hg)) | (with_reducible refine Fixed.done ?_; (try clear hF); clear hS; intro wk hS; ((try clear hF); (first | have hF := And.intro hS.facts (hR.at hS.ext) | have hF := hS.facts); simp only [HFacts, cellFacts, RFacts, cellOnly, and_true, true_and, Nat.zero_add, Nat.reduceAdd] at hF))))))
      · go_ret
        refine ⟨?_, hS.ext⟩
        have hc : eqG v x = true := by assumption
        rw [hf.out, HD.out, idxP, if_pos hc]; first | done | rfl
      · go_roundw
        case rel =>
          have hc : eqG v x = false := by assumption
          exact ⟨k + 1, by go_num, by omega, Lib.hid (by rw [hf.out, HD.out, idxP, if_neg (by rw [hc]; simp)]), hS⟩
        case measure => simp [intOf]; omega
    · obtain rfl : k = n := by omega
      ((try clear hF); (first | have hF := And.intro hS.facts (hR.at hS.ext) | have hF := hS.facts); simp only [HFacts, cellFacts, RFacts, cellOnly, and_true, true_and, Nat.zero_add, Nat.reduceAdd] at hF)
      go_wp2_with (first | ((with_reducible first | refine nhLa ?_ | refine nhLs ?_ | refine nhLd ?_ | refine nhCa ?_ | refine nhCs ?_ | refine nhCd ?_ | refine nhPa ?_ | refine nhPs ?_ | refine nhPd ?_ | refine nhKa ?_ | refine nhKs ?_ | refine nhKd ?_); ((try clear hF); clear hS; intro wk hS; (try simp only [List.set_cons_zero, List.set_cons_succ, heap_size, heap_set_size] at hS); ((try clear hF); (first | have hF := And.intro hS.facts (hR.at hS.ext) | have hF := hS.facts); simp only [HFacts, cellFacts, RFacts, cellOnly, and_true, true_and, Nat.zero_add, Nat.reduceAdd] at hF))) | fail)
      go_ret
      exact ⟨by rw [hf.out, Hn.out, List.drop_length]; rfl, hS.ext⟩
set_option maxRecDepth 100000 in
set_option maxHeartbeats 8000000 in
theorem contains_any (l : List GV) (A : Option Addr) (cap : Nat) (v : GV) (w : World) (hr : RV w A l) (hl : l.length ≤ 140737488355328) :
    Calls Tryz.prog 93 #[.slice A l.length cap, .agg #[.int .i64 v.kind, .int .i64 v.num, .string v.text]] w fun e w' => e = .returned (.bool (l.any (eqG v))) ∧ Ext w w' := by
  have hI := fun (W : World) (hx : Ext w W) => index_any l A cap v W (hr.ext hx) hl
  have HI := Lib.hid hI
  have HA := Lib.hid (idxP_any (eqG v) l 0)
  clear hI hr
  have hS := Hp.init w
  have hR := Reads.nil w
  go_enter Tryz.func93, Tryz.ntmps93
  go_wp2_with (first | ((with_reducible first | refine nhLa ?_ | refine nhLs ?_ | refine nhLd ?_ | refine nhCa ?_ | refine nhCs ?_ | refine nhCd ?_ | refine nhPa ?_ | refine nhPs ?_ | refine nhPd ?_ | refine nhKa ?_ | refine nhKs ?_ | refine nhKd ?_); ((try clear hF); clear hS; intro wk hS; (try simp only [List.set_cons_zero, List.set_cons_succ, heap_size, heap_set_size] at hS); ((try clear hF); (first | have hF := And.intro hS.facts (hR.at hS.ext) | have hF := hS.facts); simp only [HFacts, cellFacts, RFacts, cellOnly, and_true, true_and, Nat.zero_add, Nat.reduceAdd] at hF))) | (go_at_call 94; (with_reducible refine (HI.out _ hS.ext).mono ?_); rintro e wk ⟨rfl, hX⟩; replace hS := hS.step hX; clear hX; ((try clear hF); (first | have hF := And.intro hS.facts (hR.at hS.ext) | have hF := hS.facts); simp only [HFacts, cellFacts, RFacts, cellOnly, and_true, true_and, Nat.zero_add, Nat.reduceAdd] at hF)))
  go_ret
  exact ⟨by rw [HA.out]; first | done | rfl, hS.ext⟩
/-- a function that is called: it answers p of a value, and leaves all as it was -/
def PredOk (w0 : World) (g : Nat) (lb : Array Value) (p : GV → Bool) : Prop :=
  ∀ W, Ext w0 W → ∀ x : GV, Calls Tryz.prog g (#[.agg #[.int .i64 x.kind, .int .i64 x.num, .string x.text]] ++ lb) W fun e w' => e = .returned (.bool (p x)) ∧ Ext W w'
theorem PredOk.at {w0 : World} {g : Nat} {lb : Array Value} {p : GV → Bool} (h : PredOk w0 g lb p) (W : World) (hx : Ext w0 W) (x : GV) : Calls Tryz.prog g (#[.agg #[.int .i64 x.kind, .int .i64 x.num, .string x.text]] ++ lb) W fun e w' => e = .returned (.bool (p x)) ∧ Ext W w' := h W hx x
set_option maxRecDepth 100000 in
set_option maxHeartbeats 8000000 in
theorem indexFunc_any (l : List GV) (A : Option Addr) (cap : Nat) (g : Nat) (lb : Array Value) (p : GV → Bool) (w : World) (hr : RV w A l) (hl : l.length ≤ 140737488355328) (eg : ∀ args w, (callFunc g args).run Tryz.prog w = .ok (.enter g args) w) (hp : PredOk w g lb p) :
    Calls Tryz.prog 91 #[.slice A l.length cap, .func (.func g) #[] lb] w fun e w' => e = .returned (.int .i64 (idxP p 0 l)) ∧ Ext w w' := by
  obtain ⟨n, hn⟩ : ∃ n, n = l.length := ⟨_, rfl⟩
  rw [← hn]
  have Hn := Lib.hid hn
  rw [← hn] at hl
  clear hn
  have HP := Lib.hid hp
  clear hp
  have hS := Hp.init w
  have hR := Reads.nil w
  go_enter Tryz.func91, Tryz.ntmps91
  go_wp2_with (first | ((with_reducible first | refine nhLa ?_ | refine nhLs ?_ | refine nhLd ?_ | refine nhCa ?_ | refine nhCs ?_ | refine nhCd ?_ | refine nhPa ?_ | refine nhPs ?_ | refine nhPd ?_ | refine nhKa ?_ | refine nhKs ?_ | refine nhKd ?_); ((try clear hF); clear hS; intro wk hS; (try simp only [List.set_cons_zero, List.set_cons_succ, heap_size, heap_set_size] at hS); ((try clear hF); (first | have hF := And.intro hS.facts (hR.at hS.ext) | have hF := hS.facts); simp only [HFacts, cellFacts, RFacts, cellOnly, and_true, true_and, Nat.zero_add, Nat.reduceAdd] at hF))) | fail)
  go_loopw [8, 5] (fun i _ wr => ∃ k : Nat, i = .int .i64 k ∧ k ≤ n ∧ Hid (idxP p 0 l = idxP p k (l.drop k)) ∧ Hp w.heap.size w wr []) (fun i _ _ => n - (intOf i).toNat)
  case atStart => exact ⟨0, rfl, Nat.zero_le _, Lib.hid rfl, hS⟩
  case round =>
    clear hS
    obtain ⟨k, rfl, hk, hf, hS⟩ := hrel
    by_cases hlt : k < n
    · have hlt' : k < l.length := by rw [← Hn.out]; exact hlt
      obtain ⟨x, hx'⟩ : ∃ x, l[k]? = some x := ⟨l[k], List.getElem?_eq_getElem hlt'⟩
      obtain ⟨b, o, rfl, c0, c1, c2⟩ := hr k x hx'
      have hR := Reads.cell c0 (Reads.cell c1 (Reads.cell c2 (Reads.nil w)))
      have HD := Lib.hid (drop_at hx')
      clear hx' hlt' c0 c1 c2 hr
      ((try clear hF); (first | have hF := And.intro hS.facts (hR.at hS.ext) | have hF := hS.facts); simp only [HFacts, cellFacts, RFacts, cellOnly, and_true, true_and, Nat.zero_add, Nat.reduceAdd] at hF)
      go_wp2_with (first | ((with_reducible first | refine nhLa ?_ | refine nhLs ?_ | refine nhLd ?_ | refine nhCa ?_ | refine nhCs ?_ | refine nhCd ?_ | refine nhPa ?_ | refine nhPs ?_ | refine nhPd ?_ | refine nhKa ?_ | refine nhKs ?_ | refine nhKd ?_); ((try clear hF); clear hS; intro wk hS; (try simp only [List.set_cons_zero, List.set_cons_succ, heap_size, heap_set_size] at hS); ((try clear hF); (first | have hF := And.intro hS.facts (hR.at hS.ext) | have hF := hS.facts); simp only [HFacts, cellFacts, RFacts, cellOnly, and_true, true_and, Nat.zero_add, Nat.reduceAdd] at hF))) | ((with_reducible refine (HP.out.at _ hS.ext x).mono ?_); rintro e wk ⟨rfl, hX⟩; replace hS := hS.step hX; clear hX; ((try clear hF); (first | have hF := And.intro hS.facts (hR.at hS.ext) | have hF := hS.facts); simp only [HFacts, cellFacts, RFacts, cellOnly, and_true, true_and, Nat.zero_add, Nat.reduceAdd] at hF)))
      · go_ret
        refine ⟨?_, hS.ext⟩
        have hc : p x = true := by assumption
        rw [hf.out, HD.out, idxP, if_pos hc]; first | done | rfl
      · go_roundw
        case rel =>
          have hc : p x = false := by assumption
          exact ⟨k + 1, by go_num, by omega, Lib.hid (by rw [hf.out, HD.out, idxP, if_neg (by rw [hc]; simp)]), hS⟩
        case measure => simp [intOf]; omega
    · obtain rfl : k = n := by omega
      ((try clear hF); (first | have hF := And.intro hS.facts (hR.at hS.ext) | have hF := hS.facts); simp only [HFacts, cellFacts, RFacts, cellOnly, and_true, true_and, Nat.zero_add, Nat.reduceAdd] at hF)
      go_wp2_with (first | ((with_reducible first | refine nhLa ?_ | refine nhLs ?_ | refine nhLd ?_ | refine nhCa ?_ | refine nhCs ?_ | refine nhCd ?_ | refine nhPa ?_ | refine nhPs ?_ | refine nhPd ?_ | refine nhKa ?_ | refine nhKs ?_ | refine nhKd ?_); ((try clear hF); clear hS; intro wk hS; (try simp only [List.set_cons_zero, List.set_cons_succ, heap_size, heap_set_size] at hS); ((try clear hF); (first | have hF := And.intro hS.facts (hR.at hS.ext) | have hF := hS.facts); simp only [HFacts, cellFacts, RFacts, cellOnly, and_true, true_and, Nat.zero_add, Nat.reduceAdd] at hF))) | fail)
      go_ret
      exact ⟨by rw [hf.out, Hn.out, List.drop_length]; rfl, hS.ext⟩
set_option maxRecDepth 100000 in
set_option maxHeartbeats 8000000 in
theorem containsFunc_any (l : List GV) (A : Option Addr) (cap : Nat) (g : Nat) (lb : Array Value) (p : GV → Bool) (w : World) (hr : RV w A l) (hl : l.length ≤ 140737488355328) (eg : ∀ args w, (callFunc g args).run Tryz.prog w = .ok (.enter g args) w) (hp : PredOk w g lb p) :
    Calls Tryz.prog 69 #[.slice A l.length cap, .func (.func g) #[] lb] w fun e w' => e = .returned (.bool (l.any p)) ∧ Ext w w' := by
  have hI := fun (W : World) (hx : Ext w W) => indexFunc_any l A cap g lb p W (hr.ext hx) hl eg (fun W' hx' => hp W' (hx.trans hx'))
  have HI := Lib.hid hI
  have HA := Lib.hid (idxP_any p l 0)
  clear hI hr hp
  have hS := Hp.init w
  have hR := Reads.nil w
  go_enter Tryz.func69, Tryz.ntmps69
  go_wp2_with (first | ((with_reducible first | refine nhLa ?_ | refine nhLs ?_ | refine nhLd ?_ | refine nhCa ?_ | refine nhCs ?_ | refine nhCd ?_ | refine nhPa ?_ | refine nhPs ?_ | refine nhPd ?_ | refine nhKa ?_ | refine nhKs ?_ | refine nhKd ?_); ((try clear hF); clear hS; intro wk hS; (try simp only [List.set_cons_zero, List.set_cons_succ, heap_size, heap_set_size] at hS); ((try clear hF); (first | have hF := And.intro hS.facts (hR.at hS.ext) | have hF := hS.facts); simp only [HFacts, cellFacts, RFacts, cellOnly, and_true, true_and, Nat.zero_add, Nat.reduceAdd] at hF))) | (go_at_call 91; (with_reducible refine (HI.out _ hS.ext).mono ?_); rintro e wk ⟨rfl, hX⟩; replace hS := hS.step hX; clear hX; ((try clear hF); (first | have hF := And.intro hS.facts (hR.at hS.ext) | have hF := hS.facts); simp only [HFacts, cellFacts, RFacts, cellOnly, and_true, true_and, Nat.zero_add, Nat.reduceAdd] at hF)))
  go_ret
  exact ⟨by rw [HA.out]; first | done | rfl, hS.ext⟩
end Go.Proofs.YtcpllhjhnfmepaaGreatDoor
