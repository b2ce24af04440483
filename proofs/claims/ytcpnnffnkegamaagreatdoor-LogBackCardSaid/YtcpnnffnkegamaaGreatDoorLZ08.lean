/- Texts joined: millpondkeep.columns: they are short. slices of columns: Clone, Delete, Equal of the same. slices of a table's files (entries): what their cells hold; Clone, IndexFunc, Delete. log.masks. log.action. log.action: what it does, kind by kind. a table that stands: what an action leaves of it. slices.Equal of the same columns. -/
import Derived.Test.YtcpnnffnkegamaaGreatDoorLZ07
import Derived.Test.YtcpnnffnkegamaaGreatDoorLZ02
import Derived.Test.YtcpnnffnkegamaaGreatDoorLZ05
import Derived.Test.YtcpnnffnkegamaaGreatDoorLZ03
/- millpondkeep.columns: they are short. -/
namespace Go.Proofs.YtcpnnffnkegamaaGreatDoor
set_option linter.all false
set_option linter.unusedSimpArgs false
set_option linter.unusedVariables false
open Go.RowKit
def shortC (c : CG) : Bool := decide (c.name.size ≤ 60) && decide (c.d.text.size ≤ 100)
def shortCs (cs : List CG) : Bool := decide (cs.length ≤ 20) && cs.all shortC
theorem all_upto {α : Type} {p : α → Bool} {l : List α} {k : Nat} {x : α} (h : (l.take k).all p = true) (hx : l[k]? = some x) (hp : p x = true) : (l.take (k + 1)).all p = true := by
  rw [List.take_add_one, List.all_append, h, hx]
  simp [hp]
theorem all_not {α : Type} {p : α → Bool} {l : List α} {k : Nat} {x : α} (hx : l[k]? = some x) (hp : p x = false) : l.all p = false := by
  rw [List.all_eq_false]
  exact ⟨x, List.mem_of_getElem? hx, by rw [hp]; simp⟩
set_option maxRecDepth 100000 in
set_option maxHeartbeats 8000000 in
theorem columns_any (cs : List CG) (A : Option Addr) (n cap : Nat) (w : World) (hn : cs.length = n) (hr : RC w A cs) :
    Calls Tryz.prog 20 #[.slice A n cap] w fun e w' => e = .returned (.bool (shortCs cs)) ∧ Ext w w' := by
  have Hn := Lib.hid hn
  unfold shortCs
  rw [hn]
  clear hn
  have hS := Hp.init w
  have hR := Reads.nil w
  by_cases h20 : 20 < n
  · rw [show decide (n ≤ 20) = false by simp; omega]
    go_enter Tryz.func20, Tryz.ntmps20
    go_wp2_with (first | ((with_reducible first | refine nhLa ?_ | refine nhLs ?_ | refine nhLd ?_ | refine nhCa ?_ | refine nhCs ?_ | refine nhCd ?_ | refine nhPa ?_ | refine nhPs ?_ | refine nhPd ?_ | refine nhKa ?_ | refine nhKs ?_ | refine nhKd ?_); ((try clear hF); clear hS; intro wk hS; (try simp only [List.set_cons_zero, List.set_cons_succ, heap_size, heap_set_size] at hS); ((try clear hF); (first | have hF := And.intro hS.facts (HRD.out _ (hS.sub (by first | simp | ((repeat (first | exact List.nil_sublist _ | exact List.Sublist.refl _ | with_reducible apply List.Sublist.cons₂ | apply List.Sublist.cons)))))) | have hF := And.intro hS.facts (hR.at hS.ext) | have hF := hS.facts); simp only [HFacts, cellFacts, RFacts, cellOnly, and_true, true_and, Nat.zero_add, Nat.reduceAdd] at hF))) | fail)
    go_ret
    exact ⟨rfl, hS.ext⟩
  · rw [show decide (n ≤ 20) = true by simp; omega, Bool.true_and]
    go_enter Tryz.func20, Tryz.ntmps20
    go_wp2_with (first | ((with_reducible first | refine nhLa ?_ | refine nhLs ?_ | refine nhLd ?_ | refine nhCa ?_ | refine nhCs ?_ | refine nhCd ?_ | refine nhPa ?_ | refine nhPs ?_ | refine nhPd ?_ | refine nhKa ?_ | refine nhKs ?_ | refine nhKd ?_); ((try clear hF); clear hS; intro wk hS; (try simp only [List.set_cons_zero, List.set_cons_succ, heap_size, heap_set_size] at hS); ((try clear hF); (first | have hF := And.intro hS.facts (HRD.out _ (hS.sub (by first | simp | ((repeat (first | exact List.nil_sublist _ | exact List.Sublist.refl _ | with_reducible apply List.Sublist.cons₂ | apply List.Sublist.cons)))))) | have hF := And.intro hS.facts (hR.at hS.ext) | have hF := hS.facts); simp only [HFacts, cellFacts, RFacts, cellOnly, and_true, true_and, Nat.zero_add, Nat.reduceAdd] at hF))) | fail)
    go_loopw [3] (fun i wr => ∃ k : Nat, i = .int .i64 k ∧ k ≤ n ∧ Hid ((cs.take k).all shortC = true) ∧ Hp w.heap.size w wr []) (fun i _ => n - (intOf i).toNat)
    case atStart => exact ⟨0, rfl, Nat.zero_le _, Lib.hid rfl, hS⟩
    case round =>
      clear hS
      obtain ⟨k, rfl, hk, hf, hS⟩ := hrel
      by_cases hlt : k < n
      · obtain ⟨c, hc'⟩ : ∃ x, cs[k]? = some x := ⟨cs[k]'(by rw [Hn.out]; exact hlt), List.getElem?_eq_getElem _⟩
        obtain ⟨b, o, rfl, c0, c1, c2, c3, c4, c5, c6⟩ := hr k c hc'
        have hR := Reads.cell c1 (Reads.cell c6 (Reads.nil w))
        have HX := Lib.hid hc'
        clear hc' c0 c1 c2 c3 c4 c5 c6 hr
        by_cases e1 : 60 < c.name.size
        · have HF2 := Lib.hid (all_not HX.out (show shortC c = false by unfold shortC; rw [decide_eq_false (by omega)]; rfl))
          ((try clear hF); (first | have hF := And.intro hS.facts (HRD.out _ (hS.sub (by first | simp | ((repeat (first | exact List.nil_sublist _ | exact List.Sublist.refl _ | with_reducible apply List.Sublist.cons₂ | apply List.Sublist.cons)))))) | have hF := And.intro hS.facts (hR.at hS.ext) | have hF := hS.facts); simp only [HFacts, cellFacts, RFacts, cellOnly, and_true, true_and, Nat.zero_add, Nat.reduceAdd] at hF)
          go_wp2_with (first | ((with_reducible first | refine nhLa ?_ | refine nhLs ?_ | refine nhLd ?_ | refine nhCa ?_ | refine nhCs ?_ | refine nhCd ?_ | refine nhPa ?_ | refine nhPs ?_ | refine nhPd ?_ | refine nhKa ?_ | refine nhKs ?_ | refine nhKd ?_); ((try clear hF); clear hS; intro wk hS; (try simp only [List.set_cons_zero, List.set_cons_succ, heap_size, heap_set_size] at hS); ((try clear hF); (first | have hF := And.intro hS.facts (HRD.out _ (hS.sub (by first | simp | ((repeat (first | exact List.nil_sublist _ | exact List.Sublist.refl _ | with_reducible apply List.Sublist.cons₂ | apply List.Sublist.cons)))))) | have hF := And.intro hS.facts (hR.at hS.ext) | have hF := hS.facts); simp only [HFacts, cellFacts, RFacts, cellOnly, and_true, true_and, Nat.zero_add, Nat.reduceAdd] at hF))) | fail)
          go_ret
          exact ⟨by rw [HF2.out]; rfl, hS.ext⟩
        by_cases e2 : 100 < c.d.text.size
        · have HF2 := Lib.hid (all_not HX.out (show shortC c = false by unfold shortC; rw [decide_eq_false (p := c.d.text.size ≤ 100) (by omega), Bool.and_false]))
          ((try clear hF); (first | have hF := And.intro hS.facts (HRD.out _ (hS.sub (by first | simp | ((repeat (first | exact List.nil_sublist _ | exact List.Sublist.refl _ | with_reducible apply List.Sublist.cons₂ | apply List.Sublist.cons)))))) | have hF := And.intro hS.facts (hR.at hS.ext) | have hF := hS.facts); simp only [HFacts, cellFacts, RFacts, cellOnly, and_true, true_and, Nat.zero_add, Nat.reduceAdd] at hF)
          go_wp2_with (first | ((with_reducible first | refine nhLa ?_ | refine nhLs ?_ | refine nhLd ?_ | refine nhCa ?_ | refine nhCs ?_ | refine nhCd ?_ | refine nhPa ?_ | refine nhPs ?_ | refine nhPd ?_ | refine nhKa ?_ | refine nhKs ?_ | refine nhKd ?_); ((try clear hF); clear hS; intro wk hS; (try simp only [List.set_cons_zero, List.set_cons_succ, heap_size, heap_set_size] at hS); ((try clear hF); (first | have hF := And.intro hS.facts (HRD.out _ (hS.sub (by first | simp | ((repeat (first | exact List.nil_sublist _ | exact List.Sublist.refl _ | with_reducible apply List.Sublist.cons₂ | apply List.Sublist.cons)))))) | have hF := And.intro hS.facts (hR.at hS.ext) | have hF := hS.facts); simp only [HFacts, cellFacts, RFacts, cellOnly, and_true, true_and, Nat.zero_add, Nat.reduceAdd] at hF))) | fail)
          go_ret
          exact ⟨by rw [HF2.out]; rfl, hS.ext⟩
        have HT := Lib.hid (all_upto hf.out HX.out (show shortC c = true by unfold shortC; rw [decide_eq_true (by omega), decide_eq_true (by omega)]; rfl))
        ((try clear hF); (first | have hF := And.intro hS.facts (HRD.out _ (hS.sub (by first | simp | ((repeat (first | exact List.nil_sublist _ | exact List.Sublist.refl _ | with_reducible apply List.Sublist.cons₂ | apply List.Sublist.cons)))))) | have hF := And.intro hS.facts (hR.at hS.ext) | have hF := hS.facts); simp only [HFacts, cellFacts, RFacts, cellOnly, and_true, true_and, Nat.zero_add, Nat.reduceAdd] at hF)
        go_wp2_with (first | ((with_reducible first | refine nhLa ?_ | refine nhLs ?_ | refine nhLd ?_ | refine nhCa ?_ | refine nhCs ?_ | refine nhCd ?_ | refine nhPa ?_ | refine nhPs ?_ | refine nhPd ?_ | refine nhKa ?_ | refine nhKs ?_ | refine nhKd ?_); ((try clear hF); clear hS; intro wk hS; (try simp only [List.set_cons_zero, List.set_cons_succ, heap_size, heap_set_size] at hS); ((try clear hF); (first | have hF := And.intro hS.facts (HRD.out _ (hS.sub (by first | simp | ((repeat (first | exact List.nil_sublist _ | exact List.Sublist.refl _ | with_reducible apply List.Sublist.cons₂ | apply List.Sublist.cons)))))) | have hF := And.intro hS.facts (hR.at hS.ext) | have hF := hS.facts); simp only [HFacts, cellFacts, RFacts, cellOnly, and_true, true_and, Nat.zero_add, Nat.reduceAdd] at hF))) | fail)
        go_roundw
        case rel => exact ⟨k + 1, by go_num, by omega, HT, hS⟩
        case measure => simp [intOf]; omega
      · obtain rfl : k = n := by omega
        ((try clear hF); (first | have hF := And.intro hS.facts (HRD.out _ (hS.sub (by first | simp | ((repeat (first | exact List.nil_sublist _ | exact List.Sublist.refl _ | with_reducible apply List.Sublist.cons₂ | apply List.Sublist.cons)))))) | have hF := And.intro hS.facts (hR.at hS.ext) | have hF := hS.facts); simp only [HFacts, cellFacts, RFacts, cellOnly, and_true, true_and, Nat.zero_add, Nat.reduceAdd] at hF)
        go_wp2_with (first | ((with_reducible first | refine nhLa ?_ | refine nhLs ?_ | refine nhLd ?_ | refine nhCa ?_ | refine nhCs ?_ | refine nhCd ?_ | refine nhPa ?_ | refine nhPs ?_ | refine nhPd ?_ | refine nhKa ?_ | refine nhKs ?_ | refine nhKd ?_); ((try clear hF); clear hS; intro wk hS; (try simp only [List.set_cons_zero, List.set_cons_succ, heap_size, heap_set_size] at hS); ((try clear hF); (first | have hF := And.intro hS.facts (HRD.out _ (hS.sub (by first | simp | ((repeat (first | exact List.nil_sublist _ | exact List.Sublist.refl _ | with_reducible apply List.Sublist.cons₂ | apply List.Sublist.cons)))))) | have hF := And.intro hS.facts (hR.at hS.ext) | have hF := hS.facts); simp only [HFacts, cellFacts, RFacts, cellOnly, and_true, true_and, Nat.zero_add, Nat.reduceAdd] at hF))) | fail)
        go_ret
        refine ⟨?_, hS.ext⟩
        have := hf.out
        rw [← Hn.out, List.take_length] at this
        rw [this]
        rfl
end Go.Proofs.YtcpnnffnkegamaaGreatDoor

/- slices of columns: Clone, Delete, Equal of the same. -/
namespace Go.Proofs.YtcpnnffnkegamaaGreatDoor
set_option linter.all false
set_option linter.unusedSimpArgs false
set_option linter.unusedVariables false
open Go.RowKit
theorem RC.cells {w : World} {b o : Nat} {l : List CG} (h : RC w (some ⟨b, o, none⟩) l) : ∀ (j : Nat) (u : Value), (cellsC l)[j]? = some u → w.cell? ⟨b, o + j, none⟩ = some u := fun j u hj => by
  have hlt : j < l.length * 7 := by rw [← cellsC_len]; exact (List.getElem?_eq_some_iff.1 hj).1
  obtain ⟨c, hc⟩ : ∃ c, l[j / 7]? = some c := ⟨_, List.getElem?_eq_getElem (by omega)⟩
  obtain ⟨b', o', hb, c0, c1, c2, c3, c4, c5, c6⟩ := h _ c hc
  obtain ⟨d0, d1, d2, d3, d4, d5, d6⟩ := cellsC_at l _ c hc
  simp only [Option.some.injEq, Addr.mk.injEq, and_true] at hb
  obtain ⟨rfl, rfl⟩ := hb
  have hm : j % 7 < 7 := Nat.mod_lt _ (by decide)
  have e : j = j / 7 * 7 + j % 7 := by omega
  generalize j % 7 = r at *
  generalize j / 7 = q at *
  subst e
  rcases (by omega : r = 0 ∨ r = 1 ∨ r = 2 ∨ r = 3 ∨ r = 4 ∨ r = 5 ∨ r = 6) with rfl | rfl | rfl | rfl | rfl | rfl | rfl
  · rw [Nat.add_zero] at hj ⊢; rw [d0] at hj; cases hj; exact c0
  · rw [d1] at hj; cases hj; rw [← Nat.add_assoc]; exact c1
  · rw [d2] at hj; cases hj; rw [← Nat.add_assoc]; exact c2
  · rw [d3] at hj; cases hj; rw [← Nat.add_assoc]; exact c3
  · rw [d4] at hj; cases hj; rw [← Nat.add_assoc]; exact c4
  · rw [d5] at hj; cases hj; rw [← Nat.add_assoc]; exact c5
  · rw [d6] at hj; cases hj; rw [← Nat.add_assoc]; exact c6
theorem addr_add (b o j : Nat) : (⟨b, o, none⟩ : Addr).add j = ⟨b, o + j, none⟩ := by unfold Addr.add; split <;> simp_all
set_option maxRecDepth 100000 in
set_option maxHeartbeats 8000000 in
theorem clone_any (l : List CG) (b o cap : Nat) (w : World) (hr : RC w (some ⟨b, o, none⟩) l) (hl : l.length ≤ 1000) :
    Calls Tryz.prog 41 #[.slice (some ⟨b, o, none⟩) l.length cap] w fun e w' => ∃ A' cap', e = .returned (.slice A' l.length cap') ∧ Hp w.heap.size w w' [cRow A' cap' l] := by
  have HC := Lib.hid (fun (W : World) (hx : Ext w W) => (hr.ext hx).cells)
  have HL := Lib.hid (cellsC_len l)
  have H1 := Lib.hid (cellsC_one l)
  unfold cRow
  obtain ⟨n, hn⟩ : ∃ n, n = l.length := ⟨_, rfl⟩
  rw [← hn] at hl HL ⊢
  clear hn hr
  have hS := Hp.init w
  have hR := Reads.nil w
  have he : ∀ w : World, (binOp .eql 24 (.slice (some ⟨b, o, none⟩) n cap) (.slice none 0 0)).run Tryz.prog w = .ok (.bool false) w := fun _ => rfl
  go_enter Tryz.func41, Tryz.ntmps41
  go_wp2_with (first | ((with_reducible first | refine nhLa ?_ | refine nhLs ?_ | refine nhLd ?_ | refine nhCa ?_ | refine nhCs ?_ | refine nhCd ?_ | refine nhPa ?_ | refine nhPs ?_ | refine nhPd ?_ | refine nhKa ?_ | refine nhKs ?_ | refine nhKd ?_); ((try clear hF); clear hS; intro wk hS; (try simp only [List.set_cons_zero, List.set_cons_succ, heap_size, heap_set_size] at hS); ((try clear hF); (first | have hF := And.intro hS.facts (HRD.out _ (hS.sub (by first | simp | ((repeat (first | exact List.nil_sublist _ | exact List.Sublist.refl _ | with_reducible apply List.Sublist.cons₂ | apply List.Sublist.cons)))))) | have hF := And.intro hS.facts (hR.at hS.ext) | have hF := hS.facts); simp only [HFacts, cellFacts, RFacts, cellOnly, and_true, true_and, Nat.zero_add, Nat.reduceAdd] at hF))) | (at_builtin; refine wpList_append_hp Tryz.elem_cols rfl (.tmp 5) (.tmp 6) rfl (hS.blkRow (size := 7) (n := 0) rfl (by omega)) rfl ⟨b, o, none⟩ rfl (news := cellsC l) HL.out (fun j u hu => by rw [addr_add]; exact HC.out _ hS.ext j u hu) H1.out (by omega) (by omega) ?_; clear hS; intro A' cap' wk hS; ((try clear hF); (first | have hF := And.intro hS.facts (HRD.out _ (hS.sub (by first | simp | ((repeat (first | exact List.nil_sublist _ | exact List.Sublist.refl _ | with_reducible apply List.Sublist.cons₂ | apply List.Sublist.cons)))))) | have hF := And.intro hS.facts (hR.at hS.ext) | have hF := hS.facts); simp only [HFacts, cellFacts, RFacts, cellOnly, and_true, true_and, Nat.zero_add, Nat.reduceAdd] at hF)))
  go_ret
  exact ⟨A', cap', rfl, by simpa using hS⟩
end Go.Proofs.YtcpnnffnkegamaaGreatDoor

/- slices of a table's files (entries): what their cells hold; Clone, IndexFunc, Delete. -/
namespace Go.Proofs.YtcpnnffnkegamaaGreatDoor
set_option linter.unusedSimpArgs false
set_option linter.unusedVariables false
open Go.RowKit
set_option linter.all false
/-- a file of a table, as it lies in memory -/
structure EV where
  path : ByteArray
  rows : Int
  ma : Option Addr
  mn : Nat
  mc : Nat
def cellsE : List EV → List Value
  | [] => []
  | v :: l => .string v.path :: .int .i64 v.rows :: .slice v.ma v.mn v.mc :: cellsE l
def RE (w : World) (A : Option Addr) (l : List EV) : Prop :=
  ∀ (i : Nat) (v : EV), l[i]? = some v → ∃ b o : Nat, A = some ⟨b, o, none⟩ ∧ w.cell? ⟨b, o + i * 3, none⟩ = some (.string v.path) ∧ w.cell? ⟨b, o + i * 3 + 1, none⟩ = some (.int .i64 v.rows) ∧ w.cell? ⟨b, o + i * 3 + 2, none⟩ = some (.slice v.ma v.mn v.mc)
theorem RE.ext {w w' : World} {A : Option Addr} {l : List EV} (h : RE w A l) (hx : Ext w w') : RE w' A l := fun i c hi => by
  obtain ⟨b, o, hA, h0, h1, h2⟩ := h i c hi
  exact ⟨b, o, hA, hx.keeps h0, hx.keeps h1, hx.keeps h2⟩
theorem cellsE_len : ∀ l : List EV, (cellsE l).length = l.length * 3
  | [] => rfl
  | x :: l => by simp [cellsE, cellsE_len l]; omega
theorem cellsE_append : ∀ l m : List EV, cellsE (l ++ m) = cellsE l ++ cellsE m
  | [], m => rfl
  | x :: l, m => by simp [cellsE, cellsE_append l m]
theorem cellsE_one : ∀ (l : List EV), ∀ u ∈ cellsE l, u.oneCell' = true
  | [], u, h => by cases h
  | x :: l, u, h => by
    simp only [cellsE, List.mem_cons] at h
    rcases h with rfl | rfl | rfl | h
    all_goals first | rfl | exact cellsE_one l u h
theorem cellsE_at : ∀ (l : List EV) (i : Nat) (v : EV), l[i]? = some v → (cellsE l)[i * 3]? = some (.string v.path) ∧ (cellsE l)[i * 3 + 1]? = some (.int .i64 v.rows) ∧ (cellsE l)[i * 3 + 2]? = some (.slice v.ma v.mn v.mc)
  | [], i, x, h => by simp at h
  | y :: l, 0, x, h => by simp at h; subst h; simp [cellsE]
  | y :: l, i + 1, x, h => by
    have := cellsE_at l i x (by simpa using h)
    rw [show (i + 1) * 3 = i * 3 + 3 by omega]
    simpa [cellsE] using this
theorem RE.block {w : World} {l : List EV} {g : Nat} {cs : Array Value} {t : TypeId} {fr : Nat × Nat} (h : w.heap[g]? = some (.cells cs t fr)) (hcs : cs = (cellsE l).toArray) : RE w (some ⟨g, 0, none⟩) l := fun i x hi => by
  subst hcs
  obtain ⟨h0, h1, h2⟩ := cellsE_at l i x hi
  refine ⟨g, 0, rfl, ?_, ?_, ?_⟩ <;> simp [World.cell?, h, *]
theorem Tryz.elem_ents : Elem Tryz.prog 25 43 3 48 := by
  obtain ⟨i0, hi0, hz0, hz1, hz2⟩ := info_parts (show (Tryz.prog.info? 43).map (fun i => (i.zero, i.size, i.bytes)) = some (some (.agg #[.string ⟨#[]⟩, .int .i64 0, .slice none 0 0]), 3, 48) by kernel_rfl)
  exact ⟨Tryz.underlying25, ⟨i0, _, hi0, hz0, hz1, hz2, rfl⟩, by omega⟩
abbrev eRow (A : Option Addr) (n cap : Nat) (l : List EV) : Item := .row 43 3 A n cap (cellsE l)
theorem Hp.re {B : Nat} {w0 w : World} {L : List Item} {A : Option Addr} {cap n : Nat} {l : List EV} (h : Hp B w0 w L) (i : Nat) (hi : L[i]? = some (.row 43 3 A n cap (cellsE l))) : RE w A l := fun j x hj => by
  obtain ⟨h0, h1, h2⟩ := cellsE_at l j x hj
  obtain ⟨g, hg, c0, _⟩ := h.rowCell i hi h0
  obtain ⟨g1, hg1, c1, _⟩ := h.rowCell i hi h1
  obtain ⟨g2, hg2, c2, _⟩ := h.rowCell i hi h2
  rw [hg] at hg1 hg2
  simp only [Option.some.injEq, Addr.mk.injEq, and_true] at hg1 hg2
  subst hg1 hg2
  refine ⟨g, 0, hg, ?_, ?_, ?_⟩ <;> rw [Nat.zero_add] <;> assumption
theorem RE.cells {w : World} {b o : Nat} {l : List EV} (h : RE w (some ⟨b, o, none⟩) l) : ∀ (j : Nat) (u : Value), (cellsE l)[j]? = some u → w.cell? ⟨b, o + j, none⟩ = some u := fun j u hj => by
  have hlt : j < l.length * 3 := by rw [← cellsE_len]; exact (List.getElem?_eq_some_iff.1 hj).1
  obtain ⟨c, hc⟩ : ∃ c, l[j / 3]? = some c := ⟨_, List.getElem?_eq_getElem (by omega)⟩
  obtain ⟨b', o', hb, c0, c1, c2⟩ := h _ c hc
  obtain ⟨d0, d1, d2⟩ := cellsE_at l _ c hc
  simp only [Option.some.injEq, Addr.mk.injEq, and_true] at hb
  obtain ⟨rfl, rfl⟩ := hb
  have hm : j % 3 < 3 := Nat.mod_lt _ (by decide)
  have e : j = j / 3 * 3 + j % 3 := by omega
  generalize j % 3 = r at *
  generalize j / 3 = q at *
  subst e
  rcases (by omega : r = 0 ∨ r = 1 ∨ r = 2) with rfl | rfl | rfl
  · rw [Nat.add_zero] at hj ⊢; rw [d0] at hj; cases hj; exact c0
  · rw [d1] at hj; cases hj; rw [← Nat.add_assoc]; exact c1
  · rw [d2] at hj; cases hj; rw [← Nat.add_assoc]; exact c2
set_option maxRecDepth 100000 in
set_option maxHeartbeats 8000000 in
theorem eclone_any (l : List EV) (A : Option Addr) (n cap : Nat) (w : World) (hn : l.length = n) (hr : RE w A l) (hz : A = none → cap = 0) (hl : n ≤ 1000) :
    Calls Tryz.prog 22 #[.slice A n cap] w fun e w' => ∃ A' cap', e = .returned (.slice A' n cap') ∧ (A' = none → cap' = 0) ∧ Hp w.heap.size w w' [eRow A' n cap' l] := by
  cases A with
  | none =>
    obtain rfl : cap = 0 := hz rfl
    have hF : l = [] := by
      cases l with
      | nil => rfl
      | cons x l =>
        obtain ⟨b, o, e, _⟩ := hr 0 x rfl
        cases e
    subst hF
    obtain rfl : n = 0 := by simpa using hn.symm
    have hS := Hp.init w
    have he : ∀ w : World, (binOp .eql 25 (.slice none 0 0) (.slice none 0 0)).run Tryz.prog w = .ok (.bool true) w := fun _ => rfl
    go_enter Tryz.func22, Tryz.ntmps22
    go_wp2_with (first | ((with_reducible first | refine nhLa ?_ | refine nhLs ?_ | refine nhLd ?_ | refine nhCa ?_ | refine nhCs ?_ | refine nhCd ?_ | refine nhPa ?_ | refine nhPs ?_ | refine nhPd ?_ | refine nhKa ?_ | refine nhKs ?_ | refine nhKd ?_); ((try clear hF); clear hS; intro wk hS; (try simp only [List.set_cons_zero, List.set_cons_succ, heap_size, heap_set_size] at hS); ((try clear hF); (first | have hF := And.intro hS.facts (HRD.out _ (hS.sub (by first | simp | ((repeat (first | exact List.nil_sublist _ | exact List.Sublist.refl _ | with_reducible apply List.Sublist.cons₂ | apply List.Sublist.cons)))))) | have hF := And.intro hS.facts (hR.at hS.ext) | have hF := hS.facts); simp only [HFacts, cellFacts, RFacts, cellOnly, and_true, true_and, Nat.zero_add, Nat.reduceAdd] at hF))) | fail)
    go_ret
    exact ⟨none, 0, rfl, fun _ => rfl, hS.nilRow _ _⟩
  | some ad =>
    obtain ⟨b, o, hs⟩ : ∃ b o, l ≠ [] → ad = ⟨b, o, none⟩ := by
      cases l with
      | nil => exact ⟨0, 0, fun h => absurd rfl h⟩
      | cons x l =>
        obtain ⟨b, o, e, _⟩ := hr 0 x rfl
        exact ⟨b, o, fun _ => Option.some.inj e⟩
    have HC := Lib.hid (fun (W : World) (hx : Ext w W) (j : Nat) (u : Value) (hu : (cellsE l)[j]? = some u) => show W.cell? (ad.add j) = some u from by
      have hne : l ≠ [] := fun e => by subst e; simp [cellsE] at hu
      obtain rfl := hs hne
      have e : (⟨b, o, none⟩ : Addr).add j = ⟨b, o + j, none⟩ := by unfold Addr.add; split <;> simp_all
      rw [e]
      exact (hr.ext hx).cells j u hu)
    have HL := Lib.hid (show (cellsE l).length = n * 3 by rw [cellsE_len, hn])
    have H1 := Lib.hid (cellsE_one l)
    clear hr hn hz hs
    have hS := Hp.init w
    have hR := Reads.nil w
    have he : ∀ w : World, (binOp .eql 25 (.slice (some ad) n cap) (.slice none 0 0)).run Tryz.prog w = .ok (.bool false) w := fun _ => rfl
    go_enter Tryz.func22, Tryz.ntmps22
    go_wp2_with (first | ((with_reducible first | refine nhLa ?_ | refine nhLs ?_ | refine nhLd ?_ | refine nhCa ?_ | refine nhCs ?_ | refine nhCd ?_ | refine nhPa ?_ | refine nhPs ?_ | refine nhPd ?_ | refine nhKa ?_ | refine nhKs ?_ | refine nhKd ?_); ((try clear hF); clear hS; intro wk hS; (try simp only [List.set_cons_zero, List.set_cons_succ, heap_size, heap_set_size] at hS); ((try clear hF); (first | have hF := And.intro hS.facts (HRD.out _ (hS.sub (by first | simp | ((repeat (first | exact List.nil_sublist _ | exact List.Sublist.refl _ | with_reducible apply List.Sublist.cons₂ | apply List.Sublist.cons)))))) | have hF := And.intro hS.facts (hR.at hS.ext) | have hF := hS.facts); simp only [HFacts, cellFacts, RFacts, cellOnly, and_true, true_and, Nat.zero_add, Nat.reduceAdd] at hF))) | (at_builtin; refine wpList_append_hp Tryz.elem_ents rfl (.tmp 5) (.tmp 6) rfl (hS.blkRow (size := 3) (n := 0) rfl (by omega)) rfl ad rfl (news := cellsE l) HL.out (fun j u hu => HC.out _ hS.ext j u hu) H1.out (by omega) (by omega) ?_; clear hS; intro A' cap' wk hS; ((try clear hF); (first | have hF := And.intro hS.facts (HRD.out _ (hS.sub (by first | simp | ((repeat (first | exact List.nil_sublist _ | exact List.Sublist.refl _ | with_reducible apply List.Sublist.cons₂ | apply List.Sublist.cons)))))) | have hF := And.intro hS.facts (hR.at hS.ext) | have hF := hS.facts); simp only [HFacts, cellFacts, RFacts, cellOnly, and_true, true_and, Nat.zero_add, Nat.reduceAdd] at hF)))
    rw [Nat.zero_add, List.nil_append] at hS
    go_ret
    refine ⟨A', cap', by simp, fun h => ?_, hS⟩
    subst h
    exact (hS.rowNil 0 rfl).2.1
def idxE (p : EV → Bool) : Nat → List EV → Int
  | _, [] => -1
  | k, x :: l => if p x then k else idxE p (k + 1) l
theorem dropE {l : List EV} {k : Nat} {x : EV} (h : l[k]? = some x) : l.drop k = x :: l.drop (k + 1) := by
  obtain ⟨h1, e⟩ := List.getElem?_eq_some_iff.1 h
  rw [List.drop_eq_getElem_cons h1, e]
def PredE (w0 : World) (g : Nat) (lb : Array Value) (p : EV → Bool) : Prop :=
  ∀ W, Ext w0 W → ∀ v : EV, Calls Tryz.prog g (#[.agg #[.string v.path, .int .i64 v.rows, .slice v.ma v.mn v.mc]] ++ lb) W fun e w' => e = .returned (.bool (p v)) ∧ Ext W w'
theorem PredE.at {w0 : World} {g : Nat} {lb : Array Value} {p : EV → Bool} (h : PredE w0 g lb p) (W : World) (hx : Ext w0 W) (v : EV) : Calls Tryz.prog g (#[.agg #[.string v.path, .int .i64 v.rows, .slice v.ma v.mn v.mc]] ++ lb) W fun e w' => e = .returned (.bool (p v)) ∧ Ext W w' := h W hx v
set_option maxRecDepth 100000 in
set_option maxHeartbeats 8000000 in
theorem eindexFunc_any (l : List EV) (A : Option Addr) (n cap : Nat) (g : Nat) (lb : Array Value) (p : EV → Bool) (w : World) (hn : l.length = n) (hr : RE w A l) (hl : n ≤ 1000000) (eg : ∀ args w, (callFunc g args).run Tryz.prog w = .ok (.enter g args) w) (hp : PredE w g lb p) :
    Calls Tryz.prog 39 #[.slice A n cap, .func (.func g) #[] lb] w fun e w' => e = .returned (.int .i64 (idxE p 0 l)) ∧ Ext w w' := by
  have Hn := Lib.hid hn.symm
  clear hn
  have HP := Lib.hid hp
  clear hp
  have hS := Hp.init w
  have hR := Reads.nil w
  go_enter Tryz.func39, Tryz.ntmps39
  go_wp2_with (first | ((with_reducible first | refine nhLa ?_ | refine nhLs ?_ | refine nhLd ?_ | refine nhCa ?_ | refine nhCs ?_ | refine nhCd ?_ | refine nhPa ?_ | refine nhPs ?_ | refine nhPd ?_ | refine nhKa ?_ | refine nhKs ?_ | refine nhKd ?_); ((try clear hF); clear hS; intro wk hS; (try simp only [List.set_cons_zero, List.set_cons_succ, heap_size, heap_set_size] at hS); ((try clear hF); (first | have hF := And.intro hS.facts (HRD.out _ (hS.sub (by first | simp | ((repeat (first | exact List.nil_sublist _ | exact List.Sublist.refl _ | with_reducible apply List.Sublist.cons₂ | apply List.Sublist.cons)))))) | have hF := And.intro hS.facts (hR.at hS.ext) | have hF := hS.facts); simp only [HFacts, cellFacts, RFacts, cellOnly, and_true, true_and, Nat.zero_add, Nat.reduceAdd] at hF))) | fail)
  go_loopw [8, 5] (fun i _ wr => ∃ k : Nat, i = .int .i64 k ∧ k ≤ n ∧ Hid (idxE p 0 l = idxE p k (l.drop k)) ∧ Hp w.heap.size w wr []) (fun i _ _ => n - (intOf i).toNat)
  case atStart => exact ⟨0, rfl, Nat.zero_le _, Lib.hid rfl, hS⟩
  case round =>
    clear hS
    obtain ⟨k, rfl, hk, hf, hS⟩ := hrel
    by_cases hlt : k < n
    · have hlt' : k < l.length := by rw [← Hn.out]; exact hlt
      obtain ⟨x, hx'⟩ : ∃ x, l[k]? = some x := ⟨l[k], List.getElem?_eq_getElem hlt'⟩
      obtain ⟨b, o, rfl, c0, c1, c2⟩ := hr k x hx'
      have hR := Reads.cell c0 (Reads.cell c1 (Reads.cell c2 (Reads.nil w)))
      have HD := Lib.hid (dropE hx')
      clear hx' hlt' c0 c1 c2 hr
      ((try clear hF); (first | have hF := And.intro hS.facts (HRD.out _ (hS.sub (by first | simp | ((repeat (first | exact List.nil_sublist _ | exact List.Sublist.refl _ | with_reducible apply List.Sublist.cons₂ | apply List.Sublist.cons)))))) | have hF := And.intro hS.facts (hR.at hS.ext) | have hF := hS.facts); simp only [HFacts, cellFacts, RFacts, cellOnly, and_true, true_and, Nat.zero_add, Nat.reduceAdd] at hF)
      go_wp2_with (first | ((with_reducible first | refine nhLa ?_ | refine nhLs ?_ | refine nhLd ?_ | refine nhCa ?_ | refine nhCs ?_ | refine nhCd ?_ | refine nhPa ?_ | refine nhPs ?_ | refine nhPd ?_ | refine nhKa ?_ | refine nhKs ?_ | refine nhKd ?_); ((try clear hF); clear hS; intro wk hS; (try simp only [List.set_cons_zero, List.set_cons_succ, heap_size, heap_set_size] at hS); ((try clear hF); (first | have hF := And.intro hS.facts (HRD.out _ (hS.sub (by first | simp | ((repeat (first | exact List.nil_sublist _ | exact List.Sublist.refl _ | with_reducible apply List.Sublist.cons₂ | apply List.Sublist.cons)))))) | have hF := And.intro hS.facts (hR.at hS.ext) | have hF := hS.facts); simp only [HFacts, cellFacts, RFacts, cellOnly, and_true, true_and, Nat.zero_add, Nat.reduceAdd] at hF))) | ((with_reducible refine (HP.out.at _ hS.ext x).mono ?_); rintro e wk ⟨rfl, hX⟩; replace hS := hS.step hX; clear hX; ((try clear hF); (first | have hF := And.intro hS.facts (HRD.out _ (hS.sub (by first | simp | ((repeat (first | exact List.nil_sublist _ | exact List.Sublist.refl _ | with_reducible apply List.Sublist.cons₂ | apply List.Sublist.cons)))))) | have hF := And.intro hS.facts (hR.at hS.ext) | have hF := hS.facts); simp only [HFacts, cellFacts, RFacts, cellOnly, and_true, true_and, Nat.zero_add, Nat.reduceAdd] at hF)))
      · go_ret
        refine ⟨?_, hS.ext⟩
        have hc : p x = true := by assumption
        rw [hf.out, HD.out, idxE, if_pos hc]; first | done | rfl
      · go_roundw
        case rel =>
          have hc : p x = false := by assumption
          exact ⟨k + 1, by go_num, by omega, Lib.hid (by rw [hf.out, HD.out, idxE, if_neg (by rw [hc]; simp)]), hS⟩
        case measure => simp [intOf]; omega
    · obtain rfl : n = k := by omega
      ((try clear hF); (first | have hF := And.intro hS.facts (HRD.out _ (hS.sub (by first | simp | ((repeat (first | exact List.nil_sublist _ | exact List.Sublist.refl _ | with_reducible apply List.Sublist.cons₂ | apply List.Sublist.cons)))))) | have hF := And.intro hS.facts (hR.at hS.ext) | have hF := hS.facts); simp only [HFacts, cellFacts, RFacts, cellOnly, and_true, true_and, Nat.zero_add, Nat.reduceAdd] at hF)
      go_wp2_with (first | ((with_reducible first | refine nhLa ?_ | refine nhLs ?_ | refine nhLd ?_ | refine nhCa ?_ | refine nhCs ?_ | refine nhCd ?_ | refine nhPa ?_ | refine nhPs ?_ | refine nhPd ?_ | refine nhKa ?_ | refine nhKs ?_ | refine nhKd ?_); ((try clear hF); clear hS; intro wk hS; (try simp only [List.set_cons_zero, List.set_cons_succ, heap_size, heap_set_size] at hS); ((try clear hF); (first | have hF := And.intro hS.facts (HRD.out _ (hS.sub (by first | simp | ((repeat (first | exact List.nil_sublist _ | exact List.Sublist.refl _ | with_reducible apply List.Sublist.cons₂ | apply List.Sublist.cons)))))) | have hF := And.intro hS.facts (hR.at hS.ext) | have hF := hS.facts); simp only [HFacts, cellFacts, RFacts, cellOnly, and_true, true_and, Nat.zero_add, Nat.reduceAdd] at hF))) | fail)
      go_ret
      exact ⟨by rw [hf.out, Hn.out, List.drop_length]; rfl, hS.ext⟩
theorem idxE_range (p : EV → Bool) : ∀ (l : List EV) (k : Nat), -1 ≤ idxE p k l ∧ idxE p k l < k + l.length
  | [], k => by simp [idxE]; omega
  | x :: l, k => by
    unfold idxE
    have := idxE_range p l (k + 1)
    rw [List.length_cons]
    split <;> omega
theorem zero_E : ∀ w, (zeroValue 43).run Tryz.prog w = .ok (.agg #[.string ⟨#[]⟩, .int .i64 0, .slice none 0 0]) w := fun _ => by kernel_rfl
theorem addr_add3 (b o j : Nat) : (⟨b, o, none⟩ : Addr).add j = ⟨b, o + j, none⟩ := by unfold Addr.add; split <;> simp_all
set_option maxRecDepth 100000 in
set_option maxHeartbeats 8000000 in
/-- the k-th element is taken out, in place -/
theorem edelete_any {B : Nat} {w0 w : World} {L : List Item} (l : List EV) (g n cap k : Nat) (hn : l.length = n) (hk : k < n) (hc : n ≤ cap) (hl : cap ≤ 9223372036854775807) (hS : Hp B w0 w (.row 43 3 (some ⟨g, 0, none⟩) n cap (cellsE l) :: L)) :
    Calls Tryz.prog 42 #[.slice (some ⟨g, 0, none⟩) n cap, .int .i64 k, .int .i64 ((k : Int) + 1)] w fun e w' => e = .returned (.slice (some ⟨g, 0, none⟩) (n - 1 : Nat) cap) ∧ Hp B w0 w' (.row 43 3 (some ⟨g, 0, none⟩) (n - 1) cap (cellsE (l.eraseIdx k)) :: L) := by
  obtain ⟨m, rfl⟩ : ∃ m, n = k + 1 + m := ⟨n - (k + 1), by omega⟩
  have HL := Lib.hid (show (cellsE (l.drop (k + 1))).length = m * 3 by rw [cellsE_len, List.length_drop, hn]; omega)
  have H1 := Lib.hid (cellsE_one (l.drop (k + 1)))
  have HER := Lib.hid (show (cellsE l).take (k * 3) ++ cellsE (l.drop (k + 1)) = cellsE (l.eraseIdx k) by
    rw [List.eraseIdx_eq_take_drop_succ, cellsE_append]
    congr 1
    have : cellsE l = cellsE (l.take k) ++ cellsE (l.drop k) := by rw [← cellsE_append, List.take_append_drop]
    rw [this, List.take_left' (by rw [cellsE_len, List.length_take]; omega)])
  have HSRC := Lib.hid (show ∀ W, Hp B w0 W (.row 43 3 (some ⟨g, 0, none⟩) (k + 1 + m) cap (cellsE l) :: L) → ∀ j u, (cellsE (l.drop (k + 1)))[j]? = some u → W.cell? ⟨g, (k + 1) * 3 + j, none⟩ = some u from fun W hW j u hu => by
    have e : (cellsE l)[(k + 1) * 3 + j]? = some u := by
      have : cellsE l = cellsE (l.take (k + 1)) ++ cellsE (l.drop (k + 1)) := by rw [← cellsE_append, List.take_append_drop]
      rw [this, List.getElem?_append_right (by rw [cellsE_len, List.length_take]; omega), cellsE_len, List.length_take, Nat.min_eq_left (by omega), Nat.add_sub_cancel_left]
      exact hu
    obtain ⟨g', hg, hcell, _⟩ := hW.rowCell 0 rfl e
    obtain rfl : g = g' := by simpa using hg
    exact hcell)
  clear hn
  have f1 : (k : Int) + 1 ≤ (k : Int) + 1 + m := by omega
  have f2 : (k : Int) ≤ cap := by omega
  have f3 : (k : Int) + 1 + m ≤ cap := by omega
  have f4 : ¬ cap = k + m := by omega
  have f5 : (0 : Int) ≤ (k : Int) + 1 := by omega
  have f6 : (k : Int) ≤ (k : Int) + 1 := by omega
  by_cases hcj : cap = k + 1
  · obtain rfl : m = 0 := by omega
    subst hcj
    ((try clear hF); (first | have hF := And.intro hS.facts (HRD.out _ (hS.sub (by first | simp | ((repeat (first | exact List.nil_sublist _ | exact List.Sublist.refl _ | with_reducible apply List.Sublist.cons₂ | apply List.Sublist.cons)))))) | have hF := And.intro hS.facts (hR.at hS.ext) | have hF := hS.facts); simp only [HFacts, cellFacts, RFacts, cellOnly, and_true, true_and, Nat.zero_add, Nat.reduceAdd] at hF)
    go_enter Tryz.func42, Tryz.ntmps42
    go_wp2_with (first | ((with_reducible first | refine nhLa ?_ | refine nhLs ?_ | refine nhLd ?_ | refine nhCa ?_ | refine nhCs ?_ | refine nhCd ?_ | refine nhPa ?_ | refine nhPs ?_ | refine nhPd ?_ | refine nhKa ?_ | refine nhKs ?_ | refine nhKd ?_); ((try clear hF); clear hS; intro wk hS; (try simp only [List.set_cons_zero, List.set_cons_succ, heap_size, heap_set_size] at hS); ((try clear hF); (first | have hF := And.intro hS.facts (HRD.out _ (hS.sub (by first | simp | ((repeat (first | exact List.nil_sublist _ | exact List.Sublist.refl _ | with_reducible apply List.Sublist.cons₂ | apply List.Sublist.cons)))))) | have hF := And.intro hS.facts (hR.at hS.ext) | have hF := hS.facts); simp only [HFacts, cellFacts, RFacts, cellOnly, and_true, true_and, Nat.zero_add, Nat.reduceAdd] at hF))) | fail)
    ((with_reducible refine wp_region_chain_hp [.q, .q, .q, .q, .q, .q, .t, .t] [] (by kernel_rfl) rfl (by kernel_rfl) hS (fun w h => h.sub (by simp)) ?_); clear hS; (repeat ((with_reducible refine Walk.here ?_); (first | ((with_reducible apply Walk.skipQ); (first | rfl | exact wanted_false rfl rfl rfl (by assumption)); (try simp only [Mark.isQ, if_true, Bool.false_eq_true, if_false, Act.put, List.setIfInBounds_toArray, List.set_cons_zero, List.set_cons_succ])) | ((with_reducible apply Walk.val); (first | rfl | exact wanted_true rfl rfl rfl (by assumption)); (rintro w hS; ((try clear hF); (first | have hF := And.intro hS.facts (HRD.out _ (hS.sub (by first | simp | ((repeat (first | exact List.nil_sublist _ | exact List.Sublist.refl _ | with_reducible apply List.Sublist.cons₂ | apply List.Sublist.cons)))))) | have hF := And.intro hS.facts (hR.at hS.ext) | have hF := hS.facts); simp only [HFacts, cellFacts, RFacts, cellOnly, and_true, true_and, Nat.zero_add, Nat.reduceAdd] at hF); go_simp; first | with_reducible rfl | (rw [if_neg (by first | omega | (simp only [ByteArray.size_append]; omega) | (simp [ByteArray.size_append]; omega))]; try with_reducible rfl)); (try simp only [Mark.isQ, if_true, Bool.false_eq_true, if_false, Act.put, List.setIfInBounds_toArray, List.set_cons_zero, List.set_cons_succ])) | ((with_reducible apply Walk.tail); (try simp only [Mark.isQ, if_true, Bool.false_eq_true, if_false, Act.put, List.setIfInBounds_toArray, List.set_cons_zero, List.set_cons_succ])) | ((with_reducible apply Walk.guardT); rfl; rfl; rfl; (all_goals intro hg)) | ((with_reducible apply Walk.guardF); rfl; rfl; rfl; (all_goals intro hg))))); refine Walk.done ?_; simp only [chainOf, Mark.isT, if_true, Bool.false_eq_true, if_false])
    refine Chain.appendSpare (news := cellsE (l.drop (k + 1))) Tryz.elem_ents rfl (.tmp 22) (.tmp 25) rfl rfl ⟨g, 0, none⟩ rfl HL.out (by omega) (by omega) (fun W hW j u hu => by
      have := HL.out
      rw [Nat.zero_mul] at this
      rw [List.eq_nil_of_length_eq_zero this] at hu
      cases hu) H1.out (fun w h => h.sub (by simp)) ?_
    try simp only [Act.put, List.setIfInBounds_toArray, List.set_cons_zero, List.set_cons_succ]
    (refine Chain.val (by (first | rfl | exact wanted_true rfl rfl rfl (by assumption))) (fun w h => h.sub (by simp)) (by rintro w hS; ((try clear hF); (first | have hF := And.intro hS.facts (HRD.out _ (hS.sub (by first | simp | ((repeat (first | exact List.nil_sublist _ | exact List.Sublist.refl _ | with_reducible apply List.Sublist.cons₂ | apply List.Sublist.cons)))))) | have hF := And.intro hS.facts (hR.at hS.ext) | have hF := hS.facts); simp only [HFacts, cellFacts, RFacts, cellOnly, and_true, true_and, Nat.zero_add, Nat.reduceAdd] at hF); go_simp; with_reducible rfl) ?_; try simp only [Act.put, List.setIfInBounds_toArray, List.set_cons_zero, List.set_cons_succ])
    (refine Chain.done ?_; (try clear hF); intro wk hS; ((try clear hF); (first | have hF := And.intro hS.facts (HRD.out _ (hS.sub (by first | simp | ((repeat (first | exact List.nil_sublist _ | exact List.Sublist.refl _ | with_reducible apply List.Sublist.cons₂ | apply List.Sublist.cons)))))) | have hF := And.intro hS.facts (hR.at hS.ext) | have hF := hS.facts); simp only [HFacts, cellFacts, RFacts, cellOnly, and_true, true_and, Nat.zero_add, Nat.reduceAdd] at hF))
    rw [HER.out] at hS
    ((try clear hF); (first | have hF := And.intro hS.facts (HRD.out _ (hS.sub (by first | simp | ((repeat (first | exact List.nil_sublist _ | exact List.Sublist.refl _ | with_reducible apply List.Sublist.cons₂ | apply List.Sublist.cons)))))) | have hF := And.intro hS.facts (hR.at hS.ext) | have hF := hS.facts); simp only [HFacts, cellFacts, RFacts, cellOnly, and_true, true_and, Nat.zero_add, Nat.reduceAdd] at hF)
    go_wp2_with (first | ((with_reducible first | refine nhLa ?_ | refine nhLs ?_ | refine nhLd ?_ | refine nhCa ?_ | refine nhCs ?_ | refine nhCd ?_ | refine nhPa ?_ | refine nhPs ?_ | refine nhPd ?_ | refine nhKa ?_ | refine nhKs ?_ | refine nhKd ?_); ((try clear hF); clear hS; intro wk hS; (try simp only [List.set_cons_zero, List.set_cons_succ, heap_size, heap_set_size] at hS); ((try clear hF); (first | have hF := And.intro hS.facts (HRD.out _ (hS.sub (by first | simp | ((repeat (first | exact List.nil_sublist _ | exact List.Sublist.refl _ | with_reducible apply List.Sublist.cons₂ | apply List.Sublist.cons)))))) | have hF := And.intro hS.facts (hR.at hS.ext) | have hF := hS.facts); simp only [HFacts, cellFacts, RFacts, cellOnly, and_true, true_and, Nat.zero_add, Nat.reduceAdd] at hF))) | (refine wpList_clear_hp Tryz.underlying25 zero_E rfl (by simp [Value.cells, Value.oneCell']) rfl (.tmp 31) rfl hS rfl (by omega) ?_; clear hS; intro wk hS; ((try clear hF); (first | have hF := And.intro hS.facts (HRD.out _ (hS.sub (by first | simp | ((repeat (first | exact List.nil_sublist _ | exact List.Sublist.refl _ | with_reducible apply List.Sublist.cons₂ | apply List.Sublist.cons)))))) | have hF := And.intro hS.facts (hR.at hS.ext) | have hF := hS.facts); simp only [HFacts, cellFacts, RFacts, cellOnly, and_true, true_and, Nat.zero_add, Nat.reduceAdd] at hF)))
    go_ret
    exact ⟨rfl, hS⟩
  · skip
    ((try clear hF); (first | have hF := And.intro hS.facts (HRD.out _ (hS.sub (by first | simp | ((repeat (first | exact List.nil_sublist _ | exact List.Sublist.refl _ | with_reducible apply List.Sublist.cons₂ | apply List.Sublist.cons)))))) | have hF := And.intro hS.facts (hR.at hS.ext) | have hF := hS.facts); simp only [HFacts, cellFacts, RFacts, cellOnly, and_true, true_and, Nat.zero_add, Nat.reduceAdd] at hF)
    go_enter Tryz.func42, Tryz.ntmps42
    go_wp2_with (first | ((with_reducible first | refine nhLa ?_ | refine nhLs ?_ | refine nhLd ?_ | refine nhCa ?_ | refine nhCs ?_ | refine nhCd ?_ | refine nhPa ?_ | refine nhPs ?_ | refine nhPd ?_ | refine nhKa ?_ | refine nhKs ?_ | refine nhKd ?_); ((try clear hF); clear hS; intro wk hS; (try simp only [List.set_cons_zero, List.set_cons_succ, heap_size, heap_set_size] at hS); ((try clear hF); (first | have hF := And.intro hS.facts (HRD.out _ (hS.sub (by first | simp | ((repeat (first | exact List.nil_sublist _ | exact List.Sublist.refl _ | with_reducible apply List.Sublist.cons₂ | apply List.Sublist.cons)))))) | have hF := And.intro hS.facts (hR.at hS.ext) | have hF := hS.facts); simp only [HFacts, cellFacts, RFacts, cellOnly, and_true, true_and, Nat.zero_add, Nat.reduceAdd] at hF))) | fail)
    ((with_reducible refine wp_region_chain_hp [.q, .q, .q, .q, .q, .q, .t, .t] [] (by kernel_rfl) rfl (by kernel_rfl) hS (fun w h => h.sub (by simp)) ?_); clear hS; (repeat ((with_reducible refine Walk.here ?_); (first | ((with_reducible apply Walk.skipQ); (first | rfl | exact wanted_false rfl rfl rfl (by assumption)); (try simp only [Mark.isQ, if_true, Bool.false_eq_true, if_false, Act.put, List.setIfInBounds_toArray, List.set_cons_zero, List.set_cons_succ])) | ((with_reducible apply Walk.val); (first | rfl | exact wanted_true rfl rfl rfl (by assumption)); (rintro w hS; ((try clear hF); (first | have hF := And.intro hS.facts (HRD.out _ (hS.sub (by first | simp | ((repeat (first | exact List.nil_sublist _ | exact List.Sublist.refl _ | with_reducible apply List.Sublist.cons₂ | apply List.Sublist.cons)))))) | have hF := And.intro hS.facts (hR.at hS.ext) | have hF := hS.facts); simp only [HFacts, cellFacts, RFacts, cellOnly, and_true, true_and, Nat.zero_add, Nat.reduceAdd] at hF); go_simp; first | with_reducible rfl | (rw [if_neg (by first | omega | (simp only [ByteArray.size_append]; omega) | (simp [ByteArray.size_append]; omega))]; try with_reducible rfl)); (try simp only [Mark.isQ, if_true, Bool.false_eq_true, if_false, Act.put, List.setIfInBounds_toArray, List.set_cons_zero, List.set_cons_succ])) | ((with_reducible apply Walk.tail); (try simp only [Mark.isQ, if_true, Bool.false_eq_true, if_false, Act.put, List.setIfInBounds_toArray, List.set_cons_zero, List.set_cons_succ])) | ((with_reducible apply Walk.guardT); rfl; rfl; rfl; (all_goals intro hg)) | ((with_reducible apply Walk.guardF); rfl; rfl; rfl; (all_goals intro hg))))); refine Walk.done ?_; simp only [chainOf, Mark.isT, if_true, Bool.false_eq_true, if_false])
    refine Chain.appendSpare (news := cellsE (l.drop (k + 1))) Tryz.elem_ents rfl (.tmp 22) (.tmp 25) rfl rfl ⟨g, (k + 1) * 3, none⟩ rfl HL.out (by omega) (by omega) (fun W hW j u hu => by rw [addr_add3]; exact HSRC.out W hW j u hu) H1.out (fun w h => h.sub (by simp)) ?_
    try simp only [Act.put, List.setIfInBounds_toArray, List.set_cons_zero, List.set_cons_succ]
    (refine Chain.val (by (first | rfl | exact wanted_true rfl rfl rfl (by assumption))) (fun w h => h.sub (by simp)) (by rintro w hS; ((try clear hF); (first | have hF := And.intro hS.facts (HRD.out _ (hS.sub (by first | simp | ((repeat (first | exact List.nil_sublist _ | exact List.Sublist.refl _ | with_reducible apply List.Sublist.cons₂ | apply List.Sublist.cons)))))) | have hF := And.intro hS.facts (hR.at hS.ext) | have hF := hS.facts); simp only [HFacts, cellFacts, RFacts, cellOnly, and_true, true_and, Nat.zero_add, Nat.reduceAdd] at hF); go_simp; with_reducible rfl) ?_; try simp only [Act.put, List.setIfInBounds_toArray, List.set_cons_zero, List.set_cons_succ])
    (refine Chain.done ?_; (try clear hF); intro wk hS; ((try clear hF); (first | have hF := And.intro hS.facts (HRD.out _ (hS.sub (by first | simp | ((repeat (first | exact List.nil_sublist _ | exact List.Sublist.refl _ | with_reducible apply List.Sublist.cons₂ | apply List.Sublist.cons)))))) | have hF := And.intro hS.facts (hR.at hS.ext) | have hF := hS.facts); simp only [HFacts, cellFacts, RFacts, cellOnly, and_true, true_and, Nat.zero_add, Nat.reduceAdd] at hF))
    rw [HER.out] at hS
    ((try clear hF); (first | have hF := And.intro hS.facts (HRD.out _ (hS.sub (by first | simp | ((repeat (first | exact List.nil_sublist _ | exact List.Sublist.refl _ | with_reducible apply List.Sublist.cons₂ | apply List.Sublist.cons)))))) | have hF := And.intro hS.facts (hR.at hS.ext) | have hF := hS.facts); simp only [HFacts, cellFacts, RFacts, cellOnly, and_true, true_and, Nat.zero_add, Nat.reduceAdd] at hF)
    have f7 : k + 1 + m - (k + m) = 1 := by omega
    go_wp2_with (first | ((with_reducible first | refine nhLa ?_ | refine nhLs ?_ | refine nhLd ?_ | refine nhCa ?_ | refine nhCs ?_ | refine nhCd ?_ | refine nhPa ?_ | refine nhPs ?_ | refine nhPd ?_ | refine nhKa ?_ | refine nhKs ?_ | refine nhKd ?_); ((try clear hF); clear hS; intro wk hS; (try simp only [List.set_cons_zero, List.set_cons_succ, heap_size, heap_set_size] at hS); ((try clear hF); (first | have hF := And.intro hS.facts (HRD.out _ (hS.sub (by first | simp | ((repeat (first | exact List.nil_sublist _ | exact List.Sublist.refl _ | with_reducible apply List.Sublist.cons₂ | apply List.Sublist.cons)))))) | have hF := And.intro hS.facts (hR.at hS.ext) | have hF := hS.facts); simp only [HFacts, cellFacts, RFacts, cellOnly, and_true, true_and, Nat.zero_add, Nat.reduceAdd] at hF))) | (refine wpList_clear_hp Tryz.underlying25 zero_E rfl (by simp [Value.cells, Value.oneCell']) rfl (.tmp 31) rfl hS (show Value.slice (some ⟨g, (k + m) * 3, none⟩) (k + 1 + m - (k + m)) (cap - (k + m)) = Value.slice (some ⟨g, (k + m) * 3, none⟩) 1 (cap - (k + m)) by rw [f7]) (by omega) ?_; clear hS; intro wk hS; ((try clear hF); (first | have hF := And.intro hS.facts (HRD.out _ (hS.sub (by first | simp | ((repeat (first | exact List.nil_sublist _ | exact List.Sublist.refl _ | with_reducible apply List.Sublist.cons₂ | apply List.Sublist.cons)))))) | have hF := And.intro hS.facts (hR.at hS.ext) | have hF := hS.facts); simp only [HFacts, cellFacts, RFacts, cellOnly, and_true, true_and, Nat.zero_add, Nat.reduceAdd] at hF)))
    go_ret
    have e : k + 1 + m - 1 = k + m := by omega
    rw [e]
    exact ⟨rfl, hS⟩
end Go.Proofs.YtcpnnffnkegamaaGreatDoor

/- log.masks. -/
namespace Go.Proofs.YtcpnnffnkegamaaGreatDoor
set_option linter.unusedSimpArgs false
set_option linter.unusedVariables false
open Go.RowKit
set_option linter.all false
set_option maxRecDepth 100000 in
theorem eg_lmasks1 : ∀ args w, (callFunc 65 args).run Tryz.prog w = .ok (.enter 65 args) w := fun _ _ => by kernel_rfl
set_option maxRecDepth 100000 in
set_option maxHeartbeats 8000000 in
theorem lmasks1_any (x : Int) (g : Nat) (mk : List Int) (A : Option Addr) (n cap : Nat) (w : World) (hn : mk.length = n) (hl : n ≤ 1000) (hr : RI w A mk) (h : w.cell? ⟨g, 2, none⟩ = some (.slice A n cap)) :
    Calls Tryz.prog 65 #[.int .i64 x, .pointer (some ⟨g, 0, none⟩)] w fun e w' => e = .returned (.bool (mk.contains x)) ∧ Ext w w' := by
  have HC := Lib.hid (fun (W : World) (hx : Ext w W) => icontains_any (x := x) (cap := cap) hn (by omega) (hr.ext hx))
  have hS := Hp.init w
  have hR := Reads.cell h (Reads.nil w)
  clear h hr hn
  obtain ⟨b, hb⟩ : ∃ b, b = mk.contains x := ⟨_, rfl⟩
  rw [← hb] at HC ⊢
  clear hb
  ((try clear hF); (first | have hF := And.intro hS.facts (HRD.out _ (hS.sub (by first | simp | ((repeat (first | exact List.nil_sublist _ | exact List.Sublist.refl _ | with_reducible apply List.Sublist.cons₂ | apply List.Sublist.cons)))))) | have hF := And.intro hS.facts (hR.at hS.ext) | have hF := hS.facts); simp only [HFacts, cellFacts, RFacts, cellOnly, and_true, true_and, Nat.zero_add, Nat.reduceAdd] at hF)
  go_enter Tryz.func65, Tryz.ntmps65
  go_wp2_with (first | ((with_reducible first | refine nhLa ?_ | refine nhLs ?_ | refine nhLd ?_ | refine nhCa ?_ | refine nhCs ?_ | refine nhCd ?_ | refine nhPa ?_ | refine nhPs ?_ | refine nhPd ?_ | refine nhKa ?_ | refine nhKs ?_ | refine nhKd ?_); ((try clear hF); clear hS; intro wk hS; (try simp only [List.set_cons_zero, List.set_cons_succ, heap_size, heap_set_size] at hS); ((try clear hF); (first | have hF := And.intro hS.facts (HRD.out _ (hS.sub (by first | simp | ((repeat (first | exact List.nil_sublist _ | exact List.Sublist.refl _ | with_reducible apply List.Sublist.cons₂ | apply List.Sublist.cons)))))) | have hF := And.intro hS.facts (hR.at hS.ext) | have hF := hS.facts); simp only [HFacts, cellFacts, RFacts, cellOnly, and_true, true_and, Nat.zero_add, Nat.reduceAdd] at hF))) | (go_at_call 66; (with_reducible refine (HC.out _ hS.ext).mono ?_); rintro e wk ⟨rfl, hX⟩; replace hS := hS.step hX; clear hX; ((try clear hF); (first | have hF := And.intro hS.facts (HRD.out _ (hS.sub (by first | simp | ((repeat (first | exact List.nil_sublist _ | exact List.Sublist.refl _ | with_reducible apply List.Sublist.cons₂ | apply List.Sublist.cons)))))) | have hF := And.intro hS.facts (hR.at hS.ext) | have hF := hS.facts); simp only [HFacts, cellFacts, RFacts, cellOnly, and_true, true_and, Nat.zero_add, Nat.reduceAdd] at hF)))
  go_ret
  exact ⟨rfl, hS.ext⟩
theorem cellsE_set : ∀ (l : List EV) (k : Nat) (v : EV), k < l.length → (((cellsE l).set (k * 3) (.string v.path)).set (k * 3 + 1) (.int .i64 v.rows)).set (k * 3 + 2) (.slice v.ma v.mn v.mc) = cellsE (l.set k v)
  | [], k, v, h => by simp at h
  | x :: l, 0, v, h => by simp [cellsE]
  | x :: l, k + 1, v, h => by
    have := cellsE_set l k v (by simpa using h)
    rw [show (k + 1) * 3 = k * 3 + 3 by omega]
    simp only [cellsE, List.set_cons_succ]
    rw [this]
/-- what masks answers -/
def masksE (v : Int) (mk l : List Int) : Int := if l.length = 0 ∨ maskB l v = false then 1 else if l.any mk.contains = true then 6 else 0
def snB (gs : Nat) (ver : Int) (Ac : Option Addr) (nc cc : Nat) (nx : Int) (Af : Option Addr) (nf cf : Nat) : Item := .blk gs [.int .i64 ver, .slice Ac nc cc, .int .i64 nx, .slice Af nf cf] 27
set_option maxRecDepth 100000 in
set_option maxHeartbeats 8000000 in
theorem masks_any {B : Nat} {w0 w : World} {K : List Item} (gs gf k : Nat) (ver nx : Int) (Ac Al : Option Addr) (nc cc nf cf nl cl : Nat) (evs : List EV) (v : EV) (mk l : List Int) (hnf : evs.length = nf) (hk : evs[k]? = some v) (hl : l.length = nl) (hl2 : nl ≤ 100) (hmn : mk.length = v.mn) (hmn2 : v.mn ≤ 100)
    (hz : v.ma = none → v.mc = 0) (hzl : Al = none → cl = 0) (HMK : Hid (∀ W, Hp B w0 W K → RI W v.ma mk)) (HL : Hid (∀ W, Hp B w0 W K → RI W Al l))
    (hS : Hp B w0 w (snB gs ver Ac nc cc nx (some ⟨gf, 0, none⟩) nf cf :: eRow (some ⟨gf, 0, none⟩) nf cf evs :: K)) :
    Calls Tryz.prog 43 #[.pointer (some ⟨gs, 0, none⟩), .int .i64 k, .slice Al nl cl] w fun e w' => e = .returned (.int .i64 (masksE v.rows mk l)) ∧
      if masksE v.rows mk l = 0 then ∃ Am cm, (Am = none → cm = 0) ∧ Hp B w0 w' (snB gs ver Ac nc cc nx (some ⟨gf, 0, none⟩) nf cf :: eRow (some ⟨gf, 0, none⟩) nf cf (evs.set k ⟨v.path, v.rows, Am, v.mn + nl, cm⟩) :: .row 3 1 Am (v.mn + nl) cm (intsV (sortI (mk ++ l))) :: K)
      else Hp B w0 w' (snB gs ver Ac nc cc nx (some ⟨gf, 0, none⟩) nf cf :: eRow (some ⟨gf, 0, none⟩) nf cf evs :: K) := by
  unfold snB eRow at *
  have hkl := (List.getElem?_eq_some_iff.1 hk).1
  obtain ⟨b0, o0, hA, q0, q1, q2⟩ := (hS.re 1 rfl) k v hk
  obtain ⟨rfl, rfl⟩ : gf = b0 ∧ 0 = o0 := by simpa using hA
  simp only [Nat.zero_add] at q0 q1 q2
  have hkf : k < nf := by omega
  have hk0 : (0 : Int) ≤ (k : Int) := by omega
  have HMB := Lib.hid (fun (W : World) (h : Hp B w0 W K) => mask_any l Al nl cl v.rows W hl (by omega) (HL.out W h))
  by_cases hl0 : nl = 0
  · subst hl0
    have e0 : masksE v.rows mk l = 1 := by unfold masksE; rw [if_pos (.inl hl)]
    rw [e0]
    clear HMB HMK HL hkl hA e0
    ((try clear hF); (first | have hF := And.intro hS.facts (HRD.out _ (hS.sub (by first | simp | ((repeat (first | exact List.nil_sublist _ | exact List.Sublist.refl _ | with_reducible apply List.Sublist.cons₂ | apply List.Sublist.cons)))))) | have hF := And.intro hS.facts (hR.at hS.ext) | have hF := hS.facts); simp only [HFacts, cellFacts, RFacts, cellOnly, and_true, true_and, Nat.zero_add, Nat.reduceAdd] at hF)
    go_enter Tryz.func43, Tryz.ntmps43
    go_wp2_with (first | ((with_reducible first | refine nhLa ?_ | refine nhLs ?_ | refine nhLd ?_ | refine nhCa ?_ | refine nhCs ?_ | refine nhCd ?_ | refine nhPa ?_ | refine nhPs ?_ | refine nhPd ?_ | refine nhKa ?_ | refine nhKs ?_ | refine nhKd ?_); ((try clear hF); clear hS; intro wk hS; (try simp only [List.set_cons_zero, List.set_cons_succ, heap_size, heap_set_size] at hS); ((try clear hF); (first | have hF := And.intro hS.facts (HRD.out _ (hS.sub (by first | simp | ((repeat (first | exact List.nil_sublist _ | exact List.Sublist.refl _ | with_reducible apply List.Sublist.cons₂ | apply List.Sublist.cons)))))) | have hF := And.intro hS.facts (hR.at hS.ext) | have hF := hS.facts); simp only [HFacts, cellFacts, RFacts, cellOnly, and_true, true_and, Nat.zero_add, Nat.reduceAdd] at hF))) | fail)
    go_ret
    exact ⟨rfl, hS.tail⟩
  · have hln : ¬ ((nl : Int) = 0) := by omega
    have HCF := Lib.hid (fun (W : World) (g7 : Nat) (h : Hp B w0 W K) (h2 : W.cell? ⟨g7, 2, none⟩ = some (.slice v.ma v.mn v.mc)) => icontainsFunc_any l Al nl cl 65 #[.pointer (some ⟨g7, 0, none⟩)] mk.contains W hl (HL.out W h) (by omega) eg_lmasks1 (fun W' hx x => lmasks1_any x g7 mk v.ma v.mn v.mc W' hmn (by omega) ((HMK.out W h).ext hx) (hx.keeps h2)))
    have HCC := Lib.hid (fun (W : World) (gq : Nat) (t : TypeId) (h : Hp B w0 W K) (h2 : W.heap[gq]? = some (.cells #[.slice v.ma v.mn v.mc, .slice Al nl cl] t (0, 0))) => iconcat_any mk l v.ma Al v.mn nl v.mc cl gq t W hmn hl (by omega) (by omega) (HMK.out W h) (HL.out W h) hz hzl h2)
    have HME := Lib.hid (show masksE v.rows mk l = if maskB l v.rows = false then 1 else if l.any mk.contains = true then 6 else 0 by unfold masksE; rw [hl]; simp [hl0])
    obtain ⟨mb, hmb⟩ : ∃ b, b = maskB l v.rows := ⟨_, rfl⟩
    obtain ⟨an, han⟩ : ∃ b, b = l.any mk.contains := ⟨_, rfl⟩
    rw [← hmb] at HMB HME
    rw [← han] at HCF HME
    clear hmb han hA hkl
    cases mb with
    | false =>
      rw [HME.out, if_pos rfl]
      clear HCF HCC HME
      ((try clear hF); (first | have hF := And.intro hS.facts (HRD.out _ (hS.sub (by first | simp | ((repeat (first | exact List.nil_sublist _ | exact List.Sublist.refl _ | with_reducible apply List.Sublist.cons₂ | apply List.Sublist.cons)))))) | have hF := And.intro hS.facts (hR.at hS.ext) | have hF := hS.facts); simp only [HFacts, cellFacts, RFacts, cellOnly, and_true, true_and, Nat.zero_add, Nat.reduceAdd] at hF)
      go_enter Tryz.func43, Tryz.ntmps43
      go_wp2_with (first | ((with_reducible first | refine nhLa ?_ | refine nhLs ?_ | refine nhLd ?_ | refine nhCa ?_ | refine nhCs ?_ | refine nhCd ?_ | refine nhPa ?_ | refine nhPs ?_ | refine nhPd ?_ | refine nhKa ?_ | refine nhKs ?_ | refine nhKd ?_); ((try clear hF); clear hS; intro wk hS; (try simp only [List.set_cons_zero, List.set_cons_succ, heap_size, heap_set_size] at hS); ((try clear hF); (first | have hF := And.intro hS.facts (HRD.out _ (hS.sub (by first | simp | ((repeat (first | exact List.nil_sublist _ | exact List.Sublist.refl _ | with_reducible apply List.Sublist.cons₂ | apply List.Sublist.cons)))))) | have hF := And.intro hS.facts (hR.at hS.ext) | have hF := hS.facts); simp only [HFacts, cellFacts, RFacts, cellOnly, and_true, true_and, Nat.zero_add, Nat.reduceAdd] at hF))) | (go_at_call 33; (with_reducible refine (HMB.out _ (hS.sub (by first | simp | ((repeat (first | exact List.nil_sublist _ | exact List.Sublist.refl _ | with_reducible apply List.Sublist.cons₂ | apply List.Sublist.cons)))))).mono ?_); rintro e wk ⟨rfl, hX⟩; replace hS := hS.step hX; clear hX; ((try clear hF); (first | have hF := And.intro hS.facts (HRD.out _ (hS.sub (by first | simp | ((repeat (first | exact List.nil_sublist _ | exact List.Sublist.refl _ | with_reducible apply List.Sublist.cons₂ | apply List.Sublist.cons)))))) | have hF := And.intro hS.facts (hR.at hS.ext) | have hF := hS.facts); simp only [HFacts, cellFacts, RFacts, cellOnly, and_true, true_and, Nat.zero_add, Nat.reduceAdd] at hF)))
      go_ret
      exact ⟨rfl, hS.tail⟩
    | true => cases an with
      | true =>
        rw [HME.out, if_neg (by decide), if_pos rfl]
        clear HCC HME
        ((try clear hF); (first | have hF := And.intro hS.facts (HRD.out _ (hS.sub (by first | simp | ((repeat (first | exact List.nil_sublist _ | exact List.Sublist.refl _ | with_reducible apply List.Sublist.cons₂ | apply List.Sublist.cons)))))) | have hF := And.intro hS.facts (hR.at hS.ext) | have hF := hS.facts); simp only [HFacts, cellFacts, RFacts, cellOnly, and_true, true_and, Nat.zero_add, Nat.reduceAdd] at hF)
        go_enter Tryz.func43, Tryz.ntmps43
        go_wp2_with (first | ((with_reducible first | refine nhLa ?_ | refine nhLs ?_ | refine nhLd ?_ | refine nhCa ?_ | refine nhCs ?_ | refine nhCd ?_ | refine nhPa ?_ | refine nhPs ?_ | refine nhPd ?_ | refine nhKa ?_ | refine nhKs ?_ | refine nhKd ?_); ((try clear hF); clear hS; intro wk hS; (try simp only [List.set_cons_zero, List.set_cons_succ, heap_size, heap_set_size] at hS); ((try clear hF); (first | have hF := And.intro hS.facts (HRD.out _ (hS.sub (by first | simp | ((repeat (first | exact List.nil_sublist _ | exact List.Sublist.refl _ | with_reducible apply List.Sublist.cons₂ | apply List.Sublist.cons)))))) | have hF := And.intro hS.facts (hR.at hS.ext) | have hF := hS.facts); simp only [HFacts, cellFacts, RFacts, cellOnly, and_true, true_and, Nat.zero_add, Nat.reduceAdd] at hF))) | (go_at_call 33; (with_reducible refine (HMB.out _ (hS.sub (by first | simp | ((repeat (first | exact List.nil_sublist _ | exact List.Sublist.refl _ | with_reducible apply List.Sublist.cons₂ | apply List.Sublist.cons)))))).mono ?_); rintro e wk ⟨rfl, hX⟩; replace hS := hS.step hX; clear hX; ((try clear hF); (first | have hF := And.intro hS.facts (HRD.out _ (hS.sub (by first | simp | ((repeat (first | exact List.nil_sublist _ | exact List.Sublist.refl _ | with_reducible apply List.Sublist.cons₂ | apply List.Sublist.cons)))))) | have hF := And.intro hS.facts (hR.at hS.ext) | have hF := hS.facts); simp only [HFacts, cellFacts, RFacts, cellOnly, and_true, true_and, Nat.zero_add, Nat.reduceAdd] at hF)) | (go_at_call 64; (with_reducible refine (HCF.out _ _ (hS.sub (by first | simp | ((repeat (first | exact List.nil_sublist _ | exact List.Sublist.refl _ | with_reducible apply List.Sublist.cons₂ | apply List.Sublist.cons))))) hF.1.2.2.1).mono ?_); rintro e wk ⟨rfl, hX⟩; replace hS := hS.step hX; clear hX; ((try clear hF); (first | have hF := And.intro hS.facts (HRD.out _ (hS.sub (by first | simp | ((repeat (first | exact List.nil_sublist _ | exact List.Sublist.refl _ | with_reducible apply List.Sublist.cons₂ | apply List.Sublist.cons)))))) | have hF := And.intro hS.facts (hR.at hS.ext) | have hF := hS.facts); simp only [HFacts, cellFacts, RFacts, cellOnly, and_true, true_and, Nat.zero_add, Nat.reduceAdd] at hF)))
        go_ret
        exact ⟨rfl, hS.tail⟩
      | false =>
        rw [HME.out, if_neg (by decide), if_neg (by decide)]
        clear HME
        ((try clear hF); (first | have hF := And.intro hS.facts (HRD.out _ (hS.sub (by first | simp | ((repeat (first | exact List.nil_sublist _ | exact List.Sublist.refl _ | with_reducible apply List.Sublist.cons₂ | apply List.Sublist.cons)))))) | have hF := And.intro hS.facts (hR.at hS.ext) | have hF := hS.facts); simp only [HFacts, cellFacts, RFacts, cellOnly, and_true, true_and, Nat.zero_add, Nat.reduceAdd] at hF)
        go_enter Tryz.func43, Tryz.ntmps43
        go_wp2_with (first | ((with_reducible first | refine nhLa ?_ | refine nhLs ?_ | refine nhLd ?_ | refine nhCa ?_ | refine nhCs ?_ | refine nhCd ?_ | refine nhPa ?_ | refine nhPs ?_ | refine nhPd ?_ | refine nhKa ?_ | refine nhKs ?_ | refine nhKd ?_); ((try clear hF); clear hS; intro wk hS; (try simp only [List.set_cons_zero, List.set_cons_succ, heap_size, heap_set_size] at hS); ((try clear hF); (first | have hF := And.intro hS.facts (HRD.out _ (hS.sub (by first | simp | ((repeat (first | exact List.nil_sublist _ | exact List.Sublist.refl _ | with_reducible apply List.Sublist.cons₂ | apply List.Sublist.cons)))))) | have hF := And.intro hS.facts (hR.at hS.ext) | have hF := hS.facts); simp only [HFacts, cellFacts, RFacts, cellOnly, and_true, true_and, Nat.zero_add, Nat.reduceAdd] at hF))) | (go_at_call 33; (with_reducible refine (HMB.out _ (hS.sub (by first | simp | ((repeat (first | exact List.nil_sublist _ | exact List.Sublist.refl _ | with_reducible apply List.Sublist.cons₂ | apply List.Sublist.cons)))))).mono ?_); rintro e wk ⟨rfl, hX⟩; replace hS := hS.step hX; clear hX; ((try clear hF); (first | have hF := And.intro hS.facts (HRD.out _ (hS.sub (by first | simp | ((repeat (first | exact List.nil_sublist _ | exact List.Sublist.refl _ | with_reducible apply List.Sublist.cons₂ | apply List.Sublist.cons)))))) | have hF := And.intro hS.facts (hR.at hS.ext) | have hF := hS.facts); simp only [HFacts, cellFacts, RFacts, cellOnly, and_true, true_and, Nat.zero_add, Nat.reduceAdd] at hF)) | (go_at_call 64; (with_reducible refine (HCF.out _ _ (hS.sub (by first | simp | ((repeat (first | exact List.nil_sublist _ | exact List.Sublist.refl _ | with_reducible apply List.Sublist.cons₂ | apply List.Sublist.cons))))) hF.1.2.2.1).mono ?_); rintro e wk ⟨rfl, hX⟩; replace hS := hS.step hX; clear hX; ((try clear hF); (first | have hF := And.intro hS.facts (HRD.out _ (hS.sub (by first | simp | ((repeat (first | exact List.nil_sublist _ | exact List.Sublist.refl _ | with_reducible apply List.Sublist.cons₂ | apply List.Sublist.cons)))))) | have hF := And.intro hS.facts (hR.at hS.ext) | have hF := hS.facts); simp only [HFacts, cellFacts, RFacts, cellOnly, and_true, true_and, Nat.zero_add, Nat.reduceAdd] at hF)) | (go_at_call 67; (with_reducible refine Calls.mono (HCC.out _ _ _ (hS.sub (by first | simp | ((repeat (first | exact List.nil_sublist _ | exact List.Sublist.refl _ | with_reducible apply List.Sublist.cons₂ | apply List.Sublist.cons))))) (hS.blkAt 0 rfl)) ?_); rintro e wk ⟨Am, cm, rfl, hW⟩; replace hS := hS.join hW; clear hW; simp only [List.cons_append, List.nil_append] at hS; ((try clear hF); (first | have hF := And.intro hS.facts (HRD.out _ (hS.sub (by first | simp | ((repeat (first | exact List.nil_sublist _ | exact List.Sublist.refl _ | with_reducible apply List.Sublist.cons₂ | apply List.Sublist.cons)))))) | have hF := And.intro hS.facts (hR.at hS.ext) | have hF := hS.facts); simp only [HFacts, cellFacts, RFacts, cellOnly, and_true, true_and, Nat.zero_add, Nat.reduceAdd] at hF)) | (go_at_call 68; (with_reducible refine Calls.mono (isort_any (mk ++ l) (by rw [List.length_append, hmn, hl]) (by omega) hS) ?_); clear hS; rintro e wk ⟨rfl, hS⟩; ((try clear hF); (first | have hF := And.intro hS.facts (HRD.out _ (hS.sub (by first | simp | ((repeat (first | exact List.nil_sublist _ | exact List.Sublist.refl _ | with_reducible apply List.Sublist.cons₂ | apply List.Sublist.cons)))))) | have hF := And.intro hS.facts (hR.at hS.ext) | have hF := hS.facts); simp only [HFacts, cellFacts, RFacts, cellOnly, and_true, true_and, Nat.zero_add, Nat.reduceAdd] at hF)))
        ((with_reducible refine wp_region_tail_hp (id := 8) [.q, .q, .q, .q, .q, .q, .q, .t] (by kernel_rfl) rfl (by kernel_rfl) hS ?_); (repeat ((with_reducible refine Walk.here ?_); (first | ((with_reducible apply Walk.skipQ); (first | rfl | exact wanted_false rfl rfl rfl (by assumption)); (try simp only [Mark.isQ, if_true, Bool.false_eq_true, if_false, Act.put, List.setIfInBounds_toArray, List.set_cons_zero, List.set_cons_succ])) | ((with_reducible apply Walk.skipP); (first | rfl | exact wanted_false rfl rfl rfl (by assumption)); (try simp only [Mark.isQ, if_true, Bool.false_eq_true, if_false, Act.put, List.setIfInBounds_toArray, List.set_cons_zero, List.set_cons_succ])) | ((with_reducible apply Walk.val); (first | rfl | exact wanted_true rfl rfl rfl (by assumption)); (rintro w hS; ((try clear hF); (first | have hF := And.intro hS.facts (HRD.out _ (hS.sub (by first | simp | ((repeat (first | exact List.nil_sublist _ | exact List.Sublist.refl _ | with_reducible apply List.Sublist.cons₂ | apply List.Sublist.cons)))))) | have hF := And.intro hS.facts (hR.at hS.ext) | have hF := hS.facts); simp only [HFacts, cellFacts, RFacts, cellOnly, and_true, true_and, Nat.zero_add, Nat.reduceAdd] at hF); go_simp; with_reducible rfl); (try simp only [Mark.isQ, if_true, Bool.false_eq_true, if_false, Act.put, List.setIfInBounds_toArray, List.set_cons_zero, List.set_cons_succ])) | ((with_reducible apply Walk.pure); (first | rfl | exact wanted_true rfl rfl rfl (by assumption)); (intro w; go_simp; with_reducible rfl); (try simp only [Mark.isQ, if_true, Bool.false_eq_true, if_false, Act.put, List.setIfInBounds_toArray, List.set_cons_zero, List.set_cons_succ])) | ((with_reducible apply Walk.blk); (focus (intro w; go_simp; try with_reducible rfl)); (try simp only [Mark.isQ, if_true, Bool.false_eq_true, if_false, Act.put, List.setIfInBounds_toArray, List.set_cons_zero, List.set_cons_succ])) | ((with_reducible apply Walk.tail); (try simp only [Mark.isQ, if_true, Bool.false_eq_true, if_false, Act.put, List.setIfInBounds_toArray, List.set_cons_zero, List.set_cons_succ])) | ((with_reducible apply Walk.guardT); rfl; rfl; rfl; (all_goals intro hg)) | ((with_reducible apply Walk.guardF); rfl; rfl; rfl; (all_goals intro hg))))); refine Walk.done ?_; (try clear hF); clear hS; intro bs wk hS QN hQN; simp only [itemsOf, blksOf, List.map_cons, List.map_nil, List.cons_append, List.nil_append, Nat.reduceAdd, Nat.zero_add] at hS; simp only [tailsOf, putB, Act.put, List.setIfInBounds_toArray, List.set_cons_zero, List.set_cons_succ, Nat.reduceAdd, Nat.zero_add]; ((try clear hF); (first | have hF := And.intro hS.facts (HRD.out _ (hS.sub (by first | simp | ((repeat (first | exact List.nil_sublist _ | exact List.Sublist.refl _ | with_reducible apply List.Sublist.cons₂ | apply List.Sublist.cons)))))) | have hF := And.intro hS.facts (hR.at hS.ext) | have hF := hS.facts); simp only [HFacts, cellFacts, RFacts, cellOnly, and_true, true_and, Nat.zero_add, Nat.reduceAdd] at hF))
        obtain ⟨z0, z1, z2⟩ := cellsE_at evs k v hk
        obtain ⟨ga, hga, d0, f0⟩ := hS.rowCell 4 rfl z0
        obtain rfl : gf = ga := by simpa using hga
        obtain ⟨gb, hgb, d1, f1⟩ := hS.rowCell 4 rfl z1
        obtain rfl : gf = gb := by simpa using hgb
        obtain ⟨gc, hgc, d2, f2⟩ := hS.rowCell 4 rfl z2
        obtain rfl : gf = gc := by simpa using hgc
        clear hga hgb hgc z0 z1 z2
        go_wp2_with fail
        go_ret
        have hS2 := (((hS.front 4 rfl).putRow (k * 3) (.string v.path)).putRow (k * 3 + 1) (.int .i64 v.rows)).putRow (k * 3 + 2) (.slice Am (v.mn + nl) cm)
        have hset := cellsE_set evs k ⟨v.path, v.rows, Am, v.mn + nl, cm⟩ (by omega)
        simp only at hset
        rw [hset] at hS2
        simp only [List.eraseIdx_cons_zero, List.eraseIdx_cons_succ] at hS2
        have hS3 := (hS2.sub (M := .row 43 3 (some ⟨gf, 0, none⟩) nf cf (cellsE (evs.set k ⟨v.path, v.rows, Am, v.mn + nl, cm⟩)) :: .row 3 1 Am (v.mn + nl) cm (intsV (sortI (mk ++ l))) :: .blk gs [.int .i64 ver, .slice Ac nc cc, .int .i64 nx, .slice (some ⟨gf, 0, none⟩) nf cf] 27 :: K) (by first | simp | ((repeat (first | exact List.nil_sublist _ | exact List.Sublist.refl _ | with_reducible apply List.Sublist.cons₂ | apply List.Sublist.cons))))).front 2 rfl
        simp only [List.eraseIdx_cons_zero, List.eraseIdx_cons_succ] at hS3
        refine ⟨rfl, ?_⟩
        first
          | exact ⟨Am, cm, fun h => by subst h; exact (hS.rowNil 0 rfl).2.1, hS3⟩
          | (rw [if_pos rfl]; exact ⟨Am, cm, fun h => by subst h; exact (hS.rowNil 0 rfl).2.1, hS3⟩)
end Go.Proofs.YtcpnnffnkegamaaGreatDoor

/- log.action. -/
namespace Go.Proofs.YtcpnnffnkegamaaGreatDoor
set_option linter.unusedSimpArgs false
set_option linter.unusedVariables false
open Go.RowKit
set_option linter.all false
/-- a file of a table; a table; an action -/
structure EN where
  path : ByteArray
  rows : Int
  mask : List Int
structure SN where
  ver : Int
  cols : List CG
  next : Int
  files : List EN
structure AN where
  kind : Int
  path : ByteArray
  rows : Int
  mask : List Int
  cols : List CG
  next : Int
def pathEq (p : ByteArray) (q : ByteArray) : Bool := q.toList == p.toList
def idxP (p : ByteArray) : Nat → List ByteArray → Int
  | _, [] => -1
  | k, x :: l => if pathEq p x then k else idxP p (k + 1) l
def actE (s : SN) (a : AN) : Int :=
  if a.kind = 4 then (if rightC a.cols a.next = false ∨ a.next < s.next then 1 else 0)
  else if a.kind = 1 then (if nameB a.path = false ∨ a.rows < 1 ∨ 60 < a.rows then 1 else if 0 ≤ idxP a.path 0 (s.files.map (·.path)) then 9 else if s.cols.length = 0 then 6 else if 40 ≤ s.files.length then 12 else 0)
  else if a.kind = 2 ∨ a.kind = 3 then (if idxP a.path 0 (s.files.map (·.path)) < 0 then 7 else if a.kind = 2 then 0 else match s.files[(idxP a.path 0 (s.files.map (·.path))).toNat]? with | some e => masksE e.rows e.mask a.mask | none => 1)
  else 1
def actS (s : SN) (a : AN) : SN :=
  if a.kind = 4 then { s with cols := a.cols, next := a.next }
  else if a.kind = 1 then { s with files := s.files ++ [⟨a.path, a.rows, []⟩] }
  else if a.kind = 2 then { s with files := s.files.eraseIdx (idxP a.path 0 (s.files.map (·.path))).toNat }
  else match s.files[(idxP a.path 0 (s.files.map (·.path))).toNat]? with
    | some e => { s with files := s.files.set (idxP a.path 0 (s.files.map (·.path))).toNat ⟨e.path, e.rows, sortI (e.mask ++ a.mask)⟩ }
    | none => s
/-- a file in memory reads so, as long as the things of K stand -/
structure EvOk (B : Nat) (w0 : World) (K : List Item) (v : EV) (e : EN) : Prop where
  path : v.path = e.path
  rows : v.rows = e.rows
  len : e.mask.length = v.mn
  nil : v.ma = none → v.mc = 0
  mask : ∀ W, Hp B w0 W K → RI W v.ma e.mask
structure FsOk (B : Nat) (w0 : World) (K : List Item) (evs : List EV) (ens : List EN) : Prop where
  len : evs.length = ens.length
  one : ∀ (i : Nat) (v : EV) (e : EN), evs[i]? = some v → ens[i]? = some e → EvOk B w0 K v e
theorem EvOk.more {B : Nat} {w0 : World} {K K' : List Item} {v : EV} {e : EN} (h : EvOk B w0 K v e) (hK : ∀ W, Hp B w0 W K' → Hp B w0 W K) : EvOk B w0 K' v e := ⟨h.path, h.rows, h.len, h.nil, fun W hW => h.mask W (hK W hW)⟩
theorem FsOk.more {B : Nat} {w0 : World} {K K' : List Item} {evs : List EV} {ens : List EN} (h : FsOk B w0 K evs ens) (hK : ∀ W, Hp B w0 W K' → Hp B w0 W K) : FsOk B w0 K' evs ens := ⟨h.len, fun i v e h1 h2 => (h.one i v e h1 h2).more hK⟩
theorem FsOk.paths {B : Nat} {w0 : World} {K : List Item} {evs : List EV} {ens : List EN} (h : FsOk B w0 K evs ens) : evs.map (·.path) = ens.map (·.path) := by
  refine List.ext_getElem (by simp [h.len]) fun i h1 h2 => ?_
  simp only [List.getElem_map]
  exact (h.one i _ _ (List.getElem?_eq_getElem (by simpa using h1)) (List.getElem?_eq_getElem (by simpa using h2))).path
theorem idxE_P (p : ByteArray) : ∀ (l : List EV) (k : Nat), idxE (fun v => pathEq p v.path) k l = idxP p k (l.map (·.path))
  | [], k => rfl
  | x :: l, k => by
    rw [List.map_cons, idxE, idxP, idxE_P p l (k + 1)]
theorem FsOk.set {B : Nat} {w0 : World} {K : List Item} {evs : List EV} {ens : List EN} (h : FsOk B w0 K evs ens) (k : Nat) {v : EV} {e : EN} (hv : EvOk B w0 K v e) : FsOk B w0 K (evs.set k v) (ens.set k e) :=
  ⟨by rw [List.length_set, List.length_set, h.len], fun i a b h1 h2 => by
    rw [List.getElem?_set] at h1 h2
    by_cases hk : k = i
    · rw [if_pos hk] at h1 h2
      split at h1
      · split at h2
        · obtain rfl := Option.some.inj h1
          obtain rfl := Option.some.inj h2
          exact hv
        · cases h2
      · cases h1
    · rw [if_neg hk] at h1 h2
      exact h.one i a b h1 h2⟩
theorem FsOk.erase {B : Nat} {w0 : World} {K : List Item} {evs : List EV} {ens : List EN} (h : FsOk B w0 K evs ens) (k : Nat) : FsOk B w0 K (evs.eraseIdx k) (ens.eraseIdx k) :=
  ⟨by rw [List.length_eraseIdx, List.length_eraseIdx, h.len], fun i a b h1 h2 => by
    rw [List.getElem?_eraseIdx] at h1 h2
    split at h1
    · exact h.one i a b h1 (by rw [if_pos (by assumption)] at h2; exact h2)
    · exact h.one _ a b h1 (by rw [if_neg (by assumption)] at h2; exact h2)⟩
theorem FsOk.push {B : Nat} {w0 : World} {K : List Item} {evs : List EV} {ens : List EN} (h : FsOk B w0 K evs ens) {v : EV} {e : EN} (hv : EvOk B w0 K v e) : FsOk B w0 K (evs ++ [v]) (ens ++ [e]) :=
  ⟨by rw [List.length_append, List.length_append, h.len]; rfl, fun i a b h1 h2 => by
    by_cases hi : i < evs.length
    · rw [List.getElem?_append_left hi] at h1
      rw [List.getElem?_append_left (by rw [← h.len]; exact hi)] at h2
      exact h.one i a b h1 h2
    · rw [List.getElem?_append_right (by omega)] at h1
      rw [List.getElem?_append_right (by rw [← h.len]; omega)] at h2
      have hlt := (List.getElem?_eq_some_iff.1 h1).1
      obtain hz : i - evs.length = 0 := by simpa using hlt
      rw [hz] at h1
      rw [← h.len, hz] at h2
      obtain rfl : v = a := by simpa using h1
      obtain rfl : e = b := by simpa using h2
      exact hv⟩
set_option maxRecDepth 100000 in
theorem eg_laction1 : ∀ args w, (callFunc 40 args).run Tryz.prog w = .ok (.enter 40 args) w := fun _ _ => by kernel_rfl
set_option maxRecDepth 100000 in
set_option maxHeartbeats 8000000 in
theorem laction1_any (p : ByteArray) (v : EV) (g : Nat) (w : World) (h : w.cell? ⟨g, 1, none⟩ = some (.string p)) :
    Calls Tryz.prog 40 #[.agg #[.string v.path, .int .i64 v.rows, .slice v.ma v.mn v.mc], .pointer (some ⟨g, 0, none⟩)] w fun e w' => e = .returned (.bool (pathEq p v.path)) ∧ Ext w w' := by
  have hS := Hp.init w
  have hR := Reads.cell h (Reads.nil w)
  clear h
  unfold pathEq
  ((try clear hF); (first | have hF := And.intro hS.facts (HRD.out _ (hS.sub (by first | simp | ((repeat (first | exact List.nil_sublist _ | exact List.Sublist.refl _ | with_reducible apply List.Sublist.cons₂ | apply List.Sublist.cons)))))) | have hF := And.intro hS.facts (hR.at hS.ext) | have hF := hS.facts); simp only [HFacts, cellFacts, RFacts, cellOnly, and_true, true_and, Nat.zero_add, Nat.reduceAdd] at hF)
  go_enter Tryz.func40, Tryz.ntmps40
  go_wp2_with (first | ((with_reducible first | refine nhLa ?_ | refine nhLs ?_ | refine nhLd ?_ | refine nhCa ?_ | refine nhCs ?_ | refine nhCd ?_ | refine nhPa ?_ | refine nhPs ?_ | refine nhPd ?_ | refine nhKa ?_ | refine nhKs ?_ | refine nhKd ?_); ((try clear hF); clear hS; intro wk hS; (try simp only [List.set_cons_zero, List.set_cons_succ, heap_size, heap_set_size] at hS); ((try clear hF); (first | have hF := And.intro hS.facts (HRD.out _ (hS.sub (by first | simp | ((repeat (first | exact List.nil_sublist _ | exact List.Sublist.refl _ | with_reducible apply List.Sublist.cons₂ | apply List.Sublist.cons)))))) | have hF := And.intro hS.facts (hR.at hS.ext) | have hF := hS.facts); simp only [HFacts, cellFacts, RFacts, cellOnly, and_true, true_and, Nat.zero_add, Nat.reduceAdd] at hF))) | fail)
  go_ret
  exact ⟨rfl, hS.ext⟩
end Go.Proofs.YtcpnnffnkegamaaGreatDoor

/- log.action: what it does, kind by kind. -/
namespace Go.Proofs.YtcpnnffnkegamaaGreatDoor
set_option linter.unusedSimpArgs false
set_option linter.unusedVariables false
open Go.RowKit
set_option linter.all false
/-- what action leaves -/
def ActRes (B : Nat) (w0 w' : World) (gs : Nat) (K J : List Item) (s : SN) (a : AN) : Prop :=
  if actE s a = 0 then ∃ (Ac : Option Addr) (nc cc : Nat) (Af : Option Addr) (nf cf : Nat) (evs : List EV) (M : List Item), Hp B w0 w' (snB gs (actS s a).ver Ac nc cc (actS s a).next Af nf cf :: eRow Af nf cf evs :: (M ++ K)) ∧ FsOk B w0 (M ++ J) evs (actS s a).files ∧
    (actS s a).cols.length = nc ∧ nc ≤ cc ∧ evs.length = nf ∧ (Af = none → cf = 0) ∧ (∀ W, Hp B w0 W (M ++ J) → RC W Ac (actS s a).cols)
  else Hp B w0 w' K
theorem ActRes.bad {B : Nat} {w0 w' : World} {gs : Nat} {K J : List Item} {s : SN} {a : AN} {n : Int} (h : actE s a = n) (hn : n ≠ 0) (hS : Hp B w0 w' K) : ActRes B w0 w' gs K J s a := by
  unfold ActRes
  rw [if_neg (by rw [h]; exact hn)]
  exact hS
theorem ActRes.good {B : Nat} {w0 w' : World} {gs : Nat} {K J : List Item} {s : SN} {a : AN} (h : actE s a = 0) (hh : ∃ (Ac : Option Addr) (nc cc : Nat) (Af : Option Addr) (nf cf : Nat) (evs : List EV) (M : List Item), Hp B w0 w' (snB gs (actS s a).ver Ac nc cc (actS s a).next Af nf cf :: eRow Af nf cf evs :: (M ++ K)) ∧ FsOk B w0 (M ++ J) evs (actS s a).files ∧
    (actS s a).cols.length = nc ∧ nc ≤ cc ∧ evs.length = nf ∧ (Af = none → cf = 0) ∧ (∀ W, Hp B w0 W (M ++ J) → RC W Ac (actS s a).cols)) : ActRes B w0 w' gs K J s a := by
  unfold ActRes
  rw [if_pos h]
  exact hh
abbrev actV (a : AN) (Aq : Option Addr) (nq cq : Nat) (Ar : Option Addr) (nr cr : Nat) : Value := .agg #[.int .i64 a.kind, .string a.path, .int .i64 a.rows, .slice Aq nq cq, .slice Ar nr cr, .int .i64 a.next]
section
variable {B : Nat} {w0 w : World} {K J : List Item}
theorem lpath_any (p : ByteArray) (w : World) : Calls Tryz.prog 31 #[.string p] w fun e w' => e = .returned (.bool (nameB p)) ∧ Ext w w' := by
  have HN := Lib.hid (fun W => name_any p W)
  obtain ⟨b, hb⟩ : ∃ b, b = nameB p := ⟨_, rfl⟩
  rw [← hb] at HN ⊢
  clear hb
  have hS := Hp.init w
  have hR := Reads.nil w
  go_enter Tryz.func31, Tryz.ntmps31
  go_wp2_with (first | ((with_reducible first | refine nhLa ?_ | refine nhLs ?_ | refine nhLd ?_ | refine nhCa ?_ | refine nhCs ?_ | refine nhCd ?_ | refine nhPa ?_ | refine nhPs ?_ | refine nhPd ?_ | refine nhKa ?_ | refine nhKs ?_ | refine nhKd ?_); ((try clear hF); clear hS; intro wk hS; (try simp only [List.set_cons_zero, List.set_cons_succ, heap_size, heap_set_size] at hS); ((try clear hF); (first | have hF := And.intro hS.facts (HRD.out _ (hS.sub (by first | simp | ((repeat (first | exact List.nil_sublist _ | exact List.Sublist.refl _ | with_reducible apply List.Sublist.cons₂ | apply List.Sublist.cons)))))) | have hF := And.intro hS.facts (hR.at hS.ext) | have hF := hS.facts); simp only [HFacts, cellFacts, RFacts, cellOnly, and_true, true_and, Nat.zero_add, Nat.reduceAdd] at hF))) | (go_at_call 21; (with_reducible refine (HN.out _).mono ?_); rintro e wk ⟨rfl, hX⟩; replace hS := hS.step hX; clear hX; ((try clear hF); (first | have hF := And.intro hS.facts (HRD.out _ (hS.sub (by first | simp | ((repeat (first | exact List.nil_sublist _ | exact List.Sublist.refl _ | with_reducible apply List.Sublist.cons₂ | apply List.Sublist.cons)))))) | have hF := And.intro hS.facts (hR.at hS.ext) | have hF := hS.facts); simp only [HFacts, cellFacts, RFacts, cellOnly, and_true, true_and, Nat.zero_add, Nat.reduceAdd] at hF)))
  go_ret
  exact ⟨rfl, hS.ext⟩
theorem aindex_any (s : SN) (a : AN) {Af : Option Addr} {nf cf : Nat} {evs : List EV} (hnf : evs.length = nf) (hnf2 : nf ≤ 1000) (hF : FsOk B w0 K evs s.files) (g : Nat) {w : World} (hr : RE w Af evs) (h : w.cell? ⟨g, 1, none⟩ = some (.string a.path)) :
    Calls Tryz.prog 39 #[.slice Af nf cf, .func (.func 40) #[] #[.pointer (some ⟨g, 0, none⟩)]] w fun e w' => e = .returned (.int .i64 (idxP a.path 0 (s.files.map (·.path)))) ∧ Ext w w' := by
  have := eindexFunc_any evs Af nf cf 40 #[.pointer (some ⟨g, 0, none⟩)] (fun v => pathEq a.path v.path) w hnf hr (by omega) eg_laction1 (fun W hx v => laction1_any a.path v g W (hx.keeps h))
  rw [idxE_P, hF.paths] at this
  exact this
set_option maxRecDepth 100000 in
set_option maxHeartbeats 8000000 in
/-- of another kind -/
theorem act_other (s : SN) (a : AN) (gs : Nat) (Ac Af Aq Ar : Option Addr) (nc cc nf cf nq cq nr cr : Nat) (evs : List EV) (hnf : evs.length = nf) (hnf2 : nf ≤ 1000) (HFS : Hid (FsOk B w0 J evs s.files))
    (h4 : a.kind ≠ 4) (h1 : a.kind ≠ 1) (h2 : a.kind ≠ 2) (h3 : a.kind ≠ 3)
    (hS : Hp B w0 w (snB gs s.ver Ac nc cc s.next Af nf cf :: eRow Af nf cf evs :: K)) :
    Calls Tryz.prog 23 #[.pointer (some ⟨gs, 0, none⟩), actV a Aq nq cq Ar nr cr] w fun e w' => e = .returned (.int .i64 (actE s a)) ∧ ActRes B w0 w' gs K J s a := by
  unfold snB eRow at hS
  have HIX := Lib.hid (fun (W : World) (g : Nat) (hr : RE W Af evs) h => aindex_any (cf := cf) s a hnf hnf2 HFS.out g hr h)
  have e0 : actE s a = 1 := by unfold actE; rw [if_neg h4, if_neg h1, if_neg (by omega)]
  have HE := Lib.hid e0
  rw [e0]
  have b1 : (a.kind == 1) = false := by simp [h1]
  have b2 : (a.kind == 2) = false := by simp [h2]
  have b3 : (a.kind == 3) = false := by simp [h3]
  have b4 : (a.kind == 4) = false := by simp [h4]
  clear h1 h2 h3 h4 e0
  ((try clear hF); (first | have hF := And.intro hS.facts (HRD.out _ (hS.sub (by first | simp | ((repeat (first | exact List.nil_sublist _ | exact List.Sublist.refl _ | with_reducible apply List.Sublist.cons₂ | apply List.Sublist.cons)))))) | have hF := And.intro hS.facts (hR.at hS.ext) | have hF := hS.facts); simp only [HFacts, cellFacts, RFacts, cellOnly, and_true, true_and, Nat.zero_add, Nat.reduceAdd] at hF)
  go_enter Tryz.func23, Tryz.ntmps23
  go_wp2_with (first | ((with_reducible first | refine nhLa ?_ | refine nhLs ?_ | refine nhLd ?_ | refine nhCa ?_ | refine nhCs ?_ | refine nhCd ?_ | refine nhPa ?_ | refine nhPs ?_ | refine nhPd ?_ | refine nhKa ?_ | refine nhKs ?_ | refine nhKd ?_); ((try clear hF); clear hS; intro wk hS; (try simp only [List.set_cons_zero, List.set_cons_succ, heap_size, heap_set_size] at hS); ((try clear hF); (first | have hF := And.intro hS.facts (HRD.out _ (hS.sub (by first | simp | ((repeat (first | exact List.nil_sublist _ | exact List.Sublist.refl _ | with_reducible apply List.Sublist.cons₂ | apply List.Sublist.cons)))))) | have hF := And.intro hS.facts (hR.at hS.ext) | have hF := hS.facts); simp only [HFacts, cellFacts, RFacts, cellOnly, and_true, true_and, Nat.zero_add, Nat.reduceAdd] at hF))) | (go_at_call 39; (with_reducible refine (HIX.out _ _ (hS.re 2 rfl) hF.1.2.1.1).mono ?_); rintro e wk ⟨rfl, hX⟩; replace hS := hS.step hX; clear hX; ((try clear hF); (first | have hF := And.intro hS.facts (HRD.out _ (hS.sub (by first | simp | ((repeat (first | exact List.nil_sublist _ | exact List.Sublist.refl _ | with_reducible apply List.Sublist.cons₂ | apply List.Sublist.cons)))))) | have hF := And.intro hS.facts (hR.at hS.ext) | have hF := hS.facts); simp only [HFacts, cellFacts, RFacts, cellOnly, and_true, true_and, Nat.zero_add, Nat.reduceAdd] at hF)))
  go_ret
  exact ⟨rfl, ActRes.bad HE.out (by decide) (hS.sub (by first | simp | ((try simp only [List.eraseIdx_cons_zero, List.eraseIdx_cons_succ]); (repeat (first | exact List.nil_sublist _ | exact List.Sublist.refl _ | with_reducible apply List.Sublist.cons₂ | apply List.Sublist.cons)))))⟩
end
end Go.Proofs.YtcpnnffnkegamaaGreatDoor

/- a table that stands: what an action leaves of it. -/
namespace Go.Proofs.YtcpnnffnkegamaaGreatDoor
set_option linter.unusedSimpArgs false
set_option linter.unusedVariables false
open Go.RowKit
set_option linter.all false
theorem maskFrom_iff (rows : Int) : ∀ (l : List Int) (lo : Int), maskFrom rows lo l = true ↔ l.Pairwise (· < ·) ∧ ∀ x ∈ l, 0 ≤ x ∧ x < rows ∧ lo < x
  | [], lo => by simp [maskFrom]
  | x :: l, lo => by
    rw [maskFrom, Bool.and_eq_true, maskFrom_iff rows l x]
    simp only [Bool.and_eq_true, decide_eq_true_eq, List.pairwise_cons, List.mem_cons]
    constructor
    · rintro ⟨⟨⟨h1, h2⟩, h3⟩, h4, h5⟩
      refine ⟨⟨fun y hy => (h5 y hy).2.2, h4⟩, ?_⟩
      rintro y (rfl | hy)
      · exact ⟨h1, h2, h3⟩
      · have := h5 y hy
        exact ⟨this.1, this.2.1, by omega⟩
    · rintro ⟨⟨h1, h2⟩, h3⟩
      have hx := h3 x (.inl rfl)
      exact ⟨⟨⟨hx.1, hx.2.1⟩, hx.2.2⟩, h2, fun y hy => ⟨(h3 y (.inr hy)).1, (h3 y (.inr hy)).2.1, h1 y hy⟩⟩
theorem maskB_iff (rows : Int) (l : List Int) : maskB l rows = true ↔ l.Pairwise (· < ·) ∧ ∀ x ∈ l, 0 ≤ x ∧ x < rows := by
  unfold maskB
  rw [maskFrom_iff]
  refine and_congr_right fun _ => forall_congr' fun x => forall_congr' fun _ => ?_
  constructor
  · rintro ⟨a, b, c⟩; exact ⟨a, b⟩
  · rintro ⟨a, b⟩; exact ⟨a, b, by omega⟩
theorem maskFrom_len (rows : Int) : ∀ (l : List Int) (lo : Int), lo < rows → maskFrom rows lo l = true → (l.length : Int) ≤ rows - 1 - lo
  | [], lo, h, _ => by simp; omega
  | x :: l, lo, h, h2 => by
    rw [maskFrom, Bool.and_eq_true] at h2
    simp only [Bool.and_eq_true, decide_eq_true_eq] at h2
    have := maskFrom_len rows l x (by omega) h2.2
    simp only [List.length_cons]
    omega
theorem maskB_len {rows : Int} {l : List Int} (h : maskB l rows = true) (hr : 0 ≤ rows) : (l.length : Int) ≤ rows := by
  have := maskFrom_len rows l (-1) (by omega) h
  omega
/-- masked more -/
theorem maskB_sort {rows : Int} {m l : List Int} (hm : maskB m rows = true) (hl : maskB l rows = true) (hd : l.any m.contains = false) : maskB (sortI (m ++ l)) rows = true := by
  rw [maskB_iff] at *
  have hp : (sortI (m ++ l)).Perm (m ++ l) := List.mergeSort_perm _ _
  have hle : (sortI (m ++ l)).Pairwise (fun a b => decide (a ≤ b) = true) := List.pairwise_mergeSort (fun a b c h1 h2 => by simp only [decide_eq_true_eq] at *; omega) (fun a b => by simp only [Bool.or_eq_true, decide_eq_true_eq]; omega) _
  have hn : (m ++ l).Pairwise (· ≠ ·) := by
    rw [List.pairwise_append]
    refine ⟨hm.1.imp fun h => by omega, hl.1.imp fun h => by omega, fun a ha b hb he => ?_⟩
    subst he
    rw [List.any_eq_false] at hd
    exact hd a hb (by simpa using ha)
  have hn2 : (sortI (m ++ l)).Pairwise (· ≠ ·) := hp.symm.pairwise hn (fun h => Ne.symm h)
  refine ⟨(hle.and hn2).imp fun h => by have := h.1; simp only [decide_eq_true_eq] at this; have := h.2; omega, fun x hx => ?_⟩
  rcases List.mem_append.1 (hp.mem_iff.1 hx) with h | h
  · exact hm.2 x h
  · exact hl.2 x h
/-- a table that may be -/
structure Good (s : SN) : Prop where
  files : ∀ e ∈ s.files, maskB e.mask e.rows = true ∧ 1 ≤ e.rows ∧ e.rows ≤ 60
  few : s.files.length ≤ 40
  once : (s.files.map (·.path)).Nodup
  cols : s.cols = [] ∨ rightC s.cols s.next = true
theorem Good.mask {s : SN} (h : Good s) {e : EN} (he : e ∈ s.files) : e.mask.length ≤ 60 := by
  have := maskB_len (h.files e he).1 (by have := (h.files e he).2.1; omega)
  have := (h.files e he).2.2
  omega
theorem idxP_none (p : ByteArray) : ∀ (l : List ByteArray) (k : Nat), ¬ 0 ≤ idxP p k l → p ∉ l
  | [], k, _ => by simp
  | x :: l, k, h => by
    rw [idxP] at h
    split at h
    · omega
    · rename_i hx
      simp only [List.mem_cons, not_or]
      refine ⟨fun he => hx (by rw [he]; unfold pathEq; simp), idxP_none p l (k + 1) h⟩
theorem Good.nil (v n : Int) : Good ⟨v, [], n, []⟩ := ⟨by simp, by simp, by simp, .inl rfl⟩
theorem Good.ver {s : SN} (h : Good s) (v : Int) : Good { s with ver := v } := ⟨h.files, h.few, h.once, h.cols⟩
theorem Good.act {s : SN} {a : AN} (h : Good s) (he : actE s a = 0) : Good (actS s a) := by
  unfold actE at he
  unfold actS
  by_cases h4 : a.kind = 4
  · rw [if_pos h4] at he ⊢
    refine ⟨h.files, h.few, h.once, .inr ?_⟩
    split at he
    · cases he
    · rename_i hb
      simp only [not_or] at hb
      simpa using hb.1
  rw [if_neg h4] at he ⊢
  by_cases h1 : a.kind = 1
  · rw [if_pos h1] at he ⊢
    split at he
    · cases he
    rename_i hb
    simp only [not_or] at hb
    split at he
    · cases he
    rename_i hi
    split at he
    · cases he
    split at he
    · cases he
    rename_i hc hf
    refine ⟨fun e hm => ?_, ?_, ?_, h.cols⟩
    · rcases List.mem_append.1 hm with hm | hm
      · exact h.files e hm
      · obtain rfl := List.mem_singleton.1 hm
        exact ⟨rfl, by show (1 : Int) ≤ a.rows; omega, by show a.rows ≤ 60; omega⟩
    · simp only [List.length_append, List.length_cons, List.length_nil]; omega
    · simp only [List.map_append, List.map_cons, List.map_nil]
      rw [List.nodup_append]
      exact ⟨h.once, by simp, fun x hx y hy hxy => idxP_none a.path _ 0 hi (by rw [List.mem_singleton.1 hy] at hxy; rw [← hxy]; exact hx)⟩
  rw [if_neg h1] at he ⊢
  split at he
  rotate_left
  · cases he
  rename_i h23
  split at he
  · cases he
  by_cases h2 : a.kind = 2
  · rw [if_pos h2]
    refine ⟨fun e hm => h.files e (List.mem_of_mem_eraseIdx hm), ?_, ?_, h.cols⟩
    · exact Nat.le_trans (List.length_eraseIdx_le _ _) h.few
    · exact h.once.sublist ((List.eraseIdx_sublist _ _).map _)
  · rw [if_neg h2] at he ⊢
    revert he
    cases hx : s.files[(idxP a.path 0 (s.files.map (·.path))).toNat]? with
    | none => intro he; cases he
    | some e =>
      intro he
      simp only at he ⊢
      have hem := h.files e (List.mem_of_getElem? hx)
      unfold masksE at he
      split at he
      · cases he
      rename_i hb
      simp only [not_or] at hb
      split at he
      · cases he
      rename_i hd
      refine ⟨fun e' hm => ?_, ?_, ?_, h.cols⟩
      · rcases List.mem_or_eq_of_mem_set hm with hm | rfl
        · exact h.files e' hm
        · exact ⟨maskB_sort hem.1 (by simpa using hb.2) (by simpa using hd), hem.2⟩
      · rw [List.length_set]; exact h.few
      · rw [List.map_set]
        have : (s.files.map (·.path)).set (idxP a.path 0 (s.files.map (·.path))).toNat e.path = s.files.map (·.path) := by
          refine List.ext_getElem? fun i => ?_
          rw [List.getElem?_set]
          split
          · rename_i hi
            subst hi
            rw [List.getElem?_map, hx]
            have := (List.getElem?_eq_some_iff.1 hx).1
            simp [this]
          · rfl
        rw [this]
        exact h.once
end Go.Proofs.YtcpnnffnkegamaaGreatDoor

/- slices.Equal of the same columns. -/
namespace Go.Proofs.YtcpnnffnkegamaaGreatDoor
set_option linter.all false
set_option linter.unusedSimpArgs false
set_option linter.unusedVariables false
open Go.RowKit
end Go.Proofs.YtcpnnffnkegamaaGreatDoor
