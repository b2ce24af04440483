/- Texts joined: rows of values; file.column. millpondkeep.columns, rows: they are short. the file's numbers and texts: what is written is read; what is read was written just so. a file in memory; (File).Rows. a file that is right; what Write writes, what Parse reads: in plain words. groups of a file, while they are built. what Parse reads was written just so; what Write writes is read. rows of values that a call builds: a slice of slices. what file.Make makes: in plain words. -/
import Derived.Test.YtcpllhjhnfmepaaGreatDoorFW20
import Derived.Test.YtcpllhjhnfmepaaGreatDoorFW09
import Derived.Test.YtcpllhjhnfmepaaGreatDoorFW19
import Derived.Test.YtcpllhjhnfmepaaGreatDoorFW17
import Derived.Test.YtcpllhjhnfmepaaGreatDoorFW04
import Derived.Test.YtcpllhjhnfmepaaGreatDoorFW21
import Derived.Test.YtcpllhjhnfmepaaGreatDoorFW05
import Derived.Test.YtcpllhjhnfmepaaGreatDoorFW10
import Derived.Test.YtcpllhjhnfmepaaGreatDoorFW13
/- rows of values; file.column. -/
namespace Go.Proofs.YtcpllhjhnfmepaaGreatDoor
set_option linter.all false
set_option linter.unusedSimpArgs false
set_option linter.unusedVariables false
open Go.RowKit
/-- the slice at A reads as rows -/
def RR (w : World) (A : Option Addr) (rs : List (List GV)) : Prop := ∀ (i : Nat) (r : List GV), rs[i]? = some r → ∃ (b o : Nat) (A1 : Option Addr) (c1 : Nat), A = some ⟨b, o, none⟩ ∧ w.cell? ⟨b, o + i, none⟩ = some (.slice A1 r.length c1) ∧ RV w A1 r
theorem RR.ext {w w' : World} {A : Option Addr} {l : List (List GV)} (h : RR w A l) (hx : Ext w w') : RR w' A l := fun i r hi => by
  obtain ⟨b, o, A1, c1, hA, h0, h1⟩ := h i r hi
  exact ⟨b, o, A1, c1, hA, hx.keeps h0, h1.ext hx⟩
abbrev gv00 : GV := ⟨0, 0, ⟨#[]⟩⟩
/-- the how many-th values of rows -/
def colL (rs : List (List GV)) (k : Nat) : List GV := rs.map fun r => r.getD k gv00
set_option maxRecDepth 100000 in
set_option maxHeartbeats 8000000 in
theorem fcolumn_any (rs : List (List GV)) (k : Nat) (A : Option Addr) (n cap : Nat) (w : World) (hn : rs.length = n) (hl : n ≤ 1000) (hr : RR w A rs) (hk : ∀ r ∈ rs, k < r.length) :
    Calls Tryz.prog 42 #[.slice A n cap, .int .i64 k] w fun e w' => ∃ A' cap', e = .returned (.slice A' n cap') ∧ Hp w.heap.size w w' [.row 45 3 A' n cap' (cellsV (colL rs k))] := by
  have Hn := Lib.hid hn
  have HK := Lib.hid hk
  clear hn hk
  have hS := Hp.init w
  have hR := Reads.nil w
  go_enter Tryz.func42, Tryz.ntmps42
  go_wp2_with (first | ((with_reducible first | refine nhLa ?_ | refine nhLs ?_ | refine nhLd ?_ | refine nhCa ?_ | refine nhCs ?_ | refine nhCd ?_ | refine nhPa ?_ | refine nhPs ?_ | refine nhPd ?_ | refine nhKa ?_ | refine nhKs ?_ | refine nhKd ?_); ((try clear hF); clear hS; intro wk hS; (try simp only [List.set_cons_zero, List.set_cons_succ, heap_size, heap_set_size] at hS); ((try clear hF); (first | have hF := And.intro hS.facts (hR.at hS.ext) | have hF := hS.facts); simp only [HFacts, cellFacts, RFacts, cellOnly, and_true, true_and, Nat.zero_add, Nat.reduceAdd] at hF))) | fail)
  replace hS := hS.nilRow 45 3
  go_loopw [10, 5, 7] (fun i lv _ wr => ∃ (j : Nat) (A' : Option Addr) (c' : Nat), i = .int .i64 j ∧ j ≤ n ∧ lv = .slice A' j c' ∧ Hp w.heap.size w wr [.row 45 3 A' j c' (cellsV (colL (rs.take j) k))]) (fun i _ _ _ => n - (intOf i).toNat)
  case atStart => exact ⟨0, none, 0, rfl, Nat.zero_le _, rfl, hS⟩
  case round =>
    clear hS
    obtain ⟨j, A', c', rfl, hj, rfl, hS⟩ := hrel
    by_cases hlt : j < n
    · obtain ⟨r, hr'⟩ : ∃ x, rs[j]? = some x := ⟨rs[j]'(by rw [Hn.out]; exact hlt), List.getElem?_eq_getElem _⟩
      obtain ⟨b, o, A1, c1, rfl, h0, h1⟩ := hr j r hr'
      have hkr := HK.out r (List.mem_of_getElem? hr')
      obtain ⟨v, hv⟩ : ∃ v, r[k]? = some v := ⟨r[k], List.getElem?_eq_getElem hkr⟩
      obtain ⟨b1, o1, rfl, d0, d1, d2⟩ := h1 k v hv
      have hR := Reads.cell h0 (Reads.cell d0 (Reads.cell d1 (Reads.cell d2 (Reads.nil w))))
      have HT := Lib.hid (show colL (rs.take (j + 1)) k = colL (rs.take j) k ++ [v] by
        unfold colL
        rw [List.take_add_one, hr', List.map_append]
        simp [hv])
      obtain ⟨q, hq⟩ : ∃ q, q = r.length := ⟨_, rfl⟩
      rw [← hq] at hkr hR
      clear hq hr' hv h0 h1 d0 d1 d2 hr
      ((try clear hF); (first | have hF := And.intro hS.facts (hR.at hS.ext) | have hF := hS.facts); simp only [HFacts, cellFacts, RFacts, cellOnly, and_true, true_and, Nat.zero_add, Nat.reduceAdd] at hF)
      go_wp2_with (first | ((with_reducible first | refine nhLa ?_ | refine nhLs ?_ | refine nhLd ?_ | refine nhCa ?_ | refine nhCs ?_ | refine nhCd ?_ | refine nhPa ?_ | refine nhPs ?_ | refine nhPd ?_ | refine nhKa ?_ | refine nhKs ?_ | refine nhKd ?_); ((try clear hF); clear hS; intro wk hS; (try simp only [List.set_cons_zero, List.set_cons_succ, heap_size, heap_set_size] at hS); ((try clear hF); (first | have hF := And.intro hS.facts (hR.at hS.ext) | have hF := hS.facts); simp only [HFacts, cellFacts, RFacts, cellOnly, and_true, true_and, Nat.zero_add, Nat.reduceAdd] at hF))) | (at_builtin; refine wpList_push_hp Tryz.elem_vals rfl (.tmp 14) (.tmp 19) rfl (hS.second 0 rfl) rfl rfl rfl (by simp [Value.oneCell']) (by omega) (by omega) ?_; clear hS; intro Ak capk wk hS; (try simp only [List.eraseIdx_cons_zero, List.eraseIdx_cons_succ, List.set_cons_zero, List.set_cons_succ] at hS); ((try clear hF); (first | have hF := And.intro hS.facts (hR.at hS.ext) | have hF := hS.facts); simp only [HFacts, cellFacts, RFacts, cellOnly, and_true, true_and, Nat.zero_add, Nat.reduceAdd] at hF)))
      go_roundw
      case rel =>
        refine ⟨j + 1, _, _, by go_num, by omega, rfl, ?_⟩
        rw [HT.out, cellsV_append]
        exact hS
      case measure => simp [intOf]; omega
    · obtain rfl : j = n := by omega
      ((try clear hF); (first | have hF := And.intro hS.facts (hR.at hS.ext) | have hF := hS.facts); simp only [HFacts, cellFacts, RFacts, cellOnly, and_true, true_and, Nat.zero_add, Nat.reduceAdd] at hF)
      go_wp2_with (first | ((with_reducible first | refine nhLa ?_ | refine nhLs ?_ | refine nhLd ?_ | refine nhCa ?_ | refine nhCs ?_ | refine nhCd ?_ | refine nhPa ?_ | refine nhPs ?_ | refine nhPd ?_ | refine nhKa ?_ | refine nhKs ?_ | refine nhKd ?_); ((try clear hF); clear hS; intro wk hS; (try simp only [List.set_cons_zero, List.set_cons_succ, heap_size, heap_set_size] at hS); ((try clear hF); (first | have hF := And.intro hS.facts (hR.at hS.ext) | have hF := hS.facts); simp only [HFacts, cellFacts, RFacts, cellOnly, and_true, true_and, Nat.zero_add, Nat.reduceAdd] at hF))) | fail)
      go_ret
      refine ⟨A', c', rfl, ?_⟩
      rw [show rs.take j = rs by rw [← Hn.out, List.take_length]] at hS
      exact hS
end Go.Proofs.YtcpllhjhnfmepaaGreatDoor

/- millpondkeep.columns, rows: they are short. -/
namespace Go.Proofs.YtcpllhjhnfmepaaGreatDoor
set_option linter.all false
set_option linter.unusedSimpArgs false
set_option linter.unusedVariables false
open Go.RowKit
def shortC (c : CG) : Bool := decide (c.name.size ≤ 60) && decide (c.d.text.size ≤ 100)
def shortCs (cs : List CG) : Bool := decide (cs.length ≤ 20) && cs.all shortC
def shortV (v : GV) : Bool := decide (v.text.size ≤ 100)
def shortR (r : List GV) : Bool := decide (r.length ≤ 20) && r.all shortV
def shortRs (rs : List (List GV)) : Bool := decide (rs.length ≤ 70) && rs.all shortR
theorem all_upto {α : Type} {p : α → Bool} {l : List α} {k : Nat} {x : α} (h : (l.take k).all p = true) (hx : l[k]? = some x) (hp : p x = true) : (l.take (k + 1)).all p = true := by
  rw [List.take_add_one, List.all_append, h, hx]
  simp [hp]
theorem all_not {α : Type} {p : α → Bool} {l : List α} {k : Nat} {x : α} (hx : l[k]? = some x) (hp : p x = false) : l.all p = false := by
  rw [List.all_eq_false]
  exact ⟨x, List.mem_of_getElem? hx, by rw [hp]; simp⟩
set_option maxRecDepth 100000 in
set_option maxHeartbeats 8000000 in
theorem columns_any (cs : List CG) (A : Option Addr) (n cap : Nat) (w : World) (hn : cs.length = n) (hr : RC w A cs) :
    Calls Tryz.prog 6 #[.slice A n cap] w fun e w' => e = .returned (.bool (shortCs cs)) ∧ Ext w w' := by
  have Hn := Lib.hid hn
  unfold shortCs
  rw [hn]
  clear hn
  have hS := Hp.init w
  have hR := Reads.nil w
  by_cases h20 : 20 < n
  · rw [show decide (n ≤ 20) = false by simp; omega]
    go_enter Tryz.func6, Tryz.ntmps6
    go_wp2_with (first | ((with_reducible first | refine nhLa ?_ | refine nhLs ?_ | refine nhLd ?_ | refine nhCa ?_ | refine nhCs ?_ | refine nhCd ?_ | refine nhPa ?_ | refine nhPs ?_ | refine nhPd ?_ | refine nhKa ?_ | refine nhKs ?_ | refine nhKd ?_); ((try clear hF); clear hS; intro wk hS; (try simp only [List.set_cons_zero, List.set_cons_succ, heap_size, heap_set_size] at hS); ((try clear hF); (first | have hF := And.intro hS.facts (hR.at hS.ext) | have hF := hS.facts); simp only [HFacts, cellFacts, RFacts, cellOnly, and_true, true_and, Nat.zero_add, Nat.reduceAdd] at hF))) | fail)
    go_ret
    exact ⟨rfl, hS.ext⟩
  · rw [show decide (n ≤ 20) = true by simp; omega, Bool.true_and]
    go_enter Tryz.func6, Tryz.ntmps6
    go_wp2_with (first | ((with_reducible first | refine nhLa ?_ | refine nhLs ?_ | refine nhLd ?_ | refine nhCa ?_ | refine nhCs ?_ | refine nhCd ?_ | refine nhPa ?_ | refine nhPs ?_ | refine nhPd ?_ | refine nhKa ?_ | refine nhKs ?_ | refine nhKd ?_); ((try clear hF); clear hS; intro wk hS; (try simp only [List.set_cons_zero, List.set_cons_succ, heap_size, heap_set_size] at hS); ((try clear hF); (first | have hF := And.intro hS.facts (hR.at hS.ext) | have hF := hS.facts); simp only [HFacts, cellFacts, RFacts, cellOnly, and_true, true_and, Nat.zero_add, Nat.reduceAdd] at hF))) | fail)
    go_loopw [3] (fun i wr => ∃ k : Nat, i = .int .i64 k ∧ k ≤ n ∧ Hid ((cs.take k).all shortC = true) ∧ Hp w.heap.size w wr []) (fun i _ => n - (intOf i).toNat)
    case atStart => exact ⟨0, rfl, Nat.zero_le _, Lib.hid rfl, hS⟩
    case round =>
      clear hS
      obtain ⟨k, rfl, hk, hf, hS⟩ := hrel
      by_cases hlt : k < n
      · obtain ⟨c, hc'⟩ : ∃ x, cs[k]? = some x := ⟨cs[k]'(by rw [Hn.out]; exact hlt), List.getElem?_eq_getElem _⟩
        obtain ⟨b, o, rfl, c0, c1, c2, c3, c4, c5, c6⟩ := hr k c hc'
        have hR := Reads.cell c1 (Reads.cell c6 (Reads.nil w))
        have HX := Lib.hid hc'
        clear hc' c0 c1 c2 c3 c4 c5 c6 hr
        by_cases e1 : 60 < c.name.size
        · have HF2 := Lib.hid (all_not HX.out (show shortC c = false by unfold shortC; rw [decide_eq_false (by omega)]; rfl))
          ((try clear hF); (first | have hF := And.intro hS.facts (hR.at hS.ext) | have hF := hS.facts); simp only [HFacts, cellFacts, RFacts, cellOnly, and_true, true_and, Nat.zero_add, Nat.reduceAdd] at hF)
          go_wp2_with (first | ((with_reducible first | refine nhLa ?_ | refine nhLs ?_ | refine nhLd ?_ | refine nhCa ?_ | refine nhCs ?_ | refine nhCd ?_ | refine nhPa ?_ | refine nhPs ?_ | refine nhPd ?_ | refine nhKa ?_ | refine nhKs ?_ | refine nhKd ?_); ((try clear hF); clear hS; intro wk hS; (try simp only [List.set_cons_zero, List.set_cons_succ, heap_size, heap_set_size] at hS); ((try clear hF); (first | have hF := And.intro hS.facts (hR.at hS.ext) | have hF := hS.facts); simp only [HFacts, cellFacts, RFacts, cellOnly, and_true, true_and, Nat.zero_add, Nat.reduceAdd] at hF))) | fail)
          go_ret
          exact ⟨by rw [HF2.out]; rfl, hS.ext⟩
        by_cases e2 : 100 < c.d.text.size
        · have HF2 := Lib.hid (all_not HX.out (show shortC c = false by unfold shortC; rw [decide_eq_false (p := c.d.text.size ≤ 100) (by omega), Bool.and_false]))
          ((try clear hF); (first | have hF := And.intro hS.facts (hR.at hS.ext) | have hF := hS.facts); simp only [HFacts, cellFacts, RFacts, cellOnly, and_true, true_and, Nat.zero_add, Nat.reduceAdd] at hF)
          go_wp2_with (first | ((with_reducible first | refine nhLa ?_ | refine nhLs ?_ | refine nhLd ?_ | refine nhCa ?_ | refine nhCs ?_ | refine nhCd ?_ | refine nhPa ?_ | refine nhPs ?_ | refine nhPd ?_ | refine nhKa ?_ | refine nhKs ?_ | refine nhKd ?_); ((try clear hF); clear hS; intro wk hS; (try simp only [List.set_cons_zero, List.set_cons_succ, heap_size, heap_set_size] at hS); ((try clear hF); (first | have hF := And.intro hS.facts (hR.at hS.ext) | have hF := hS.facts); simp only [HFacts, cellFacts, RFacts, cellOnly, and_true, true_and, Nat.zero_add, Nat.reduceAdd] at hF))) | fail)
          go_ret
          exact ⟨by rw [HF2.out]; rfl, hS.ext⟩
        have HT := Lib.hid (all_upto hf.out HX.out (show shortC c = true by unfold shortC; rw [decide_eq_true (by omega), decide_eq_true (by omega)]; rfl))
        ((try clear hF); (first | have hF := And.intro hS.facts (hR.at hS.ext) | have hF := hS.facts); simp only [HFacts, cellFacts, RFacts, cellOnly, and_true, true_and, Nat.zero_add, Nat.reduceAdd] at hF)
        go_wp2_with (first | ((with_reducible first | refine nhLa ?_ | refine nhLs ?_ | refine nhLd ?_ | refine nhCa ?_ | refine nhCs ?_ | refine nhCd ?_ | refine nhPa ?_ | refine nhPs ?_ | refine nhPd ?_ | refine nhKa ?_ | refine nhKs ?_ | refine nhKd ?_); ((try clear hF); clear hS; intro wk hS; (try simp only [List.set_cons_zero, List.set_cons_succ, heap_size, heap_set_size] at hS); ((try clear hF); (first | have hF := And.intro hS.facts (hR.at hS.ext) | have hF := hS.facts); simp only [HFacts, cellFacts, RFacts, cellOnly, and_true, true_and, Nat.zero_add, Nat.reduceAdd] at hF))) | fail)
        go_roundw
        case rel => exact ⟨k + 1, by go_num, by omega, HT, hS⟩
        case measure => simp [intOf]; omega
      · obtain rfl : k = n := by omega
        ((try clear hF); (first | have hF := And.intro hS.facts (hR.at hS.ext) | have hF := hS.facts); simp only [HFacts, cellFacts, RFacts, cellOnly, and_true, true_and, Nat.zero_add, Nat.reduceAdd] at hF)
        go_wp2_with (first | ((with_reducible first | refine nhLa ?_ | refine nhLs ?_ | refine nhLd ?_ | refine nhCa ?_ | refine nhCs ?_ | refine nhCd ?_ | refine nhPa ?_ | refine nhPs ?_ | refine nhPd ?_ | refine nhKa ?_ | refine nhKs ?_ | refine nhKd ?_); ((try clear hF); clear hS; intro wk hS; (try simp only [List.set_cons_zero, List.set_cons_succ, heap_size, heap_set_size] at hS); ((try clear hF); (first | have hF := And.intro hS.facts (hR.at hS.ext) | have hF := hS.facts); simp only [HFacts, cellFacts, RFacts, cellOnly, and_true, true_and, Nat.zero_add, Nat.reduceAdd] at hF))) | fail)
        go_ret
        refine ⟨?_, hS.ext⟩
        have := hf.out
        rw [← Hn.out, List.take_length] at this
        rw [this]
        rfl
set_option maxRecDepth 100000 in
set_option maxHeartbeats 8000000 in
theorem rows_any (rs : List (List GV)) (A : Option Addr) (n cap : Nat) (w : World) (hn : rs.length = n) (hr : RR w A rs) :
    Calls Tryz.prog 7 #[.slice A n cap] w fun e w' => e = .returned (.bool (shortRs rs)) ∧ Ext w w' := by
  have Hn := Lib.hid hn
  unfold shortRs
  rw [hn]
  clear hn
  have hS := Hp.init w
  have hR := Reads.nil w
  by_cases h20 : 70 < n
  · rw [show decide (n ≤ 70) = false by simp; omega]
    go_enter Tryz.func7, Tryz.ntmps7
    go_wp2_with (first | ((with_reducible first | refine nhLa ?_ | refine nhLs ?_ | refine nhLd ?_ | refine nhCa ?_ | refine nhCs ?_ | refine nhCd ?_ | refine nhPa ?_ | refine nhPs ?_ | refine nhPd ?_ | refine nhKa ?_ | refine nhKs ?_ | refine nhKd ?_); ((try clear hF); clear hS; intro wk hS; (try simp only [List.set_cons_zero, List.set_cons_succ, heap_size, heap_set_size] at hS); ((try clear hF); (first | have hF := And.intro hS.facts (hR.at hS.ext) | have hF := hS.facts); simp only [HFacts, cellFacts, RFacts, cellOnly, and_true, true_and, Nat.zero_add, Nat.reduceAdd] at hF))) | fail)
    go_ret
    exact ⟨rfl, hS.ext⟩
  · rw [show decide (n ≤ 70) = true by simp; omega, Bool.true_and]
    go_enter Tryz.func7, Tryz.ntmps7
    go_wp2_with (first | ((with_reducible first | refine nhLa ?_ | refine nhLs ?_ | refine nhLd ?_ | refine nhCa ?_ | refine nhCs ?_ | refine nhCd ?_ | refine nhPa ?_ | refine nhPs ?_ | refine nhPd ?_ | refine nhKa ?_ | refine nhKs ?_ | refine nhKd ?_); ((try clear hF); clear hS; intro wk hS; (try simp only [List.set_cons_zero, List.set_cons_succ, heap_size, heap_set_size] at hS); ((try clear hF); (first | have hF := And.intro hS.facts (hR.at hS.ext) | have hF := hS.facts); simp only [HFacts, cellFacts, RFacts, cellOnly, and_true, true_and, Nat.zero_add, Nat.reduceAdd] at hF))) | fail)
    go_loopw [3, 4] (fun i _ wr => ∃ k : Nat, i = .int .i64 k ∧ k ≤ n ∧ Hid ((rs.take k).all shortR = true) ∧ Hp w.heap.size w wr []) (fun i _ _ => n - (intOf i).toNat)
    case atStart => exact ⟨0, rfl, Nat.zero_le _, Lib.hid rfl, hS⟩
    case round =>
      clear hS
      obtain ⟨k, rfl, hk, hf, hS⟩ := hrel
      by_cases hlt : k < n
      · obtain ⟨r, hr'⟩ : ∃ x, rs[k]? = some x := ⟨rs[k]'(by rw [Hn.out]; exact hlt), List.getElem?_eq_getElem _⟩
        obtain ⟨b, o, A1, c1, rfl, h0, h1⟩ := hr k r hr'
        have HX := Lib.hid hr'
        obtain ⟨m, hm⟩ : ∃ m, m = r.length := ⟨_, rfl⟩
        have Hm := Lib.hid hm
        rw [← hm] at h0
        have hR := Reads.cell h0 (Reads.nil w)
        clear hr' hm hr
        by_cases e1 : 20 < m
        · have HF2 := Lib.hid (all_not HX.out (show shortR r = false by unfold shortR; rw [← Hm.out, decide_eq_false (by omega)]; rfl))
          clear h0 h1
          ((try clear hF); (first | have hF := And.intro hS.facts (hR.at hS.ext) | have hF := hS.facts); simp only [HFacts, cellFacts, RFacts, cellOnly, and_true, true_and, Nat.zero_add, Nat.reduceAdd] at hF)
          go_wp2_with (first | ((with_reducible first | refine nhLa ?_ | refine nhLs ?_ | refine nhLd ?_ | refine nhCa ?_ | refine nhCs ?_ | refine nhCd ?_ | refine nhPa ?_ | refine nhPs ?_ | refine nhPd ?_ | refine nhKa ?_ | refine nhKs ?_ | refine nhKd ?_); ((try clear hF); clear hS; intro wk hS; (try simp only [List.set_cons_zero, List.set_cons_succ, heap_size, heap_set_size] at hS); ((try clear hF); (first | have hF := And.intro hS.facts (hR.at hS.ext) | have hF := hS.facts); simp only [HFacts, cellFacts, RFacts, cellOnly, and_true, true_and, Nat.zero_add, Nat.reduceAdd] at hF))) | fail)
          go_ret
          exact ⟨by rw [HF2.out]; rfl, hS.ext⟩
        ((try clear hF); (first | have hF := And.intro hS.facts (hR.at hS.ext) | have hF := hS.facts); simp only [HFacts, cellFacts, RFacts, cellOnly, and_true, true_and, Nat.zero_add, Nat.reduceAdd] at hF)
        go_wp2_with (first | ((with_reducible first | refine nhLa ?_ | refine nhLs ?_ | refine nhLd ?_ | refine nhCa ?_ | refine nhCs ?_ | refine nhCd ?_ | refine nhPa ?_ | refine nhPs ?_ | refine nhPd ?_ | refine nhKa ?_ | refine nhKs ?_ | refine nhKd ?_); ((try clear hF); clear hS; intro wk hS; (try simp only [List.set_cons_zero, List.set_cons_succ, heap_size, heap_set_size] at hS); ((try clear hF); (first | have hF := And.intro hS.facts (hR.at hS.ext) | have hF := hS.facts); simp only [HFacts, cellFacts, RFacts, cellOnly, and_true, true_and, Nat.zero_add, Nat.reduceAdd] at hF))) | fail)
        go_loopw [4] (fun i wr2 => ∃ j : Nat, i = .int .i64 j ∧ j ≤ m ∧ Hid ((r.take j).all shortV = true) ∧ Hp w.heap.size w wr2 []) (fun i _ => m - (intOf i).toNat)
        case atStart => exact ⟨0, rfl, Nat.zero_le _, Lib.hid rfl, hS⟩
        case round =>
          clear hS hF
          obtain ⟨j, rfl, hj, hf2, hS⟩ := hrel
          by_cases hlj : j < m
          · obtain ⟨v, hv⟩ : ∃ x, r[j]? = some x := ⟨r[j]'(by rw [← Hm.out]; exact hlj), List.getElem?_eq_getElem _⟩
            obtain ⟨b1, o1, rfl, d0, d1, d2⟩ := h1 j v hv
            have HV := Lib.hid hv
            have hR := Reads.cell h0 (Reads.cell d2 (Reads.nil w))
            clear hv d0 d1 d2 h1 h0
            by_cases e2 : 100 < v.text.size
            · have HF2 := Lib.hid (all_not HX.out (show shortR r = false by
                unfold shortR
                rw [all_not HV.out (show shortV v = false by unfold shortV; rw [decide_eq_false (by omega)]), Bool.and_false]))
              ((try clear hF); (first | have hF := And.intro hS.facts (hR.at hS.ext) | have hF := hS.facts); simp only [HFacts, cellFacts, RFacts, cellOnly, and_true, true_and, Nat.zero_add, Nat.reduceAdd] at hF)
              go_wp2_with (first | ((with_reducible first | refine nhLa ?_ | refine nhLs ?_ | refine nhLd ?_ | refine nhCa ?_ | refine nhCs ?_ | refine nhCd ?_ | refine nhPa ?_ | refine nhPs ?_ | refine nhPd ?_ | refine nhKa ?_ | refine nhKs ?_ | refine nhKd ?_); ((try clear hF); clear hS; intro wk hS; (try simp only [List.set_cons_zero, List.set_cons_succ, heap_size, heap_set_size] at hS); ((try clear hF); (first | have hF := And.intro hS.facts (hR.at hS.ext) | have hF := hS.facts); simp only [HFacts, cellFacts, RFacts, cellOnly, and_true, true_and, Nat.zero_add, Nat.reduceAdd] at hF))) | fail)
              go_ret
              exact ⟨by rw [HF2.out]; rfl, hS.ext⟩
            have HT := Lib.hid (all_upto hf2.out HV.out (show shortV v = true by unfold shortV; rw [decide_eq_true (by omega)]))
            ((try clear hF); (first | have hF := And.intro hS.facts (hR.at hS.ext) | have hF := hS.facts); simp only [HFacts, cellFacts, RFacts, cellOnly, and_true, true_and, Nat.zero_add, Nat.reduceAdd] at hF)
            go_wp2_with (first | ((with_reducible first | refine nhLa ?_ | refine nhLs ?_ | refine nhLd ?_ | refine nhCa ?_ | refine nhCs ?_ | refine nhCd ?_ | refine nhPa ?_ | refine nhPs ?_ | refine nhPd ?_ | refine nhKa ?_ | refine nhKs ?_ | refine nhKd ?_); ((try clear hF); clear hS; intro wk hS; (try simp only [List.set_cons_zero, List.set_cons_succ, heap_size, heap_set_size] at hS); ((try clear hF); (first | have hF := And.intro hS.facts (hR.at hS.ext) | have hF := hS.facts); simp only [HFacts, cellFacts, RFacts, cellOnly, and_true, true_and, Nat.zero_add, Nat.reduceAdd] at hF))) | fail)
            go_roundw
            case rel => exact ⟨j + 1, by go_num, by omega, HT, hS⟩
            case measure => simp [intOf]; omega
          · obtain rfl : j = m := by omega
            have HT := Lib.hid (all_upto hf.out HX.out (show shortR r = true by
              have := hf2.out
              rw [Hm.out, List.take_length] at this
              unfold shortR
              rw [this, ← Hm.out, decide_eq_true (by omega)]
              rfl))
            ((try clear hF); (first | have hF := And.intro hS.facts (hR.at hS.ext) | have hF := hS.facts); simp only [HFacts, cellFacts, RFacts, cellOnly, and_true, true_and, Nat.zero_add, Nat.reduceAdd] at hF)
            go_wp2_with (first | ((with_reducible first | refine nhLa ?_ | refine nhLs ?_ | refine nhLd ?_ | refine nhCa ?_ | refine nhCs ?_ | refine nhCd ?_ | refine nhPa ?_ | refine nhPs ?_ | refine nhPd ?_ | refine nhKa ?_ | refine nhKs ?_ | refine nhKd ?_); ((try clear hF); clear hS; intro wk hS; (try simp only [List.set_cons_zero, List.set_cons_succ, heap_size, heap_set_size] at hS); ((try clear hF); (first | have hF := And.intro hS.facts (hR.at hS.ext) | have hF := hS.facts); simp only [HFacts, cellFacts, RFacts, cellOnly, and_true, true_and, Nat.zero_add, Nat.reduceAdd] at hF))) | fail)
            go_roundw
            case rel => exact ⟨k + 1, by go_num, by omega, HT, hS⟩
            case measure => simp [intOf]; omega
      · obtain rfl : k = n := by omega
        ((try clear hF); (first | have hF := And.intro hS.facts (hR.at hS.ext) | have hF := hS.facts); simp only [HFacts, cellFacts, RFacts, cellOnly, and_true, true_and, Nat.zero_add, Nat.reduceAdd] at hF)
        go_wp2_with (first | ((with_reducible first | refine nhLa ?_ | refine nhLs ?_ | refine nhLd ?_ | refine nhCa ?_ | refine nhCs ?_ | refine nhCd ?_ | refine nhPa ?_ | refine nhPs ?_ | refine nhPd ?_ | refine nhKa ?_ | refine nhKs ?_ | refine nhKd ?_); ((try clear hF); clear hS; intro wk hS; (try simp only [List.set_cons_zero, List.set_cons_succ, heap_size, heap_set_size] at hS); ((try clear hF); (first | have hF := And.intro hS.facts (hR.at hS.ext) | have hF := hS.facts); simp only [HFacts, cellFacts, RFacts, cellOnly, and_true, true_and, Nat.zero_add, Nat.reduceAdd] at hF))) | fail)
        go_ret
        refine ⟨?_, hS.ext⟩
        have := hf.out
        rw [← Hn.out, List.take_length] at this
        rw [this]
        rfl
end Go.Proofs.YtcpllhjhnfmepaaGreatDoor

/- the file's numbers and texts: what is written is read; what is read was written just so. -/
namespace Go.Proofs.YtcpllhjhnfmepaaGreatDoor
set_option linter.unusedSimpArgs false
set_option linter.unusedVariables false
open Go.RowKit
set_option linter.all false
open Go.Lib (uvarint zigzag)
theorem fNumF_enc : ∀ (m i acc u : Nat) (b : Bool) (r : List UInt8), m + i = 7 → u < 2 ^ (7 * (m + 1)) → (0 < i → u ≠ 0) → acc + u * 2 ^ (7 * i) < 18446744073709551616 → fNumF i acc b (uvarint u ++ r) = some (acc + u * 2 ^ (7 * i), b, r)
  | m, i, acc, u, b, r, hm, hu, h0, ht => by
    by_cases h : u < 128
    · have e : u.toUInt8.toNat = u := by rw [Nat.toUInt8_eq, UInt8.toNat_ofNat']; omega
      have e2 : (b || (decide (0 < i) && decide (u = 0))) = b := by
        by_cases hi : 0 < i
        · rw [decide_eq_false (h0 hi), Bool.and_false, Bool.or_false]
        · rw [decide_eq_false hi, Bool.false_and, Bool.or_false]
      rw [Lib.uvarint_small h, List.cons_append, List.nil_append, fNumF, if_neg (by omega), e, if_pos h, Nat.mod_eq_of_lt h, Nat.mod_eq_of_lt ht, e2]
    · cases m with
      | zero => omega
      | succ m =>
        have e : (u % 128 + 128).toUInt8.toNat = u % 128 + 128 := by rw [Nat.toUInt8_eq, UInt8.toNat_ofNat']; omega
        have hp : 2 ^ (7 * (i + 1)) = 128 * 2 ^ (7 * i) := by rw [Nat.mul_add, Nat.pow_add, Nat.mul_comm]
        have hp2 : 2 ^ (7 * (m + 1 + 1)) = 128 * 2 ^ (7 * (m + 1)) := by rw [show 7 * (m + 1 + 1) = 7 * (m + 1) + 7 by omega, Nat.pow_add, Nat.mul_comm]
        have ht2 : acc + u % 128 * 2 ^ (7 * i) + u / 128 * 2 ^ (7 * (i + 1)) = acc + u * 2 ^ (7 * i) := by
          rw [hp, ← Nat.mul_assoc, Nat.add_assoc, ← Nat.add_mul, show u % 128 + u / 128 * 128 = u by omega]
        rw [Lib.uvarint_big (by omega), List.cons_append, fNumF, if_neg (by omega), e, if_neg (by omega), show (u % 128 + 128) % 128 = u % 128 by omega, Nat.mod_eq_of_lt (Nat.lt_of_le_of_lt (by rw [← ht2]; exact Nat.le_add_right _ _) ht), fNumF_enc m (i + 1) _ (u / 128) b r (by omega) (by rw [hp2] at hu; omega) (by omega) (by rw [ht2]; exact ht), ht2]
theorem fNumber_enc (u : Nat) (hu : u < 72057594037927936) (r : List UInt8) (b : Bool) : fNumber (uvarint u ++ r, b) = (u, (r, b)) := by
  have := fNumF_enc 7 0 0 u b r rfl (Nat.lt_of_lt_of_le hu (by decide)) (by omega) (by omega)
  rw [Nat.zero_add, Nat.mul_zero, Nat.pow_zero, Nat.mul_one] at this
  unfold fNumber
  simp only [this]
theorem fText_enc (t r : List UInt8) (ht : t.length < 72057594037927936) : fText (uvarint t.length ++ (t ++ r), false) = (t, (r, false)) := by
  unfold fText
  rw [fNumber_enc _ ht]
  simp
end Go.Proofs.YtcpllhjhnfmepaaGreatDoor

/- a file in memory; (File).Rows. -/
namespace Go.Proofs.YtcpllhjhnfmepaaGreatDoor
set_option linter.all false
set_option linter.unusedSimpArgs false
set_option linter.unusedVariables false
open Go.RowKit
structure GG where
  rows : Int
  stats : List ST
  bytes : List ByteArray
structure FG where
  cols : List CG
  groups : List GG
/-- the slice at A reads as what is known, one by one -/
def RK (w : World) (A : Option Addr) (l : List ST) : Prop := ∀ (i : Nat) (x : ST), l[i]? = some x → ∃ b o : Nat, A = some ⟨b, o, none⟩ ∧ w.cell? ⟨b, o + i * 8, none⟩ = some (.int .i64 x.count) ∧ w.cell? ⟨b, o + i * 8 + 1, none⟩ = some (.int .i64 x.nulls) ∧ w.cell? ⟨b, o + i * 8 + 2, none⟩ = some (.int .i64 x.mn.kind) ∧ w.cell? ⟨b, o + i * 8 + 3, none⟩ = some (.int .i64 x.mn.num) ∧ w.cell? ⟨b, o + i * 8 + 4, none⟩ = some (.string x.mn.text) ∧ w.cell? ⟨b, o + i * 8 + 5, none⟩ = some (.int .i64 x.mx.kind) ∧ w.cell? ⟨b, o + i * 8 + 6, none⟩ = some (.int .i64 x.mx.num) ∧ w.cell? ⟨b, o + i * 8 + 7, none⟩ = some (.string x.mx.text)
theorem RK.ext {w w' : World} {A : Option Addr} {l : List ST} (h : RK w A l) (hx : Ext w w') : RK w' A l := fun i x hi => by
  obtain ⟨b, o, hA, h0, h1, h2, h3, h4, h5, h6, h7⟩ := h i x hi
  exact ⟨b, o, hA, hx.keeps h0, hx.keeps h1, hx.keeps h2, hx.keeps h3, hx.keeps h4, hx.keeps h5, hx.keeps h6, hx.keeps h7⟩
/-- the slice at A reads as groups -/
def RG (w : World) (A : Option Addr) (l : List GG) : Prop := ∀ (i : Nat) (g : GG), l[i]? = some g → ∃ (b o : Nat) (As : Option Addr) (cs : Nat) (Ab : Option Addr) (cb : Nat), A = some ⟨b, o, none⟩ ∧ w.cell? ⟨b, o + i * 3, none⟩ = some (.int .i64 g.rows) ∧ w.cell? ⟨b, o + i * 3 + 1, none⟩ = some (.slice As g.stats.length cs) ∧ w.cell? ⟨b, o + i * 3 + 2, none⟩ = some (.slice Ab g.bytes.length cb) ∧ RK w As g.stats ∧ RS w Ab g.bytes
theorem RG.ext {w w' : World} {A : Option Addr} {l : List GG} (h : RG w A l) (hx : Ext w w') : RG w' A l := fun i g hi => by
  obtain ⟨b, o, As, cs, Ab, cb, hA, h0, h1, h2, h3, h4⟩ := h i g hi
  exact ⟨b, o, As, cs, Ab, cb, hA, hx.keeps h0, hx.keeps h1, hx.keeps h2, h3.ext hx, h4.ext hx⟩
/-- the value is a file -/
def RF (w : World) (v : Value) (f : FG) : Prop := ∃ (Ac : Option Addr) (cc : Nat) (Ag : Option Addr) (cg : Nat), v = .agg #[.slice Ac f.cols.length cc, .slice Ag f.groups.length cg] ∧ f.cols.length ≤ cc ∧ RC w Ac f.cols ∧ RG w Ag f.groups
theorem RF.ext {w w' : World} {v : Value} {f : FG} (h : RF w v f) (hx : Ext w w') : RF w' v f := by
  obtain ⟨Ac, cc, Ag, cg, e, h0, h1, h2⟩ := h
  exact ⟨Ac, cc, Ag, cg, e, h0, h1.ext hx, h2.ext hx⟩
def rowsF (f : FG) : Int := f.groups.foldl (fun n g => wrap64 (n + g.rows)) 0
set_option maxRecDepth 100000 in
set_option maxHeartbeats 8000000 in
theorem frows_any (f : FG) (v : Value) (w : World) (hf : RF w v f) (hl : f.groups.length ≤ 1000000) :
    Calls Tryz.prog 12 #[v] w fun e w' => e = .returned (.int .i64 (rowsF f)) ∧ Ext w w' := by
  obtain ⟨Ac, cc, Ag, cg, rfl, _, _, hg⟩ := hf
  unfold rowsF
  generalize f.cols.length = nc
  generalize f.groups = gs at *
  obtain ⟨n, hn⟩ : ∃ n, n = gs.length := ⟨_, rfl⟩
  rw [← hn] at hl ⊢
  have Hn := Lib.hid hn
  clear hn
  have hS := Hp.init w
  have hR := Reads.nil w
  go_enter Tryz.func12, Tryz.ntmps12
  go_wp2_with (first | ((with_reducible first | refine nhLa ?_ | refine nhLs ?_ | refine nhLd ?_ | refine nhCa ?_ | refine nhCs ?_ | refine nhCd ?_ | refine nhPa ?_ | refine nhPs ?_ | refine nhPd ?_ | refine nhKa ?_ | refine nhKs ?_ | refine nhKd ?_); ((try clear hF); clear hS; intro wk hS; (try simp only [List.set_cons_zero, List.set_cons_succ, heap_size, heap_set_size] at hS); ((try clear hF); (first | have hF := And.intro hS.facts (hR.at hS.ext) | have hF := hS.facts); simp only [HFacts, cellFacts, RFacts, cellOnly, and_true, true_and, Nat.zero_add, Nat.reduceAdd] at hF))) | fail)
  go_loopw [9, 3] (fun i t wr => ∃ (k : Nat) (m : Int), i = .int .i64 k ∧ k ≤ n ∧ t = .int .i64 m ∧ Hid (m = (gs.take k).foldl (fun n g => wrap64 (n + g.rows)) 0) ∧ Hp w.heap.size w wr []) (fun i _ _ => n - (intOf i).toNat)
  case atStart => exact ⟨0, 0, rfl, Nat.zero_le _, rfl, Lib.hid rfl, hS.sub (by simp)⟩
  case round =>
    clear hS
    obtain ⟨k, m, rfl, hk, rfl, Hm, hS⟩ := hrel
    by_cases hlt : k < n
    · obtain ⟨g, hg'⟩ : ∃ x, gs[k]? = some x := ⟨gs[k]'(by rw [← Hn.out]; exact hlt), List.getElem?_eq_getElem _⟩
      obtain ⟨b, o, As, cs, Ab, cb, rfl, h0, h1, h2, _, _⟩ := hg k g hg'
      have hR := Reads.cell h0 (Reads.cell h1 (Reads.cell h2 (Reads.nil w)))
      have HT := Lib.hid (show (gs.take (k + 1)).foldl (fun n g => wrap64 (n + g.rows)) 0 = wrap64 (m + g.rows) by rw [List.take_add_one, hg', Hm.out]; simp)
      clear hg' h0 h1 h2 hg
      ((try clear hF); (first | have hF := And.intro hS.facts (hR.at hS.ext) | have hF := hS.facts); simp only [HFacts, cellFacts, RFacts, cellOnly, and_true, true_and, Nat.zero_add, Nat.reduceAdd] at hF)
      go_wp2_with (first | ((with_reducible first | refine nhLa ?_ | refine nhLs ?_ | refine nhLd ?_ | refine nhCa ?_ | refine nhCs ?_ | refine nhCd ?_ | refine nhPa ?_ | refine nhPs ?_ | refine nhPd ?_ | refine nhKa ?_ | refine nhKs ?_ | refine nhKd ?_); ((try clear hF); clear hS; intro wk hS; (try simp only [List.set_cons_zero, List.set_cons_succ, heap_size, heap_set_size] at hS); ((try clear hF); (first | have hF := And.intro hS.facts (hR.at hS.ext) | have hF := hS.facts); simp only [HFacts, cellFacts, RFacts, cellOnly, and_true, true_and, Nat.zero_add, Nat.reduceAdd] at hF))) | fail)
      go_roundw
      case rel => exact ⟨k + 1, _, by go_num, by omega, rfl, Lib.hid HT.out.symm, hS.sub (by simp)⟩
      case measure => simp [intOf]; omega
    · obtain rfl : k = n := by omega
      ((try clear hF); (first | have hF := And.intro hS.facts (hR.at hS.ext) | have hF := hS.facts); simp only [HFacts, cellFacts, RFacts, cellOnly, and_true, true_and, Nat.zero_add, Nat.reduceAdd] at hF)
      go_wp2_with (first | ((with_reducible first | refine nhLa ?_ | refine nhLs ?_ | refine nhLd ?_ | refine nhCa ?_ | refine nhCs ?_ | refine nhCd ?_ | refine nhPa ?_ | refine nhPs ?_ | refine nhPd ?_ | refine nhKa ?_ | refine nhKs ?_ | refine nhKd ?_); ((try clear hF); clear hS; intro wk hS; (try simp only [List.set_cons_zero, List.set_cons_succ, heap_size, heap_set_size] at hS); ((try clear hF); (first | have hF := And.intro hS.facts (hR.at hS.ext) | have hF := hS.facts); simp only [HFacts, cellFacts, RFacts, cellOnly, and_true, true_and, Nat.zero_add, Nat.reduceAdd] at hF))) | fail)
      go_ret
      refine ⟨?_, hS.ext⟩
      rw [Hm.out, Hn.out, List.take_length]
      rfl
end Go.Proofs.YtcpllhjhnfmepaaGreatDoor

/- a file that is right; what Write writes, what Parse reads: in plain words. -/
namespace Go.Proofs.YtcpllhjhnfmepaaGreatDoor
set_option linter.all false
set_option linter.unusedSimpArgs false
set_option linter.unusedVariables false
open Go.RowKit
open Go.Lib (uvarint zigzag)
instance : DecidableEq GV := fun a b => decidable_of_iff (a.kind = b.kind ∧ a.num = b.num ∧ a.text = b.text) (by cases a; cases b; simp)
instance : DecidableEq ST := fun a b => decidable_of_iff (a.count = b.count ∧ a.nulls = b.nulls ∧ a.mn = b.mn ∧ a.mx = b.mx) (by cases a; cases b; simp)
def colF (c : CG) : Bool := decide (1 ≤ c.id) && (c.kind == 1 || c.kind == 2)
def idEq (c d : CG) : Bool := d.id == c.id
def frC : List CG → List CG → Bool
  | _, [] => true
  | pre, c :: r => colF c && !pre.any (idEq c) && frC (pre ++ [c]) r
def colG (rows : Int) : List CG → List ST → List ByteArray → Bool
  | c :: cs, s :: ss, b :: bs => (match decO c.kind b.data.toList with
    | none => false
    | some l => decide ((l.length : Int) = rows) && decide (s = ofS l)) && colG rows cs ss bs
  | _, _, _ => true
def grH (n : Nat) (last : Bool) (g : GG) : Bool := decide (1 ≤ g.rows) && decide (g.rows ≤ 6) && (last || decide (6 ≤ g.rows)) && decide (g.bytes.length = n) && decide (g.stats.length = n)
def frG (cs : List CG) : List GG → Bool
  | [] => true
  | g :: r => grH cs.length r.isEmpty g && colG g.rows cs g.stats g.bytes && frG cs r
def rightF (f : FG) : Bool := decide (1 ≤ f.cols.length) && decide (f.cols.length ≤ 8) && decide (1 ≤ f.groups.length) && frC [] f.cols && frG f.cols f.groups && decide (rowsF f ≤ 60)
theorem decO_short {kind : Int} {s : List UInt8} {m : List GV} (h : decO kind s = some m) : m.length ≤ 60 := (encErr_zero (decO_back h).1).2.2

/-- what Write writes -/
def colW (c : CG) : List UInt8 := uvarint c.id.toNat ++ uvarint c.kind.toNat
def txtW (s : ByteArray) : List UInt8 := uvarint s.size ++ s.data.toList
def grpW (g : GG) : List UInt8 := uvarint g.rows.toNat ++ g.bytes.flatMap txtW
def writeF (f : FG) : List UInt8 := uvarint f.cols.length ++ f.cols.flatMap colW ++ uvarint f.groups.length ++ f.groups.flatMap grpW
/-- what Parse reads -/
def colO (i k : Nat) : CG := ⟨i, ⟨#[]⟩, k, false, gv00⟩
def pCols : Nat → RSt → List CG → List CG × RSt
  | 0, st, acc => (acc, st)
  | n + 1, st, acc => pCols n (fNumber (fNumber st).2).2 (acc ++ [colO (fNumber st).1 (fNumber (fNumber st).2).1])
def pBytes : List CG → RSt → List ByteArray → List ST → (List ByteArray × List ST) × RSt
  | [], st, bs, ss => ((bs, ss), st)
  | c :: cs, st, bs, ss => pBytes cs ((fText st).2.1, (fText st).2.2 || (decO c.kind (fText st).1).isNone) (bs ++ [⟨(fText st).1.toArray⟩]) (ss ++ [ofS ((decO c.kind (fText st).1).getD [])])
def pGrp (cs : List CG) (st : RSt) : GG × RSt := (⟨(fNumber st).1, (pBytes cs (fNumber st).2 [] []).1.2, (pBytes cs (fNumber st).2 [] []).1.1⟩, (pBytes cs (fNumber st).2 [] []).2)
def pGrps (cs : List CG) : Nat → RSt → List GG → List GG × RSt
  | 0, st, acc => (acc, st)
  | n + 1, st, acc => pGrps cs n (pGrp cs st).2 (acc ++ [(pGrp cs st).1])
def pC (s : List UInt8) := pCols (min (fNumber (s, false)).1 9) (fNumber (s, false)).2 []
def pG (s : List UInt8) := pGrps (pC s).1 (min (fNumber (pC s).2).1 61) (fNumber (pC s).2).2 []
def parseF (s : List UInt8) : Option FG := if (pG s).2.2 = true ∨ (pG s).2.1 ≠ [] ∨ rightF ⟨(pC s).1, (pG s).1⟩ = false then none else some ⟨(pC s).1, (pG s).1⟩
end Go.Proofs.YtcpllhjhnfmepaaGreatDoor

/- groups of a file, while they are built. -/
namespace Go.Proofs.YtcpllhjhnfmepaaGreatDoor
set_option linter.all false
set_option linter.unusedSimpArgs false
set_option linter.unusedVariables false
open Go.RowKit
theorem Tryz.elem_stats : Elem Tryz.prog 78 70 8 80 := by
  obtain ⟨i0, hi0, hz0, hz1, hz2⟩ := info_parts (show (Tryz.prog.info? 70).map (fun i => (i.zero, i.size, i.bytes)) = some (some (.agg #[.int .i64 0, .int .i64 0, .int .i64 0, .int .i64 0, .string ⟨#[]⟩, .int .i64 0, .int .i64 0, .string ⟨#[]⟩]), 8, 80) by kernel_rfl)
  exact ⟨Tryz.underlying78, ⟨i0, _, hi0, hz0, hz1, hz2, rfl⟩, by omega⟩
theorem Tryz.elem_texts : Elem Tryz.prog 79 9 1 16 := by
  obtain ⟨i0, hi0, hz0, hz1, hz2⟩ := info_parts (show (Tryz.prog.info? 9).map (fun i => (i.zero, i.size, i.bytes)) = some (some (.string ⟨#[]⟩), 1, 16) by kernel_rfl)
  exact ⟨Tryz.underlying79, ⟨i0, _, hi0, hz0, hz1, hz2, rfl⟩, by omega⟩
theorem Tryz.elem_groups : Elem Tryz.prog 27 81 3 56 := by
  obtain ⟨i0, hi0, hz0, hz1, hz2⟩ := info_parts (show (Tryz.prog.info? 81).map (fun i => (i.zero, i.size, i.bytes)) = some (some (.agg #[.int .i64 0, .slice none 0 0, .slice none 0 0]), 3, 56) by kernel_rfl)
  exact ⟨Tryz.underlying27, ⟨i0, _, hi0, hz0, hz1, hz2, rfl⟩, by omega⟩
theorem hp_of_at {B : Nat} {w : World} {x : Item} (h : x.at B w) : Hp 0 w w [x] :=
  ⟨Below.refl 0 w, Nat.zero_le _, List.pairwise_singleton _ _, fun y hy => by rw [List.mem_singleton.1 hy]; exact h.mono (Nat.zero_le _)⟩
def cellsS : List ST → List Value
  | [] => []
  | x :: l => .int .i64 x.count :: .int .i64 x.nulls :: .int .i64 x.mn.kind :: .int .i64 x.mn.num :: .string x.mn.text :: .int .i64 x.mx.kind :: .int .i64 x.mx.num :: .string x.mx.text :: cellsS l
theorem cellsS_append : ∀ l m : List ST, cellsS (l ++ m) = cellsS l ++ cellsS m
  | [], m => rfl
  | x :: l, m => by rw [List.cons_append, cellsS, cellsS, cellsS_append l m]; rfl
theorem cellsS_at : ∀ (l : List ST) (i : Nat) (x : ST), l[i]? = some x → (cellsS l)[i * 8]? = some (.int .i64 x.count) ∧ (cellsS l)[i * 8 + 1]? = some (.int .i64 x.nulls) ∧ (cellsS l)[i * 8 + 2]? = some (.int .i64 x.mn.kind) ∧ (cellsS l)[i * 8 + 3]? = some (.int .i64 x.mn.num) ∧ (cellsS l)[i * 8 + 4]? = some (.string x.mn.text) ∧ (cellsS l)[i * 8 + 5]? = some (.int .i64 x.mx.kind) ∧ (cellsS l)[i * 8 + 6]? = some (.int .i64 x.mx.num) ∧ (cellsS l)[i * 8 + 7]? = some (.string x.mx.text)
  | [], i, x, h => by simp at h
  | y :: l, 0, x, h => by
    simp at h
    subst h
    exact ⟨rfl, rfl, rfl, rfl, rfl, rfl, rfl, rfl⟩
  | y :: l, i + 1, x, h => by
    have ih := cellsS_at l i x (by simpa using h)
    rw [show (i + 1) * 8 = i * 8 + 8 by omega]
    simpa [cellsS] using ih
theorem Hp.rk {B : Nat} {w0 w : World} {L : List Item} {A : Option Addr} {cap n : Nat} {l : List ST} (h : Hp B w0 w L) (i : Nat) (hi : L[i]? = some (.row 70 8 A n cap (cellsS l))) : RK w A l := fun j x hj => by
  obtain ⟨h0, h1, h2, h3, h4, h5, h6, h7⟩ := cellsS_at l j x hj
  obtain ⟨g, hg, c0, _⟩ := h.rowCell i hi h0
  obtain ⟨g1, hg1, c1, _⟩ := h.rowCell i hi h1
  obtain ⟨g2, hg2, c2, _⟩ := h.rowCell i hi h2
  obtain ⟨g3, hg3, c3, _⟩ := h.rowCell i hi h3
  obtain ⟨g4, hg4, c4, _⟩ := h.rowCell i hi h4
  obtain ⟨g5, hg5, c5, _⟩ := h.rowCell i hi h5
  obtain ⟨g6, hg6, c6, _⟩ := h.rowCell i hi h6
  obtain ⟨g7, hg7, c7, _⟩ := h.rowCell i hi h7
  subst hg
  obtain rfl : g = g1 := by simpa using hg1
  obtain rfl : g = g2 := by simpa using hg2
  obtain rfl : g = g3 := by simpa using hg3
  obtain rfl : g = g4 := by simpa using hg4
  obtain rfl : g = g5 := by simpa using hg5
  obtain rfl : g = g6 := by simpa using hg6
  obtain rfl : g = g7 := by simpa using hg7
  exact ⟨g, 0, rfl, by simpa using c0, by simpa using c1, by simpa using c2, by simpa using c3, by simpa using c4, by simpa using c5, by simpa using c6, by simpa using c7⟩
/-- the cells read as groups, as long as the things of K stand -/
structure GBuilt (K : List Item) (cells : List Value) (gs : List GG) : Prop where
  len : cells.length = gs.length * 3
  one : ∀ (i : Nat) (g : GG), gs[i]? = some g → ∃ (As : Option Addr) (cas : Nat) (Ab : Option Addr) (cab : Nat), cells[i * 3]? = some (.int .i64 g.rows) ∧ cells[i * 3 + 1]? = some (.slice As g.stats.length cas) ∧ cells[i * 3 + 2]? = some (.slice Ab g.bytes.length cab) ∧
    ∀ (B : Nat) (w : World), (∀ x ∈ K, x.at B w) → RK w As g.stats ∧ RS w Ab g.bytes
theorem GBuilt.nil (K : List Item) : GBuilt K [] [] := ⟨rfl, fun i g h => by simp at h⟩
theorem GBuilt.more {K M : List Item} {cells : List Value} {gs : List GG} (h : GBuilt K cells gs) (hs : ∀ x ∈ K, x ∈ M) : GBuilt M cells gs :=
  ⟨h.len, fun i g hi => by
    obtain ⟨As, cas, Ab, cab, h0, h1, h2, h3⟩ := h.one i g hi
    exact ⟨As, cas, Ab, cab, h0, h1, h2, fun B w hM => h3 B w fun x hx => hM x (hs x hx)⟩⟩
theorem GBuilt.push {K : List Item} {cells : List Value} {gs : List GG} (h : GBuilt K cells gs) (g : GG) (As : Option Addr) (ns cas : Nat) (Ab : Option Addr) (nb cab : Nat) (h1 : g.stats.length = ns) (h2 : g.bytes.length = nb)
    (hr : ∀ (B : Nat) (w : World), (∀ x ∈ K, x.at B w) → RK w As g.stats ∧ RS w Ab g.bytes) : GBuilt K (cells ++ [.int .i64 g.rows, .slice As ns cas, .slice Ab nb cab]) (gs ++ [g]) :=
  ⟨by rw [List.length_append, List.length_append, h.len]; simp; omega, fun i x hi => by
    by_cases hlt : i < gs.length
    · rw [List.getElem?_append_left hlt] at hi
      obtain ⟨A1, c1, A2, c2, k0, k1, k2, k3⟩ := h.one i x hi
      have hl := h.len
      exact ⟨A1, c1, A2, c2, by rw [List.getElem?_append_left (by omega)]; exact k0, by rw [List.getElem?_append_left (by omega)]; exact k1, by rw [List.getElem?_append_left (by omega)]; exact k2, k3⟩
    · have hil : i = gs.length := by
        have := (List.getElem?_eq_some_iff.1 hi).1
        simp at this
        omega
      subst hil
      rw [List.getElem?_append_right (Nat.le_refl _), Nat.sub_self] at hi
      obtain rfl : g = x := by simpa using hi
      have hl := h.len
      refine ⟨As, cas, Ab, cab, ?_, ?_, ?_, hr⟩
      · rw [List.getElem?_append_right (by omega), hl, Nat.sub_self]; rfl
      · rw [List.getElem?_append_right (by omega), hl, Nat.add_sub_cancel_left, h1]; rfl
      · rw [List.getElem?_append_right (by omega), hl, Nat.add_sub_cancel_left, h2]; rfl⟩
/-- the groups lie in the row at i, what they point at in the list -/
theorem Hp.rg {B : Nat} {w0 w : World} {L K : List Item} {A : Option Addr} {cap n : Nat} {cells : List Value} {gs : List GG} (h : Hp B w0 w L) (i : Nat) (hi : L[i]? = some (.row 81 3 A n cap cells)) (hK : ∀ x ∈ K, x ∈ L) (hg : GBuilt K cells gs) : RG w A gs := fun j g hj => by
  obtain ⟨As, cas, Ab, cab, h0, h1, h2, h3⟩ := hg.one j g hj
  obtain ⟨g0, e0, c0, _⟩ := h.rowCell i hi h0
  obtain ⟨g1, e1, c1, _⟩ := h.rowCell i hi h1
  obtain ⟨g2, e2, c2, _⟩ := h.rowCell i hi h2
  subst e0
  obtain rfl : g0 = g1 := by simpa using e1
  obtain rfl : g0 = g2 := by simpa using e2
  obtain ⟨r1, r2⟩ := h3 B w fun x hx => h.own x (hK x hx)
  exact ⟨g0, 0, As, cas, Ab, cab, rfl, by simpa using c0, by simpa using c1, by simpa using c2, r1, r2⟩
end Go.Proofs.YtcpllhjhnfmepaaGreatDoor

/- what Parse reads was written just so; what Write writes is read. -/
namespace Go.Proofs.YtcpllhjhnfmepaaGreatDoor
set_option linter.unusedSimpArgs false
set_option linter.unusedVariables false
open Go.RowKit
set_option linter.all false
open Go.Lib (uvarint zigzag)
def stripC (c : CG) : CG := ⟨c.id, ⟨#[]⟩, c.kind, false, gv00⟩
def stripF (f : FG) : FG := ⟨f.cols.map stripC, f.groups⟩
def IdOk (c : CG) : Prop := 0 ≤ c.id ∧ c.id < 72057594037927936 ∧ 0 ≤ c.kind ∧ c.kind < 72057594037927936
theorem frG_rows {cs : List CG} : ∀ {gs : List GG}, frG cs gs = true → ∀ g ∈ gs, 1 ≤ g.rows ∧ g.rows ≤ 6 ∧ g.bytes.length = cs.length ∧ g.stats.length = cs.length ∧ colG g.rows cs g.stats g.bytes = true
  | [], _ => fun _ h => by cases h
  | g :: r, h => by
    unfold frG at h
    rw [Bool.and_eq_true, Bool.and_eq_true] at h
    obtain ⟨⟨h1, h2⟩, h3⟩ := h
    intro x hx
    rcases List.mem_cons.1 hx with rfl | hx
    · unfold grH at h1
      simp only [Bool.and_eq_true, decide_eq_true_eq] at h1
      exact ⟨h1.1.1.1.1, h1.1.1.1.2, h1.1.2, h1.2, h2⟩
    · exact frG_rows h3 x hx
theorem rows_fold : ∀ (gs : List GG) (n : Int), (∀ g ∈ gs, 1 ≤ g.rows ∧ g.rows ≤ 6) → 0 ≤ n → n + 6 * gs.length ≤ 1000000000 → n + gs.length ≤ gs.foldl (fun n g => wrap64 (n + g.rows)) n ∧ gs.foldl (fun n g => wrap64 (n + g.rows)) n ≤ n + 6 * gs.length
  | [], n, _, _, _ => by simp
  | g :: r, n, h, h0, hb => by
    obtain ⟨h1, h2⟩ := h g (by simp)
    rw [List.length_cons] at hb ⊢
    have hw : wrap64 (n + g.rows) = n + g.rows := by unfold wrap64; omega
    have := rows_fold r (n + g.rows) (fun x hx => h x (by simp [hx])) (by omega) (by omega)
    rw [List.foldl_cons, hw]
    omega
structure RightF (f : FG) : Prop where
  c1 : 1 ≤ f.cols.length
  c8 : f.cols.length ≤ 8
  g1 : 1 ≤ f.groups.length
  cs : frC [] f.cols = true
  gs : frG f.cols f.groups = true
  rw : rowsF f ≤ 60
theorem rightF_iff (f : FG) : rightF f = true ↔ RightF f := by
  unfold rightF
  constructor
  · intro h
    simp only [Bool.and_eq_true, decide_eq_true_eq] at h
    exact ⟨h.1.1.1.1.1, h.1.1.1.1.2, h.1.1.1.2, h.1.1.2, h.1.2, h.2⟩
  · rintro ⟨h1, h2, h3, h4, h5, h6⟩
    simp only [Bool.and_eq_true, decide_eq_true_eq]
    exact ⟨⟨⟨⟨⟨h1, h2⟩, h3⟩, h4⟩, h5⟩, h6⟩
theorem RightF.groups {f : FG} (h : RightF f) (hl : f.groups.length ≤ 100000000) : f.groups.length ≤ 60 := by
  have h1 := rows_fold f.groups 0 (fun g hg => ⟨(frG_rows h.gs g hg).1, (frG_rows h.gs g hg).2.1⟩) (by omega) (by omega)
  have h2 := h.rw
  unfold rowsF at h2
  omega
theorem frC_col : ∀ {cs pre : List CG}, frC pre cs = true → ∀ c ∈ cs, 1 ≤ c.id ∧ (c.kind = 1 ∨ c.kind = 2)
  | [], _, _ => fun _ h => by cases h
  | c :: r, pre, h => by
    unfold frC at h
    simp only [Bool.and_eq_true] at h
    intro x hx
    rcases List.mem_cons.1 hx with rfl | hx
    · have := h.1.1
      unfold colF at this
      simpa using this
    · exact frC_col h.2 x hx
structure FOk (f : FG) : Prop where
  r : RightF f
  n : f.groups.length ≤ 60
  i : ∀ c ∈ f.cols, IdOk c
  b : ∀ g ∈ f.groups, ∀ b ∈ g.bytes, b.size < 72057594037927936
theorem pCols_enc : ∀ (cs : List CG) (r : List UInt8) (acc : List CG), (∀ c ∈ cs, IdOk c) → pCols cs.length (cs.flatMap colW ++ r, false) acc = (acc ++ cs.map stripC, (r, false))
  | [], r, acc, _ => by simp [pCols]
  | c :: cs, r, acc, h => by
    have hc := h c (by simp)
    unfold IdOk at hc
    have e1 : fNumber ((c :: cs).flatMap colW ++ r, false) = (c.id.toNat, (uvarint c.kind.toNat ++ (cs.flatMap colW ++ r), false)) := by
      rw [List.flatMap_cons]
      unfold colW
      rw [List.append_assoc, List.append_assoc]
      exact fNumber_enc _ (by omega) _ _
    rw [List.length_cons, pCols, e1]
    simp only
    rw [fNumber_enc _ (by omega)]
    simp only
    rw [pCols_enc cs r _ (fun x hx => h x (by simp [hx]))]
    have : colO c.id.toNat c.kind.toNat = stripC c := by
      unfold colO stripC
      rw [Int.toNat_of_nonneg hc.1, Int.toNat_of_nonneg hc.2.2.1]
    rw [this, List.map_cons, List.append_assoc]
    rfl
theorem pBytes_enc {rows : Int} : ∀ (cs : List CG) (bs : List ByteArray) (ss : List ST) (r : List UInt8) (ab : List ByteArray) (sa : List ST), bs.length = cs.length → ss.length = cs.length → colG rows cs ss bs = true → (∀ b ∈ bs, b.size < 72057594037927936) →
    pBytes (cs.map stripC) (bs.flatMap txtW ++ r, false) ab sa = ((ab ++ bs, sa ++ ss), (r, false))
  | [], [], [], r, ab, sa, _, _, _, _ => by simp [pBytes]
  | c :: cs, b :: bs, s :: ss, r, ab, sa, hb, hs, hg, hz => by
    have e1 : fText ((b :: bs).flatMap txtW ++ r, false) = (b.data.toList, (bs.flatMap txtW ++ r, false)) := by
      rw [List.flatMap_cons]
      unfold txtW
      rw [List.append_assoc, List.append_assoc]
      exact fText_enc b.data.toList _ (hz b (by simp))
    unfold colG at hg
    rw [Bool.and_eq_true] at hg
    obtain ⟨hg1, hg2⟩ := hg
    cases hd : decO c.kind b.data.toList with
    | none => rw [hd] at hg1; cases hg1
    | some l =>
      rw [hd] at hg1
      simp only [Bool.and_eq_true, decide_eq_true_eq] at hg1
      rw [List.map_cons, pBytes, e1]
      simp only
      have hk : (stripC c).kind = c.kind := rfl
      rw [hk, hd]
      simp only [Option.isNone_some, Bool.or_false, Option.getD_some]
      rw [pBytes_enc cs bs ss r _ _ (by simpa using hb) (by simpa using hs) hg2 (fun x hx => hz x (by simp [hx])), ← hg1.2]
      try simp
theorem pGrps_enc {cs : List CG} : ∀ (gs : List GG) (r : List UInt8) (acc : List GG), (∀ g ∈ gs, 1 ≤ g.rows ∧ g.rows ≤ 6 ∧ g.bytes.length = cs.length ∧ g.stats.length = cs.length ∧ colG g.rows cs g.stats g.bytes = true) → (∀ g ∈ gs, ∀ b ∈ g.bytes, b.size < 72057594037927936) →
    pGrps (cs.map stripC) gs.length (gs.flatMap grpW ++ r, false) acc = (acc ++ gs, (r, false))
  | [], r, acc, _, _ => by simp [pGrps]
  | g :: gs, r, acc, h, hz => by
    obtain ⟨h1, h2, h3, h4, h5⟩ := h g (by simp)
    have e : pGrp (cs.map stripC) ((g :: gs).flatMap grpW ++ r, false) = (g, (gs.flatMap grpW ++ r, false)) := by
      rw [List.flatMap_cons]
      unfold grpW pGrp
      rw [List.append_assoc, List.append_assoc, fNumber_enc _ (by omega)]
      simp only
      rw [pBytes_enc cs g.bytes g.stats _ [] [] h3 h4 h5 (hz g (by simp))]
      simp only [List.nil_append]
      rw [Int.toNat_of_nonneg (by omega)]
    rw [List.length_cons, pGrps, e]
    simp only
    rw [pGrps_enc gs r _ (fun x hx => h x (by simp [hx])) (fun x hx => hz x (by simp [hx]))]
    try simp
theorem write_read {f : FG} (h : FOk f) (q : List UInt8) : (pC (writeF f ++ q)).1 = f.cols.map stripC ∧ pG (writeF f ++ q) = (f.groups, (q, false)) := by
  have h8 := h.r.c8
  have e1 : fNumber (writeF f ++ q, false) = (f.cols.length, (f.cols.flatMap colW ++ (uvarint f.groups.length ++ (f.groups.flatMap grpW ++ q)), false)) := by
    unfold writeF
    simp only [List.append_assoc]
    exact fNumber_enc _ (by omega) _ _
  have e2 : pC (writeF f ++ q) = (f.cols.map stripC, (uvarint f.groups.length ++ (f.groups.flatMap grpW ++ q), false)) := by
    unfold pC
    rw [e1]
    simp only
    rw [Nat.min_eq_left (by omega), pCols_enc f.cols _ _ h.i]
    rfl
  refine ⟨by rw [e2], ?_⟩
  unfold pG
  rw [e2]
  simp only
  have h60 := h.n
  rw [fNumber_enc _ (by omega)]
  simp only
  rw [Nat.min_eq_left (by omega), pGrps_enc f.groups q [] (fun g hg => frG_rows h.r.gs g hg) h.b]
  rfl
theorem frC_strip : ∀ (cs pre : List CG), frC (pre.map stripC) (cs.map stripC) = frC pre cs
  | [], _ => rfl
  | c :: cs, pre => by
    rw [List.map_cons, frC, frC, ← frC_strip cs (pre ++ [c]), List.map_append]
    have e : (pre.map stripC).any (idEq (stripC c)) = pre.any (idEq c) := by
      rw [List.any_map]
      rfl
    rw [e]
    rfl
theorem colG_strip (rows : Int) : ∀ (cs : List CG) (ss : List ST) (bs : List ByteArray), colG rows (cs.map stripC) ss bs = colG rows cs ss bs
  | [], ss, bs => by simp [colG]
  | c :: cs, [], bs => by simp [colG]
  | c :: cs, s :: ss, [] => by simp [colG]
  | c :: cs, s :: ss, b :: bs => by
    rw [List.map_cons, colG, colG, colG_strip rows cs ss bs]
    rfl
theorem frG_strip (cs : List CG) : ∀ gs : List GG, frG (cs.map stripC) gs = frG cs gs
  | [] => rfl
  | g :: gs => by rw [frG, frG, frG_strip cs gs, colG_strip, List.length_map]
theorem rightF_strip (f : FG) : rightF (stripF f) = rightF f := by
  have e : frC [] (f.cols.map stripC) = frC [] f.cols := frC_strip f.cols []
  unfold rightF
  show (decide (1 ≤ (f.cols.map stripC).length) && decide ((f.cols.map stripC).length ≤ 8) && decide (1 ≤ f.groups.length) && frC [] (f.cols.map stripC) && frG (f.cols.map stripC) f.groups && decide (rowsF f ≤ 60)) = _
  rw [List.length_map, e, frG_strip]
theorem parse_enc {f : FG} (h : FOk f) : parseF (writeF f) = some (stripF f) := by
  have h1 := write_read h []
  rw [List.append_nil] at h1
  have hr : rightF ⟨(pC (writeF f)).1, (pG (writeF f)).1⟩ = true := by
    rw [h1.1, h1.2]
    exact (rightF_strip f).trans ((rightF_iff f).2 h.r)
  unfold parseF
  rw [if_neg (by rw [hr, h1.2]; simp), h1.1, h1.2]
  rfl
end Go.Proofs.YtcpllhjhnfmepaaGreatDoor

/- rows of values that a call builds: a slice of slices. -/
namespace Go.Proofs.YtcpllhjhnfmepaaGreatDoor
set_option linter.all false
set_option linter.unusedSimpArgs false
set_option linter.unusedVariables false
open Go.RowKit
theorem Tryz.elem_rows : Elem Tryz.prog 23 57 1 24 := by
  obtain ⟨i0, hi0, hz0, hz1, hz2⟩ := info_parts (show (Tryz.prog.info? 57).map (fun i => (i.zero, i.size, i.bytes)) = some (some (.slice none 0 0), 1, 24) by kernel_rfl)
  exact ⟨Tryz.underlying23, ⟨i0, _, hi0, hz0, hz1, hz2, rfl⟩, by omega⟩
theorem Tryz.zero_rows : (Tryz.prog.info? 57).bind (·.zero) = some (.slice none 0 0) := by kernel_rfl
/-- a row: where it lies, its capacity, its values -/
abbrev Mx := Option Addr × Nat × List GV
abbrev hdV (x : Mx) : Value := .slice x.1 x.2.2.length x.2.1
abbrev rowI (x : Mx) : Item := .row 45 3 x.1 x.2.2.length x.2.1 (cellsV x.2.2)
abbrev mx0 : Mx := (none, 0, [])
section
variable {B : Nat} {w0 w : World} {L : List Item}
theorem Hp.nilRows (h : Hp B w0 w L) : ∀ n : Nat, Hp B w0 w (L ++ (List.replicate n mx0).map rowI)
  | 0 => by simpa using h
  | n + 1 => by
    have := (h.nilRows n).nilRow 45 3
    refine this.perm ?_
    rw [List.replicate_succ, List.map_cons]
    exact List.perm_middle
theorem Hp.setRow {xs : List Mx} {i : Nat} {x x' : Mx} (hi : xs[i]? = some x) (h : Hp B w0 w (rowI x' :: (L ++ (xs.map rowI).eraseIdx i))) : Hp B w0 w (L ++ (xs.set i x').map rowI) := by
  refine h.perm ?_
  rw [List.map_set]
  refine List.Perm.trans (List.Perm.append_left L (set_perm (xs.map rowI) i (rowI x) (rowI x') (by rw [List.getElem?_map, hi]; rfl))) ?_
  exact List.perm_middle
theorem Hp.rr {xs : List Mx} {gm n : Nat} (h : Hp B w0 w L) (k : Nat) (hk : L[k]? = some (.row 57 1 (some ⟨gm, 0, none⟩) n n (xs.map hdV))) (hx : ∀ x ∈ xs, rowI x ∈ L) : RR w (some ⟨gm, 0, none⟩) (xs.map (·.2.2)) := fun i r hi => by
  rw [List.getElem?_map] at hi
  cases hxi : xs[i]? with
  | none => rw [hxi] at hi; cases hi
  | some x =>
    rw [hxi] at hi
    obtain rfl : x.2.2 = r := by simpa using hi
    obtain ⟨g, hg, c0, _⟩ := h.rowCell k hk (j := i) (u := hdV x) (by rw [List.getElem?_map, hxi]; rfl)
    obtain rfl : gm = g := by simpa using hg
    exact ⟨gm, 0, x.1, x.2.1, rfl, by simpa using c0, (hp_of_at (h.own _ (hx x (List.mem_of_getElem? hxi)))).rv 0 rfl⟩
end
/-- a group's column: of its number, or its default -/
def colR (f : FG) (g : GG) (c : CG) : Option (List GV) :=
  if idxC (idEq c) 0 f.cols < 0 then some (List.replicate g.rows.toNat c.d) else
  match f.cols[(idxC (idEq c) 0 f.cols).toNat]?, g.bytes[(idxC (idEq c) 0 f.cols).toNat]? with
  | some d, some y => (match decO d.kind y.data.toList with | some m => if m.length = g.rows.toNat then some m else none | none => none)
  | _, _ => none
def readV (f : FG) (g : GG) : List CG → Option (List (List GV))
  | [] => some []
  | c :: l => match colR f g c with | none => none | some v => (readV f g l).map (v :: ·)
def rowsOf (n : Nat) (vs : List (List GV)) : List (List GV) := (List.range n).map fun i => vs.map fun v => v.getD i gv00
/-- on the way: the first k rows have the column v too -/
def rowsTo (n : Nat) (vs : List (List GV)) (v : List GV) (k : Nat) : List (List GV) := (List.range n).map fun i => (vs.map fun v => v.getD i gv00) ++ if i < k then [v.getD i gv00] else []
theorem rowsTo_zero (n : Nat) (vs : List (List GV)) (v : List GV) : rowsTo n vs v 0 = rowsOf n vs := by
  unfold rowsTo rowsOf
  refine List.map_congr_left fun i _ => ?_
  rw [if_neg (Nat.not_lt_zero i), List.append_nil]
theorem rowsTo_all (n : Nat) (vs : List (List GV)) (v : List GV) : rowsTo n vs v n = rowsOf n (vs ++ [v]) := by
  unfold rowsTo rowsOf
  refine List.map_congr_left fun i hi => ?_
  rw [if_pos (by simpa using hi), List.map_append]
  rfl
theorem rowsTo_get {n i : Nat} (vs : List (List GV)) (v : List GV) (k : Nat) (hi : i < n) : (rowsTo n vs v k)[i]? = some ((vs.map fun v => v.getD i gv00) ++ if i < k then [v.getD i gv00] else []) := by
  unfold rowsTo
  rw [List.getElem?_map, List.getElem?_range hi]
  rfl
theorem rowsTo_step {n k : Nat} {xs : List Mx} {vs : List (List GV)} {v : List GV} {x : Mx} {y : GV} {A : Option Addr} {c : Nat} (h : xs.map (·.2.2) = rowsTo n vs v k) (hk : k < n) (hx : xs[k]? = some x) (hv : v[k]? = some y) :
    (xs.set k (A, c, x.2.2 ++ [y])).map (·.2.2) = rowsTo n vs v (k + 1) := by
  have hxk : x.2.2 = vs.map fun v => v.getD k gv00 := by
    have h1 : (xs.map (·.2.2))[k]? = some x.2.2 := by rw [List.getElem?_map, hx]; rfl
    rw [h, rowsTo_get _ _ _ hk, if_neg (Nat.lt_irrefl k), List.append_nil] at h1
    exact (Option.some.inj h1).symm
  apply List.ext_getElem?
  intro i
  rw [List.map_set, h]
  by_cases hi : i = k
  · subst hi
    have hl : i < (rowsTo n vs v i).length := by unfold rowsTo; simpa using hk
    rw [List.getElem?_set_self hl, rowsTo_get _ _ _ hk, if_pos (Nat.lt_succ_self i)]
    simp only
    rw [hxk]
    simp [hv]
  · rw [List.getElem?_set_ne (fun e => hi e.symm)]
    rcases Nat.lt_or_ge i n with hin | hin
    · rw [rowsTo_get _ _ _ hin, rowsTo_get _ _ _ hin]
      by_cases h1 : i < k
      · rw [if_pos h1, if_pos (by omega)]
      · rw [if_neg h1, if_neg (by omega)]
    · rw [List.getElem?_eq_none (by unfold rowsTo; simpa using hin), List.getElem?_eq_none (by unfold rowsTo; simpa using hin)]
end Go.Proofs.YtcpllhjhnfmepaaGreatDoor

/- what file.Make makes: in plain words. -/
namespace Go.Proofs.YtcpllhjhnfmepaaGreatDoor
set_option linter.all false
set_option linter.unusedSimpArgs false
set_option linter.unusedVariables false
open Go.RowKit
def nextM (l : List CG) : Int := l.foldl (fun n c => max n (min c.id 1099511627776 + 1)) 1
def statsM (part : List (List GV)) : Nat → List CG → List ST
  | _, [] => []
  | j, _ :: cs => ofS (colL part j) :: statsM part (j + 1) cs
def bytesM (part : List (List GV)) : Nat → List CG → List ByteArray
  | _, [] => []
  | j, c :: cs => ⟨(encOut c.kind (colL part j)).toArray⟩ :: bytesM part (j + 1) cs
def grpM (cs : List CG) (part : List (List GV)) : GG := ⟨part.length, statsM part 0 cs, bytesM part 0 cs⟩
def partM (rs : List (List GV)) (k : Nat) : List (List GV) := (rs.drop (6 * k)).take 6
def makeF (cs : List CG) (rs : List (List GV)) : FG := ⟨cs, (List.range ((rs.length + 5) / 6)).map fun k => grpM cs (partM rs k)⟩
def rowsE (cs : List CG) : List (List GV) → Int
  | [] => 0
  | r :: t => if rowE cs r = 0 then rowsE cs t else rowE cs r
def mkE (cs : List CG) (rs : List (List GV)) : Int := if rightC cs (nextM cs) = false then 1 else if rs.length < 1 ∨ 60 < rs.length then 4 else rowsE cs rs
theorem statsM_len (part : List (List GV)) : ∀ (cs : List CG) (j : Nat), (statsM part j cs).length = cs.length
  | [], _ => rfl
  | _ :: cs, j => by rw [statsM, List.length_cons, statsM_len part cs (j + 1), List.length_cons]
theorem bytesM_len (part : List (List GV)) : ∀ (cs : List CG) (j : Nat), (bytesM part j cs).length = cs.length
  | [], _ => rfl
  | _ :: cs, j => by rw [bytesM, List.length_cons, bytesM_len part cs (j + 1), List.length_cons]
theorem statsM_snoc (part : List (List GV)) : ∀ (cs : List CG) (j : Nat) (c : CG), statsM part j (cs ++ [c]) = statsM part j cs ++ [ofS (colL part (j + cs.length))]
  | [], j, c => rfl
  | d :: cs, j, c => by
    rw [List.cons_append, statsM, statsM, statsM_snoc part cs (j + 1) c, List.length_cons, show j + 1 + cs.length = j + (cs.length + 1) by omega]
    rfl
theorem bytesM_snoc (part : List (List GV)) : ∀ (cs : List CG) (j : Nat) (c : CG), bytesM part j (cs ++ [c]) = bytesM part j cs ++ [⟨(encOut c.kind (colL part (j + cs.length))).toArray⟩]
  | [], j, c => rfl
  | d :: cs, j, c => by
    rw [List.cons_append, bytesM, bytesM, bytesM_snoc part cs (j + 1) c, List.length_cons, show j + 1 + cs.length = j + (cs.length + 1) by omega]
    rfl
theorem takeC_succ {cs : List CG} {k : Nat} {c : CG} (h : cs[k]? = some c) : cs.take (k + 1) = cs.take k ++ [c] := by rw [List.take_add_one, h]; rfl
theorem nextM_take {cs : List CG} {k : Nat} {c : CG} (h : cs[k]? = some c) : (cs.take (k + 1)).foldl (fun n c => max n (min c.id 1099511627776 + 1)) 1 = max ((cs.take k).foldl (fun n c => max n (min c.id 1099511627776 + 1)) 1) (min c.id 1099511627776 + 1) := by
  rw [takeC_succ h, List.foldl_append]
  rfl
theorem nextM_bound : ∀ (cs : List CG) (n : Int), 1 ≤ n → n ≤ 1099511627777 → 1 ≤ cs.foldl (fun n c => max n (min c.id 1099511627776 + 1)) n ∧ cs.foldl (fun n c => max n (min c.id 1099511627776 + 1)) n ≤ 1099511627777
  | [], n, h1, h2 => ⟨h1, h2⟩
  | c :: cs, n, h1, h2 => nextM_bound cs (max n (min c.id 1099511627776 + 1)) (by omega) (by omega)
theorem mk_rows {cs : List CG} : ∀ {rs : List (List GV)}, rowsE cs rs = 0 → ∀ r ∈ rs, rowE cs r = 0
  | [], _ => fun _ h => by cases h
  | r :: t, h => by
    unfold rowsE at h
    split at h
    · rename_i h0
      intro x hx
      rcases List.mem_cons.1 hx with rfl | hx
      · exact h0
      · exact mk_rows h x hx
    · rename_i h0; exact absurd h h0
theorem row_len {cs : List CG} {r : List GV} (h : rowE cs r = 0) : r.length = cs.length := by
  unfold rowE at h
  split at h
  · rename_i e; exact e
  · cases h
theorem rowF_cell : ∀ {cs : List CG} {r : List GV} {j : Nat} {c : CG} {v : GV}, rowF cs r = 0 → cs[j]? = some c → r[j]? = some v → cellE c v = 0
  | [], _, j, c, v, _, h, _ => by simp at h
  | _ :: _, [], j, c, v, _, _, h => by simp at h
  | d :: cs, y :: r, 0, c, v, h, h1, h2 => by
    simp at h1 h2
    subst h1 h2
    unfold rowF at h
    split at h
    · rename_i e; exact e
    · rename_i e; exact absurd h e
  | d :: cs, y :: r, j + 1, c, v, h, h1, h2 => by
    unfold rowF at h
    split at h
    · exact rowF_cell (j := j) h (by simpa using h1) (by simpa using h2)
    · rename_i e; exact absurd h e
theorem row_cell {cs : List CG} {r : List GV} {j : Nat} {c : CG} {v : GV} (h : rowE cs r = 0) (h1 : cs[j]? = some c) (h2 : r[j]? = some v) : cellE c v = 0 := by
  unfold rowE at h
  split at h
  · exact rowF_cell h h1 h2
  · cases h
theorem cellE_bad {c : CG} {v : GV} (h : cellE c v = 0) : badIn c.kind v = false := by
  unfold cellE at h
  unfold badIn
  split at h
  · cases h
  · rename_i h1
    have h1 : rightB v.kind v.num v.text = true := by simpa using h1
    rw [h1]
    split at h
    · rename_i h2
      simp [h2]
    · split at h
      · rename_i h3
        simp [h3]
      · cases h
theorem colL_mem {part : List (List GV)} {j : Nat} {x : GV} (hx : x ∈ colL part j) : ∃ r ∈ part, x = r.getD j gv00 := by
  unfold colL at hx
  obtain ⟨r, h1, h2⟩ := List.mem_map.1 hx
  exact ⟨r, h1, h2.symm⟩
theorem col_enc {cs : List CG} {part : List (List GV)} {j : Nat} {c : CG} (h : ∀ r ∈ part, rowE cs r = 0) (h1 : cs[j]? = some c) (hk : c.kind = 1 ∨ c.kind = 2) (hl : part.length ≤ 60) : encErr c.kind (colL part j) = 0 := by
  have hjl := (List.getElem?_eq_some_iff.1 h1).1
  have hb : (colL part j).any (badIn c.kind) = false := by
    rw [List.any_eq_false]
    intro x hx
    obtain ⟨r, hr, rfl⟩ := colL_mem hx
    have hlen := row_len (h r hr)
    have hg : r[j]? = some (r.getD j gv00) := by rw [List.getD_eq_getElem?_getD, List.getElem?_eq_getElem (by omega)]; rfl
    rw [cellE_bad (row_cell (h r hr) h1 hg)]
    simp
  unfold encErr
  rw [if_neg, if_neg]
  · unfold colL; simpa using hl
  · rw [hb]
    simp
    omega
theorem partM_mem {rs : List (List GV)} {k : Nat} {r : List GV} (h : r ∈ partM rs k) : r ∈ rs := by
  unfold partM at h
  exact List.mem_of_mem_drop (List.mem_of_mem_take h)
theorem partM_len (rs : List (List GV)) (k : Nat) : (partM rs k).length = min 6 (rs.length - 6 * k) := by unfold partM; rw [List.length_take, List.length_drop]
theorem RR.part {w : World} {b o : Nat} {rs : List (List GV)} (h : RR w (some ⟨b, o, none⟩) rs) (k : Nat) : RR w (some ⟨b, o + 6 * k, none⟩) (partM rs k) := fun i r hi => by
  unfold partM at hi
  have h6 : i < 6 := by
    have := (List.getElem?_eq_some_iff.1 hi).1
    rw [List.length_take] at this
    omega
  rw [List.getElem?_take_of_lt h6, List.getElem?_drop] at hi
  obtain ⟨b', o', A1, c1, e, h0, h1⟩ := h _ r hi
  obtain ⟨rfl, rfl⟩ : b = b' ∧ o = o' := by simpa using e
  exact ⟨b, o + 6 * k, A1, c1, rfl, by rw [Nat.add_assoc]; exact h0, h1⟩
end Go.Proofs.YtcpllhjhnfmepaaGreatDoor
