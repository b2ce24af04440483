/- slices.Repeat of one value. -/
import Derived.Test.YtieongfdleobpaaSlc
import Derived.Test.YtieongfdleobpaaHpCopy
import Derived.Test.YtieongfdleobpaaWr
namespace Go.Proofs.Ytieongfdleobpaa
set_option linter.unusedSimpArgs false
set_option linter.unusedVariables false
open Go.RowKit
theorem cellsV_rep_add (x : GV) (n m : Nat) : cellsV (List.replicate (n + m) x) = cellsV (List.replicate n x) ++ cellsV (List.replicate m x) := by
  rw [← List.replicate_append_replicate, cellsV_append]
theorem cellsV_one : ∀ (l : List GV), ∀ u ∈ cellsV l, u.oneCell' = true
  | [], u, h => by cases h
  | x :: l, u, h => by
    simp only [cellsV, List.mem_cons] at h
    rcases h with rfl | rfl | rfl | h
    · rfl
    · rfl
    · rfl
    · exact cellsV_one l u h
theorem rep_step {x : GV} {xs : List Value} {n m : Nat} (h : xs.take (n * 3) = cellsV (List.replicate n x)) (hl : (n + m) * 3 ≤ xs.length) :
    (splice xs (n * 3) (cellsV (List.replicate m x))).take ((n + m) * 3) = cellsV (List.replicate (n + m) x) := by
  have hm : (cellsV (List.replicate m x)).length = m * 3 := by rw [cellsV_len, List.length_replicate]
  unfold splice
  rw [cellsV_rep_add, ← h, ← List.append_assoc, List.take_left' (by rw [List.length_append, List.length_take, hm]; omega)]
set_option maxRecDepth 100000 in
set_option maxHeartbeats 2000000 in
theorem repeat_any (x : GV) (A : Option Addr) (c : Nat) (k : Nat) (hk : k ≤ 1000) (w : World) (hr : RV w A [x]) :
    Calls Try.prog 45 #[.slice A 1 c, .int .i64 k] w fun e w' => ∃ g cap, e = .returned (.slice (some ⟨g, 0, none⟩) k cap) ∧ Hp w.heap.size w w' [.row 23 3 (some ⟨g, 0, none⟩) k cap (cellsV (List.replicate k x))] := by
  obtain ⟨b, o, rfl, c0, c1, c2⟩ := hr 0 x rfl
  simp only [Nat.zero_mul, Nat.add_zero] at c0 c1 c2
  have hR := Reads.cell c0 (Reads.cell c1 (Reads.cell c2 (Reads.nil w)))
  clear c0 c1 c2 hr
  have hS := Hp.init w
  have w1 : IntKind.u64.wrap (k : Int) = k := by rw [IntKind.wrap_u64]; omega
  have w2 : IntKind.i64.wrap (k : Int) = k := by rw [IntKind.wrap_i64]; omega
  have HM := Lib.hid (show ∀ W : World, Calls Try.prog 54 #[.int .u64 1, .int .u64 k] W fun e w' => e = .returned (.tuple #[.int .u64 0, .int .u64 k]) ∧ w' = W from fun W => by
    have := Try.bits_Mul 1 k (by decide) (by omega) W
    rw [Nat.one_mul, Nat.div_eq_of_lt (by omega), Nat.mod_eq_of_lt (by omega)] at this
    exact this)
  ((try clear hF); (first | have hF := And.intro hS.facts (hR.at hS.ext) | have hF := hS.facts); simp only [HFacts, cellFacts, RFacts, cellOnly, and_true, true_and, Nat.zero_add, Nat.reduceAdd] at hF)
  go_enter Try.func45, Try.ntmps45
  obtain ⟨m0, hm0⟩ : ∃ m, m = min 1 k := ⟨_, rfl⟩
  have hm1 : m0 ≤ k := by omega
  have HM0 := Lib.hid hm0
  clear hm0
  go_wp2_with (first | ((first | with_reducible refine abs_hlist_alloc (by (repeat (first | with_reducible exact hS | with_reducible apply Hp.drew | with_reducible apply Hp.alloc | with_reducible apply Hp.put | with_reducible apply atS | with_reducible exact at0 | with_reducible exact at1 | with_reducible exact at2 | with_reducible exact at3 | with_reducible exact at4 | with_reducible exact at5))) ?_ | with_reducible refine abs_hlist_set (by (repeat (first | with_reducible exact hS | with_reducible apply Hp.drew | with_reducible apply Hp.alloc | with_reducible apply Hp.put | with_reducible apply atS | with_reducible exact at0 | with_reducible exact at1 | with_reducible exact at2 | with_reducible exact at3 | with_reducible exact at4 | with_reducible exact at5))) ?_ | with_reducible refine abs_hlist_drew (by (repeat (first | with_reducible exact hS | with_reducible apply Hp.drew | with_reducible apply Hp.alloc | with_reducible apply Hp.put | with_reducible apply atS | with_reducible exact at0 | with_reducible exact at1 | with_reducible exact at2 | with_reducible exact at3 | with_reducible exact at4 | with_reducible exact at5))) ?_ | with_reducible refine abs_hcode_alloc (by (repeat (first | with_reducible exact hS | with_reducible apply Hp.drew | with_reducible apply Hp.alloc | with_reducible apply Hp.put | with_reducible apply atS | with_reducible exact at0 | with_reducible exact at1 | with_reducible exact at2 | with_reducible exact at3 | with_reducible exact at4 | with_reducible exact at5))) ?_ | with_reducible refine abs_hcode_set (by (repeat (first | with_reducible exact hS | with_reducible apply Hp.drew | with_reducible apply Hp.alloc | with_reducible apply Hp.put | with_reducible apply atS | with_reducible exact at0 | with_reducible exact at1 | with_reducible exact at2 | with_reducible exact at3 | with_reducible exact at4 | with_reducible exact at5))) ?_ | with_reducible refine abs_hcode_drew (by (repeat (first | with_reducible exact hS | with_reducible apply Hp.drew | with_reducible apply Hp.alloc | with_reducible apply Hp.put | with_reducible apply atS | with_reducible exact at0 | with_reducible exact at1 | with_reducible exact at2 | with_reducible exact at3 | with_reducible exact at4 | with_reducible exact at5))) ?_ | with_reducible refine abs_hpost_alloc (by (repeat (first | with_reducible exact hS | with_reducible apply Hp.drew | with_reducible apply Hp.alloc | with_reducible apply Hp.put | with_reducible apply atS | with_reducible exact at0 | with_reducible exact at1 | with_reducible exact at2 | with_reducible exact at3 | with_reducible exact at4 | with_reducible exact at5))) ?_ | with_reducible refine abs_hpost_set (by (repeat (first | with_reducible exact hS | with_reducible apply Hp.drew | with_reducible apply Hp.alloc | with_reducible apply Hp.put | with_reducible apply atS | with_reducible exact at0 | with_reducible exact at1 | with_reducible exact at2 | with_reducible exact at3 | with_reducible exact at4 | with_reducible exact at5))) ?_ | with_reducible refine abs_hpost_drew (by (repeat (first | with_reducible exact hS | with_reducible apply Hp.drew | with_reducible apply Hp.alloc | with_reducible apply Hp.put | with_reducible apply atS | with_reducible exact at0 | with_reducible exact at1 | with_reducible exact at2 | with_reducible exact at3 | with_reducible exact at4 | with_reducible exact at5))) ?_ | with_reducible refine abs_hcalls_alloc (by (repeat (first | with_reducible exact hS | with_reducible apply Hp.drew | with_reducible apply Hp.alloc | with_reducible apply Hp.put | with_reducible apply atS | with_reducible exact at0 | with_reducible exact at1 | with_reducible exact at2 | with_reducible exact at3 | with_reducible exact at4 | with_reducible exact at5))) ?_ | with_reducible refine abs_hcalls_set (by (repeat (first | with_reducible exact hS | with_reducible apply Hp.drew | with_reducible apply Hp.alloc | with_reducible apply Hp.put | with_reducible apply atS | with_reducible exact at0 | with_reducible exact at1 | with_reducible exact at2 | with_reducible exact at3 | with_reducible exact at4 | with_reducible exact at5))) ?_ | with_reducible refine abs_hcalls_drew (by (repeat (first | with_reducible exact hS | with_reducible apply Hp.drew | with_reducible apply Hp.alloc | with_reducible apply Hp.put | with_reducible apply atS | with_reducible exact at0 | with_reducible exact at1 | with_reducible exact at2 | with_reducible exact at3 | with_reducible exact at4 | with_reducible exact at5))) ?_); ((try clear hF); clear hS; intro wk hS; (try simp only [List.set_cons_zero, List.set_cons_succ, heap_size, heap_set_size] at hS); ((try clear hF); (first | have hF := And.intro hS.facts (hR.at hS.ext) | have hF := hS.facts); simp only [HFacts, cellFacts, RFacts, cellOnly, and_true, true_and, Nat.zero_add, Nat.reduceAdd] at hF))) | (go_at_call 54; (with_reducible refine (HM.out _).mono ?_); rintro e wk ⟨rfl, hw⟩; replace hw := hw.symm; subst hw) | (at_make; refine wpList_makeN_hp Try.elem_vals rfl (.tmp 29) (.tmp 29) rfl hS .i64 .i64 _ _ rfl rfl (m := k) rfl rfl (by omega) (by omega) ?_; clear hS; intro g wk xs hxl hS; ((try clear hF); (first | have hF := And.intro hS.facts (hR.at hS.ext) | have hF := hS.facts); simp only [HFacts, cellFacts, RFacts, cellOnly, and_true, true_and, Nat.zero_add, Nat.reduceAdd] at hF)) | (refine wpList_copy_hp Try.elem_vals rfl (.tmp 31) (.tmp 32) rfl hS 0 k k ⟨b, o, none⟩ 1 c m0 rfl rfl HM0.out (cellsV (List.replicate m0 x)) (by rw [cellsV_len, List.length_replicate]) (by omega) ?hsrc (cellsV_one _) ?_; rotate_left; clear hS; intro wk hS; ((try clear hF); (first | have hF := And.intro hS.facts (hR.at hS.ext) | have hF := hS.facts); simp only [HFacts, cellFacts, RFacts, cellOnly, and_true, true_and, Nat.zero_add, Nat.reduceAdd] at hF)))
  case hsrc =>
    intro j v hj
    have h01 : m0 = 0 ∨ m0 = 1 := by have := HM0.out; omega
    clear hS
    rcases h01 with rfl | rfl
    · simp [cellsV] at hj
    · have hj' : [Value.int .i64 x.kind, .int .i64 x.num, .string x.text][j]? = some v := hj
      match j, hj' with
      | 0, hj' => simp at hj'; subst hj'; simpa [Addr.add] using hF.1
      | 1, hj' => simp at hj'; subst hj'; simpa [Addr.add] using hF.2.1
      | 2, hj' => simp at hj'; subst hj'; simpa [Addr.add] using hF.2.2
      | j + 3, hj' => simp at hj'
  have hx0 : (splice xs (0 * 3) (cellsV (List.replicate m0 x))).take (m0 * 3) = cellsV (List.replicate m0 x) := by
    have := rep_step (x := x) (xs := xs) (n := 0) (m := m0) (by simp [cellsV]) (by omega)
    rwa [Nat.zero_add] at this
  have hl0 : (splice xs (0 * 3) (cellsV (List.replicate m0 x))).length = k * 3 := by rw [length_splice _ _ _ (by rw [cellsV_len, List.length_replicate]; omega)]; exact hxl
  have HX0 := Lib.hid hx0
  have HL0 := Lib.hid hl0
  clear hx0 hl0 hxl
  generalize splice xs (0 * 3) (cellsV (List.replicate m0 x)) = ys at HX0 HL0 hS
  go_loopw [8] (fun nv wr => ∃ (n : Nat) (zs : List Value), nv = .int .i64 n ∧ n ≤ k ∧ (0 < k → 0 < n) ∧ Hid (zs.take (n * 3) = cellsV (List.replicate n x)) ∧ Hid (zs.length = k * 3) ∧ Hp w.heap.size w wr [.row 23 3 (some ⟨g, 0, none⟩) k k zs]) (fun nv _ => k - (intOf nv).toNat)
  case atStart => exact ⟨m0, ys, rfl, hm1, (by have := HM0.out; omega), HX0, HL0, hS⟩
  case round =>
    clear hS hF HM0 hm1 HX0 HL0
    obtain ⟨n, zs, rfl, hn, hpos, hz, hzl, hS⟩ := hrel
    by_cases hlt : n < k
    · obtain ⟨m, hm⟩ : ∃ m, m = min n (k - n) := ⟨_, rfl⟩
      have hm2 : n + m ≤ k := by omega
      have hm3 : 0 < m := by have := hpos (by omega); omega
      have hm4 : m ≤ n := by omega
      have HM1 := Lib.hid (show m = Nat.min n (k - n) from hm)
      clear hm hpos
      have f1 : (n : Int) ≤ k := by omega
      have f2 : (0 : Int) ≤ n := by omega
      have f3 : IntKind.i64.wrap ((n : Int) + (m : Int)) = (n : Int) + m := IntWalk.i64_in _ (by omega)
      have f5 : ¬ k = n := by omega
      ((try clear hF); (first | have hF := And.intro hS.facts (hR.at hS.ext) | have hF := hS.facts); simp only [HFacts, cellFacts, RFacts, cellOnly, and_true, true_and, Nat.zero_add, Nat.reduceAdd] at hF)
      go_wp2_with fail
      ((with_reducible refine wp_region_chain_hp [.q, .q, .q, .q, .q, .q, .q, .t, .t, .t] [] (by kernel_rfl) rfl (by kernel_rfl) hS (fun w h => h.sub (by simp)) ?_); clear hS; (repeat ((with_reducible refine Walk.here ?_); (first | ((with_reducible apply Walk.skipQ); (first | rfl | exact wanted_false rfl rfl rfl (by assumption)); (try simp only [Mark.isQ, if_true, Bool.false_eq_true, if_false, Act.put, List.setIfInBounds_toArray, List.set_cons_zero, List.set_cons_succ])) | ((with_reducible apply Walk.val); (first | rfl | exact wanted_true rfl rfl rfl (by assumption)); (rintro w hS; ((try clear hF); (first | have hF := And.intro hS.facts (hR.at hS.ext) | have hF := hS.facts); simp only [HFacts, cellFacts, RFacts, cellOnly, and_true, true_and, Nat.zero_add, Nat.reduceAdd] at hF); go_simp; with_reducible rfl); (try simp only [Mark.isQ, if_true, Bool.false_eq_true, if_false, Act.put, List.setIfInBounds_toArray, List.set_cons_zero, List.set_cons_succ])) | ((with_reducible apply Walk.tail); (try simp only [Mark.isQ, if_true, Bool.false_eq_true, if_false, Act.put, List.setIfInBounds_toArray, List.set_cons_zero, List.set_cons_succ])) | ((with_reducible apply Walk.guardT); rfl; rfl; rfl; (all_goals intro hg)) | ((with_reducible apply Walk.guardF); rfl; rfl; rfl; (all_goals intro hg))))); refine Walk.done ?_; simp only [chainOf, Mark.isT, if_true, Bool.false_eq_true, if_false])
      refine Chain.copy Try.elem_vals rfl (.tmp 41) (.tmp 44) rfl n (k - n) (k - n) ⟨g, 0, none⟩ n k m rfl rfl HM1.out (cellsV (List.replicate m x)) (by rw [cellsV_len, List.length_replicate]) hm2 ?_ (cellsV_one _) (fun w h => h.sub (by simp)) ?_
      · intro W hW j v hj
        have hj3 : j < m * 3 := by
          have := (List.getElem?_eq_some_iff.1 hj).1
          rwa [cellsV_len, List.length_replicate] at this
        have e : (cellsV (List.replicate n x))[j]? = some v := by
          rw [show n = m + (n - m) by omega, cellsV_rep_add, List.getElem?_append_left (by rw [cellsV_len, List.length_replicate]; exact hj3)]
          exact hj
        rw [← hz.out, List.getElem?_take_of_lt (by omega)] at e
        obtain ⟨g', hg', hc, _⟩ := hW.rowCell 0 rfl e
        obtain rfl : g = g' := by simpa using hg'
        have e2 : (⟨g, 0, none⟩ : Addr).add j = ⟨g, j, none⟩ := by unfold Addr.add; split <;> simp_all
        rw [e2]; exact hc
      try simp only [Act.put, List.setIfInBounds_toArray, List.set_cons_zero, List.set_cons_succ]
      (refine Chain.val (by (first | rfl | exact wanted_true rfl rfl rfl (by assumption))) (fun w h => h.sub (by simp)) (by rintro w hS; ((try clear hF); (first | have hF := And.intro hS.facts (hR.at hS.ext) | have hF := hS.facts); simp only [HFacts, cellFacts, RFacts, cellOnly, and_true, true_and, Nat.zero_add, Nat.reduceAdd] at hF); go_simp; with_reducible rfl) ?_; try simp only [Act.put, List.setIfInBounds_toArray, List.set_cons_zero, List.set_cons_succ])
      (refine Chain.val (by (first | rfl | exact wanted_true rfl rfl rfl (by assumption))) (fun w h => h.sub (by simp)) (by rintro w hS; ((try clear hF); (first | have hF := And.intro hS.facts (hR.at hS.ext) | have hF := hS.facts); simp only [HFacts, cellFacts, RFacts, cellOnly, and_true, true_and, Nat.zero_add, Nat.reduceAdd] at hF); go_simp; with_reducible rfl) ?_; try simp only [Act.put, List.setIfInBounds_toArray, List.set_cons_zero, List.set_cons_succ])
      (refine Chain.done ?_; (try clear hF); intro wk hS; ((try clear hF); (first | have hF := And.intro hS.facts (hR.at hS.ext) | have hF := hS.facts); simp only [HFacts, cellFacts, RFacts, cellOnly, and_true, true_and, Nat.zero_add, Nat.reduceAdd] at hF))
      go_wp2_with fail
      go_roundw
      case rel => exact ⟨n + m, splice zs (n * 3) (cellsV (List.replicate m x)), by go_num, hm2, by omega, Lib.hid (rep_step hz.out (by rw [hzl.out]; omega)), Lib.hid (by rw [length_splice _ _ _ (by rw [cellsV_len, List.length_replicate, hzl.out]; omega)]; exact hzl.out), hS⟩
      case measure => simp [intOf]; omega
    · obtain rfl : n = k := by omega
      ((try clear hF); (first | have hF := And.intro hS.facts (hR.at hS.ext) | have hF := hS.facts); simp only [HFacts, cellFacts, RFacts, cellOnly, and_true, true_and, Nat.zero_add, Nat.reduceAdd] at hF)
      go_wp2_with fail
      go_ret
      refine ⟨g, n, rfl, ?_⟩
      have e : zs = cellsV (List.replicate n x) := by rw [← hz.out, List.take_of_length_le (by rw [hzl.out]; exact Nat.le_refl _)]
      rw [e] at hS
      exact hS
end Go.Proofs.Ytieongfdleobpaa
