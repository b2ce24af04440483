/- file.Parse. -/
import Derived.Test.YtcpllhjhnfmepaaGreatDoorFW22
import Derived.Test.YtcpllhjhnfmepaaGreatDoorFW25
namespace Go.Proofs.YtcpllhjhnfmepaaGreatDoor
set_option linter.unusedSimpArgs false
set_option linter.unusedVariables false
open Go.RowKit
set_option linter.all false
open Go.Lib (uvarint zigzag)
theorem fText_len (st : RSt) : (fText st).1.length ≤ st.1.length ∧ (fText st).2.1.length ≤ st.1.length := by
  have := fNumber_len st
  unfold fText
  split
  · exact ⟨Nat.zero_le _, this⟩
  · simp only [List.length_take, List.length_drop]
    omega
theorem pnum {B : Nat} {w0 w : World} {L : List Item} (g : Nat) (s : ByteArray) (b : Bool) (hl : s.size ≤ 100000) (u : Nat) (r : List UInt8) (b1 : Bool) (h : fNumber (s.data.toList, b) = (u, (r, b1))) (hS : Hp B w0 w (.blk g [.string s, .bool b] 77 :: L)) :
    Calls Tryz.prog 31 #[.pointer (some ⟨g, 0, none⟩)] w fun e w' => ∃ s2 : ByteArray, e = .returned (.int .i64 u) ∧ Hid (s2.data.toList = r) ∧ Hid (s2.size ≤ 100000) ∧ Hp B w0 w' (.blk g [.string s2, .bool b1] 77 :: L) := by
  have h1 := frnumber_any g s b hl hS
  have h2 := fNumber_len (s.data.toList, b)
  rw [h] at h1 h2
  exact h1.mono fun e w' ⟨s2, k1, k2, k3⟩ => ⟨s2, k1, k2, Lib.hid (size_le k2.out h2 hl), k3⟩
theorem ptext {B : Nat} {w0 w : World} {L : List Item} (g : Nat) (s : ByteArray) (b : Bool) (hl : s.size ≤ 100000) (t r : List UInt8) (b1 : Bool) (h : fText (s.data.toList, b) = (t, (r, b1))) (hS : Hp B w0 w (.blk g [.string s, .bool b] 77 :: L)) :
    Calls Tryz.prog 32 #[.pointer (some ⟨g, 0, none⟩)] w fun e w' => ∃ s2 tb : ByteArray, e = .returned (.string tb) ∧ Hid (tb.data.toList = t) ∧ Hid (tb.size ≤ 100000) ∧ Hid (s2.data.toList = r) ∧ Hid (s2.size ≤ 100000) ∧ Hp B w0 w' (.blk g [.string s2, .bool b1] 77 :: L) := by
  have h1 := frtext_any g s b hl hS
  have h2 := fText_len (s.data.toList, b)
  rw [h] at h1 h2
  exact h1.mono fun e w' ⟨s2, tb, k1, k2, k3, k4⟩ => ⟨s2, tb, k1, k2, Lib.hid (size_le k2.out h2.1 hl), k3, Lib.hid (size_le k3.out h2.2 hl), k4⟩
theorem all_push {l : List ByteArray} {x : ByteArray} (h : ∀ b ∈ l, b.size ≤ 100000) (hx : x.size ≤ 100000) : ∀ b ∈ l ++ [x], b.size ≤ 100000 := fun b hb => by
  rcases List.mem_append.1 hb with hb | hb
  · exact h b hb
  · rw [List.mem_singleton.1 hb]; exact hx
/-- what Parse hands back -/
def PRes (w : World) (o : Option FG) (e : Ending) (w' : World) : Prop := match o with
  | none => e = .returned (.tuple #[.agg #[.slice none 0 0, .slice none 0 0], .iface 86 (.int .i64 3)]) ∧ Ext w w'
  | some f => ∃ v, e = .returned (.tuple #[v, .nilIface]) ∧ Ext w w' ∧ RF w' v f
set_option maxRecDepth 100000 in
set_option maxHeartbeats 8000000 in
theorem fparse_any (s : ByteArray) (hs : s.size ≤ 100000) (w : World) : Calls Tryz.prog 9 #[.string s] w (PRes w (parseF s.data.toList)) := by
  obtain ⟨D, hD⟩ : ∃ D, D = parseF s.data.toList := ⟨_, rfl⟩
  rw [← hD]
  have HD := Lib.hid hD
  clear hD
  have hS := Hp.init w
  have hR := Reads.nil w
  obtain ⟨⟨u0, r0, b0⟩, h0⟩ : ∃ x, fNumber (s.data.toList, false) = x := ⟨_, rfl⟩
  obtain ⟨N1, hN1⟩ : ∃ x, x = min u0 9 := ⟨_, rfl⟩
  have hm1 : min (u0 : Int) 9 = (N1 : Int) := by omega
  have HN1 := Lib.hid hN1
  have hN9 : N1 ≤ 9 := by omega
  clear hN1
  have H0 := Lib.hid h0
  have P0 := Lib.hid (fun (W : World) (g : Nat) (L : List Item) (hS : Hp w.heap.size w W (.blk g [.string s, .bool false] 77 :: L)) => pnum g s false hs u0 r0 b0 h0 hS)
  clear h0
  go_enter Tryz.func9, Tryz.ntmps9
  go_upto_region 3 with (first | ((with_reducible first | refine nhLa ?_ | refine nhLs ?_ | refine nhLd ?_ | refine nhCa ?_ | refine nhCs ?_ | refine nhCd ?_ | refine nhPa ?_ | refine nhPs ?_ | refine nhPd ?_ | refine nhKa ?_ | refine nhKs ?_ | refine nhKd ?_); ((try clear hF); clear hS; intro wk hS; (try simp only [List.set_cons_zero, List.set_cons_succ, heap_size, heap_set_size] at hS); ((try clear hF); (first | have hF := And.intro hS.facts (hR.at hS.ext) | have hF := hS.facts); simp only [HFacts, cellFacts, RFacts, cellOnly, and_true, true_and, Nat.zero_add, Nat.reduceAdd] at hF))) | fail)
  obtain ⟨g5, hg5⟩ := hS.named
  rw [← hg5] at hS hF ⊢
  clear hg5
  obtain ⟨gr, hgr⟩ := (hS.front 1 rfl).named
  rw [← hgr] at hS hF ⊢
  clear hgr
  go_wp2_with (first | ((with_reducible first | refine nhLa ?_ | refine nhLs ?_ | refine nhLd ?_ | refine nhCa ?_ | refine nhCs ?_ | refine nhCd ?_ | refine nhPa ?_ | refine nhPs ?_ | refine nhPd ?_ | refine nhKa ?_ | refine nhKs ?_ | refine nhKd ?_); ((try clear hF); clear hS; intro wk hS; (try simp only [List.set_cons_zero, List.set_cons_succ, heap_size, heap_set_size] at hS); ((try clear hF); (first | have hF := And.intro hS.facts (hR.at hS.ext) | have hF := hS.facts); simp only [HFacts, cellFacts, RFacts, cellOnly, and_true, true_and, Nat.zero_add, Nat.reduceAdd] at hF))) | (go_at_call 31; (with_reducible refine Calls.mono (P0.out _ _ _ (hS.front 1 rfl)) ?_); clear hS P0; rintro e wk ⟨s0, rfl, HS0, HZ0, hS⟩; (try simp only [List.eraseIdx_cons_zero, List.eraseIdx_cons_succ, List.set_cons_zero, List.set_cons_succ] at hS); ((try clear hF); (first | have hF := And.intro hS.facts (hR.at hS.ext) | have hF := hS.facts); simp only [HFacts, cellFacts, RFacts, cellOnly, and_true, true_and, Nat.zero_add, Nat.reduceAdd] at hF)))
  replace hS := hS.nilRow 47 7
  go_loopw [18] (fun i wr => ∃ (k : Nat) (A : Option Addr) (cap : Nat) (cs : List CG) (s1 : ByteArray) (b1 : Bool), i = .int .i64 k ∧ k ≤ N1 ∧ Hid (pCols N1 (r0, b0) [] = pCols (N1 - k) (s1.data.toList, b1) cs) ∧ Hid (cs.length = k) ∧ Hid (s1.size ≤ 100000) ∧
    Hp w.heap.size w wr [.row 47 7 A k cap (cellsC cs), .blk gr [.string s1, .bool b1] 77, .blk g5 [.slice A k cap, .slice none 0 0] 29, .blk w.heap.size [.slice none 0 0, .slice none 0 0] 29]) (fun i _ => N1 - (intOf i).toNat)
  case atStart => exact ⟨0, none, 0, [], s0, b0, rfl, Nat.zero_le _, Lib.hid (by rw [HS0.out]; rfl), Lib.hid rfl, HZ0, hS⟩
  case round =>
    clear hS hF HS0 HZ0
    obtain ⟨k, A, cap, cs, s1, b1, rfl, hk, hp, HCL, HZ1, hS⟩ := hrel
    by_cases hlt : k < N1
    · obtain ⟨⟨u1, r1, b2⟩, h1⟩ : ∃ x, fNumber (s1.data.toList, b1) = x := ⟨_, rfl⟩
      obtain ⟨⟨u2, r2, b3⟩, h2⟩ : ∃ x, fNumber (r1, b2) = x := ⟨_, rfl⟩
      have HT := Lib.hid (show pCols (N1 - k) (s1.data.toList, b1) cs = pCols (N1 - (k + 1)) (r2, b3) (cs ++ [colO u1 u2]) by
        rw [show N1 - k = N1 - (k + 1) + 1 by omega, pCols, h1]
        simp only
        rw [h2])
      have P1 := Lib.hid (fun (W : World) (L : List Item) (hS : Hp w.heap.size w W (.blk gr [.string s1, .bool b1] 77 :: L)) => pnum gr s1 b1 HZ1.out u1 r1 b2 h1 hS)
      have P2 := Lib.hid (fun (W : World) (L : List Item) (s2 : ByteArray) (h : s2.data.toList = r1) (hz : s2.size ≤ 100000) (hS : Hp w.heap.size w W (.blk gr [.string s2, .bool b2] 77 :: L)) => pnum gr s2 b2 hz u2 r2 b3 (by rw [h]; exact h2) hS)
      clear h1 h2
      ((try clear hF); (first | have hF := And.intro hS.facts (hR.at hS.ext) | have hF := hS.facts); simp only [HFacts, cellFacts, RFacts, cellOnly, and_true, true_and, Nat.zero_add, Nat.reduceAdd] at hF)
      go_upto_region 5 with (first | ((with_reducible first | refine nhLa ?_ | refine nhLs ?_ | refine nhLd ?_ | refine nhCa ?_ | refine nhCs ?_ | refine nhCd ?_ | refine nhPa ?_ | refine nhPs ?_ | refine nhPd ?_ | refine nhKa ?_ | refine nhKs ?_ | refine nhKd ?_); ((try clear hF); clear hS; intro wk hS; (try simp only [List.set_cons_zero, List.set_cons_succ, heap_size, heap_set_size] at hS); ((try clear hF); (first | have hF := And.intro hS.facts (hR.at hS.ext) | have hF := hS.facts); simp only [HFacts, cellFacts, RFacts, cellOnly, and_true, true_and, Nat.zero_add, Nat.reduceAdd] at hF))) | fail)
      ((with_reducible refine wp_region_braidz_hp [.q, .q, .q, .t, .q, .t, .t, .t, .t, .t, .t] 9 [.blk g5 [.slice A k cap, .slice none 0 0] 29] (by kernel_rfl) rfl (by kernel_rfl) hS (fun w h => h.sub (by simp)) ?_); clear hS; (repeat ((with_reducible refine Walk.here ?_); (first | ((with_reducible apply Walk.skipQ); (first | rfl | exact wanted_false rfl rfl rfl (by assumption)); (try simp only [Mark.isQ, if_true, Bool.false_eq_true, if_false, Act.put, List.setIfInBounds_toArray, List.set_cons_zero, List.set_cons_succ])) | ((with_reducible apply Walk.val); (first | rfl | exact wanted_true rfl rfl rfl (by assumption)); (rintro w hS; ((try clear hF); (first | have hF := And.intro hS.facts (hR.at hS.ext) | have hF := hS.facts); simp only [HFacts, cellFacts, RFacts, cellOnly, and_true, true_and, Nat.zero_add, Nat.reduceAdd] at hF); go_simp; with_reducible rfl); (try simp only [Mark.isQ, if_true, Bool.false_eq_true, if_false, Act.put, List.setIfInBounds_toArray, List.set_cons_zero, List.set_cons_succ])) | ((with_reducible apply Walk.tail); (try simp only [Mark.isQ, if_true, Bool.false_eq_true, if_false, Act.put, List.setIfInBounds_toArray, List.set_cons_zero, List.set_cons_succ])) | ((with_reducible apply Walk.guardT); rfl; rfl; rfl; (all_goals intro hg)) | ((with_reducible apply Walk.guardF); rfl; rfl; rfl; (all_goals intro hg))))); refine Walk.done ?_; show BraidZ _ _ _ _ 9 7 [3, 5, 6, 7, 8, 9, 10] _ _)
      (refine BraidZ.next1 (i := 3) (by kernel_rfl) (by kernel_rfl) rfl ?_; (try simp only [List.getElem_toArray, List.getElem_cons_succ, List.getElem_cons_zero]))
      (refine ZStep.call (by (first | rfl | exact wanted_true rfl rfl rfl (by assumption))) (by rintro w hS; ((try clear hF); (first | have hF := And.intro hS.facts (hR.at hS.ext) | have hF := hS.facts); simp only [HFacts, cellFacts, RFacts, cellOnly, and_true, true_and, Nat.zero_add, Nat.reduceAdd] at hF); go_simp; exact ⟨rfl, rfl⟩) ?_; (intro w hS); (with_reducible refine Calls.mono (P1.out _ _ (hS.front 1 rfl)) ?_); clear hS; rintro e wk ⟨s2, rfl, HS2, HZ2, hS⟩; (try simp only [List.eraseIdx_cons_zero, List.eraseIdx_cons_succ, List.set_cons_zero, List.set_cons_succ] at hS); refine ⟨_, _, rfl, hS, (fun w h => h.sub (by simp)), ?_⟩; (clear hS); try simp only [Act.put, List.setIfInBounds_toArray, List.set_cons_zero, List.set_cons_succ])
      (refine BraidZ.next1 (i := 5) (by kernel_rfl) (by kernel_rfl) rfl ?_; (try simp only [List.getElem_toArray, List.getElem_cons_succ, List.getElem_cons_zero]))
      (refine ZStep.call (by (first | rfl | exact wanted_true rfl rfl rfl (by assumption))) (by rintro w hS; ((try clear hF); (first | have hF := And.intro hS.facts (hR.at hS.ext) | have hF := hS.facts); simp only [HFacts, cellFacts, RFacts, cellOnly, and_true, true_and, Nat.zero_add, Nat.reduceAdd] at hF); go_simp; exact ⟨rfl, rfl⟩) ?_; (intro w hS); (with_reducible refine Calls.mono (P2.out _ _ s2 HS2.out HZ2.out hS) ?_); clear hS; rintro e wk ⟨s3, rfl, HS3, HZ3, hS⟩; (try simp only [List.eraseIdx_cons_zero, List.eraseIdx_cons_succ, List.set_cons_zero, List.set_cons_succ] at hS); refine ⟨_, _, rfl, hS, (fun w h => h.sub (by simp)), ?_⟩; (clear hS); try simp only [Act.put, List.setIfInBounds_toArray, List.set_cons_zero, List.set_cons_succ])
      (refine BraidZ.next1 (i := 6) (by kernel_rfl) (by kernel_rfl) rfl ?_; (try simp only [List.getElem_toArray, List.getElem_cons_succ, List.getElem_cons_zero]))
      (refine ZStep.val (by (first | rfl | exact wanted_true rfl rfl rfl (by assumption))) (fun w h => h.sub (by first | simp | ((try simp only [List.eraseIdx_cons_zero, List.eraseIdx_cons_succ]); (repeat (first | exact List.nil_sublist _ | with_reducible apply List.Sublist.cons₂ | apply List.Sublist.cons))) | trace_state)) (by rintro w hS; ((try clear hF); (first | have hF := And.intro hS.facts (hR.at hS.ext) | have hF := hS.facts); simp only [HFacts, cellFacts, RFacts, cellOnly, and_true, true_and, Nat.zero_add, Nat.reduceAdd] at hF); go_simp; with_reducible rfl) ?_; try simp only [Act.put, List.setIfInBounds_toArray, List.set_cons_zero, List.set_cons_succ])
      (refine BraidZ.next1 (i := 7) (by kernel_rfl) (by kernel_rfl) rfl ?_; (try simp only [List.getElem_toArray, List.getElem_cons_succ, List.getElem_cons_zero]))
      (refine ZStep.alloc (cs := [.int .i64 u1, .string ⟨#[]⟩, .int .i64 u2, .bool false, .int .i64 0, .int .i64 0, .string ⟨#[]⟩]) (t := 47) (f := fun g => .slice (some ⟨g, 0, none⟩) 1 1) (by (first | rfl | exact wanted_true rfl rfl rfl (by assumption))) (fun w h => h.sub (by first | simp | ((try simp only [List.eraseIdx_cons_zero, List.eraseIdx_cons_succ]); (repeat (first | exact List.nil_sublist _ | with_reducible apply List.Sublist.cons₂ | apply List.Sublist.cons))) | trace_state)) (fun w hS => by ((try clear hF); (first | have hF := And.intro hS.facts (hR.at hS.ext) | have hF := hS.facts); simp only [HFacts, cellFacts, RFacts, cellOnly, and_true, true_and, Nat.zero_add, Nat.reduceAdd] at hF); go_simp) (fun gs => ?_); try simp only [Act.put, List.setIfInBounds_toArray, List.set_cons_zero, List.set_cons_succ])
      (refine BraidZ.next1 (i := 8) (by kernel_rfl) (by kernel_rfl) rfl ?_; (try simp only [List.getElem_toArray, List.getElem_cons_succ, List.getElem_cons_zero]))
      (refine ZStep.append Tryz.elem_cols (by (first | rfl | exact wanted_true rfl rfl rfl (by assumption))) (.tmp 21) (.tmp 27) rfl 2 rfl (by (try simp only [List.eraseIdx_cons_zero, List.eraseIdx_cons_succ]); rfl) rfl ⟨gs, 0, none⟩ rfl rfl (fun w hS jj u hu => World.news_of_block (hS.blkAt 0 rfl) jj u (by simpa using hu)) (by simp [Value.oneCell']) (by omega) (by omega) (fun w h => h.sub (by first | simp | ((try simp only [List.eraseIdx_cons_zero, List.eraseIdx_cons_succ]); (repeat (first | exact List.nil_sublist _ | with_reducible apply List.Sublist.cons₂ | apply List.Sublist.cons))) | trace_state)) (fun Ak capk => ?_); try simp only [Act.put, List.setIfInBounds_toArray, List.set_cons_zero, List.set_cons_succ])
      (refine BraidZ.next1 (i := 9) (by kernel_rfl) (by kernel_rfl) rfl ?_; (try simp only [List.getElem_toArray, List.getElem_cons_succ, List.getElem_cons_zero]))
      (show ZStep _ _ _ true _ _ _ _; refine ZStep.valz (by (first | rfl | exact wanted_true rfl rfl rfl (by assumption))) (by rintro w hS; ((try clear hF); (first | have hF := And.intro hS.facts (hR.at hS.ext) | have hF := hS.facts); simp only [HFacts, cellFacts, RFacts, cellOnly, and_true, true_and, Nat.zero_add, Nat.reduceAdd] at hF); go_simp; with_reducible rfl) ?_; try simp only [Act.put, List.setIfInBounds_toArray, List.set_cons_zero, List.set_cons_succ])
      (refine BraidZ.next1 (i := 10) (by kernel_rfl) (by kernel_rfl) rfl ?_; (try simp only [List.getElem_toArray, List.getElem_cons_succ, List.getElem_cons_zero]))
      (show ZStep _ _ _ true _ _ _ _; refine ZStep.turn (by (first | rfl | exact wanted_true rfl rfl rfl (by assumption))) (fun w hS => ⟨w.setCell ⟨g5, 0, none⟩ (.slice Ak (k + 1 : Nat) capk), .inl (by ((try clear hF); (first | have hF := And.intro hS.facts (hR.at hS.ext) | have hF := hS.facts); simp only [HFacts, cellFacts, RFacts, cellOnly, and_true, true_and, Nat.zero_add, Nat.reduceAdd] at hF); go_simp), hS.put (i := 3) rfl⟩) ?_; try simp only [Act.put, List.setIfInBounds_toArray, List.set_cons_zero, List.set_cons_succ])
      (refine BraidZ.last (by kernel_rfl) ?_; (try clear hF); intro wk hS; ((try clear hF); (first | have hF := And.intro hS.facts (hR.at hS.ext) | have hF := hS.facts); simp only [HFacts, cellFacts, RFacts, cellOnly, and_true, true_and, Nat.zero_add, Nat.reduceAdd] at hF))
      go_wp2_with fail
      go_roundw
      case rel =>
        refine ⟨k + 1, Ak, capk, cs ++ [colO u1 u2], s3, b3, by go_num, by omega, Lib.hid ?_, Lib.hid (by rw [List.length_append, HCL.out]; rfl), HZ3, ?_⟩
        · rw [hp.out, HT.out, HS3.out]
        · rw [cellsC_append]
          exact hS.sub (by simp [colO, cellsC])
      case measure => simp [intOf]; omega
    · obtain rfl : k = N1 := by omega
      have HC := Lib.hid (show pCols k (r0, b0) [] = (cs, (s1.data.toList, b1)) by rw [hp.out, Nat.sub_self]; rfl)
      obtain ⟨⟨u3, r3, b3⟩, h3⟩ : ∃ x, fNumber (s1.data.toList, b1) = x := ⟨_, rfl⟩
      obtain ⟨N2, hN2⟩ : ∃ x, x = min u3 61 := ⟨_, rfl⟩
      have hm2 : min (u3 : Int) 61 = (N2 : Int) := by omega
      have HN2 := Lib.hid hN2
      have hN61 : N2 ≤ 61 := by omega
      have H3 := Lib.hid h3
      have P3 := Lib.hid (fun (W : World) (L : List Item) (hS : Hp w.heap.size w W (.blk gr [.string s1, .bool b1] 77 :: L)) => pnum gr s1 b1 HZ1.out u3 r3 b3 h3 hS)
      clear hN2 hm1 h3 hp
      ((try clear hF); (first | have hF := And.intro hS.facts (hR.at hS.ext) | have hF := hS.facts); simp only [HFacts, cellFacts, RFacts, cellOnly, and_true, true_and, Nat.zero_add, Nat.reduceAdd] at hF)
      go_wp2_with (first | ((with_reducible first | refine nhLa ?_ | refine nhLs ?_ | refine nhLd ?_ | refine nhCa ?_ | refine nhCs ?_ | refine nhCd ?_ | refine nhPa ?_ | refine nhPs ?_ | refine nhPd ?_ | refine nhKa ?_ | refine nhKs ?_ | refine nhKd ?_); ((try clear hF); clear hS; intro wk hS; (try simp only [List.set_cons_zero, List.set_cons_succ, heap_size, heap_set_size] at hS); ((try clear hF); (first | have hF := And.intro hS.facts (hR.at hS.ext) | have hF := hS.facts); simp only [HFacts, cellFacts, RFacts, cellOnly, and_true, true_and, Nat.zero_add, Nat.reduceAdd] at hF))) | (go_at_call 31; (with_reducible refine Calls.mono (P3.out _ _ (hS.front 1 rfl)) ?_); clear hS P3; rintro e wk ⟨s2, rfl, HS2, HZ2, hS⟩; (try simp only [List.eraseIdx_cons_zero, List.eraseIdx_cons_succ, List.set_cons_zero, List.set_cons_succ] at hS); ((try clear hF); (first | have hF := And.intro hS.facts (hR.at hS.ext) | have hF := hS.facts); simp only [HFacts, cellFacts, RFacts, cellOnly, and_true, true_and, Nat.zero_add, Nat.reduceAdd] at hF)))
      replace hS := hS.nilRow 81 3
      go_loopw [34] (fun i wr => ∃ (q : Nat) (Ag : Option Addr) (cg : Nat) (xs : List Value) (gs : List GG) (K : List Item) (s1 : ByteArray) (b1 : Bool), i = .int .i64 q ∧ q ≤ N2 ∧ Hid (pGrps cs N2 (r3, b3) [] = pGrps cs (N2 - q) (s1.data.toList, b1) gs) ∧ Hid (gs.length = q) ∧ Hid (∀ g ∈ gs, (∀ b ∈ g.bytes, b.size ≤ 100000) ∧ g.stats.length ≤ 100000 ∧ g.bytes.length ≤ 100000) ∧ Hid (s1.size ≤ 100000) ∧ Hid (GBuilt K xs gs) ∧
        Hp w.heap.size w wr (.row 81 3 Ag q cg xs :: .blk gr [.string s1, .bool b1] 77 :: .blk g5 [.slice A k cap, .slice Ag q cg] 29 :: .row 47 7 A k cap (cellsC cs) :: .blk w.heap.size [.slice none 0 0, .slice none 0 0] 29 :: K)) (fun i _ => N2 - (intOf i).toNat)
      case atStart => exact ⟨0, none, 0, [], [], [], s2, b3, rfl, Nat.zero_le _, Lib.hid (by rw [HS2.out]; rfl), Lib.hid rfl, Lib.hid (fun _ h => by cases h), HZ2, Lib.hid (GBuilt.nil _), ((((hS.front 4 rfl).front 3 rfl).front 4 rfl).front 4 rfl).front 4 rfl⟩
      case round =>
        clear hS hF HS2 HZ2 hm2
        obtain ⟨q, Ag, cg, xs, gs, K, s2, b2, rfl, hq, hpg, HGL, HGZ, HZ2, HGB, hS⟩ := hrel
        by_cases hlq : q < N2
        · obtain ⟨⟨u4, r4, b4⟩, h4⟩ : ∃ x, fNumber (s2.data.toList, b2) = x := ⟨_, rfl⟩
          have H4 := Lib.hid h4
          have P4 := Lib.hid (fun (W : World) (L : List Item) (hS : Hp w.heap.size w W (.blk gr [.string s2, .bool b2] 77 :: L)) => pnum gr s2 b2 HZ2.out u4 r4 b4 h4 hS)
          clear h4
          ((try clear hF); (first | have hF := And.intro hS.facts (hR.at hS.ext) | have hF := hS.facts); simp only [HFacts, cellFacts, RFacts, cellOnly, and_true, true_and, Nat.zero_add, Nat.reduceAdd] at hF)
          go_upto_region 10 with (first | ((with_reducible first | refine nhLa ?_ | refine nhLs ?_ | refine nhLd ?_ | refine nhCa ?_ | refine nhCs ?_ | refine nhCd ?_ | refine nhPa ?_ | refine nhPs ?_ | refine nhPd ?_ | refine nhKa ?_ | refine nhKs ?_ | refine nhKd ?_); ((try clear hF); clear hS; intro wk hS; (try simp only [List.set_cons_zero, List.set_cons_succ, heap_size, heap_set_size] at hS); ((try clear hF); (first | have hF := And.intro hS.facts (hR.at hS.ext) | have hF := hS.facts); simp only [HFacts, cellFacts, RFacts, cellOnly, and_true, true_and, Nat.zero_add, Nat.reduceAdd] at hF))) | (go_at_call 31; (with_reducible refine Calls.mono (P4.out _ _ (hS.front 1 rfl)) ?_); clear hS P4; rintro e wk ⟨s3, rfl, HS3, HZ3, hS⟩; (try simp only [List.eraseIdx_cons_zero, List.eraseIdx_cons_succ, List.set_cons_zero, List.set_cons_succ] at hS); ((try clear hF); (first | have hF := And.intro hS.facts (hR.at hS.ext) | have hF := hS.facts); simp only [HFacts, cellFacts, RFacts, cellOnly, and_true, true_and, Nat.zero_add, Nat.reduceAdd] at hF)))
          obtain ⟨g6, hg6⟩ := hS.named
          rw [← hg6] at hS hF ⊢
          clear hg6
          replace hS := (hS.nilRow 9 1).nilRow 70 8
          ((try clear hF); (first | have hF := And.intro hS.facts (hR.at hS.ext) | have hF := hS.facts); simp only [HFacts, cellFacts, RFacts, cellOnly, and_true, true_and, Nat.zero_add, Nat.reduceAdd] at hF)
          go_wp2_with (first | ((with_reducible first | refine nhLa ?_ | refine nhLs ?_ | refine nhLd ?_ | refine nhCa ?_ | refine nhCs ?_ | refine nhCd ?_ | refine nhPa ?_ | refine nhPs ?_ | refine nhPd ?_ | refine nhKa ?_ | refine nhKs ?_ | refine nhKd ?_); ((try clear hF); clear hS; intro wk hS; (try simp only [List.set_cons_zero, List.set_cons_succ, heap_size, heap_set_size] at hS); ((try clear hF); (first | have hF := And.intro hS.facts (hR.at hS.ext) | have hF := hS.facts); simp only [HFacts, cellFacts, RFacts, cellOnly, and_true, true_and, Nat.zero_add, Nat.reduceAdd] at hF))) | fail)
          go_loopw [42] (fun i wr3 => ∃ (j : Nat) (As : Option Addr) (cas : Nat) (Ab : Option Addr) (cab : Nat) (ss : List ST) (bs : List ByteArray) (s3 : ByteArray) (b6 : Bool), i = .int .i64 j ∧ j ≤ k ∧ Hid (pBytes cs (r4, b4) [] [] = pBytes (cs.drop j) (s3.data.toList, b6) bs ss) ∧ Hid (ss.length = j) ∧ Hid (bs.length = j) ∧ Hid (∀ b ∈ bs, b.size ≤ 100000) ∧ Hid (s3.size ≤ 100000) ∧
            Hp w.heap.size w wr3 (.row 70 8 As j cas (cellsS ss) :: .row 9 1 Ab j cab (strsV bs) :: .blk g6 [.int .i64 u4, .slice As j cas, .slice Ab j cab] 81 :: .blk gr [.string s3, .bool b6] 77 :: .row 81 3 Ag q cg xs :: .blk g5 [.slice A k cap, .slice Ag q cg] 29 :: .row 47 7 A k cap (cellsC cs) :: .blk w.heap.size [.slice none 0 0, .slice none 0 0] 29 :: K)) (fun i _ => k - (intOf i).toNat)
          case atStart => exact ⟨0, none, 0, none, 0, [], [], s3, b4, rfl, Nat.zero_le _, Lib.hid (by rw [HS3.out]; rfl), Lib.hid rfl, Lib.hid rfl, Lib.hid (fun _ h => by cases h), HZ3, hS⟩
          case round =>
            clear hS hF HS3 HZ3
            obtain ⟨j, As, cas, Ab, cab, ss, bs, s3, b6, rfl, hj, hpb, HSL, HBL, HBZ, HZ3, hS⟩ := hrel
            by_cases hlj : j < k
            · obtain ⟨c, hc'⟩ : ∃ x, cs[j]? = some x := ⟨cs[j]'(by rw [HCL.out]; exact hlj), List.getElem?_eq_getElem _⟩
              obtain ⟨⟨tl, r5, b7⟩, h5⟩ : ∃ x, fText (s3.data.toList, b6) = x := ⟨_, rfl⟩
              have P5 := Lib.hid (fun (W : World) (L : List Item) (hS : Hp w.heap.size w W (.blk gr [.string s3, .bool b6] 77 :: L)) => ptext gr s3 b6 HZ3.out tl r5 b7 h5 hS)
              obtain ⟨dO, hdO⟩ : ∃ d, d = decO c.kind tl := ⟨_, rfl⟩
              obtain ⟨lv, hlv⟩ : ∃ d, d = dO.getD [] := ⟨_, rfl⟩
              obtain ⟨isn, hisn⟩ : ∃ d, d = dO.isNone := ⟨_, rfl⟩
              obtain ⟨t, ht⟩ : ∃ t, t = ofS lv := ⟨_, rfl⟩
              have HT0 := Lib.hid (show pBytes (cs.drop j) (s3.data.toList, b6) bs ss = pBytes (cs.drop (j + 1)) (r5, b7 || isn) (bs ++ [⟨tl.toArray⟩]) (ss ++ [t]) by
                rw [dropC_at hc', pBytes, h5, ht, hlv, hisn, hdO])
              have hlv60 : lv.length ≤ 60 := by
                rw [hlv]
                cases dO with
                | none => exact Nat.zero_le _
                | some m => exact decO_short hdO.symm
              have HOF := Lib.hid (fun (W : World) (A : Option Addr) (cap : Nat) (hr : RV W A lv) => show Calls Tryz.prog 29 #[.slice A lv.length cap] W fun e w' => e = .returned (stV t) ∧ Ext W w' from by rw [ht]; exact of_any lv A cap W hr (by omega))
              unfold stV at HOF
              obtain ⟨ln, hln⟩ : ∃ x, x = lv.length := ⟨_, rfl⟩
              rw [← hln] at HOF hlv60
              obtain ⟨gA, oA, rfl, c0, c1, c2, c3, c4, c5, c6⟩ := hS.rc 6 rfl j c hc'
              have HLN := Lib.hid hln
              have HDO := Lib.hid hdO
              have HLV := Lib.hid hlv
              have HISN := Lib.hid hisn
              clear h5 ht hc' hln hdO hlv hisn
              have hF := And.intro hS.facts (And.intro c0 (And.intro c1 (And.intro c2 (And.intro c3 (And.intro c4 (And.intro c5 c6))))))
              simp only [HFacts, cellFacts, RFacts, cellOnly, and_true, true_and, Nat.zero_add, Nat.reduceAdd] at hF
              clear c0 c1 c2 c3 c4 c5 c6
              go_upto_region 14 with (first | ((with_reducible first | refine nhLa ?_ | refine nhLs ?_ | refine nhLd ?_ | refine nhCa ?_ | refine nhCs ?_ | refine nhCd ?_ | refine nhPa ?_ | refine nhPs ?_ | refine nhPd ?_ | refine nhKa ?_ | refine nhKs ?_ | refine nhKd ?_); ((try clear hF); clear hS; intro wk hS; (try simp only [List.set_cons_zero, List.set_cons_succ, heap_size, heap_set_size] at hS); ((try clear hF); (first | have hF := And.intro hS.facts (hR.at hS.ext) | have hF := hS.facts); simp only [HFacts, cellFacts, RFacts, cellOnly, and_true, true_and, Nat.zero_add, Nat.reduceAdd] at hF))) | (go_at_call 32; (with_reducible refine Calls.mono (P5.out _ _ (hS.front 4 rfl)) ?_); clear hS P5; rintro e wk ⟨s4, tb, rfl, HTB, HTZ, HS4, HZ4, hS⟩; (try simp only [List.eraseIdx_cons_zero, List.eraseIdx_cons_succ, List.set_cons_zero, List.set_cons_succ] at hS); ((try clear hF); (first | have hF := And.intro hS.facts (hR.at hS.ext) | have hF := hS.facts); simp only [HFacts, cellFacts, RFacts, cellOnly, and_true, true_and, Nat.zero_add, Nat.reduceAdd] at hF)))
              obtain ⟨g8, hg8⟩ := (hS.front 1 rfl).named
              rw [← hg8] at hS hF ⊢
              clear hg8
              have HT := Lib.hid (show pBytes (cs.drop j) (s3.data.toList, b6) bs ss = pBytes (cs.drop (j + 1)) (s4.data.toList, b7 || isn) (bs ++ [tb]) (ss ++ [t]) by
                rw [HT0.out, HS4.out, show (⟨tl.toArray⟩ : ByteArray) = tb by rw [← HTB.out]])
              have HD1 := Lib.hid (show dO = decO c.kind tb.data.toList by rw [HDO.out, HTB.out])
              clear HT0 HDO HTB HS4
              go_cut [10, 11] from 48 to 54 (fun sl se wx => ∃ (A2 : Option Addr) (c2 : Nat), sl = .slice A2 ln c2 ∧ se = (if isn then .iface 86 (.int .i64 3) else .nilIface) ∧
                Hp w.heap.size w wx (.row 45 3 A2 ln c2 (cellsV lv) :: .blk gr [.string s4, .bool b7] 77 :: .blk g8 [.int .i64 c.id, .string c.name, .int .i64 c.kind, .bool c.must, .int .i64 c.d.kind, .int .i64 c.d.num, .string c.d.text] 47 :: .row 70 8 As j cas (cellsS ss) :: .row 9 1 Ab j cab (strsV bs) :: .blk g6 [.int .i64 u4, .slice As j cas, .slice Ab j cab] 81 :: .row 81 3 Ag q cg xs :: .blk g5 [.slice (some ⟨gA, oA, none⟩) k cap, .slice Ag q cg] 29 :: .row 47 7 (some ⟨gA, oA, none⟩) k cap (cellsC cs) :: .blk w.heap.size [.slice none 0 0, .slice none 0 0] 29 :: K))
              case first =>
                cases dO with
                | none =>
                  obtain rfl : lv = [] := HLV.out
                  obtain rfl : ln = 0 := HLN.out
                  obtain rfl : isn = true := HISN.out
                  have HDN := Lib.hid (fun W => decode_none HD1.out.symm HTZ.out W)
                  ((try clear hF); (first | have hF := And.intro hS.facts (hR.at hS.ext) | have hF := hS.facts); simp only [HFacts, cellFacts, RFacts, cellOnly, and_true, true_and, Nat.zero_add, Nat.reduceAdd] at hF)
                  go_wp2_with (first | ((with_reducible first | refine nhLa ?_ | refine nhLs ?_ | refine nhLd ?_ | refine nhCa ?_ | refine nhCs ?_ | refine nhCd ?_ | refine nhPa ?_ | refine nhPs ?_ | refine nhPd ?_ | refine nhKa ?_ | refine nhKs ?_ | refine nhKd ?_); ((try clear hF); clear hS; intro wk hS; (try simp only [List.set_cons_zero, List.set_cons_succ, heap_size, heap_set_size] at hS); ((try clear hF); (first | have hF := And.intro hS.facts (hR.at hS.ext) | have hF := hS.facts); simp only [HFacts, cellFacts, RFacts, cellOnly, and_true, true_and, Nat.zero_add, Nat.reduceAdd] at hF))) | (go_at_call 33; (with_reducible refine (HDN.out _).mono ?_); rintro e wk ⟨rfl, hX⟩; replace hS := hS.step hX; clear hX; ((try clear hF); (first | have hF := And.intro hS.facts (hR.at hS.ext) | have hF := hS.facts); simp only [HFacts, cellFacts, RFacts, cellOnly, and_true, true_and, Nat.zero_add, Nat.reduceAdd] at hF)))
                  go_meet
                  case rel => exact ⟨none, 0, rfl, rfl, hS.nilRow 45 3⟩
                | some m =>
                  obtain rfl : lv = m := HLV.out
                  obtain rfl : isn = false := HISN.out
                  have HDS := Lib.hid (fun (W : World) (L : List Item) (hW : Hp w.heap.size w W L) => show Calls Tryz.prog 33 #[.int .i64 c.kind, .string tb] W fun e w' => ∃ A cap, e = .returned (.tuple #[.slice A ln cap, .nilIface]) ∧ Hp w.heap.size w w' (.row 45 3 A ln cap (cellsV lv) :: L) from by
                    have := decode_any c.kind tb HTZ.out W
                    rw [← HD1.out] at this
                    refine this.mono fun e w' ⟨A, cap, he, hp⟩ => ⟨A, cap, by rw [HLN.out]; exact he, ?_⟩
                    have := hW.join hp
                    unfold vRow at this
                    rw [← HLN.out] at this
                    exact this)
                  ((try clear hF); (first | have hF := And.intro hS.facts (hR.at hS.ext) | have hF := hS.facts); simp only [HFacts, cellFacts, RFacts, cellOnly, and_true, true_and, Nat.zero_add, Nat.reduceAdd] at hF)
                  go_wp2_with (first | ((with_reducible first | refine nhLa ?_ | refine nhLs ?_ | refine nhLd ?_ | refine nhCa ?_ | refine nhCs ?_ | refine nhCd ?_ | refine nhPa ?_ | refine nhPs ?_ | refine nhPd ?_ | refine nhKa ?_ | refine nhKs ?_ | refine nhKd ?_); ((try clear hF); clear hS; intro wk hS; (try simp only [List.set_cons_zero, List.set_cons_succ, heap_size, heap_set_size] at hS); ((try clear hF); (first | have hF := And.intro hS.facts (hR.at hS.ext) | have hF := hS.facts); simp only [HFacts, cellFacts, RFacts, cellOnly, and_true, true_and, Nat.zero_add, Nat.reduceAdd] at hF))) | (go_at_call 33; (with_reducible refine Calls.mono (HDS.out _ _ hS) ?_); clear hS HDS; rintro e wk ⟨A2, c2, rfl, hS⟩; ((try clear hF); (first | have hF := And.intro hS.facts (hR.at hS.ext) | have hF := hS.facts); simp only [HFacts, cellFacts, RFacts, cellOnly, and_true, true_and, Nat.zero_add, Nat.reduceAdd] at hF)))
                  go_meet
                  case rel => exact ⟨A2, c2, rfl, rfl, hS⟩
              case rest =>
                clear hS hF
                obtain ⟨A2, c2, rfl, rfl, hS⟩ := hcut
                ((try clear hF); (first | have hF := And.intro hS.facts (hR.at hS.ext) | have hF := hS.facts); simp only [HFacts, cellFacts, RFacts, cellOnly, and_true, true_and, Nat.zero_add, Nat.reduceAdd] at hF)
                go_upto_region 15 with (first | ((with_reducible first | refine nhLa ?_ | refine nhLs ?_ | refine nhLd ?_ | refine nhCa ?_ | refine nhCs ?_ | refine nhCd ?_ | refine nhPa ?_ | refine nhPs ?_ | refine nhPd ?_ | refine nhKa ?_ | refine nhKs ?_ | refine nhKd ?_); ((try clear hF); clear hS; intro wk hS; (try simp only [List.set_cons_zero, List.set_cons_succ, heap_size, heap_set_size] at hS); ((try clear hF); (first | have hF := And.intro hS.facts (hR.at hS.ext) | have hF := hS.facts); simp only [HFacts, cellFacts, RFacts, cellOnly, and_true, true_and, Nat.zero_add, Nat.reduceAdd] at hF))) | fail)
                go_cut [63] from 55 to 65 (fun _ wx => Hp w.heap.size w wx (.row 45 3 A2 ln c2 (cellsV lv) :: .blk gr [.string s4, .bool (b7 || isn)] 77 :: .blk g8 [.int .i64 c.id, .string c.name, .int .i64 c.kind, .bool c.must, .int .i64 c.d.kind, .int .i64 c.d.num, .string c.d.text] 47 :: .row 70 8 As j cas (cellsS ss) :: .row 9 1 Ab j cab (strsV bs) :: .blk g6 [.int .i64 u4, .slice As j cas, .slice Ab j cab] 81 :: .row 81 3 Ag q cg xs :: .blk g5 [.slice (some ⟨gA, oA, none⟩) k cap, .slice Ag q cg] 29 :: .row 47 7 (some ⟨gA, oA, none⟩) k cap (cellsC cs) :: .blk w.heap.size [.slice none 0 0, .slice none 0 0] 29 :: K))
                case first =>
                  cases b7 <;> cases isn
                  all_goals
                    ((try clear hF); (first | have hF := And.intro hS.facts (hR.at hS.ext) | have hF := hS.facts); simp only [HFacts, cellFacts, RFacts, cellOnly, and_true, true_and, Nat.zero_add, Nat.reduceAdd] at hF)
                    go_wp2_with (first | ((with_reducible first | refine nhLa ?_ | refine nhLs ?_ | refine nhLd ?_ | refine nhCa ?_ | refine nhCs ?_ | refine nhCd ?_ | refine nhPa ?_ | refine nhPs ?_ | refine nhPd ?_ | refine nhKa ?_ | refine nhKs ?_ | refine nhKd ?_); ((try clear hF); clear hS; intro wk hS; (try simp only [List.set_cons_zero, List.set_cons_succ, heap_size, heap_set_size] at hS); ((try clear hF); (first | have hF := And.intro hS.facts (hR.at hS.ext) | have hF := hS.facts); simp only [HFacts, cellFacts, RFacts, cellOnly, and_true, true_and, Nat.zero_add, Nat.reduceAdd] at hF))) | fail)
                    go_meet
                    case rel => exact hS.put (i := 1) rfl
                case rest =>
                  clear hS hF
                  have hS := hcut
                  clear hcut
                  ((try clear hF); (first | have hF := And.intro hS.facts (hR.at hS.ext) | have hF := hS.facts); simp only [HFacts, cellFacts, RFacts, cellOnly, and_true, true_and, Nat.zero_add, Nat.reduceAdd] at hF)
                  go_upto_region 16 with (first | ((with_reducible first | refine nhLa ?_ | refine nhLs ?_ | refine nhLd ?_ | refine nhCa ?_ | refine nhCs ?_ | refine nhCd ?_ | refine nhPa ?_ | refine nhPs ?_ | refine nhPd ?_ | refine nhKa ?_ | refine nhKs ?_ | refine nhKd ?_); ((try clear hF); clear hS; intro wk hS; (try simp only [List.set_cons_zero, List.set_cons_succ, heap_size, heap_set_size] at hS); ((try clear hF); (first | have hF := And.intro hS.facts (hR.at hS.ext) | have hF := hS.facts); simp only [HFacts, cellFacts, RFacts, cellOnly, and_true, true_and, Nat.zero_add, Nat.reduceAdd] at hF))) | fail)
                  ((with_reducible refine wp_region_braidz_hp [.q, .q, .q, .t, .t, .q, .q, .q, .t, .t, .t, .t, .t, .t, .t] 12 [.blk g6 [.int .i64 u4, .slice As j cas, .slice Ab j cab] 81] (by kernel_rfl) rfl (by kernel_rfl) hS (fun w h => h.sub (by simp)) ?_); clear hS; (repeat ((with_reducible refine Walk.here ?_); (first | ((with_reducible apply Walk.skipQ); (first | rfl | exact wanted_false rfl rfl rfl (by assumption)); (try simp only [Mark.isQ, if_true, Bool.false_eq_true, if_false, Act.put, List.setIfInBounds_toArray, List.set_cons_zero, List.set_cons_succ])) | ((with_reducible apply Walk.val); (first | rfl | exact wanted_true rfl rfl rfl (by assumption)); (rintro w hS; ((try clear hF); (first | have hF := And.intro hS.facts (hR.at hS.ext) | have hF := hS.facts); simp only [HFacts, cellFacts, RFacts, cellOnly, and_true, true_and, Nat.zero_add, Nat.reduceAdd] at hF); go_simp; with_reducible rfl); (try simp only [Mark.isQ, if_true, Bool.false_eq_true, if_false, Act.put, List.setIfInBounds_toArray, List.set_cons_zero, List.set_cons_succ])) | ((with_reducible apply Walk.tail); (try simp only [Mark.isQ, if_true, Bool.false_eq_true, if_false, Act.put, List.setIfInBounds_toArray, List.set_cons_zero, List.set_cons_succ])) | ((with_reducible apply Walk.guardT); rfl; rfl; rfl; (all_goals intro hg)) | ((with_reducible apply Walk.guardF); rfl; rfl; rfl; (all_goals intro hg))))); refine Walk.done ?_; show BraidZ _ _ _ _ 12 9 [3, 4, 8, 9, 10, 11, 12, 13, 14] _ _)
                  (refine BraidZ.next1 (i := 3) (by kernel_rfl) (by kernel_rfl) rfl ?_; (try simp only [List.getElem_toArray, List.getElem_cons_succ, List.getElem_cons_zero]))
                  (refine ZStep.alloc (cs := [.string tb]) (t := 9) (f := fun g => .slice (some ⟨g, 0, none⟩) 1 1) (by (first | rfl | exact wanted_true rfl rfl rfl (by assumption))) (fun w h => h.sub (by first | simp | ((try simp only [List.eraseIdx_cons_zero, List.eraseIdx_cons_succ]); (repeat (first | exact List.nil_sublist _ | with_reducible apply List.Sublist.cons₂ | apply List.Sublist.cons))) | trace_state)) (fun w hS => by ((try clear hF); (first | have hF := And.intro hS.facts (hR.at hS.ext) | have hF := hS.facts); simp only [HFacts, cellFacts, RFacts, cellOnly, and_true, true_and, Nat.zero_add, Nat.reduceAdd] at hF); go_simp) (fun ge => ?_); try simp only [Act.put, List.setIfInBounds_toArray, List.set_cons_zero, List.set_cons_succ])
                  (refine BraidZ.next1 (i := 4) (by kernel_rfl) (by kernel_rfl) rfl ?_; (try simp only [List.getElem_toArray, List.getElem_cons_succ, List.getElem_cons_zero]))
                  (refine ZStep.append Tryz.elem_texts (by (first | rfl | exact wanted_true rfl rfl rfl (by assumption))) (.tmp 67) (.tmp 69) rfl 5 rfl (by (try simp only [List.eraseIdx_cons_zero, List.eraseIdx_cons_succ]); rfl) rfl ⟨ge, 0, none⟩ rfl rfl (fun w hS jj u hu => World.news_of_block (hS.blkAt 0 rfl) jj u (by simpa using hu)) (by simp [Value.oneCell']) (by omega) (by omega) (fun w h => h.sub (by first | simp | ((try simp only [List.eraseIdx_cons_zero, List.eraseIdx_cons_succ]); (repeat (first | exact List.nil_sublist _ | with_reducible apply List.Sublist.cons₂ | apply List.Sublist.cons))) | trace_state)) (fun Ab2 cab2 => ?_); try simp only [Act.put, List.setIfInBounds_toArray, List.set_cons_zero, List.set_cons_succ])
                  (refine BraidZ.next2 (i := 8) (j := 11) (by kernel_rfl) (by kernel_rfl) rfl rfl ?_ ?_ <;> (try simp only [List.getElem_toArray, List.getElem_cons_succ, List.getElem_cons_zero]))
                  · (refine ZStep.call (by (first | rfl | exact wanted_true rfl rfl rfl (by assumption))) (by rintro w hS; ((try clear hF); (first | have hF := And.intro hS.facts (hR.at hS.ext) | have hF := hS.facts); simp only [HFacts, cellFacts, RFacts, cellOnly, and_true, true_and, Nat.zero_add, Nat.reduceAdd] at hF); go_simp; exact ⟨rfl, rfl⟩) ?_; (intro w hS); (with_reducible refine Calls.mono (HOF.out _ _ _ (hS.rv 2 rfl)) ?_); rintro e wk ⟨rfl, hX⟩; replace hS := hS.step hX; clear hX; refine ⟨_, _, rfl, hS, (fun w h => h.sub (by simp)), ?_⟩; (clear hS); try simp only [Act.put, List.setIfInBounds_toArray, List.set_cons_zero, List.set_cons_succ])
                    (refine BraidZ.next2 (i := 9) (j := 11) (by kernel_rfl) (by kernel_rfl) rfl rfl ?_ ?_ <;> (try simp only [List.getElem_toArray, List.getElem_cons_succ, List.getElem_cons_zero]))
                    · (refine ZStep.alloc (cs := [.int .i64 t.count, .int .i64 t.nulls, .int .i64 t.mn.kind, .int .i64 t.mn.num, .string t.mn.text, .int .i64 t.mx.kind, .int .i64 t.mx.num, .string t.mx.text]) (t := 70) (f := fun g => .slice (some ⟨g, 0, none⟩) 1 1) (by (first | rfl | exact wanted_true rfl rfl rfl (by assumption))) (fun w h => h.sub (by first | simp | ((try simp only [List.eraseIdx_cons_zero, List.eraseIdx_cons_succ]); (repeat (first | exact List.nil_sublist _ | with_reducible apply List.Sublist.cons₂ | apply List.Sublist.cons))) | trace_state)) (fun w hS => by ((try clear hF); (first | have hF := And.intro hS.facts (hR.at hS.ext) | have hF := hS.facts); simp only [HFacts, cellFacts, RFacts, cellOnly, and_true, true_and, Nat.zero_add, Nat.reduceAdd] at hF); go_simp) (fun gf => ?_); try simp only [Act.put, List.setIfInBounds_toArray, List.set_cons_zero, List.set_cons_succ])
                      (refine BraidZ.next2 (i := 10) (j := 11) (by kernel_rfl) (by kernel_rfl) rfl rfl ?_ ?_ <;> (try simp only [List.getElem_toArray, List.getElem_cons_succ, List.getElem_cons_zero]))
                      · (refine ZStep.append Tryz.elem_stats (by (first | rfl | exact wanted_true rfl rfl rfl (by assumption))) (.tmp 72) (.tmp 75) rfl 6 rfl (by (try simp only [List.eraseIdx_cons_zero, List.eraseIdx_cons_succ]); rfl) rfl ⟨gf, 0, none⟩ rfl rfl (fun w hS jj u hu => World.news_of_block (hS.blkAt 0 rfl) jj u (by simpa using hu)) (by simp [Value.oneCell']) (by omega) (by omega) (fun w h => h.sub (by first | simp | ((try simp only [List.eraseIdx_cons_zero, List.eraseIdx_cons_succ]); (repeat (first | exact List.nil_sublist _ | with_reducible apply List.Sublist.cons₂ | apply List.Sublist.cons))) | trace_state)) (fun As2 cas2 => ?_); try simp only [Act.put, List.setIfInBounds_toArray, List.set_cons_zero, List.set_cons_succ])
                        (refine BraidZ.next1 (i := 11) (by kernel_rfl) (by kernel_rfl) rfl ?_; (try simp only [List.getElem_toArray, List.getElem_cons_succ, List.getElem_cons_zero]))
                        (refine ZStep.val (by (first | rfl | exact wanted_true rfl rfl rfl (by assumption))) (fun w h => h.sub (by first | simp | ((try simp only [List.eraseIdx_cons_zero, List.eraseIdx_cons_succ]); (repeat (first | exact List.nil_sublist _ | with_reducible apply List.Sublist.cons₂ | apply List.Sublist.cons))) | trace_state)) (by rintro w hS; ((try clear hF); (first | have hF := And.intro hS.facts (hR.at hS.ext) | have hF := hS.facts); simp only [HFacts, cellFacts, RFacts, cellOnly, and_true, true_and, Nat.zero_add, Nat.reduceAdd] at hF); go_simp; with_reducible rfl) ?_; try simp only [Act.put, List.setIfInBounds_toArray, List.set_cons_zero, List.set_cons_succ])
                        (refine BraidZ.next1 (i := 12) (by kernel_rfl) (by kernel_rfl) rfl ?_; (try simp only [List.getElem_toArray, List.getElem_cons_succ, List.getElem_cons_zero]))
                        (show ZStep _ _ _ true _ _ _ _; refine ZStep.turn (by (first | rfl | exact wanted_true rfl rfl rfl (by assumption))) (fun w hS => ⟨w.setCell ⟨g6, 2, none⟩ (.slice Ab2 (j + 1 : Nat) cab2), .inl (by ((try clear hF); (first | have hF := And.intro hS.facts (hR.at hS.ext) | have hF := hS.facts); simp only [HFacts, cellFacts, RFacts, cellOnly, and_true, true_and, Nat.zero_add, Nat.reduceAdd] at hF); go_simp), hS.put (i := 7) rfl⟩) ?_; try simp only [Act.put, List.setIfInBounds_toArray, List.set_cons_zero, List.set_cons_succ])
                        (refine BraidZ.next1 (i := 13) (by kernel_rfl) (by kernel_rfl) rfl ?_; (try simp only [List.getElem_toArray, List.getElem_cons_succ, List.getElem_cons_zero]))
                        (show ZStep _ _ _ true _ _ _ _; refine ZStep.valz (by (first | rfl | exact wanted_true rfl rfl rfl (by assumption))) (by rintro w hS; ((try clear hF); (first | have hF := And.intro hS.facts (hR.at hS.ext) | have hF := hS.facts); simp only [HFacts, cellFacts, RFacts, cellOnly, and_true, true_and, Nat.zero_add, Nat.reduceAdd] at hF); go_simp; with_reducible rfl) ?_; try simp only [Act.put, List.setIfInBounds_toArray, List.set_cons_zero, List.set_cons_succ])
                        (refine BraidZ.next1 (i := 14) (by kernel_rfl) (by kernel_rfl) rfl ?_; (try simp only [List.getElem_toArray, List.getElem_cons_succ, List.getElem_cons_zero]))
                        (show ZStep _ _ _ true _ _ _ _; refine ZStep.turn (by (first | rfl | exact wanted_true rfl rfl rfl (by assumption))) (fun w hS => ⟨w.setCell ⟨g6, 1, none⟩ (.slice As2 (j + 1 : Nat) cas2), .inl (by ((try clear hF); (first | have hF := And.intro hS.facts (hR.at hS.ext) | have hF := hS.facts); simp only [HFacts, cellFacts, RFacts, cellOnly, and_true, true_and, Nat.zero_add, Nat.reduceAdd] at hF); go_simp), hS.put (i := 7) rfl⟩) ?_; try simp only [Act.put, List.setIfInBounds_toArray, List.set_cons_zero, List.set_cons_succ])
                        (refine BraidZ.last (by kernel_rfl) ?_; (try clear hF); intro wk hS; ((try clear hF); (first | have hF := And.intro hS.facts (hR.at hS.ext) | have hF := hS.facts); simp only [HFacts, cellFacts, RFacts, cellOnly, and_true, true_and, Nat.zero_add, Nat.reduceAdd] at hF))
                        go_wp2_with fail
                        go_roundw
                        case rel =>
                          refine ⟨j + 1, As2, cas2, Ab2, cab2, ss ++ [t], bs ++ [tb], s4, b7 || isn, by go_num, by omega, Lib.hid (by rw [hpb.out, HT.out]), Lib.hid (by rw [List.length_append, HSL.out]; rfl), Lib.hid (by rw [List.length_append, HBL.out]; rfl), Lib.hid (all_push HBZ.out HTZ.out), HZ4, ?_⟩
                          rw [cellsS_append, show strsV (bs ++ [tb]) = strsV bs ++ [.string tb] by simp [strsV]]
                          exact ((((((((((((hS.drop 1).drop 2).drop 2).drop 3).front 7 rfl).front 7 rfl).front 7 rfl).front 7 rfl).front 6 rfl).front 7 rfl).front 7 rfl).front 7 rfl)
                        case measure => simp [intOf]; omega
                      · (refine ZStep.val (by (first | rfl | exact wanted_true rfl rfl rfl (by assumption))) (fun w h => h.sub (by first | simp | ((try simp only [List.eraseIdx_cons_zero, List.eraseIdx_cons_succ]); (repeat (first | exact List.nil_sublist _ | with_reducible apply List.Sublist.cons₂ | apply List.Sublist.cons))) | trace_state)) (by rintro w hS; ((try clear hF); (first | have hF := And.intro hS.facts (hR.at hS.ext) | have hF := hS.facts); simp only [HFacts, cellFacts, RFacts, cellOnly, and_true, true_and, Nat.zero_add, Nat.reduceAdd] at hF); go_simp; with_reducible rfl) ?_; try simp only [Act.put, List.setIfInBounds_toArray, List.set_cons_zero, List.set_cons_succ])
                        (refine BraidZ.next1 (i := 10) (by kernel_rfl) (by kernel_rfl) rfl ?_; (try simp only [List.getElem_toArray, List.getElem_cons_succ, List.getElem_cons_zero]))
                        (refine ZStep.append Tryz.elem_stats (by (first | rfl | exact wanted_true rfl rfl rfl (by assumption))) (.tmp 72) (.tmp 75) rfl 6 rfl (by (try simp only [List.eraseIdx_cons_zero, List.eraseIdx_cons_succ]); rfl) rfl ⟨gf, 0, none⟩ rfl rfl (fun w hS jj u hu => World.news_of_block (hS.blkAt 0 rfl) jj u (by simpa using hu)) (by simp [Value.oneCell']) (by omega) (by omega) (fun w h => h.sub (by first | simp | ((try simp only [List.eraseIdx_cons_zero, List.eraseIdx_cons_succ]); (repeat (first | exact List.nil_sublist _ | with_reducible apply List.Sublist.cons₂ | apply List.Sublist.cons))) | trace_state)) (fun As2 cas2 => ?_); try simp only [Act.put, List.setIfInBounds_toArray, List.set_cons_zero, List.set_cons_succ])
                        (refine BraidZ.next1 (i := 12) (by kernel_rfl) (by kernel_rfl) rfl ?_; (try simp only [List.getElem_toArray, List.getElem_cons_succ, List.getElem_cons_zero]))
                        (show ZStep _ _ _ true _ _ _ _; refine ZStep.turn (by (first | rfl | exact wanted_true rfl rfl rfl (by assumption))) (fun w hS => ⟨w.setCell ⟨g6, 2, none⟩ (.slice Ab2 (j + 1 : Nat) cab2), .inl (by ((try clear hF); (first | have hF := And.intro hS.facts (hR.at hS.ext) | have hF := hS.facts); simp only [HFacts, cellFacts, RFacts, cellOnly, and_true, true_and, Nat.zero_add, Nat.reduceAdd] at hF); go_simp), hS.put (i := 7) rfl⟩) ?_; try simp only [Act.put, List.setIfInBounds_toArray, List.set_cons_zero, List.set_cons_succ])
                        (refine BraidZ.next1 (i := 13) (by kernel_rfl) (by kernel_rfl) rfl ?_; (try simp only [List.getElem_toArray, List.getElem_cons_succ, List.getElem_cons_zero]))
                        (show ZStep _ _ _ true _ _ _ _; refine ZStep.valz (by (first | rfl | exact wanted_true rfl rfl rfl (by assumption))) (by rintro w hS; ((try clear hF); (first | have hF := And.intro hS.facts (hR.at hS.ext) | have hF := hS.facts); simp only [HFacts, cellFacts, RFacts, cellOnly, and_true, true_and, Nat.zero_add, Nat.reduceAdd] at hF); go_simp; with_reducible rfl) ?_; try simp only [Act.put, List.setIfInBounds_toArray, List.set_cons_zero, List.set_cons_succ])
                        (refine BraidZ.next1 (i := 14) (by kernel_rfl) (by kernel_rfl) rfl ?_; (try simp only [List.getElem_toArray, List.getElem_cons_succ, List.getElem_cons_zero]))
                        (show ZStep _ _ _ true _ _ _ _; refine ZStep.turn (by (first | rfl | exact wanted_true rfl rfl rfl (by assumption))) (fun w hS => ⟨w.setCell ⟨g6, 1, none⟩ (.slice As2 (j + 1 : Nat) cas2), .inl (by ((try clear hF); (first | have hF := And.intro hS.facts (hR.at hS.ext) | have hF := hS.facts); simp only [HFacts, cellFacts, RFacts, cellOnly, and_true, true_and, Nat.zero_add, Nat.reduceAdd] at hF); go_simp), hS.put (i := 7) rfl⟩) ?_; try simp only [Act.put, List.setIfInBounds_toArray, List.set_cons_zero, List.set_cons_succ])
                        (refine BraidZ.last (by kernel_rfl) ?_; (try clear hF); intro wk hS; ((try clear hF); (first | have hF := And.intro hS.facts (hR.at hS.ext) | have hF := hS.facts); simp only [HFacts, cellFacts, RFacts, cellOnly, and_true, true_and, Nat.zero_add, Nat.reduceAdd] at hF))
                        go_wp2_with fail
                        go_roundw
                        case rel =>
                          refine ⟨j + 1, As2, cas2, Ab2, cab2, ss ++ [t], bs ++ [tb], s4, b7 || isn, by go_num, by omega, Lib.hid (by rw [hpb.out, HT.out]), Lib.hid (by rw [List.length_append, HSL.out]; rfl), Lib.hid (by rw [List.length_append, HBL.out]; rfl), Lib.hid (all_push HBZ.out HTZ.out), HZ4, ?_⟩
                          rw [cellsS_append, show strsV (bs ++ [tb]) = strsV bs ++ [.string tb] by simp [strsV]]
                          exact ((((((((((((hS.drop 1).drop 2).drop 2).drop 3).front 7 rfl).front 7 rfl).front 7 rfl).front 7 rfl).front 6 rfl).front 7 rfl).front 7 rfl).front 7 rfl)
                        case measure => simp [intOf]; omega
                    · (refine ZStep.val (by (first | rfl | exact wanted_true rfl rfl rfl (by assumption))) (fun w h => h.sub (by first | simp | ((try simp only [List.eraseIdx_cons_zero, List.eraseIdx_cons_succ]); (repeat (first | exact List.nil_sublist _ | with_reducible apply List.Sublist.cons₂ | apply List.Sublist.cons))) | trace_state)) (by rintro w hS; ((try clear hF); (first | have hF := And.intro hS.facts (hR.at hS.ext) | have hF := hS.facts); simp only [HFacts, cellFacts, RFacts, cellOnly, and_true, true_and, Nat.zero_add, Nat.reduceAdd] at hF); go_simp; with_reducible rfl) ?_; try simp only [Act.put, List.setIfInBounds_toArray, List.set_cons_zero, List.set_cons_succ])
                      (refine BraidZ.next1 (i := 9) (by kernel_rfl) (by kernel_rfl) rfl ?_; (try simp only [List.getElem_toArray, List.getElem_cons_succ, List.getElem_cons_zero]))
                      (refine ZStep.alloc (cs := [.int .i64 t.count, .int .i64 t.nulls, .int .i64 t.mn.kind, .int .i64 t.mn.num, .string t.mn.text, .int .i64 t.mx.kind, .int .i64 t.mx.num, .string t.mx.text]) (t := 70) (f := fun g => .slice (some ⟨g, 0, none⟩) 1 1) (by (first | rfl | exact wanted_true rfl rfl rfl (by assumption))) (fun w h => h.sub (by first | simp | ((try simp only [List.eraseIdx_cons_zero, List.eraseIdx_cons_succ]); (repeat (first | exact List.nil_sublist _ | with_reducible apply List.Sublist.cons₂ | apply List.Sublist.cons))) | trace_state)) (fun w hS => by ((try clear hF); (first | have hF := And.intro hS.facts (hR.at hS.ext) | have hF := hS.facts); simp only [HFacts, cellFacts, RFacts, cellOnly, and_true, true_and, Nat.zero_add, Nat.reduceAdd] at hF); go_simp) (fun gf => ?_); try simp only [Act.put, List.setIfInBounds_toArray, List.set_cons_zero, List.set_cons_succ])
                      (refine BraidZ.next1 (i := 10) (by kernel_rfl) (by kernel_rfl) rfl ?_; (try simp only [List.getElem_toArray, List.getElem_cons_succ, List.getElem_cons_zero]))
                      (refine ZStep.append Tryz.elem_stats (by (first | rfl | exact wanted_true rfl rfl rfl (by assumption))) (.tmp 72) (.tmp 75) rfl 6 rfl (by (try simp only [List.eraseIdx_cons_zero, List.eraseIdx_cons_succ]); rfl) rfl ⟨gf, 0, none⟩ rfl rfl (fun w hS jj u hu => World.news_of_block (hS.blkAt 0 rfl) jj u (by simpa using hu)) (by simp [Value.oneCell']) (by omega) (by omega) (fun w h => h.sub (by first | simp | ((try simp only [List.eraseIdx_cons_zero, List.eraseIdx_cons_succ]); (repeat (first | exact List.nil_sublist _ | with_reducible apply List.Sublist.cons₂ | apply List.Sublist.cons))) | trace_state)) (fun As2 cas2 => ?_); try simp only [Act.put, List.setIfInBounds_toArray, List.set_cons_zero, List.set_cons_succ])
                      (refine BraidZ.next1 (i := 12) (by kernel_rfl) (by kernel_rfl) rfl ?_; (try simp only [List.getElem_toArray, List.getElem_cons_succ, List.getElem_cons_zero]))
                      (show ZStep _ _ _ true _ _ _ _; refine ZStep.turn (by (first | rfl | exact wanted_true rfl rfl rfl (by assumption))) (fun w hS => ⟨w.setCell ⟨g6, 2, none⟩ (.slice Ab2 (j + 1 : Nat) cab2), .inl (by ((try clear hF); (first | have hF := And.intro hS.facts (hR.at hS.ext) | have hF := hS.facts); simp only [HFacts, cellFacts, RFacts, cellOnly, and_true, true_and, Nat.zero_add, Nat.reduceAdd] at hF); go_simp), hS.put (i := 7) rfl⟩) ?_; try simp only [Act.put, List.setIfInBounds_toArray, List.set_cons_zero, List.set_cons_succ])
                      (refine BraidZ.next1 (i := 13) (by kernel_rfl) (by kernel_rfl) rfl ?_; (try simp only [List.getElem_toArray, List.getElem_cons_succ, List.getElem_cons_zero]))
                      (show ZStep _ _ _ true _ _ _ _; refine ZStep.valz (by (first | rfl | exact wanted_true rfl rfl rfl (by assumption))) (by rintro w hS; ((try clear hF); (first | have hF := And.intro hS.facts (hR.at hS.ext) | have hF := hS.facts); simp only [HFacts, cellFacts, RFacts, cellOnly, and_true, true_and, Nat.zero_add, Nat.reduceAdd] at hF); go_simp; with_reducible rfl) ?_; try simp only [Act.put, List.setIfInBounds_toArray, List.set_cons_zero, List.set_cons_succ])
                      (refine BraidZ.next1 (i := 14) (by kernel_rfl) (by kernel_rfl) rfl ?_; (try simp only [List.getElem_toArray, List.getElem_cons_succ, List.getElem_cons_zero]))
                      (show ZStep _ _ _ true _ _ _ _; refine ZStep.turn (by (first | rfl | exact wanted_true rfl rfl rfl (by assumption))) (fun w hS => ⟨w.setCell ⟨g6, 1, none⟩ (.slice As2 (j + 1 : Nat) cas2), .inl (by ((try clear hF); (first | have hF := And.intro hS.facts (hR.at hS.ext) | have hF := hS.facts); simp only [HFacts, cellFacts, RFacts, cellOnly, and_true, true_and, Nat.zero_add, Nat.reduceAdd] at hF); go_simp), hS.put (i := 7) rfl⟩) ?_; try simp only [Act.put, List.setIfInBounds_toArray, List.set_cons_zero, List.set_cons_succ])
                      (refine BraidZ.last (by kernel_rfl) ?_; (try clear hF); intro wk hS; ((try clear hF); (first | have hF := And.intro hS.facts (hR.at hS.ext) | have hF := hS.facts); simp only [HFacts, cellFacts, RFacts, cellOnly, and_true, true_and, Nat.zero_add, Nat.reduceAdd] at hF))
                      go_wp2_with fail
                      go_roundw
                      case rel =>
                        refine ⟨j + 1, As2, cas2, Ab2, cab2, ss ++ [t], bs ++ [tb], s4, b7 || isn, by go_num, by omega, Lib.hid (by rw [hpb.out, HT.out]), Lib.hid (by rw [List.length_append, HSL.out]; rfl), Lib.hid (by rw [List.length_append, HBL.out]; rfl), Lib.hid (all_push HBZ.out HTZ.out), HZ4, ?_⟩
                        rw [cellsS_append, show strsV (bs ++ [tb]) = strsV bs ++ [.string tb] by simp [strsV]]
                        exact ((((((((((((hS.drop 1).drop 2).drop 2).drop 3).front 7 rfl).front 7 rfl).front 7 rfl).front 7 rfl).front 6 rfl).front 7 rfl).front 7 rfl).front 7 rfl)
                      case measure => simp [intOf]; omega
                  · (refine ZStep.val (by (first | rfl | exact wanted_true rfl rfl rfl (by assumption))) (fun w h => h.sub (by first | simp | ((try simp only [List.eraseIdx_cons_zero, List.eraseIdx_cons_succ]); (repeat (first | exact List.nil_sublist _ | with_reducible apply List.Sublist.cons₂ | apply List.Sublist.cons))) | trace_state)) (by rintro w hS; ((try clear hF); (first | have hF := And.intro hS.facts (hR.at hS.ext) | have hF := hS.facts); simp only [HFacts, cellFacts, RFacts, cellOnly, and_true, true_and, Nat.zero_add, Nat.reduceAdd] at hF); go_simp; with_reducible rfl) ?_; try simp only [Act.put, List.setIfInBounds_toArray, List.set_cons_zero, List.set_cons_succ])
                    (refine BraidZ.next1 (i := 8) (by kernel_rfl) (by kernel_rfl) rfl ?_; (try simp only [List.getElem_toArray, List.getElem_cons_succ, List.getElem_cons_zero]))
                    (refine ZStep.call (by (first | rfl | exact wanted_true rfl rfl rfl (by assumption))) (by rintro w hS; ((try clear hF); (first | have hF := And.intro hS.facts (hR.at hS.ext) | have hF := hS.facts); simp only [HFacts, cellFacts, RFacts, cellOnly, and_true, true_and, Nat.zero_add, Nat.reduceAdd] at hF); go_simp; exact ⟨rfl, rfl⟩) ?_; (intro w hS); (with_reducible refine Calls.mono (HOF.out _ _ _ (hS.rv 2 rfl)) ?_); rintro e wk ⟨rfl, hX⟩; replace hS := hS.step hX; clear hX; refine ⟨_, _, rfl, hS, (fun w h => h.sub (by simp)), ?_⟩; (clear hS); try simp only [Act.put, List.setIfInBounds_toArray, List.set_cons_zero, List.set_cons_succ])
                    (refine BraidZ.next1 (i := 9) (by kernel_rfl) (by kernel_rfl) rfl ?_; (try simp only [List.getElem_toArray, List.getElem_cons_succ, List.getElem_cons_zero]))
                    (refine ZStep.alloc (cs := [.int .i64 t.count, .int .i64 t.nulls, .int .i64 t.mn.kind, .int .i64 t.mn.num, .string t.mn.text, .int .i64 t.mx.kind, .int .i64 t.mx.num, .string t.mx.text]) (t := 70) (f := fun g => .slice (some ⟨g, 0, none⟩) 1 1) (by (first | rfl | exact wanted_true rfl rfl rfl (by assumption))) (fun w h => h.sub (by first | simp | ((try simp only [List.eraseIdx_cons_zero, List.eraseIdx_cons_succ]); (repeat (first | exact List.nil_sublist _ | with_reducible apply List.Sublist.cons₂ | apply List.Sublist.cons))) | trace_state)) (fun w hS => by ((try clear hF); (first | have hF := And.intro hS.facts (hR.at hS.ext) | have hF := hS.facts); simp only [HFacts, cellFacts, RFacts, cellOnly, and_true, true_and, Nat.zero_add, Nat.reduceAdd] at hF); go_simp) (fun gf => ?_); try simp only [Act.put, List.setIfInBounds_toArray, List.set_cons_zero, List.set_cons_succ])
                    (refine BraidZ.next1 (i := 10) (by kernel_rfl) (by kernel_rfl) rfl ?_; (try simp only [List.getElem_toArray, List.getElem_cons_succ, List.getElem_cons_zero]))
                    (refine ZStep.append Tryz.elem_stats (by (first | rfl | exact wanted_true rfl rfl rfl (by assumption))) (.tmp 72) (.tmp 75) rfl 6 rfl (by (try simp only [List.eraseIdx_cons_zero, List.eraseIdx_cons_succ]); rfl) rfl ⟨gf, 0, none⟩ rfl rfl (fun w hS jj u hu => World.news_of_block (hS.blkAt 0 rfl) jj u (by simpa using hu)) (by simp [Value.oneCell']) (by omega) (by omega) (fun w h => h.sub (by first | simp | ((try simp only [List.eraseIdx_cons_zero, List.eraseIdx_cons_succ]); (repeat (first | exact List.nil_sublist _ | with_reducible apply List.Sublist.cons₂ | apply List.Sublist.cons))) | trace_state)) (fun As2 cas2 => ?_); try simp only [Act.put, List.setIfInBounds_toArray, List.set_cons_zero, List.set_cons_succ])
                    (refine BraidZ.next1 (i := 12) (by kernel_rfl) (by kernel_rfl) rfl ?_; (try simp only [List.getElem_toArray, List.getElem_cons_succ, List.getElem_cons_zero]))
                    (show ZStep _ _ _ true _ _ _ _; refine ZStep.turn (by (first | rfl | exact wanted_true rfl rfl rfl (by assumption))) (fun w hS => ⟨w.setCell ⟨g6, 2, none⟩ (.slice Ab2 (j + 1 : Nat) cab2), .inl (by ((try clear hF); (first | have hF := And.intro hS.facts (hR.at hS.ext) | have hF := hS.facts); simp only [HFacts, cellFacts, RFacts, cellOnly, and_true, true_and, Nat.zero_add, Nat.reduceAdd] at hF); go_simp), hS.put (i := 7) rfl⟩) ?_; try simp only [Act.put, List.setIfInBounds_toArray, List.set_cons_zero, List.set_cons_succ])
                    (refine BraidZ.next1 (i := 13) (by kernel_rfl) (by kernel_rfl) rfl ?_; (try simp only [List.getElem_toArray, List.getElem_cons_succ, List.getElem_cons_zero]))
                    (show ZStep _ _ _ true _ _ _ _; refine ZStep.valz (by (first | rfl | exact wanted_true rfl rfl rfl (by assumption))) (by rintro w hS; ((try clear hF); (first | have hF := And.intro hS.facts (hR.at hS.ext) | have hF := hS.facts); simp only [HFacts, cellFacts, RFacts, cellOnly, and_true, true_and, Nat.zero_add, Nat.reduceAdd] at hF); go_simp; with_reducible rfl) ?_; try simp only [Act.put, List.setIfInBounds_toArray, List.set_cons_zero, List.set_cons_succ])
                    (refine BraidZ.next1 (i := 14) (by kernel_rfl) (by kernel_rfl) rfl ?_; (try simp only [List.getElem_toArray, List.getElem_cons_succ, List.getElem_cons_zero]))
                    (show ZStep _ _ _ true _ _ _ _; refine ZStep.turn (by (first | rfl | exact wanted_true rfl rfl rfl (by assumption))) (fun w hS => ⟨w.setCell ⟨g6, 1, none⟩ (.slice As2 (j + 1 : Nat) cas2), .inl (by ((try clear hF); (first | have hF := And.intro hS.facts (hR.at hS.ext) | have hF := hS.facts); simp only [HFacts, cellFacts, RFacts, cellOnly, and_true, true_and, Nat.zero_add, Nat.reduceAdd] at hF); go_simp), hS.put (i := 7) rfl⟩) ?_; try simp only [Act.put, List.setIfInBounds_toArray, List.set_cons_zero, List.set_cons_succ])
                    (refine BraidZ.last (by kernel_rfl) ?_; (try clear hF); intro wk hS; ((try clear hF); (first | have hF := And.intro hS.facts (hR.at hS.ext) | have hF := hS.facts); simp only [HFacts, cellFacts, RFacts, cellOnly, and_true, true_and, Nat.zero_add, Nat.reduceAdd] at hF))
                    go_wp2_with fail
                    go_roundw
                    case rel =>
                      refine ⟨j + 1, As2, cas2, Ab2, cab2, ss ++ [t], bs ++ [tb], s4, b7 || isn, by go_num, by omega, Lib.hid (by rw [hpb.out, HT.out]), Lib.hid (by rw [List.length_append, HSL.out]; rfl), Lib.hid (by rw [List.length_append, HBL.out]; rfl), Lib.hid (all_push HBZ.out HTZ.out), HZ4, ?_⟩
                      rw [cellsS_append, show strsV (bs ++ [tb]) = strsV bs ++ [.string tb] by simp [strsV]]
                      exact ((((((((((((hS.drop 1).drop 2).drop 2).drop 3).front 7 rfl).front 7 rfl).front 7 rfl).front 7 rfl).front 6 rfl).front 7 rfl).front 7 rfl).front 7 rfl)
                    case measure => simp [intOf]; omega
            · obtain rfl : j = k := by omega
              have hab := And.intro HSL.out HBL.out
              ((try clear hF); (first | have hF := And.intro hS.facts (hR.at hS.ext) | have hF := hS.facts); simp only [HFacts, cellFacts, RFacts, cellOnly, and_true, true_and, Nat.zero_add, Nat.reduceAdd] at hF)
              go_wp2_with (first | ((with_reducible first | refine nhLa ?_ | refine nhLs ?_ | refine nhLd ?_ | refine nhCa ?_ | refine nhCs ?_ | refine nhCd ?_ | refine nhPa ?_ | refine nhPs ?_ | refine nhPd ?_ | refine nhKa ?_ | refine nhKs ?_ | refine nhKd ?_); ((try clear hF); clear hS; intro wk hS; (try simp only [List.set_cons_zero, List.set_cons_succ, heap_size, heap_set_size] at hS); ((try clear hF); (first | have hF := And.intro hS.facts (hR.at hS.ext) | have hF := hS.facts); simp only [HFacts, cellFacts, RFacts, cellOnly, and_true, true_and, Nat.zero_add, Nat.reduceAdd] at hF))) | (at_builtin; refine wpList_push_hp Tryz.elem_groups rfl (.tmp 81) (.tmp 83) rfl (hS.second 4 rfl) rfl rfl rfl (by simp [Value.oneCell']) (by omega) (by omega) ?_; clear hS; intro Ak capk wk hS; (try simp only [List.eraseIdx_cons_zero, List.eraseIdx_cons_succ, List.set_cons_zero, List.set_cons_succ] at hS); ((try clear hF); (first | have hF := And.intro hS.facts (hR.at hS.ext) | have hF := hS.facts); simp only [HFacts, cellFacts, RFacts, cellOnly, and_true, true_and, Nat.zero_add, Nat.reduceAdd] at hF)))
              go_roundw
              case rel =>
                have hg : pGrp cs (s2.data.toList, b2) = (⟨u4, ss, bs⟩, (s3.data.toList, b6)) := by
                  have h1 : pBytes cs (r4, b4) [] [] = ((bs, ss), (s3.data.toList, b6)) := by rw [hpb.out, List.drop_eq_nil_of_le (by rw [HCL.out]; exact Nat.le_refl _)]; rfl
                  unfold pGrp
                  rw [H4.out]
                  simp only
                  rw [h1]
                refine ⟨q + 1, Ak, capk, xs ++ [.int .i64 u4, .slice As j cas, .slice Ab j cab], gs ++ [⟨u4, ss, bs⟩], .row 70 8 As j cas (cellsS ss) :: .row 9 1 Ab j cab (strsV bs) :: K, s3, b6, by go_num, by omega, Lib.hid ?_, Lib.hid (by rw [List.length_append, HGL.out]; rfl), Lib.hid ?_, HZ3, Lib.hid ?_, ?_⟩
                · rw [hpg.out, show N2 - q = N2 - (q + 1) + 1 by omega, pGrps, hg]
                · intro g hg2
                  rcases List.mem_append.1 hg2 with h | h
                  · exact HGZ.out g h
                  · rw [List.mem_singleton.1 h]
                    exact ⟨HBZ.out, by rw [hab.1]; omega, by rw [hab.2]; omega⟩
                · exact (HGB.out.more fun x hx => by simp [hx]).push ⟨u4, ss, bs⟩ As j cas Ab j cab hab.1 hab.2 fun B W hK => ⟨(hp_of_at (hK (.row 70 8 As j cas (cellsS ss)) (by simp))).rk 0 rfl, (hp_of_at (hK (.row 9 1 Ab j cab (strsV bs)) (by simp))).rs 0 rfl⟩
                · exact ((((((((hS.drop 3).front 2 rfl).front 2 rfl).front 6 rfl).front 6 rfl).front 6 rfl).front 6 rfl).front 6 rfl)
              case measure => simp [intOf]; omega
        · obtain rfl : q = N2 := by omega
          have hpc : pC s.data.toList = (cs, (s1.data.toList, b1)) := by
            unfold pC
            rw [H0.out]
            simp only
            rw [← HN1.out]
            exact HC.out
          have hpg2 : pG s.data.toList = (gs, (s2.data.toList, b2)) := by
            unfold pG
            rw [hpc]
            simp only
            rw [H3.out]
            simp only
            rw [← HN2.out, hpg.out, Nat.sub_self]
            rfl
          have HD2 := Lib.hid (show D = if b2 = true ∨ s2.data.toList ≠ [] ∨ rightF ⟨cs, gs⟩ = false then none else some ⟨cs, gs⟩ by
            rw [HD.out]
            unfold parseF
            rw [hpc, hpg2])
          clear hpc hpg2 HD
          cases b2 with
          | true =>
            have e := HD2.out
            rw [if_pos (Or.inl rfl)] at e
            subst e
            clear HD2
            ((try clear hF); (first | have hF := And.intro hS.facts (hR.at hS.ext) | have hF := hS.facts); simp only [HFacts, cellFacts, RFacts, cellOnly, and_true, true_and, Nat.zero_add, Nat.reduceAdd] at hF)
            go_wp2_with (first | ((with_reducible first | refine nhLa ?_ | refine nhLs ?_ | refine nhLd ?_ | refine nhCa ?_ | refine nhCs ?_ | refine nhCd ?_ | refine nhPa ?_ | refine nhPs ?_ | refine nhPd ?_ | refine nhKa ?_ | refine nhKs ?_ | refine nhKd ?_); ((try clear hF); clear hS; intro wk hS; (try simp only [List.set_cons_zero, List.set_cons_succ, heap_size, heap_set_size] at hS); ((try clear hF); (first | have hF := And.intro hS.facts (hR.at hS.ext) | have hF := hS.facts); simp only [HFacts, cellFacts, RFacts, cellOnly, and_true, true_and, Nat.zero_add, Nat.reduceAdd] at hF))) | fail)
            exact bodyPost_ret (v := .tuple #[.agg #[.slice none 0 0, .slice none 0 0], .iface 86 (.int .i64 3)]) (by simp [results, Tryz.results9, go_sem, hF]) rfl ⟨rfl, hS.ext⟩
          | false =>
            by_cases hse : s2 = ⟨#[]⟩
            case neg =>
              have e := HD2.out
              rw [if_pos (Or.inr (Or.inl fun h => hse (by cases s2; simp at h; rw [h])))] at e
              subst e
              have hse2 : ¬ s2.toList = (⟨#[]⟩ : ByteArray).toList := fun h => hse ((text_eqL _ _).1 h)
              have hse3 : ¬ s2.toList = [] := fun h => hse2 (h.trans (show ([] : List UInt8) = (⟨#[]⟩ : ByteArray).toList by kernel_rfl))
              have hse4 : (s2.toList != []) = true := by simp [hse3]
              clear HD2
              ((try clear hF); (first | have hF := And.intro hS.facts (hR.at hS.ext) | have hF := hS.facts); simp only [HFacts, cellFacts, RFacts, cellOnly, and_true, true_and, Nat.zero_add, Nat.reduceAdd] at hF)
              go_wp2_with (first | ((with_reducible first | refine nhLa ?_ | refine nhLs ?_ | refine nhLd ?_ | refine nhCa ?_ | refine nhCs ?_ | refine nhCd ?_ | refine nhPa ?_ | refine nhPs ?_ | refine nhPd ?_ | refine nhKa ?_ | refine nhKs ?_ | refine nhKd ?_); ((try clear hF); clear hS; intro wk hS; (try simp only [List.set_cons_zero, List.set_cons_succ, heap_size, heap_set_size] at hS); ((try clear hF); (first | have hF := And.intro hS.facts (hR.at hS.ext) | have hF := hS.facts); simp only [HFacts, cellFacts, RFacts, cellOnly, and_true, true_and, Nat.zero_add, Nat.reduceAdd] at hF))) | fail)
              exact bodyPost_ret (v := .tuple #[.agg #[.slice none 0 0, .slice none 0 0], .iface 86 (.int .i64 3)]) (by simp [results, Tryz.results9, go_sem, hF]) rfl ⟨rfl, hS.ext⟩
            subst hse
            have HRF := Lib.hid (fun (W : World) (X : Item) (hS : Hp w.heap.size w W (.row 81 3 Ag q cg xs :: .blk gr [.string ⟨#[]⟩, .bool false] 77 :: .blk g5 [.slice A k cap, .slice Ag q cg] 29 :: .row 47 7 A k cap (cellsC cs) :: X :: K)) => show RF W (.agg #[.slice A k cap, .slice Ag q cg]) ⟨cs, gs⟩ from
              ⟨A, cap, Ag, cg, by rw [show (FG.mk cs gs).cols.length = k from HCL.out, show (FG.mk cs gs).groups.length = q from HGL.out], by rw [show (FG.mk cs gs).cols.length = k from HCL.out]; exact (hS.rowLen 3 rfl).2, hS.rc 3 rfl, hS.rg 0 rfl (fun x hx => by simp [hx]) HGB.out⟩)
            have HFR := Lib.hid (fun (W : World) hS => fright_any ⟨cs, gs⟩ _ W (HRF.out W (.blk w.heap.size [.slice none 0 0, .slice none 0 0] 29) hS) (by rw [show (FG.mk cs gs).groups.length = q from HGL.out]; omega) (fun g hg => (HGZ.out g hg).1) (by rw [show (FG.mk cs gs).cols.length = k from HCL.out]; omega) (fun g hg => (HGZ.out g hg).2))
            obtain ⟨rb, hrb⟩ : ∃ x, x = rightF ⟨cs, gs⟩ := ⟨_, rfl⟩
            rw [← hrb] at HFR HD2
            have e := HD2.out
            clear hrb HD2
            cases rb with
            | false =>
              rw [if_pos (Or.inr (Or.inr rfl))] at e
              subst e
              clear HRF
              ((try clear hF); (first | have hF := And.intro hS.facts (hR.at hS.ext) | have hF := hS.facts); simp only [HFacts, cellFacts, RFacts, cellOnly, and_true, true_and, Nat.zero_add, Nat.reduceAdd] at hF)
              go_wp2_with (first | ((with_reducible first | refine nhLa ?_ | refine nhLs ?_ | refine nhLd ?_ | refine nhCa ?_ | refine nhCs ?_ | refine nhCd ?_ | refine nhPa ?_ | refine nhPs ?_ | refine nhPd ?_ | refine nhKa ?_ | refine nhKs ?_ | refine nhKd ?_); ((try clear hF); clear hS; intro wk hS; (try simp only [List.set_cons_zero, List.set_cons_succ, heap_size, heap_set_size] at hS); ((try clear hF); (first | have hF := And.intro hS.facts (hR.at hS.ext) | have hF := hS.facts); simp only [HFacts, cellFacts, RFacts, cellOnly, and_true, true_and, Nat.zero_add, Nat.reduceAdd] at hF))) | (go_at_call 34; (with_reducible refine (HFR.out _ hS).mono ?_); rintro e wk ⟨rfl, hX⟩; replace hS := hS.step hX; clear hX; ((try clear hF); (first | have hF := And.intro hS.facts (hR.at hS.ext) | have hF := hS.facts); simp only [HFacts, cellFacts, RFacts, cellOnly, and_true, true_and, Nat.zero_add, Nat.reduceAdd] at hF)))
              exact bodyPost_ret (v := .tuple #[.agg #[.slice none 0 0, .slice none 0 0], .iface 86 (.int .i64 3)]) (by simp [results, Tryz.results9, go_sem, hF]) rfl ⟨rfl, hS.ext⟩
            | true =>
              rw [if_neg (fun h => by rcases h with h | h | h; exact absurd h (by simp); exact h rfl; exact absurd h (by simp))] at e
              subst e
              ((try clear hF); (first | have hF := And.intro hS.facts (hR.at hS.ext) | have hF := hS.facts); simp only [HFacts, cellFacts, RFacts, cellOnly, and_true, true_and, Nat.zero_add, Nat.reduceAdd] at hF)
              go_wp2_with (first | ((with_reducible first | refine nhLa ?_ | refine nhLs ?_ | refine nhLd ?_ | refine nhCa ?_ | refine nhCs ?_ | refine nhCd ?_ | refine nhPa ?_ | refine nhPs ?_ | refine nhPd ?_ | refine nhKa ?_ | refine nhKs ?_ | refine nhKd ?_); ((try clear hF); clear hS; intro wk hS; (try simp only [List.set_cons_zero, List.set_cons_succ, heap_size, heap_set_size] at hS); ((try clear hF); (first | have hF := And.intro hS.facts (hR.at hS.ext) | have hF := hS.facts); simp only [HFacts, cellFacts, RFacts, cellOnly, and_true, true_and, Nat.zero_add, Nat.reduceAdd] at hF))) | (go_at_call 34; (with_reducible refine (HFR.out _ hS).mono ?_); rintro e wk ⟨rfl, hX⟩; replace hS := hS.step hX; clear hX; ((try clear hF); (first | have hF := And.intro hS.facts (hR.at hS.ext) | have hF := hS.facts); simp only [HFacts, cellFacts, RFacts, cellOnly, and_true, true_and, Nat.zero_add, Nat.reduceAdd] at hF)))
              exact bodyPost_ret (v := .tuple #[.agg #[.slice A k cap, .slice Ag q cg], .nilIface]) (by simp [results, Tryz.results9, go_sem, hF]) rfl ⟨_, rfl, hS.ext, HRF.out _ _ hS⟩
end Go.Proofs.YtcpllhjhnfmepaaGreatDoor
