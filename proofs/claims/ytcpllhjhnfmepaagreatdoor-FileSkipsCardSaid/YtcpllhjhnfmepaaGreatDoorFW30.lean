/- file.Write: what is written. -/
import Derived.Test.YtcpllhjhnfmepaaGreatDoorFW25
import Derived.Test.YtcpllhjhnfmepaaGreatDoorFW05
import Derived.Test.YtcpllhjhnfmepaaGreatDoorFW22
namespace Go.Proofs.YtcpllhjhnfmepaaGreatDoor
set_option linter.unusedSimpArgs false
set_option linter.unusedVariables false
open Go.RowKit
set_option linter.all false
open Go.Lib (uvarint zigzag)
theorem list_take_succ {α : Type} {l : List α} {k : Nat} {x : α} (h : l[k]? = some x) : l.take (k + 1) = l.take k ++ [x] := by rw [List.take_add_one, h]; rfl
theorem flat_take_succ {α : Type} {f : α → List UInt8} {l : List α} {k : Nat} {x : α} (h : l[k]? = some x) : (l.take (k + 1)).flatMap f = (l.take k).flatMap f ++ f x := by
  rw [list_take_succ h, List.flatMap_append]
  simp
theorem bound_step {n7 n6 q j : Nat} (h6 : n6 ≤ 1000 + 1000000 * q + 100 + 100100 * j) (h7 : n7 ≤ n6 + 100010) : n7 ≤ 1000 + 1000000 * q + 100 + 100100 * (j + 1) :=
  Nat.le_trans h7 (by rw [Nat.mul_succ, ← Nat.add_assoc]; exact Nat.add_le_add h6 (by omega))
set_option maxRecDepth 100000 in
set_option maxHeartbeats 8000000 in
theorem fwrite_good (f : FG) (v : Value) (w : World) (hf : RF w v f) (hl : f.groups.length ≤ 100000) (hb : ∀ g ∈ f.groups, ∀ b ∈ g.bytes, b.size ≤ 100000) (hc : f.cols.length ≤ 100000) (hst : ∀ g ∈ f.groups, g.stats.length ≤ 100000 ∧ g.bytes.length ≤ 100000) (hid : ∀ c ∈ f.cols, c.id < 9223372036854775808) (hr : rightF f = true) :
    Calls Tryz.prog 10 #[v] w fun e w' => e = .returned (.tuple #[.string ⟨(writeF f).toArray⟩, .nilIface]) ∧ Ext w w' := by
  have HFR := Lib.hid (fun (W : World) (hx : Ext w W) => fright_any f v W (hf.ext hx) hl hb hc hst)
  rw [hr] at HFR
  have R := (rightF_iff f).1 hr
  have hm60 := R.groups (by omega)
  have hn8 := R.c8
  have HC := Lib.hid (frC_col R.cs)
  have HG := Lib.hid (frG_rows R.gs)
  have HID := Lib.hid hid
  have HB := Lib.hid hb
  obtain ⟨Ac, cc, Ag, cg, rfl, hcap, hcs, hgs⟩ := hf
  unfold writeF
  clear hr R hid hb hst hl hc hcap
  generalize f.cols = cs at *
  generalize f.groups = gs at *
  obtain ⟨n, hn⟩ : ∃ n, n = cs.length := ⟨_, rfl⟩
  obtain ⟨m, hm⟩ : ∃ m, m = gs.length := ⟨_, rfl⟩
  have Hn := Lib.hid hn
  have Hm := Lib.hid hm
  rw [← hn] at hn8 HFR ⊢
  rw [← hm] at hm60 HFR ⊢
  clear hn hm
  have hS := Hp.init w
  have hR := Reads.nil w
  go_enter Tryz.func10, Tryz.ntmps10
  go_upto_region 4 with (first | ((with_reducible first | refine nhLa ?_ | refine nhLs ?_ | refine nhLd ?_ | refine nhCa ?_ | refine nhCs ?_ | refine nhCd ?_ | refine nhPa ?_ | refine nhPs ?_ | refine nhPd ?_ | refine nhKa ?_ | refine nhKs ?_ | refine nhKd ?_); ((try clear hF); clear hS; intro wk hS; (try simp only [List.set_cons_zero, List.set_cons_succ, heap_size, heap_set_size] at hS); ((try clear hF); (first | have hF := And.intro hS.facts (hR.at hS.ext) | have hF := hS.facts); simp only [HFacts, cellFacts, RFacts, cellOnly, and_true, true_and, Nat.zero_add, Nat.reduceAdd] at hF))) | (go_at_call 34; (with_reducible refine (HFR.out _ hS.ext).mono ?_); rintro e wk ⟨rfl, hX⟩; replace hS := hS.step hX; clear hX; ((try clear hF); (first | have hF := And.intro hS.facts (hR.at hS.ext) | have hF := hS.facts); simp only [HFacts, cellFacts, RFacts, cellOnly, and_true, true_and, Nat.zero_add, Nat.reduceAdd] at hF)))
  clear HFR
  obtain ⟨gw, hgw⟩ := hS.named
  rw [← hgw] at hS hF ⊢
  clear hgw
  replace hS := hS.nilRow 5 1
  have hS1 : Hp w.heap.size w _ (wIt gw none 0 0 [] [.blk w.heap.size [.slice Ac n cc, .slice Ag m cg] 29]) := hS
  clear hS
  have hS := hS1
  clear hS1
  have hz0 : ([] : List UInt8).length = 0 := rfl
  ((try clear hF); (first | have hF := And.intro hS.facts (hR.at hS.ext) | have hF := hS.facts); simp only [HFacts, cellFacts, RFacts, cellOnly, and_true, true_and, Nat.zero_add, Nat.reduceAdd] at hF)
  go_wp2_with (first | ((with_reducible first | refine nhLa ?_ | refine nhLs ?_ | refine nhLd ?_ | refine nhCa ?_ | refine nhCs ?_ | refine nhCd ?_ | refine nhPa ?_ | refine nhPs ?_ | refine nhPd ?_ | refine nhKa ?_ | refine nhKs ?_ | refine nhKd ?_); ((try clear hF); clear hS; intro wk hS; (try simp only [List.set_cons_zero, List.set_cons_succ, heap_size, heap_set_size] at hS); ((try clear hF); (first | have hF := And.intro hS.facts (hR.at hS.ext) | have hF := hS.facts); simp only [HFacts, cellFacts, RFacts, cellOnly, and_true, true_and, Nat.zero_add, Nat.reduceAdd] at hF))) | (go_at_call 35; (with_reducible refine Calls.mono (wnumber_any none 0 0 [] n (by omega) hz0 (by omega) hS) ?_); clear hS; rintro e wk ⟨rfl, A1, n1, c1, H1, hS⟩; ((try clear hF); (first | have hF := And.intro hS.facts (hR.at hS.ext) | have hF := hS.facts); simp only [HFacts, cellFacts, RFacts, cellOnly, and_true, true_and, Nat.zero_add, Nat.reduceAdd] at hF)))
  go_loopw [25] (fun i wr => ∃ (k : Nat) (A : Option Addr) (n' cap : Nat) (l : List UInt8), i = .int .i64 k ∧ k ≤ n ∧ Hid (l.length = n') ∧ n' ≤ 100 + 20 * k ∧ Hid (l = uvarint n ++ (cs.take k).flatMap colW) ∧ Hp w.heap.size w wr (wIt gw A n' cap l [.blk w.heap.size [.slice Ac n cc, .slice Ag m cg] 29])) (fun i _ => n - (intOf i).toNat)
  case atStart =>
    refine ⟨0, A1, n1, c1, _, rfl, Nat.zero_le _, H1, ?_, Lib.hid (by simp), hS⟩
    have := Lib.uvarint_length64 (show n < 18446744073709551616 by omega)
    have := H1.out
    simp at this
    omega
  case round =>
    clear hS hF H1
    obtain ⟨k, A2, n2, c2, l2, rfl, hk, H2, hn2, HL2, hS⟩ := hrel
    by_cases hlt : k < n
    · obtain ⟨c, hx'⟩ : ∃ x, cs[k]? = some x := ⟨cs[k]'(by rw [← Hn.out]; exact hlt), List.getElem?_eq_getElem _⟩
      obtain ⟨b, o, rfl, c0, c1, c2, c3, c4, c5, c6⟩ := hcs k c hx'
      have HT := Lib.hid (flat_take_succ (f := colW) hx')
      have h1 := (HC.out c (List.mem_of_getElem? hx'))
      have h2 := HID.out c (List.mem_of_getElem? hx')
      obtain ⟨ci, cn, ck, cm, cd⟩ := c
      dsimp only at h1 h2 c0 c1 c2 c3 c4 c5 c6
      obtain ⟨u, rfl⟩ := Int.eq_ofNat_of_zero_le (show 0 ≤ ci by omega)
      obtain ⟨kk, rfl⟩ := Int.eq_ofNat_of_zero_le (show 0 ≤ ck by omega)
      have hu : u < 9223372036854775808 := by omega
      have hkk : kk < 9223372036854775808 := by omega
      have L1 := Lib.hid (Lib.uvarint_length64 (show u < 18446744073709551616 by omega))
      have L2 := Lib.hid (Lib.uvarint_length64 (show kk < 18446744073709551616 by omega))
      clear hR
      have hR := Reads.cell c0 (Reads.cell c1 (Reads.cell c2 (Reads.cell c3 (Reads.cell c4 (Reads.cell c5 (Reads.cell c6 (Reads.nil w)))))))
      clear c0 c1 c2 c3 c4 c5 c6 h1 h2 hx' hcs
      ((try clear hF); (first | have hF := And.intro hS.facts (hR.at hS.ext) | have hF := hS.facts); simp only [HFacts, cellFacts, RFacts, cellOnly, and_true, true_and, Nat.zero_add, Nat.reduceAdd] at hF)
      go_wp2_with (first | ((with_reducible first | refine nhLa ?_ | refine nhLs ?_ | refine nhLd ?_ | refine nhCa ?_ | refine nhCs ?_ | refine nhCd ?_ | refine nhPa ?_ | refine nhPs ?_ | refine nhPd ?_ | refine nhKa ?_ | refine nhKs ?_ | refine nhKd ?_); ((try clear hF); clear hS; intro wk hS; (try simp only [List.set_cons_zero, List.set_cons_succ, heap_size, heap_set_size] at hS); ((try clear hF); (first | have hF := And.intro hS.facts (hR.at hS.ext) | have hF := hS.facts); simp only [HFacts, cellFacts, RFacts, cellOnly, and_true, true_and, Nat.zero_add, Nat.reduceAdd] at hF))) | (go_at_call 35; (with_reducible refine Calls.mono (wnumber_any A2 n2 _ l2 u hu H2.out (by omega) ((hS.front 1 rfl).second 1 rfl)) ?_); clear hS hu; rintro e wk ⟨rfl, A3, n3, c3, H3, hS⟩; (try simp only [List.eraseIdx_cons_zero, List.eraseIdx_cons_succ, List.set_cons_zero, List.set_cons_succ] at hS); (have hn3 : n3 ≤ n2 + 10 := by have h1 := H3.out; rw [List.length_append] at h1; have := L1.out; have := H2.out; omega); ((try clear hF); (first | have hF := And.intro hS.facts (hR.at hS.ext) | have hF := hS.facts); simp only [HFacts, cellFacts, RFacts, cellOnly, and_true, true_and, Nat.zero_add, Nat.reduceAdd] at hF)) | (go_at_call 35; (with_reducible refine Calls.mono (wnumber_any A3 n3 _ _ kk hkk H3.out (by omega) hS) ?_); clear hS; rintro e wk ⟨rfl, A4, n4, c4, H4, hS⟩; (have hn4 : n4 ≤ n3 + 10 := by have h1 := H4.out; rw [List.length_append] at h1; have := L2.out; have := H3.out; omega); ((try clear hF); (first | have hF := And.intro hS.facts (hR.at hS.ext) | have hF := hS.facts); simp only [HFacts, cellFacts, RFacts, cellOnly, and_true, true_and, Nat.zero_add, Nat.reduceAdd] at hF)))
      go_roundw
      case rel =>
        refine ⟨k + 1, A4, n4, c4, _, by go_num, by omega, H4, by omega, Lib.hid ?_, hS.sub (by simp)⟩
        rw [HT.out, HL2.out]
        unfold colW
        simp only [List.append_assoc, Int.toNat_natCast]
      case measure => simp [intOf]; omega
    · obtain rfl : k = n := by omega
      have HL3 := Lib.hid (show l2 = uvarint k ++ cs.flatMap colW by rw [HL2.out, Hn.out, List.take_length])
      clear HL2
      ((try clear hF); (first | have hF := And.intro hS.facts (hR.at hS.ext) | have hF := hS.facts); simp only [HFacts, cellFacts, RFacts, cellOnly, and_true, true_and, Nat.zero_add, Nat.reduceAdd] at hF)
      go_wp2_with (first | ((with_reducible first | refine nhLa ?_ | refine nhLs ?_ | refine nhLd ?_ | refine nhCa ?_ | refine nhCs ?_ | refine nhCd ?_ | refine nhPa ?_ | refine nhPs ?_ | refine nhPd ?_ | refine nhKa ?_ | refine nhKs ?_ | refine nhKd ?_); ((try clear hF); clear hS; intro wk hS; (try simp only [List.set_cons_zero, List.set_cons_succ, heap_size, heap_set_size] at hS); ((try clear hF); (first | have hF := And.intro hS.facts (hR.at hS.ext) | have hF := hS.facts); simp only [HFacts, cellFacts, RFacts, cellOnly, and_true, true_and, Nat.zero_add, Nat.reduceAdd] at hF))) | (go_at_call 35; (with_reducible refine Calls.mono (wnumber_any A2 n2 _ l2 m (by omega) H2.out (by omega) hS) ?_); clear hS; rintro e wk ⟨rfl, A3, n3, c3, H3, hS⟩; ((try clear hF); (first | have hF := And.intro hS.facts (hR.at hS.ext) | have hF := hS.facts); simp only [HFacts, cellFacts, RFacts, cellOnly, and_true, true_and, Nat.zero_add, Nat.reduceAdd] at hF)))
      have hn3 : n3 ≤ n2 + 10 := by
        have h1 := H3.out
        rw [List.length_append] at h1
        have := Lib.uvarint_length64 (show m < 18446744073709551616 by omega)
        have := H2.out
        omega
      go_loopw [46] (fun i wr => ∃ (q : Nat) (A : Option Addr) (n' cap : Nat) (l : List UInt8), i = .int .i64 q ∧ q ≤ m ∧ Hid (l.length = n') ∧ n' ≤ 1000 + 1000000 * q ∧ Hid (l = uvarint k ++ cs.flatMap colW ++ uvarint m ++ (gs.take q).flatMap grpW) ∧ Hp w.heap.size w wr (wIt gw A n' cap l [.blk w.heap.size [.slice Ac k cc, .slice Ag m cg] 29])) (fun i _ => m - (intOf i).toNat)
      case atStart => exact ⟨0, A3, n3, c3, _, rfl, Nat.zero_le _, H3, by omega, Lib.hid (by rw [HL3.out]; simp), hS⟩
      case round =>
        clear hS hF H3 HL3 hn3
        obtain ⟨q, A4, n4, c4, l4, rfl, hq, H4, hn4, HL4, hS⟩ := hrel
        by_cases hlq : q < m
        · obtain ⟨g, hx'⟩ : ∃ x, gs[q]? = some x := ⟨gs[q]'(by rw [← Hm.out]; exact hlq), List.getElem?_eq_getElem _⟩
          obtain ⟨b, o, As, cas, Ab, cab, rfl, h0, h1, h2, hK, hBy⟩ := hgs q g hx'
          have HT := Lib.hid (flat_take_succ (f := grpW) hx')
          have hg := HG.out g (List.mem_of_getElem? hx')
          have HLB := Lib.hid (HB.out g (List.mem_of_getElem? hx'))
          obtain ⟨rw, gst, gby⟩ := g
          dsimp only at h0 h1 h2 hK hBy hg HLB
          obtain ⟨hr1, hr6, hbl, hsl, _⟩ := hg
          obtain ⟨u, rfl⟩ := Int.eq_ofNat_of_zero_le (show 0 ≤ rw by omega)
          obtain ⟨ns, hns⟩ : ∃ x, x = gst.length := ⟨_, rfl⟩
          obtain ⟨nb, hnb⟩ : ∃ x, x = gby.length := ⟨_, rfl⟩
          have Hnb := Lib.hid hnb
          have hnb8 : nb ≤ 8 := by rw [hnb, hbl, ← Hn.out]; exact hn8
          rw [← hns] at h1
          rw [← hnb] at h2
          have hu : u < 9223372036854775808 := by omega
          have L1 := Lib.hid (Lib.uvarint_length64 (show u < 18446744073709551616 by omega))
          clear hR
          have hR := Reads.cell h0 (Reads.cell h1 (Reads.cell h2 (Reads.nil w)))
          clear hx' hns hnb h0 h1 h2 hgs hK hbl hsl hr1 hr6
          ((try clear hF); (first | have hF := And.intro hS.facts (hR.at hS.ext) | have hF := hS.facts); simp only [HFacts, cellFacts, RFacts, cellOnly, and_true, true_and, Nat.zero_add, Nat.reduceAdd] at hF)
          go_wp2_with (first | ((with_reducible first | refine nhLa ?_ | refine nhLs ?_ | refine nhLd ?_ | refine nhCa ?_ | refine nhCs ?_ | refine nhCd ?_ | refine nhPa ?_ | refine nhPs ?_ | refine nhPd ?_ | refine nhKa ?_ | refine nhKs ?_ | refine nhKd ?_); ((try clear hF); clear hS; intro wk hS; (try simp only [List.set_cons_zero, List.set_cons_succ, heap_size, heap_set_size] at hS); ((try clear hF); (first | have hF := And.intro hS.facts (hR.at hS.ext) | have hF := hS.facts); simp only [HFacts, cellFacts, RFacts, cellOnly, and_true, true_and, Nat.zero_add, Nat.reduceAdd] at hF))) | (go_at_call 35; (with_reducible refine Calls.mono (wnumber_any A4 n4 _ l4 u hu H4.out (by omega) ((hS.front 1 rfl).second 1 rfl)) ?_); clear hS; rintro e wk ⟨rfl, A5, n5, c5, H5, hS⟩; (try simp only [List.eraseIdx_cons_zero, List.eraseIdx_cons_succ, List.set_cons_zero, List.set_cons_succ] at hS); (have hn5 : n5 ≤ n4 + 10 := by have h1 := H5.out; rw [List.length_append] at h1; have := L1.out; have := H4.out; omega); ((try clear hF); (first | have hF := And.intro hS.facts (hR.at hS.ext) | have hF := hS.facts); simp only [HFacts, cellFacts, RFacts, cellOnly, and_true, true_and, Nat.zero_add, Nat.reduceAdd] at hF)))
          clear hR
          have hR := Reads.nil w
          go_loopw [57] (fun i wr2 => ∃ (j : Nat) (A : Option Addr) (n' cap : Nat) (l : List UInt8), i = .int .i64 j ∧ j ≤ nb ∧ Hid (l.length = n') ∧ n' ≤ 1000 + 1000000 * q + 100 + 100100 * j ∧ Hid (l = l4 ++ uvarint u ++ (gby.take j).flatMap txtW) ∧ Hp w.heap.size w wr2 (wIt gw A n' cap l [.blk w.heap.size [.slice Ac k cc, .slice (some ⟨b, o, none⟩) m cg] 29])) (fun i _ => nb - (intOf i).toNat)
          case atStart => exact ⟨0, A5, n5, c5, _, rfl, Nat.zero_le _, H5, by omega, Lib.hid (by simp), hS.sub (by simp)⟩
          case round =>
            clear hS hF H5 hn5
            obtain ⟨j, A6, n6, c6, l6, rfl, hj, H6, hn6, HL6, hS⟩ := hrel
            by_cases hlj : j < nb
            · obtain ⟨y, hy'⟩ : ∃ x, gby[j]? = some x := ⟨gby[j]'(by rw [← Hnb.out]; exact hlj), List.getElem?_eq_getElem _⟩
              obtain ⟨b3, o3, rfl, y0⟩ := hBy j y hy'
              have HT2 := Lib.hid (flat_take_succ (f := txtW) hy')
              have hys := HLB.out y (List.mem_of_getElem? hy')
              have LY := Lib.hid (Lib.uvarint_length64 (show y.size < 18446744073709551616 by omega))
              clear hR
              have hR := Reads.cell y0 (Reads.nil w)
              clear hy' y0 hBy
              ((try clear hF); (first | have hF := And.intro hS.facts (hR.at hS.ext) | have hF := hS.facts); simp only [HFacts, cellFacts, RFacts, cellOnly, and_true, true_and, Nat.zero_add, Nat.reduceAdd] at hF)
              go_wp2_with (first | ((with_reducible first | refine nhLa ?_ | refine nhLs ?_ | refine nhLd ?_ | refine nhCa ?_ | refine nhCs ?_ | refine nhCd ?_ | refine nhPa ?_ | refine nhPs ?_ | refine nhPd ?_ | refine nhKa ?_ | refine nhKs ?_ | refine nhKd ?_); ((try clear hF); clear hS; intro wk hS; (try simp only [List.set_cons_zero, List.set_cons_succ, heap_size, heap_set_size] at hS); ((try clear hF); (first | have hF := And.intro hS.facts (hR.at hS.ext) | have hF := hS.facts); simp only [HFacts, cellFacts, RFacts, cellOnly, and_true, true_and, Nat.zero_add, Nat.reduceAdd] at hF))) | (go_at_call 36; (with_reducible refine Calls.mono (wtext_any A6 n6 _ l6 y (by omega) H6.out (by omega) hS) ?_); clear hS; rintro e wk ⟨rfl, A7, n7, c7, H7, hS⟩; (have hn7 : n7 ≤ n6 + 100010 := by have h1 := H7.out; rw [List.length_append, List.length_append] at h1; have h2 : y.data.toList.length = y.size := rfl; have := LY.out; have := H6.out; omega); ((try clear hF); (first | have hF := And.intro hS.facts (hR.at hS.ext) | have hF := hS.facts); simp only [HFacts, cellFacts, RFacts, cellOnly, and_true, true_and, Nat.zero_add, Nat.reduceAdd] at hF)))
              go_roundw
              case rel =>
                have hb7 : n7 ≤ 1000 + 1000000 * q + 100 + 100100 * (j + 1) := bound_step hn6 hn7
                refine ⟨j + 1, A7, n7, c7, _, by go_num, by omega, H7, hb7, Lib.hid ?_, hS⟩
                rw [HT2.out, HL6.out]
                unfold txtW
                simp only [List.append_assoc]
              case measure => simp [intOf]; omega
            · obtain rfl : j = nb := by omega
              have HL7 := Lib.hid (show l6 = uvarint k ++ cs.flatMap colW ++ uvarint m ++ (gs.take (q + 1)).flatMap grpW by
                rw [HT.out, HL6.out, HL4.out, Hnb.out, List.take_length]
                unfold grpW
                simp only [List.append_assoc, Int.toNat_natCast])
              ((try clear hF); (first | have hF := And.intro hS.facts (hR.at hS.ext) | have hF := hS.facts); simp only [HFacts, cellFacts, RFacts, cellOnly, and_true, true_and, Nat.zero_add, Nat.reduceAdd] at hF)
              go_wp2_with (first | ((with_reducible first | refine nhLa ?_ | refine nhLs ?_ | refine nhLd ?_ | refine nhCa ?_ | refine nhCs ?_ | refine nhCd ?_ | refine nhPa ?_ | refine nhPs ?_ | refine nhPd ?_ | refine nhKa ?_ | refine nhKs ?_ | refine nhKd ?_); ((try clear hF); clear hS; intro wk hS; (try simp only [List.set_cons_zero, List.set_cons_succ, heap_size, heap_set_size] at hS); ((try clear hF); (first | have hF := And.intro hS.facts (hR.at hS.ext) | have hF := hS.facts); simp only [HFacts, cellFacts, RFacts, cellOnly, and_true, true_and, Nat.zero_add, Nat.reduceAdd] at hF))) | fail)
              go_roundw
              case rel => exact ⟨q + 1, A6, n6, c6, l6, by go_num, by omega, H6, by omega, HL7, hS⟩
              case measure => simp [intOf]; omega
        · obtain rfl : q = m := by omega
          have HL7 := Lib.hid (show l4 = uvarint k ++ cs.flatMap colW ++ uvarint q ++ gs.flatMap grpW by rw [HL4.out, Hm.out, List.take_length])
          have hstr := run_string_own (P := Tryz.prog) Tryz.underlying88 Tryz.underlying5 Tryz.underlying9 l4 (H4.out.symm ▸ hS.head)
          rw [H4.out] at hstr
          ((try clear hF); (first | have hF := And.intro hS.facts (hR.at hS.ext) | have hF := hS.facts); simp only [HFacts, cellFacts, RFacts, cellOnly, and_true, true_and, Nat.zero_add, Nat.reduceAdd] at hF)
          go_wp2_with (first | ((with_reducible first | refine nhLa ?_ | refine nhLs ?_ | refine nhLd ?_ | refine nhCa ?_ | refine nhCs ?_ | refine nhCd ?_ | refine nhPa ?_ | refine nhPs ?_ | refine nhPd ?_ | refine nhKa ?_ | refine nhKs ?_ | refine nhKd ?_); ((try clear hF); clear hS; intro wk hS; (try simp only [List.set_cons_zero, List.set_cons_succ, heap_size, heap_set_size] at hS); ((try clear hF); (first | have hF := And.intro hS.facts (hR.at hS.ext) | have hF := hS.facts); simp only [HFacts, cellFacts, RFacts, cellOnly, and_true, true_and, Nat.zero_add, Nat.reduceAdd] at hF))) | fail)
          rw [← HL7.out]
          go_ret2
          exact ⟨rfl, hS.ext⟩
end Go.Proofs.YtcpllhjhnfmepaaGreatDoor
