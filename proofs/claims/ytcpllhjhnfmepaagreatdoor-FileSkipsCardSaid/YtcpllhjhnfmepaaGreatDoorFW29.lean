/- (File).Read. -/
import Derived.Test.YtcpllhjhnfmepaaGreatDoorFW22
import Derived.Test.YtcpllhjhnfmepaaGreatDoorFW25
namespace Go.Proofs.YtcpllhjhnfmepaaGreatDoor
set_option linter.unusedSimpArgs false
set_option linter.unusedVariables false
open Go.RowKit
set_option linter.all false
set_option maxRecDepth 100000 in
theorem eg_fread1 : ∀ args w, (callFunc 52 args).run Tryz.prog w = .ok (.enter 52 args) w := fun _ _ => by kernel_rfl
set_option maxRecDepth 100000 in
set_option maxHeartbeats 8000000 in
theorem fread1_any (c d : CG) (bk : Nat) (w : World) (h : w.cell? ⟨bk, 0, none⟩ = some (.int .i64 c.id)) :
    Calls Tryz.prog 52 #[.agg #[.int .i64 d.id, .string d.name, .int .i64 d.kind, .bool d.must, .int .i64 d.d.kind, .int .i64 d.d.num, .string d.d.text], .pointer (some ⟨bk, 0, none⟩)] w fun e w' => e = .returned (.bool (idEq c d)) ∧ Ext w w' := by
  have hS := Hp.init w
  have hR := Reads.cell h (Reads.nil w)
  go_enter Tryz.func52, Tryz.ntmps52
  go_wp2_with (first | ((with_reducible first | refine nhLa ?_ | refine nhLs ?_ | refine nhLd ?_ | refine nhCa ?_ | refine nhCs ?_ | refine nhCd ?_ | refine nhPa ?_ | refine nhPs ?_ | refine nhPd ?_ | refine nhKa ?_ | refine nhKs ?_ | refine nhKd ?_); ((try clear hF); clear hS; intro wk hS; (try simp only [List.set_cons_zero, List.set_cons_succ, heap_size, heap_set_size] at hS); ((try clear hF); (first | have hF := And.intro hS.facts (hR.at hS.ext) | have hF := hS.facts); simp only [HFacts, cellFacts, RFacts, cellOnly, and_true, true_and, Nat.zero_add, Nat.reduceAdd] at hF))) | fail)
  go_ret
  exact ⟨rfl, hS.ext⟩
theorem Hp.drop2 {B : Nat} {w0 w : World} {x y z : Item} {L : List Item} (h : Hp B w0 w (x :: y :: z :: L)) : Hp B w0 w (x :: L) := (h.drop 1).drop 1
/-- what Read hands back -/
def RdRes (w : World) (n : Nat) (o : Option (List (List GV))) (e : Ending) (w' : World) : Prop := match o with
  | none => e = .returned (.tuple #[.slice none 0 0, .iface 86 (.int .i64 3)]) ∧ Ext w w'
  | some vs => ∃ (gm : Nat) (xs : List Mx), e = .returned (.tuple #[.slice (some ⟨gm, 0, none⟩) n n, .nilIface]) ∧ Hid (xs.length = n) ∧ Hid (xs.map (·.2.2) = rowsOf n vs) ∧ Hp w.heap.size w w' (.row 57 1 (some ⟨gm, 0, none⟩) n n (xs.map hdV) :: xs.map rowI)
set_option maxRecDepth 100000 in
set_option maxHeartbeats 8000000 in
theorem fread_any (f : FG) (v : Value) (which : Nat) (g : GG) (l : List CG) (A : Option Addr) (cap : Nat) (w : World) (hf : RF w v f) (hr : RC w A l) (hg : f.groups[which]? = some g) (h0 : 0 ≤ g.rows) (h60 : g.rows ≤ 60) (hb : g.bytes.length = f.cols.length) (hz : ∀ b ∈ g.bytes, b.size ≤ 100000) (hc : f.cols.length ≤ 1000) (hl : l.length ≤ 1000) (hgl : f.groups.length ≤ 100000) :
    Calls Tryz.prog 23 #[v, .int .i64 which, .slice A l.length cap] w (RdRes w g.rows.toNat (readV f g l)) := by
  obtain ⟨D, hD⟩ : ∃ D, D = readV f g l := ⟨_, rfl⟩
  rw [← hD]
  have HD := Lib.hid hD
  clear hD
  obtain ⟨Ac, cc, Ag, cg, rfl, _, hcs, hgs⟩ := hf
  obtain ⟨b, o, As, cas, Ab, cab, rfl, k0, k1, k2, _, hBy⟩ := hgs which g hg
  have hwl := (List.getElem?_eq_some_iff.1 hg).1
  obtain ⟨nc, hnc⟩ : ∃ n, n = f.cols.length := ⟨_, rfl⟩
  obtain ⟨m, hm⟩ : ∃ n, n = f.groups.length := ⟨_, rfl⟩
  obtain ⟨nl, hnl⟩ : ∃ n, n = l.length := ⟨_, rfl⟩
  obtain ⟨nb, hnb⟩ : ∃ n, n = g.bytes.length := ⟨_, rfl⟩
  obtain ⟨ns, hns⟩ : ∃ n, n = g.stats.length := ⟨_, rfl⟩
  obtain ⟨n, hn⟩ : ∃ n, n = g.rows.toNat := ⟨_, rfl⟩
  have hgr : g.rows = (n : Int) := by omega
  rw [hgr] at k0
  rw [← hns] at k1
  rw [← hnb] at k2 hb
  rw [← hnc] at hb hc ⊢
  rw [← hm] at hwl hgl ⊢
  rw [← hnl] at hl ⊢
  rw [← hn]
  have hn60 : n ≤ 60 := by omega
  obtain rfl : nb = nc := hb
  have Hnc := Lib.hid hnc
  have Hnl := Lib.hid hnl
  have Hnb := Lib.hid hnb
  have Hn := Lib.hid hn
  have HZ := Lib.hid hz
  clear hgs hg hnc hm hnl hnb hns hn hz h0 h60 hgr
  have hS := Hp.init w
  have hR := Reads.cell k0 (Reads.cell k1 (Reads.cell k2 (Reads.nil w)))
  clear k0 k1 k2
  have hwn : ¬ ((which : Int) < 0) := by omega
  have hwm : ((which : Int) ≥ (m : Int)) = False := by simp; omega
  have hwm2 : ¬ ((m : Int) ≤ (which : Int)) := by omega
  go_enter Tryz.func23, Tryz.ntmps23
  go_upto_region 4 with (first | ((with_reducible first | refine nhLa ?_ | refine nhLs ?_ | refine nhLd ?_ | refine nhCa ?_ | refine nhCs ?_ | refine nhCd ?_ | refine nhPa ?_ | refine nhPs ?_ | refine nhPd ?_ | refine nhKa ?_ | refine nhKs ?_ | refine nhKd ?_); ((try clear hF); clear hS; intro wk hS; (try simp only [List.set_cons_zero, List.set_cons_succ, heap_size, heap_set_size] at hS); ((try clear hF); (first | have hF := And.intro hS.facts (hR.at hS.ext) | have hF := hS.facts); simp only [HFacts, cellFacts, RFacts, cellOnly, and_true, true_and, Nat.zero_add, Nat.reduceAdd] at hF))) | fail)
  obtain ⟨g8, hg8⟩ := hS.named
  rw [← hg8] at hS hF ⊢
  clear hg8 hR
  have hR := Reads.nil w
  ((try clear hF); (first | have hF := And.intro hS.facts (hR.at hS.ext) | have hF := hS.facts); simp only [HFacts, cellFacts, RFacts, cellOnly, and_true, true_and, Nat.zero_add, Nat.reduceAdd] at hF)
  go_wp2_with (first | ((with_reducible first | refine nhLa ?_ | refine nhLs ?_ | refine nhLd ?_ | refine nhCa ?_ | refine nhCs ?_ | refine nhCd ?_ | refine nhPa ?_ | refine nhPs ?_ | refine nhPd ?_ | refine nhKa ?_ | refine nhKs ?_ | refine nhKd ?_); ((try clear hF); clear hS; intro wk hS; (try simp only [List.set_cons_zero, List.set_cons_succ, heap_size, heap_set_size] at hS); ((try clear hF); (first | have hF := And.intro hS.facts (hR.at hS.ext) | have hF := hS.facts); simp only [HFacts, cellFacts, RFacts, cellOnly, and_true, true_and, Nat.zero_add, Nat.reduceAdd] at hF))) | (at_make; refine wpList_make_hp Tryz.elem_rows Tryz.zero_rows rfl rfl (.tmp 33) (.tmp 33) rfl hS .i64 .i64 _ _ rfl rfl (m := n) rfl rfl (by omega) (by omega) ?_; clear hS; intro gm wk hS; ((try clear hF); (first | have hF := And.intro hS.facts (hR.at hS.ext) | have hF := hS.facts); simp only [HFacts, cellFacts, RFacts, cellOnly, and_true, true_and, Nat.zero_add, Nat.reduceAdd] at hF)))
  have hS1 : Hp w.heap.size w wk (.row 57 1 (some ⟨gm, 0, none⟩) n n ((List.replicate n mx0).map hdV) :: .blk g8 [.int .i64 n, .slice As ns cas, .slice Ab nb cab] 81 :: .blk w.heap.size [.slice Ac nb cc, .slice (some ⟨b, o, none⟩) m cg] 29 :: (List.replicate n mx0).map rowI) := by
    have := hS.nilRows n
    rw [show (List.replicate n mx0).map hdV = List.replicate n (.slice none 0 0) by rw [List.map_replicate]; rfl]
    exact this
  clear hS hF
  go_loopw [37] (fun i wr => ∃ (j : Nat) (xs : List Mx) (vs : List (List GV)), i = .int .i64 j ∧ j ≤ nl ∧ Hid (xs.length = n) ∧ Hid (D = (readV f g (l.drop j)).map (vs ++ ·)) ∧ Hid (xs.map (·.2.2) = rowsOf n vs) ∧ Hid (vs.length = j) ∧
    Hp w.heap.size w wr (.row 57 1 (some ⟨gm, 0, none⟩) n n (xs.map hdV) :: .blk g8 [.int .i64 n, .slice As ns cas, .slice Ab nb cab] 81 :: .blk w.heap.size [.slice Ac nb cc, .slice (some ⟨b, o, none⟩) m cg] 29 :: xs.map rowI)) (fun i _ => nl - (intOf i).toNat)
  case atStart =>
    refine ⟨0, List.replicate n mx0, [], rfl, Nat.zero_le _, Lib.hid (List.length_replicate ..), Lib.hid ?_, Lib.hid ?_, Lib.hid rfl, hS1⟩
    · rw [HD.out, List.drop_zero]
      cases readV f g l <;> rfl
    · unfold rowsOf
      rw [List.map_replicate]
      apply List.ext_getElem?
      intro i
      simp only [List.getElem?_replicate, List.getElem?_map, List.map_nil]
      by_cases hi : i < n
      · rw [if_pos hi, List.getElem?_range hi]; rfl
      · rw [if_neg hi, List.getElem?_eq_none (by simpa using hi)]; rfl
  case round =>
    clear hS1
    obtain ⟨j, xs, vs, rfl, hj, HXL, HDJ, HXS, HVL, hS⟩ := hrel
    by_cases hlt : j < nl
    · obtain ⟨c, hc'⟩ : ∃ x, l[j]? = some x := ⟨l[j]'(by rw [← Hnl.out]; exact hlt), List.getElem?_eq_getElem _⟩
      obtain ⟨b1, o1, rfl, c0, c1, c2, c3, c4, c5, c6⟩ := hr j c hc'
      have HDC := Lib.hid (show readV f g (l.drop j) = match colR f g c with | none => none | some v => (readV f g (l.drop (j + 1))).map (v :: ·) by rw [dropC_at hc']; rfl)
      clear hR
      have hR := Reads.cell c0 (Reads.cell c1 (Reads.cell c2 (Reads.cell c3 (Reads.cell c4 (Reads.cell c5 (Reads.cell c6 (Reads.nil w)))))))
      clear c0 c1 c2 c3 c4 c5 c6 hc'
      obtain ⟨ki, hki⟩ : ∃ k, k = idxC (idEq c) 0 f.cols := ⟨_, rfl⟩
      have HKI := Lib.hid hki
      have HIX := Lib.hid (fun (W : World) bk (hx : Ext w W) (h0 : W.cell? ⟨bk, 0, none⟩ = some (.int .i64 c.id)) => show Calls Tryz.prog 19 #[.slice Ac nb cc, .func (.func 52) #[] #[.pointer (some ⟨bk, 0, none⟩)]] W fun e w' => e = .returned (.int .i64 ki) ∧ Ext W w' from by
        have := cindexFunc_any f.cols Ac cc 52 #[.pointer (some ⟨bk, 0, none⟩)] (idEq c) W (hcs.ext hx) (by rw [← Hnc.out]; omega) eg_fread1 (fun W' hx' d => fread1_any c d bk W' (hx'.keeps h0))
        rw [← Hnc.out, ← hki] at this
        exact this)
      have HRP := Lib.hid (fun (W : World) (L : List Item) (g : Nat) (cap : Nat) (hS : Hp w.heap.size w W (.blk g [.int .i64 c.d.kind, .int .i64 c.d.num, .string c.d.text] 45 :: L)) => show Calls Tryz.prog 53 #[.slice (some ⟨g, 0, none⟩) 1 cap, .int .i64 n] W fun e w' => ∃ g2 cap2, e = .returned (.slice (some ⟨g2, 0, none⟩) n cap2) ∧ Hp w.heap.size w w' (.row 45 3 (some ⟨g2, 0, none⟩) n cap2 (cellsV (List.replicate n c.d)) :: .blk g [.int .i64 c.d.kind, .int .i64 c.d.num, .string c.d.text] 45 :: L) from
        (repeat_any c.d (some ⟨g, 0, none⟩) cap n (by omega) W (RV.block (hS.blkAt 0 rfl) rfl)).mono fun e w' ⟨g2, cap2, he, hp⟩ => ⟨g2, cap2, he, hS.join hp⟩)
      clear hki
      ((try clear hF); (first | have hF := And.intro hS.facts (hR.at hS.ext) | have hF := hS.facts); simp only [HFacts, cellFacts, RFacts, cellOnly, and_true, true_and, Nat.zero_add, Nat.reduceAdd] at hF)
      go_upto_region 8 with (first | ((with_reducible first | refine nhLa ?_ | refine nhLs ?_ | refine nhLd ?_ | refine nhCa ?_ | refine nhCs ?_ | refine nhCd ?_ | refine nhPa ?_ | refine nhPs ?_ | refine nhPd ?_ | refine nhKa ?_ | refine nhKs ?_ | refine nhKd ?_); ((try clear hF); clear hS; intro wk hS; (try simp only [List.set_cons_zero, List.set_cons_succ, heap_size, heap_set_size] at hS); ((try clear hF); (first | have hF := And.intro hS.facts (hR.at hS.ext) | have hF := hS.facts); simp only [HFacts, cellFacts, RFacts, cellOnly, and_true, true_and, Nat.zero_add, Nat.reduceAdd] at hF))) | fail)
      obtain ⟨g11, hg11⟩ := hS.named
      rw [← hg11] at hS hF ⊢
      clear hg11 hR
      have hR := Reads.nil w
      ((try clear hF); (first | have hF := And.intro hS.facts (hR.at hS.ext) | have hF := hS.facts); simp only [HFacts, cellFacts, RFacts, cellOnly, and_true, true_and, Nat.zero_add, Nat.reduceAdd] at hF)
      go_upto_if 52 with (first | ((with_reducible first | refine nhLa ?_ | refine nhLs ?_ | refine nhLd ?_ | refine nhCa ?_ | refine nhCs ?_ | refine nhCd ?_ | refine nhPa ?_ | refine nhPs ?_ | refine nhPd ?_ | refine nhKa ?_ | refine nhKs ?_ | refine nhKd ?_); ((try clear hF); clear hS; intro wk hS; (try simp only [List.set_cons_zero, List.set_cons_succ, heap_size, heap_set_size] at hS); ((try clear hF); (first | have hF := And.intro hS.facts (hR.at hS.ext) | have hF := hS.facts); simp only [HFacts, cellFacts, RFacts, cellOnly, and_true, true_and, Nat.zero_add, Nat.reduceAdd] at hF))) | (go_at_call 19; (with_reducible refine (HIX.out _ _ hS.ext hF.1.1.1).mono ?_); rintro e wk ⟨rfl, hX⟩; replace hS := hS.step hX; clear hX; ((try clear hF); (first | have hF := And.intro hS.facts (hR.at hS.ext) | have hF := hS.facts); simp only [HFacts, cellFacts, RFacts, cellOnly, and_true, true_and, Nat.zero_add, Nat.reduceAdd] at hF)) | (go_at_call 53; (with_reducible refine Calls.mono (HRP.out _ _ _ _ hS) ?_); clear hS HRP; rintro e wk ⟨gv, cv, rfl, hS⟩; ((try clear hF); (first | have hF := And.intro hS.facts (hR.at hS.ext) | have hF := hS.facts); simp only [HFacts, cellFacts, RFacts, cellOnly, and_true, true_and, Nat.zero_add, Nat.reduceAdd] at hF)))
      clear HIX
      go_cut [13, 14] from 53 to 77 (fun s13 _ wx => ∃ (Av : Option Addr) (cv : Nat) (vals : List GV), s13 = .slice Av n cv ∧ Hid (vals.length = n) ∧ Hid (colR f g c = some vals) ∧
        Hp w.heap.size w wx (.row 45 3 Av n cv (cellsV vals) :: .blk g11 [.int .i64 c.id, .string c.name, .int .i64 c.kind, .bool c.must, .int .i64 c.d.kind, .int .i64 c.d.num, .string c.d.text] 47 :: .row 57 1 (some ⟨gm, 0, none⟩) n n (xs.map hdV) :: .blk g8 [.int .i64 n, .slice As ns cas, .slice Ab nb cab] 81 :: .blk w.heap.size [.slice Ac nb cc, .slice (some ⟨b, o, none⟩) m cg] 29 :: xs.map rowI))
      case first =>
        by_cases hk0 : ki < 0
        · have hk1 : ¬ 0 ≤ ki := by omega
          have HC1 := Lib.hid (show colR f g c = some (List.replicate n c.d) by unfold colR; rw [← HKI.out, if_pos hk0, ← Hn.out])
          ((try clear hF); (first | have hF := And.intro hS.facts (hR.at hS.ext) | have hF := hS.facts); simp only [HFacts, cellFacts, RFacts, cellOnly, and_true, true_and, Nat.zero_add, Nat.reduceAdd] at hF)
          go_wp2_with (first | ((with_reducible first | refine nhLa ?_ | refine nhLs ?_ | refine nhLd ?_ | refine nhCa ?_ | refine nhCs ?_ | refine nhCd ?_ | refine nhPa ?_ | refine nhPs ?_ | refine nhPd ?_ | refine nhKa ?_ | refine nhKs ?_ | refine nhKd ?_); ((try clear hF); clear hS; intro wk hS; (try simp only [List.set_cons_zero, List.set_cons_succ, heap_size, heap_set_size] at hS); ((try clear hF); (first | have hF := And.intro hS.facts (hR.at hS.ext) | have hF := hS.facts); simp only [HFacts, cellFacts, RFacts, cellOnly, and_true, true_and, Nat.zero_add, Nat.reduceAdd] at hF))) | fail)
          go_meet
          case rel => exact ⟨some ⟨gv, 0, none⟩, cv, List.replicate n c.d, rfl, Lib.hid (List.length_replicate ..), HC1, hS.drop 1⟩
        · obtain ⟨kk, rfl⟩ := Int.eq_ofNat_of_zero_le (show 0 ≤ ki by omega)
          have hkn : kk < nb := by
            have := (idxC_range (idEq c) f.cols 0).2
            rw [← HKI.out, ← Hnc.out] at this
            omega
          obtain ⟨d, hd'⟩ : ∃ x, f.cols[kk]? = some x := ⟨f.cols[kk]'(by rw [← Hnc.out]; exact hkn), List.getElem?_eq_getElem _⟩
          obtain ⟨y, hy'⟩ : ∃ x, g.bytes[kk]? = some x := ⟨g.bytes[kk]'(by rw [← Hnb.out]; exact hkn), List.getElem?_eq_getElem _⟩
          have hys := HZ.out y (List.mem_of_getElem? hy')
          have HC0 := Lib.hid (show colR f g c = match decO d.kind y.data.toList with | some m => if m.length = n then some m else none | none => none by
            unfold colR
            rw [← HKI.out, if_neg hk0, Int.toNat_natCast, hd', hy', ← Hn.out]
            rfl)
          obtain ⟨b2, o2, rfl, _, _, d2, _, _, _, _⟩ := hcs kk d hd'
          obtain ⟨b3, o3, rfl, y0⟩ := hBy kk y hy'
          clear hR
          have hR := Reads.cell d2 (Reads.cell y0 (Reads.nil w))
          have hk3 : (0 : Int) ≤ (kk : Int) := by omega
          clear d2 y0 hd' hy' hk0 hcs hBy
          cases hdo : decO d.kind y.data.toList with
          | none =>
            rw [hdo] at HC0
            have HDN := Lib.hid (fun W => decode_none hdo hys W)
            have hD2 : D = none := by
              rw [HDJ.out, HDC.out, HC0.out]
              rfl
            subst hD2
            clear hdo HC0
            ((try clear hF); (first | have hF := And.intro hS.facts (hR.at hS.ext) | have hF := hS.facts); simp only [HFacts, cellFacts, RFacts, cellOnly, and_true, true_and, Nat.zero_add, Nat.reduceAdd] at hF)
            go_wp2_with (first | ((with_reducible first | refine nhLa ?_ | refine nhLs ?_ | refine nhLd ?_ | refine nhCa ?_ | refine nhCs ?_ | refine nhCd ?_ | refine nhPa ?_ | refine nhPs ?_ | refine nhPd ?_ | refine nhKa ?_ | refine nhKs ?_ | refine nhKd ?_); ((try clear hF); clear hS; intro wk hS; (try simp only [List.set_cons_zero, List.set_cons_succ, heap_size, heap_set_size] at hS); ((try clear hF); (first | have hF := And.intro hS.facts (hR.at hS.ext) | have hF := hS.facts); simp only [HFacts, cellFacts, RFacts, cellOnly, and_true, true_and, Nat.zero_add, Nat.reduceAdd] at hF))) | (first | (with_reducible refine wp_region_hp (draw := true) (by kernel_rfl) (by kernel_rfl) hS ?_) | ((with_reducible refine Fixed.here ?_); (first | ((with_reducible apply Fixed.skip); (first | rfl | exact wanted_false rfl rfl rfl (by assumption)); try simp only [Act.put, List.setIfInBounds_toArray, List.set_cons_zero, List.set_cons_succ]) | ((with_reducible apply Fixed.val); (first | rfl | exact wanted_true rfl rfl rfl (by assumption)); (rintro w hS; ((try clear hF); (first | have hF := And.intro hS.facts (hR.at hS.ext) | have hF := hS.facts); simp only [HFacts, cellFacts, RFacts, cellOnly, and_true, true_and, Nat.zero_add, Nat.reduceAdd] at hF); go_simp; with_reducible rfl); try simp only [Act.put, List.setIfInBounds_toArray, List.set_cons_zero, List.set_cons_succ]) | ((with_reducible apply Fixed.call); (first | rfl | exact wanted_true rfl rfl rfl (by assumption)); (rintro w hS; ((try clear hF); (first | have hF := And.intro hS.facts (hR.at hS.ext) | have hF := hS.facts); simp only [HFacts, cellFacts, RFacts, cellOnly, and_true, true_and, Nat.zero_add, Nat.reduceAdd] at hF); go_simp; exact ⟨rfl, rfl⟩); (rintro w hS; first | (with_reducible exact HDN.out w)); try simp only [Act.put, List.setIfInBounds_toArray, List.set_cons_zero, List.set_cons_succ]) | ((with_reducible apply Fixed.guardT); rfl; rfl; rfl; (all_goals intro hg)) | ((with_reducible apply Fixed.guardF); rfl; rfl; rfl; (all_goals intro hg)) | (with_reducible refine Fixed.done ?_; (try clear hF); clear hS; intro wk hS; ((try clear hF); (first | have hF := And.intro hS.facts (hR.at hS.ext) | have hF := hS.facts); simp only [HFacts, cellFacts, RFacts, cellOnly, and_true, true_and, Nat.zero_add, Nat.reduceAdd] at hF))))))
            go_ret2
            exact ⟨rfl, hS.ext⟩
          | some mv =>
            rw [hdo] at HC0
            dsimp only at HC0
            have hl60 := decO_short hdo
            obtain ⟨ln, hln⟩ : ∃ x, x = mv.length := ⟨_, rfl⟩
            have HLN := Lib.hid hln
            have HDS := Lib.hid (fun (W : World) (L : List Item) (hW : Hp w.heap.size w W L) => show Calls Tryz.prog 33 #[.int .i64 d.kind, .string y] W fun e w' => ∃ A cap, e = .returned (.tuple #[.slice A ln cap, .nilIface]) ∧ Hp w.heap.size w w' (.row 45 3 A ln cap (cellsV mv) :: L) from by
              have := decode_any d.kind y hys W
              rw [hdo] at this
              refine this.mono fun e w' ⟨A, cap, he, hp⟩ => ⟨A, cap, by rw [HLN.out]; exact he, ?_⟩
              have := hW.join hp
              unfold vRow at this
              rw [← HLN.out] at this
              exact this)
            rw [← hln] at HC0
            clear hdo hln hl60
            by_cases hlr : ln = n
            case neg =>
              rw [if_neg hlr] at HC0
              have hD2 : D = none := by
                rw [HDJ.out, HDC.out, HC0.out]
                rfl
              subst hD2
              have hlr2 : ¬ ((ln : Int) = (n : Int)) := by omega
              have hlr3 : ((ln : Int) != (n : Int)) = true := by rw [nat_bne, decide_eq_false hlr]; rfl
              clear HC0
              ((try clear hF); (first | have hF := And.intro hS.facts (hR.at hS.ext) | have hF := hS.facts); simp only [HFacts, cellFacts, RFacts, cellOnly, and_true, true_and, Nat.zero_add, Nat.reduceAdd] at hF)
              go_upto_region 12 with (first | ((with_reducible first | refine nhLa ?_ | refine nhLs ?_ | refine nhLd ?_ | refine nhCa ?_ | refine nhCs ?_ | refine nhCd ?_ | refine nhPa ?_ | refine nhPs ?_ | refine nhPd ?_ | refine nhKa ?_ | refine nhKs ?_ | refine nhKd ?_); ((try clear hF); clear hS; intro wk hS; (try simp only [List.set_cons_zero, List.set_cons_succ, heap_size, heap_set_size] at hS); ((try clear hF); (first | have hF := And.intro hS.facts (hR.at hS.ext) | have hF := hS.facts); simp only [HFacts, cellFacts, RFacts, cellOnly, and_true, true_and, Nat.zero_add, Nat.reduceAdd] at hF))) | fail)
              ((with_reducible refine wp_region_call_hp 11 (by kernel_rfl) (by kernel_rfl) hS ?_); clear hS; (repeat ((with_reducible refine CallWalk.here ?_); (first | ((with_reducible apply CallWalk.skip); (first | rfl | exact wanted_false rfl rfl rfl (by assumption)); try simp only [Act.put, List.setIfInBounds_toArray, List.set_cons_zero, List.set_cons_succ]) | ((with_reducible apply CallWalk.val); (first | rfl | exact wanted_true rfl rfl rfl (by assumption)); (rintro w hS; ((try clear hF); (first | have hF := And.intro hS.facts (hR.at hS.ext) | have hF := hS.facts); simp only [HFacts, cellFacts, RFacts, cellOnly, and_true, true_and, Nat.zero_add, Nat.reduceAdd] at hF); go_simp; with_reducible rfl); try simp only [Act.put, List.setIfInBounds_toArray, List.set_cons_zero, List.set_cons_succ])))); ((with_reducible apply CallWalk.call); (first | rfl | exact wanted_true rfl rfl rfl (by assumption)); (rintro w hS; ((try clear hF); (first | have hF := And.intro hS.facts (hR.at hS.ext) | have hF := hS.facts); simp only [HFacts, cellFacts, RFacts, cellOnly, and_true, true_and, Nat.zero_add, Nat.reduceAdd] at hF); go_simp; exact ⟨rfl, rfl⟩); (intro w hS); (with_reducible refine Calls.mono (HDS.out _ _ hS) ?_); clear hS; rintro e wk ⟨Al, cl, rfl, hS⟩; (try simp only [List.eraseIdx_cons_zero, List.eraseIdx_cons_succ, List.set_cons_zero, List.set_cons_succ] at hS); refine ⟨_, _, rfl, hS, (fun w h => h.sub (by simp)), ?_⟩; (clear hS); try simp only [Act.put, List.setIfInBounds_toArray, List.set_cons_zero, List.set_cons_succ]); (repeat ((with_reducible refine Fixed.here ?_); (first | ((with_reducible apply Fixed.skip); (first | rfl | exact wanted_false rfl rfl rfl (by assumption)); try simp only [Act.put, List.setIfInBounds_toArray, List.set_cons_zero, List.set_cons_succ]) | ((with_reducible apply Fixed.val); (first | rfl | exact wanted_true rfl rfl rfl (by assumption)); (rintro w hS; ((try clear hF); (first | have hF := And.intro hS.facts (hR.at hS.ext) | have hF := hS.facts); simp only [HFacts, cellFacts, RFacts, cellOnly, and_true, true_and, Nat.zero_add, Nat.reduceAdd] at hF); go_simp; with_reducible rfl); try simp only [Act.put, List.setIfInBounds_toArray, List.set_cons_zero, List.set_cons_succ])))); (with_reducible refine Fixed.done ?_); (try clear hF); intro wk hS; ((try clear hF); (first | have hF := And.intro hS.facts (hR.at hS.ext) | have hF := hS.facts); simp only [HFacts, cellFacts, RFacts, cellOnly, and_true, true_and, Nat.zero_add, Nat.reduceAdd] at hF))
              go_wp2_with (first | ((with_reducible first | refine nhLa ?_ | refine nhLs ?_ | refine nhLd ?_ | refine nhCa ?_ | refine nhCs ?_ | refine nhCd ?_ | refine nhPa ?_ | refine nhPs ?_ | refine nhPd ?_ | refine nhKa ?_ | refine nhKs ?_ | refine nhKd ?_); ((try clear hF); clear hS; intro wk hS; (try simp only [List.set_cons_zero, List.set_cons_succ, heap_size, heap_set_size] at hS); ((try clear hF); (first | have hF := And.intro hS.facts (hR.at hS.ext) | have hF := hS.facts); simp only [HFacts, cellFacts, RFacts, cellOnly, and_true, true_and, Nat.zero_add, Nat.reduceAdd] at hF))) | fail)
              go_ret2
              exact ⟨rfl, hS.ext⟩
            rw [if_pos hlr] at HC0
            subst hlr
            ((try clear hF); (first | have hF := And.intro hS.facts (hR.at hS.ext) | have hF := hS.facts); simp only [HFacts, cellFacts, RFacts, cellOnly, and_true, true_and, Nat.zero_add, Nat.reduceAdd] at hF)
            go_upto_region 12 with (first | ((with_reducible first | refine nhLa ?_ | refine nhLs ?_ | refine nhLd ?_ | refine nhCa ?_ | refine nhCs ?_ | refine nhCd ?_ | refine nhPa ?_ | refine nhPs ?_ | refine nhPd ?_ | refine nhKa ?_ | refine nhKs ?_ | refine nhKd ?_); ((try clear hF); clear hS; intro wk hS; (try simp only [List.set_cons_zero, List.set_cons_succ, heap_size, heap_set_size] at hS); ((try clear hF); (first | have hF := And.intro hS.facts (hR.at hS.ext) | have hF := hS.facts); simp only [HFacts, cellFacts, RFacts, cellOnly, and_true, true_and, Nat.zero_add, Nat.reduceAdd] at hF))) | fail)
            ((with_reducible refine wp_region_call_hp 11 (by kernel_rfl) (by kernel_rfl) hS ?_); clear hS; (repeat ((with_reducible refine CallWalk.here ?_); (first | ((with_reducible apply CallWalk.skip); (first | rfl | exact wanted_false rfl rfl rfl (by assumption)); try simp only [Act.put, List.setIfInBounds_toArray, List.set_cons_zero, List.set_cons_succ]) | ((with_reducible apply CallWalk.val); (first | rfl | exact wanted_true rfl rfl rfl (by assumption)); (rintro w hS; ((try clear hF); (first | have hF := And.intro hS.facts (hR.at hS.ext) | have hF := hS.facts); simp only [HFacts, cellFacts, RFacts, cellOnly, and_true, true_and, Nat.zero_add, Nat.reduceAdd] at hF); go_simp; with_reducible rfl); try simp only [Act.put, List.setIfInBounds_toArray, List.set_cons_zero, List.set_cons_succ])))); ((with_reducible apply CallWalk.call); (first | rfl | exact wanted_true rfl rfl rfl (by assumption)); (rintro w hS; ((try clear hF); (first | have hF := And.intro hS.facts (hR.at hS.ext) | have hF := hS.facts); simp only [HFacts, cellFacts, RFacts, cellOnly, and_true, true_and, Nat.zero_add, Nat.reduceAdd] at hF); go_simp; exact ⟨rfl, rfl⟩); (intro w hS); (with_reducible refine Calls.mono (HDS.out _ _ hS) ?_); clear hS; rintro e wk ⟨Al, cl, rfl, hS⟩; (try simp only [List.eraseIdx_cons_zero, List.eraseIdx_cons_succ, List.set_cons_zero, List.set_cons_succ] at hS); refine ⟨_, _, rfl, hS, (fun w h => h.sub (by simp)), ?_⟩; (clear hS); try simp only [Act.put, List.setIfInBounds_toArray, List.set_cons_zero, List.set_cons_succ]); (repeat ((with_reducible refine Fixed.here ?_); (first | ((with_reducible apply Fixed.skip); (first | rfl | exact wanted_false rfl rfl rfl (by assumption)); try simp only [Act.put, List.setIfInBounds_toArray, List.set_cons_zero, List.set_cons_succ]) | ((with_reducible apply Fixed.val); (first | rfl | exact wanted_true rfl rfl rfl (by assumption)); (rintro w hS; ((try clear hF); (first | have hF := And.intro hS.facts (hR.at hS.ext) | have hF := hS.facts); simp only [HFacts, cellFacts, RFacts, cellOnly, and_true, true_and, Nat.zero_add, Nat.reduceAdd] at hF); go_simp; with_reducible rfl); try simp only [Act.put, List.setIfInBounds_toArray, List.set_cons_zero, List.set_cons_succ])))); (with_reducible refine Fixed.done ?_); (try clear hF); intro wk hS; ((try clear hF); (first | have hF := And.intro hS.facts (hR.at hS.ext) | have hF := hS.facts); simp only [HFacts, cellFacts, RFacts, cellOnly, and_true, true_and, Nat.zero_add, Nat.reduceAdd] at hF))
            go_wp2_with (first | ((with_reducible first | refine nhLa ?_ | refine nhLs ?_ | refine nhLd ?_ | refine nhCa ?_ | refine nhCs ?_ | refine nhCd ?_ | refine nhPa ?_ | refine nhPs ?_ | refine nhPd ?_ | refine nhKa ?_ | refine nhKs ?_ | refine nhKd ?_); ((try clear hF); clear hS; intro wk hS; (try simp only [List.set_cons_zero, List.set_cons_succ, heap_size, heap_set_size] at hS); ((try clear hF); (first | have hF := And.intro hS.facts (hR.at hS.ext) | have hF := hS.facts); simp only [HFacts, cellFacts, RFacts, cellOnly, and_true, true_and, Nat.zero_add, Nat.reduceAdd] at hF))) | fail)
            go_meet
            case rel => exact ⟨Al, cl, mv, rfl, Lib.hid HLN.out.symm, HC0, (hS.drop 1).drop 1⟩
      case rest =>
        clear hS hF
        obtain ⟨Av, cv2, vals, rfl, HVN, HC1, hS⟩ := hcut
        ((try clear hF); (first | have hF := And.intro hS.facts (hR.at hS.ext) | have hF := hS.facts); simp only [HFacts, cellFacts, RFacts, cellOnly, and_true, true_and, Nat.zero_add, Nat.reduceAdd] at hF)
        go_wp2_with (first | ((with_reducible first | refine nhLa ?_ | refine nhLs ?_ | refine nhLd ?_ | refine nhCa ?_ | refine nhCs ?_ | refine nhCd ?_ | refine nhPa ?_ | refine nhPs ?_ | refine nhPd ?_ | refine nhKa ?_ | refine nhKs ?_ | refine nhKd ?_); ((try clear hF); clear hS; intro wk hS; (try simp only [List.set_cons_zero, List.set_cons_succ, heap_size, heap_set_size] at hS); ((try clear hF); (first | have hF := And.intro hS.facts (hR.at hS.ext) | have hF := hS.facts); simp only [HFacts, cellFacts, RFacts, cellOnly, and_true, true_and, Nat.zero_add, Nat.reduceAdd] at hF))) | fail)
        have HS0 : Hp w.heap.size w wc (.row 45 3 Av n cv2 (cellsV vals) :: .row 57 1 (some ⟨gm, 0, none⟩) n n (xs.map hdV) :: .blk g8 [.int .i64 n, .slice As ns cas, .slice Ab nb cab] 81 :: .blk w.heap.size [.slice Ac nb cc, .slice (some ⟨b, o, none⟩) m cg] 29 :: xs.map rowI) := hS.drop 1
        clear hS hF
        go_loopw [80] (fun i wr2 => ∃ (i0 : Nat) (xs : List Mx), i = .int .i64 i0 ∧ i0 ≤ n ∧ Hid (xs.length = n) ∧ Hid (xs.map (·.2.2) = rowsTo n vs vals i0) ∧
          Hp w.heap.size w wr2 (.row 45 3 Av n cv2 (cellsV vals) :: .row 57 1 (some ⟨gm, 0, none⟩) n n (xs.map hdV) :: .blk g8 [.int .i64 n, .slice As ns cas, .slice Ab nb cab] 81 :: .blk w.heap.size [.slice Ac nb cc, .slice (some ⟨b, o, none⟩) m cg] 29 :: xs.map rowI)) (fun i _ => n - (intOf i).toNat)
        case atStart => exact ⟨0, xs, rfl, Nat.zero_le _, HXL, Lib.hid (by rw [HXS.out, rowsTo_zero]), HS0⟩
        case round =>
          clear HS0 HXL HXS
          obtain ⟨i0, xs, rfl, hi0, HXL, HXS, hS⟩ := hrel
          by_cases hli : i0 < n
          · obtain ⟨x, hx'⟩ : ∃ y, xs[i0]? = some y := ⟨xs[i0]'(by rw [HXL.out]; exact hli), List.getElem?_eq_getElem _⟩
            obtain ⟨y, hy'⟩ : ∃ y, vals[i0]? = some y := ⟨vals[i0]'(by rw [HVN.out]; exact hli), List.getElem?_eq_getElem _⟩
            have HX := Lib.hid hx'
            have HST := Lib.hid (fun (A : Option Addr) (c : Nat) => rowsTo_step (A := A) (c := c) HXS.out hli hx' hy')
            have HHD := Lib.hid (show (xs.map hdV)[i0]? = some (hdV x) by rw [List.getElem?_map, hx']; rfl)
            have HRI := Lib.hid (show (xs.map rowI)[i0]? = some (rowI x) by rw [List.getElem?_map, hx']; rfl)
            have hxl : x.2.2.length ≤ 1000 := by
              have h1 : (xs.map (·.2.2))[i0]? = some x.2.2 := by rw [List.getElem?_map, hx']; rfl
              rw [HXS.out, rowsTo_get _ _ _ hli, if_neg (Nat.lt_irrefl i0), List.append_nil] at h1
              rw [← Option.some.inj h1, List.length_map, HVL.out]
              omega
            obtain ⟨Ax, cx, rx⟩ := x
            dsimp only at hxl HST
            replace HHD := Lib.hid (show (xs.map hdV)[i0]? = some (.slice Ax rx.length cx) from HHD.out)
            replace HRI := Lib.hid (show (xs.map rowI)[i0]? = some (.row 45 3 Ax rx.length cx (cellsV rx)) from HRI.out)
            obtain ⟨bv, ov, rfl, v0, v1, v2⟩ := hS.rv 0 rfl i0 y hy'
            obtain ⟨nx, hnx⟩ : ∃ k, k = rx.length := ⟨_, rfl⟩
            have Hnx := Lib.hid hnx
            rw [← hnx] at hxl HHD HRI
            clear hx' hy' hnx
            have hF := And.intro hS.facts (And.intro v0 (And.intro v1 v2))
            simp only [HFacts, cellFacts, RFacts, cellOnly, and_true, true_and, Nat.zero_add, Nat.reduceAdd] at hF
            clear v0 v1 v2 hR
            have hR := Reads.nil w
            go_upto_region 18 with (first | ((with_reducible first | refine nhLa ?_ | refine nhLs ?_ | refine nhLd ?_ | refine nhCa ?_ | refine nhCs ?_ | refine nhCd ?_ | refine nhPa ?_ | refine nhPs ?_ | refine nhPd ?_ | refine nhKa ?_ | refine nhKs ?_ | refine nhKd ?_); ((try clear hF); clear hS; intro wk hS; (try simp only [List.set_cons_zero, List.set_cons_succ, heap_size, heap_set_size] at hS); ((try clear hF); (first | have hF := And.intro hS.facts (hR.at hS.ext) | have hF := hS.facts); simp only [HFacts, cellFacts, RFacts, cellOnly, and_true, true_and, Nat.zero_add, Nat.reduceAdd] at hF))) | fail)
            obtain ⟨g16, hg16⟩ := hS.named
            rw [← hg16] at hS hF ⊢
            clear hg16
            ((with_reducible refine wp_region_braidz_hp [.q, .q, .q, .q, .q, .q, .q, .t, .t, .t, .t] 9 [.blk g16 [.int .i64 y.kind, .int .i64 y.num, .string y.text] 45, .row 57 1 (some ⟨gm, 0, none⟩) n n (xs.map hdV)] (by kernel_rfl) rfl (by kernel_rfl) hS (fun w h => h.sub (by simp)) ?_); clear hS; (repeat ((with_reducible refine Walk.here ?_); (first | ((with_reducible apply Walk.skipQ); (first | rfl | exact wanted_false rfl rfl rfl (by assumption)); (try simp only [Mark.isQ, if_true, Bool.false_eq_true, if_false, Act.put, List.setIfInBounds_toArray, List.set_cons_zero, List.set_cons_succ])) | ((with_reducible apply Walk.val); (first | rfl | exact wanted_true rfl rfl rfl (by assumption)); (rintro w hS; ((try clear hF); (first | have hF := And.intro hS.facts (hR.at hS.ext) | have hF := hS.facts); simp only [HFacts, cellFacts, RFacts, cellOnly, and_true, true_and, Nat.zero_add, Nat.reduceAdd] at hF); (obtain ⟨gq, hgq, hcq, _⟩ := hS.rowCell 1 rfl HHD.out); (obtain rfl : gm = gq := by simpa using hgq); go_simp; with_reducible rfl); (try simp only [Mark.isQ, if_true, Bool.false_eq_true, if_false, Act.put, List.setIfInBounds_toArray, List.set_cons_zero, List.set_cons_succ])) | ((with_reducible apply Walk.tail); (try simp only [Mark.isQ, if_true, Bool.false_eq_true, if_false, Act.put, List.setIfInBounds_toArray, List.set_cons_zero, List.set_cons_succ])) | ((with_reducible apply Walk.guardT); rfl; rfl; rfl; (all_goals intro hg)) | ((with_reducible apply Walk.guardF); rfl; rfl; rfl; (all_goals intro hg))))); refine Walk.done ?_; show BraidZ _ _ _ _ 9 4 [7, 8, 9, 10] _ _)
            (refine BraidZ.next1 (i := 7) (by kernel_rfl) (by kernel_rfl) rfl ?_; (try simp only [List.getElem_toArray, List.getElem_cons_succ, List.getElem_cons_zero]))
            (refine ZStep.alloc (cs := [.int .i64 y.kind, .int .i64 y.num, .string y.text]) (t := 45) (f := fun g => .slice (some ⟨g, 0, none⟩) 1 1) (by (first | rfl | exact wanted_true rfl rfl rfl (by assumption))) (fun w h => h.sub (by first | simp | ((try simp only [List.eraseIdx_cons_zero, List.eraseIdx_cons_succ]); (repeat (first | exact List.nil_sublist _ | with_reducible apply List.Sublist.cons₂ | apply List.Sublist.cons))) | trace_state)) (fun w hS => by ((try clear hF); (first | have hF := And.intro hS.facts (hR.at hS.ext) | have hF := hS.facts); simp only [HFacts, cellFacts, RFacts, cellOnly, and_true, true_and, Nat.zero_add, Nat.reduceAdd] at hF); go_simp) (fun ge => ?_); try simp only [Act.put, List.setIfInBounds_toArray, List.set_cons_zero, List.set_cons_succ])
            (refine BraidZ.next1 (i := 8) (by kernel_rfl) (by kernel_rfl) rfl ?_; (try simp only [List.getElem_toArray, List.getElem_cons_succ, List.getElem_cons_zero]))
            refine ZStep.append Tryz.elem_vals (A := Ax) (n := nx) (cap := cx) (xs := cellsV rx) (L0 := .blk ge [.int .i64 y.kind, .int .i64 y.num, .string y.text] 45 :: .blk g16 [.int .i64 y.kind, .int .i64 y.num, .string y.text] 45 :: .row 45 3 (some ⟨bv, ov, none⟩) n cv2 (cellsV vals) :: .row 57 1 (some ⟨gm, 0, none⟩) n n (xs.map hdV) :: .blk g8 [.int .i64 n, .slice As ns cas, .slice Ab nb cab] 81 :: .blk w.heap.size [.slice Ac nb cc, .slice (some ⟨b, o, none⟩) m cg] 29 :: (xs.map rowI).eraseIdx i0) rfl (.tmp 90) (.tmp 92) rfl (i0 + 6) HRI.out rfl rfl ⟨ge, 0, none⟩ rfl rfl (fun w hS jj u hu => World.news_of_block (hS.blkAt 0 rfl) jj u (by simpa using hu)) (by simp [Value.oneCell']) (by omega) (by omega) (fun w h => ((h.drop 0).drop 1).sub (by simp)) (fun Ak capk => ?_)
            try simp only [Act.put, List.setIfInBounds_toArray, List.set_cons_zero, List.set_cons_succ]
            (refine BraidZ.next1 (i := 9) (by kernel_rfl) (by kernel_rfl) rfl ?_; (try simp only [List.getElem_toArray, List.getElem_cons_succ, List.getElem_cons_zero]))
            (show ZStep _ _ _ true _ _ _ _; refine ZStep.valz (by (first | rfl | exact wanted_true rfl rfl rfl (by assumption))) (by rintro w hS; ((try clear hF); (first | have hF := And.intro hS.facts (hR.at hS.ext) | have hF := hS.facts); simp only [HFacts, cellFacts, RFacts, cellOnly, and_true, true_and, Nat.zero_add, Nat.reduceAdd] at hF); go_simp; with_reducible rfl) ?_; try simp only [Act.put, List.setIfInBounds_toArray, List.set_cons_zero, List.set_cons_succ])
            (refine BraidZ.next1 (i := 10) (by kernel_rfl) (by kernel_rfl) rfl ?_; (try simp only [List.getElem_toArray, List.getElem_cons_succ, List.getElem_cons_zero]))
            (show ZStep _ _ _ true _ _ _ _; refine ZStep.turn (by (first | rfl | exact wanted_true rfl rfl rfl (by assumption))) (fun w hS => ⟨w.setCell ⟨gm, i0, none⟩ (.slice Ak (nx + 1 : Nat) capk), .inl (by ((try clear hF); (first | have hF := And.intro hS.facts (hR.at hS.ext) | have hF := hS.facts); simp only [HFacts, cellFacts, RFacts, cellOnly, and_true, true_and, Nat.zero_add, Nat.reduceAdd] at hF); (obtain ⟨gq, hgq, hcq, hfq⟩ := hS.rowCell 4 rfl HHD.out); (obtain rfl : gm = gq := by simpa using hgq); go_simp), (hS.front 4 rfl).putRow i0 (.slice Ak (nx + 1 : Nat) capk)⟩) ?_; try simp only [Act.put, List.setIfInBounds_toArray, List.set_cons_zero, List.set_cons_succ])
            (refine BraidZ.last (by kernel_rfl) ?_; (try clear hF); intro wk hS; ((try clear hF); (first | have hF := And.intro hS.facts (hR.at hS.ext) | have hF := hS.facts); simp only [HFacts, cellFacts, RFacts, cellOnly, and_true, true_and, Nat.zero_add, Nat.reduceAdd] at hF))
            have e1 : (rowI (Ak, capk, rx ++ [y])) = .row 45 3 Ak (nx + 1) capk (cellsV rx ++ [.int .i64 y.kind, .int .i64 y.num, .string y.text]) := by
              show Item.row _ _ _ (rx ++ [y]).length _ (cellsV (rx ++ [y])) = _
              rw [cellsV_append, List.length_append, Hnx.out]
              rfl
            have e2 : (xs.set i0 (Ak, capk, rx ++ [y])).map hdV = (xs.map hdV).set i0 (.slice Ak (nx + 1 : Nat) capk) := by
              rw [List.map_set]
              show (xs.map hdV).set i0 (.slice Ak (rx ++ [y]).length capk) = _
              rw [List.length_append, Hnx.out]
              rfl
            go_wp2_with fail
            go_roundw
            case rel =>
              refine ⟨i0 + 1, xs.set i0 (Ak, capk, rx ++ [y]), by go_num, by omega, Lib.hid (by rw [List.length_set]; exact HXL.out), Lib.hid (HST.out Ak capk), ?_⟩
              rw [e2]
              refine Hp.setRow (L := [_, _, _, _]) HX.out ?_
              rw [e1]
              exact (((((((hS.drop 2).drop 2).front 4 rfl).front 4 rfl).front 2 rfl).front 4 rfl).front 4 rfl)
            case measure => simp [intOf]; omega
          · obtain rfl : i0 = n := by omega
            ((try clear hF); (first | have hF := And.intro hS.facts (hR.at hS.ext) | have hF := hS.facts); simp only [HFacts, cellFacts, RFacts, cellOnly, and_true, true_and, Nat.zero_add, Nat.reduceAdd] at hF)
            go_wp2_with (first | ((with_reducible first | refine nhLa ?_ | refine nhLs ?_ | refine nhLd ?_ | refine nhCa ?_ | refine nhCs ?_ | refine nhCd ?_ | refine nhPa ?_ | refine nhPs ?_ | refine nhPd ?_ | refine nhKa ?_ | refine nhKs ?_ | refine nhKd ?_); ((try clear hF); clear hS; intro wk hS; (try simp only [List.set_cons_zero, List.set_cons_succ, heap_size, heap_set_size] at hS); ((try clear hF); (first | have hF := And.intro hS.facts (hR.at hS.ext) | have hF := hS.facts); simp only [HFacts, cellFacts, RFacts, cellOnly, and_true, true_and, Nat.zero_add, Nat.reduceAdd] at hF))) | fail)
            go_roundw
            case rel =>
              refine ⟨j + 1, xs, vs ++ [vals], by go_num, by omega, HXL, Lib.hid ?_, Lib.hid (by rw [HXS.out, rowsTo_all]), Lib.hid (by rw [List.length_append, HVL.out]; rfl), hS.drop 0⟩
              rw [HDJ.out, HDC.out, HC1.out]
              simp only
              cases readV f g (l.drop (j + 1)) with
              | none => rfl
              | some r => simp
            case measure => simp [intOf]; omega
    · obtain rfl : j = nl := by omega
      have hD2 : D = some vs := by
        rw [HDJ.out, Hnl.out, List.drop_length, readV]
        simp
      subst hD2
      ((try clear hF); (first | have hF := And.intro hS.facts (hR.at hS.ext) | have hF := hS.facts); simp only [HFacts, cellFacts, RFacts, cellOnly, and_true, true_and, Nat.zero_add, Nat.reduceAdd] at hF)
      go_wp2_with (first | ((with_reducible first | refine nhLa ?_ | refine nhLs ?_ | refine nhLd ?_ | refine nhCa ?_ | refine nhCs ?_ | refine nhCd ?_ | refine nhPa ?_ | refine nhPs ?_ | refine nhPd ?_ | refine nhKa ?_ | refine nhKs ?_ | refine nhKd ?_); ((try clear hF); clear hS; intro wk hS; (try simp only [List.set_cons_zero, List.set_cons_succ, heap_size, heap_set_size] at hS); ((try clear hF); (first | have hF := And.intro hS.facts (hR.at hS.ext) | have hF := hS.facts); simp only [HFacts, cellFacts, RFacts, cellOnly, and_true, true_and, Nat.zero_add, Nat.reduceAdd] at hF))) | fail)
      go_ret2
      exact ⟨gm, xs, rfl, HXL, HXS, hS.drop2⟩
end Go.Proofs.YtcpllhjhnfmepaaGreatDoor
