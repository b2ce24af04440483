/- (File).Known. -/
import Derived.Test.YtcpllhjhnfmepaaGreatDoorFW22
import Derived.Test.YtcpllhjhnfmepaaGreatDoorFW25
namespace Go.Proofs.YtcpllhjhnfmepaaGreatDoor
set_option linter.unusedSimpArgs false
set_option linter.unusedVariables false
open Go.RowKit
set_option linter.all false
set_option maxRecDepth 100000 in
theorem eg_fknown1 : ∀ args w, (callFunc 58 args).run Tryz.prog w = .ok (.enter 58 args) w := fun _ _ => by kernel_rfl
set_option maxRecDepth 100000 in
set_option maxHeartbeats 8000000 in
theorem fknown1_any (c d : CG) (bk : Nat) (w : World) (h : w.cell? ⟨bk, 0, none⟩ = some (.int .i64 c.id)) :
    Calls Tryz.prog 58 #[.agg #[.int .i64 d.id, .string d.name, .int .i64 d.kind, .bool d.must, .int .i64 d.d.kind, .int .i64 d.d.num, .string d.d.text], .pointer (some ⟨bk, 0, none⟩)] w fun e w' => e = .returned (.bool (idEq c d)) ∧ Ext w w' := by
  have hS := Hp.init w
  have hR := Reads.cell h (Reads.nil w)
  go_enter Tryz.func58, Tryz.ntmps58
  go_wp2_with (first | ((with_reducible first | refine nhLa ?_ | refine nhLs ?_ | refine nhLd ?_ | refine nhCa ?_ | refine nhCs ?_ | refine nhCd ?_ | refine nhPa ?_ | refine nhPs ?_ | refine nhPd ?_ | refine nhKa ?_ | refine nhKs ?_ | refine nhKd ?_); ((try clear hF); clear hS; intro wk hS; (try simp only [List.set_cons_zero, List.set_cons_succ, heap_size, heap_set_size] at hS); ((try clear hF); (first | have hF := And.intro hS.facts (hR.at hS.ext) | have hF := hS.facts); simp only [HFacts, cellFacts, RFacts, cellOnly, and_true, true_and, Nat.zero_add, Nat.reduceAdd] at hF))) | fail)
  go_ret
  exact ⟨rfl, hS.ext⟩
/-- what is known of a group's column -/
def knownF (f : FG) (g : GG) (c : CG) : ST := if idxC (idEq c) 0 f.cols < 0 then ofS (List.replicate g.rows.toNat c.d) else g.stats.getD (idxC (idEq c) 0 f.cols).toNat ⟨0, 0, zeroV, zeroV⟩
set_option maxRecDepth 100000 in
set_option maxHeartbeats 8000000 in
theorem fknown_any (f : FG) (v : Value) (which : Nat) (g : GG) (c : CG) (w : World) (hf : RF w v f) (hg : f.groups[which]? = some g) (h0 : 0 ≤ g.rows) (h60 : g.rows ≤ 60) (hb : g.stats.length = f.cols.length) (hc : f.cols.length ≤ 1000) (hgl : f.groups.length ≤ 100000) :
    Calls Tryz.prog 28 #[v, .int .i64 which, .agg #[.int .i64 c.id, .string c.name, .int .i64 c.kind, .bool c.must, .int .i64 c.d.kind, .int .i64 c.d.num, .string c.d.text]] w fun e w' => e = .returned (stV (knownF f g c)) ∧ Ext w w' := by
  obtain ⟨D, hD⟩ : ∃ D, D = knownF f g c := ⟨_, rfl⟩
  rw [← hD]
  have HD := Lib.hid hD
  clear hD
  obtain ⟨Ac, cc, Ag, cg, rfl, _, hcs, hgs⟩ := hf
  obtain ⟨b, o, As, cas, Ab, cab, rfl, k0, k1, k2, hK, _⟩ := hgs which g hg
  have hwl := (List.getElem?_eq_some_iff.1 hg).1
  obtain ⟨nc, hnc⟩ : ∃ n, n = f.cols.length := ⟨_, rfl⟩
  obtain ⟨m, hm⟩ : ∃ n, n = f.groups.length := ⟨_, rfl⟩
  obtain ⟨nb, hnb⟩ : ∃ n, n = g.bytes.length := ⟨_, rfl⟩
  obtain ⟨ns, hns⟩ : ∃ n, n = g.stats.length := ⟨_, rfl⟩
  obtain ⟨n, hn⟩ : ∃ n, n = g.rows.toNat := ⟨_, rfl⟩
  have hgr : g.rows = (n : Int) := by omega
  rw [hgr] at k0
  rw [← hns] at k1 hb
  rw [← hnb] at k2
  rw [← hnc] at hb hc ⊢
  rw [← hm] at hwl hgl ⊢
  have hn60 : n ≤ 60 := by omega
  obtain rfl : ns = nc := hb
  have Hnc := Lib.hid hnc
  have Hns := Lib.hid hns
  have Hn := Lib.hid hn
  obtain ⟨ki, hki⟩ : ∃ k, k = idxC (idEq c) 0 f.cols := ⟨_, rfl⟩
  have HKI := Lib.hid hki
  have HIX := Lib.hid (fun (W : World) bk (hx : Ext w W) (h0 : W.cell? ⟨bk, 0, none⟩ = some (.int .i64 c.id)) => show Calls Tryz.prog 19 #[.slice Ac ns cc, .func (.func 58) #[] #[.pointer (some ⟨bk, 0, none⟩)]] W fun e w' => e = .returned (.int .i64 ki) ∧ Ext W w' from by
    have := cindexFunc_any f.cols Ac cc 58 #[.pointer (some ⟨bk, 0, none⟩)] (idEq c) W (hcs.ext hx) (by rw [← Hnc.out]; omega) eg_fknown1 (fun W' hx' d => fknown1_any c d bk W' (hx'.keeps h0))
    rw [← Hnc.out, ← hki] at this
    exact this)
  have HRP := Lib.hid (fun (W : World) (L : List Item) (g : Nat) (cap : Nat) (hS : Hp w.heap.size w W (.blk g [.int .i64 c.d.kind, .int .i64 c.d.num, .string c.d.text] 45 :: L)) => show Calls Tryz.prog 53 #[.slice (some ⟨g, 0, none⟩) 1 cap, .int .i64 n] W fun e w' => ∃ g2 cap2, e = .returned (.slice (some ⟨g2, 0, none⟩) n cap2) ∧ Hp w.heap.size w w' (.row 45 3 (some ⟨g2, 0, none⟩) n cap2 (cellsV (List.replicate n c.d)) :: .blk g [.int .i64 c.d.kind, .int .i64 c.d.num, .string c.d.text] 45 :: L) from
    (repeat_any c.d (some ⟨g, 0, none⟩) cap n (by omega) W (RV.block (hS.blkAt 0 rfl) rfl)).mono fun e w' ⟨g2, cap2, he, hp⟩ => ⟨g2, cap2, he, hS.join hp⟩)
  have HOF := Lib.hid (fun (W : World) (A : Option Addr) (cap : Nat) (hr : RV W A (List.replicate n c.d)) => show Calls Tryz.prog 29 #[.slice A n cap] W fun e w' => e = .returned (stV (ofS (List.replicate n c.d))) ∧ Ext W w' from by
    have := of_any (List.replicate n c.d) A cap W hr (by rw [List.length_replicate]; omega)
    rw [List.length_replicate] at this
    exact this)
  clear hgs hg hnc hm hnb hns hn h0 h60 hgr hcs hki
  have hS := Hp.init w
  have hR := Reads.cell k0 (Reads.cell k1 (Reads.cell k2 (Reads.nil w)))
  clear k0 k1 k2
  have hwn : ¬ ((which : Int) < 0) := by omega
  have hwm2 : ¬ ((m : Int) ≤ (which : Int)) := by omega
  by_cases hk0 : ki < 0
  · have hk1 : ¬ 0 ≤ ki := by omega
    have hD2 : D = ofS (List.replicate n c.d) := by
      rw [HD.out]
      unfold knownF
      rw [← HKI.out, if_pos hk0, ← Hn.out]
    rw [hD2]
    clear hD2
    unfold stV at HOF
    obtain ⟨t, ht⟩ : ∃ t, t = ofS (List.replicate n c.d) := ⟨_, rfl⟩
    rw [← ht] at HOF ⊢
    unfold stV
    clear ht hK
    go_enter Tryz.func28, Tryz.ntmps28
    go_wp2_with (first | ((with_reducible first | refine nhLa ?_ | refine nhLs ?_ | refine nhLd ?_ | refine nhCa ?_ | refine nhCs ?_ | refine nhCd ?_ | refine nhPa ?_ | refine nhPs ?_ | refine nhPd ?_ | refine nhKa ?_ | refine nhKs ?_ | refine nhKd ?_); ((try clear hF); clear hS; intro wk hS; (try simp only [List.set_cons_zero, List.set_cons_succ, heap_size, heap_set_size] at hS); ((try clear hF); (first | have hF := And.intro hS.facts (hR.at hS.ext) | have hF := hS.facts); simp only [HFacts, cellFacts, RFacts, cellOnly, and_true, true_and, Nat.zero_add, Nat.reduceAdd] at hF))) | (go_at_call 19; (with_reducible refine (HIX.out _ _ hS.ext hF.1.2.2.1.1.1).mono ?_); rintro e wk ⟨rfl, hX⟩; replace hS := hS.step hX; clear hX; ((try clear hF); (first | have hF := And.intro hS.facts (hR.at hS.ext) | have hF := hS.facts); simp only [HFacts, cellFacts, RFacts, cellOnly, and_true, true_and, Nat.zero_add, Nat.reduceAdd] at hF)) | (go_at_call 53; (with_reducible refine Calls.mono (HRP.out _ _ _ _ hS) ?_); clear hS HRP; rintro e wk ⟨gv, cv, rfl, hS⟩; ((try clear hF); (first | have hF := And.intro hS.facts (hR.at hS.ext) | have hF := hS.facts); simp only [HFacts, cellFacts, RFacts, cellOnly, and_true, true_and, Nat.zero_add, Nat.reduceAdd] at hF)) | (go_at_call 29; (with_reducible refine (HOF.out _ _ _ (hS.rv 0 rfl)).mono ?_); rintro e wk ⟨rfl, hX⟩; replace hS := hS.step hX; clear hX; ((try clear hF); (first | have hF := And.intro hS.facts (hR.at hS.ext) | have hF := hS.facts); simp only [HFacts, cellFacts, RFacts, cellOnly, and_true, true_and, Nat.zero_add, Nat.reduceAdd] at hF)))
    exact bodyPost_ret (v := .agg #[.int .i64 t.count, .int .i64 t.nulls, .int .i64 t.mn.kind, .int .i64 t.mn.num, .string t.mn.text, .int .i64 t.mx.kind, .int .i64 t.mx.num, .string t.mx.text]) (by simp [results, Tryz.results28, go_sem, hF]) rfl ⟨rfl, hS.ext⟩
  · obtain ⟨kk, rfl⟩ := Int.eq_ofNat_of_zero_le (show 0 ≤ ki by omega)
    have hkn : kk < ns := by
      have := (idxC_range (idEq c) f.cols 0).2
      rw [← HKI.out, ← Hnc.out] at this
      omega
    obtain ⟨t, ht⟩ : ∃ x, g.stats[kk]? = some x := ⟨g.stats[kk]'(by rw [← Hns.out]; exact hkn), List.getElem?_eq_getElem _⟩
    have hD2 : D = t := by
      rw [HD.out]
      unfold knownF
      rw [← HKI.out, if_neg hk0, Int.toNat_natCast, List.getD_eq_getElem?_getD, ht]
      rfl
    subst hD2
    obtain ⟨b2, o2, rfl, s0, s1, s2, s3, s4, s5, s6, s7⟩ := hK kk D ht
    have hk3 : (0 : Int) ≤ (kk : Int) := by omega
    have hR2 := Reads.cell s0 (Reads.cell s1 (Reads.cell s2 (Reads.cell s3 (Reads.cell s4 (Reads.cell s5 (Reads.cell s6 (Reads.cell s7 (Reads.nil w))))))))
    unfold stV
    clear HOF HRP ht hK s0 s1 s2 s3 s4 s5 s6 s7 hk0
    go_enter Tryz.func28, Tryz.ntmps28
    go_upto_region 6 with (first | ((with_reducible first | refine nhLa ?_ | refine nhLs ?_ | refine nhLd ?_ | refine nhCa ?_ | refine nhCs ?_ | refine nhCd ?_ | refine nhPa ?_ | refine nhPs ?_ | refine nhPd ?_ | refine nhKa ?_ | refine nhKs ?_ | refine nhKd ?_); ((try clear hF); clear hS; intro wk hS; (try simp only [List.set_cons_zero, List.set_cons_succ, heap_size, heap_set_size] at hS); ((try clear hF); (first | have hF := And.intro hS.facts (hR.at hS.ext) | have hF := hS.facts); simp only [HFacts, cellFacts, RFacts, cellOnly, and_true, true_and, Nat.zero_add, Nat.reduceAdd] at hF))) | (go_at_call 19; (with_reducible refine (HIX.out _ _ hS.ext hF.1.2.2.1.1.1).mono ?_); rintro e wk ⟨rfl, hX⟩; replace hS := hS.step hX; clear hX; ((try clear hF); (first | have hF := And.intro hS.facts (hR.at hS.ext) | have hF := hS.facts); simp only [HFacts, cellFacts, RFacts, cellOnly, and_true, true_and, Nat.zero_add, Nat.reduceAdd] at hF)))
    clear hR
    have hR := hR2
    ((try clear hF); (first | have hF := And.intro hS.facts (hR.at hS.ext) | have hF := hS.facts); simp only [HFacts, cellFacts, RFacts, cellOnly, and_true, true_and, Nat.zero_add, Nat.reduceAdd] at hF)
    go_wp2_with (first | ((with_reducible first | refine nhLa ?_ | refine nhLs ?_ | refine nhLd ?_ | refine nhCa ?_ | refine nhCs ?_ | refine nhCd ?_ | refine nhPa ?_ | refine nhPs ?_ | refine nhPd ?_ | refine nhKa ?_ | refine nhKs ?_ | refine nhKd ?_); ((try clear hF); clear hS; intro wk hS; (try simp only [List.set_cons_zero, List.set_cons_succ, heap_size, heap_set_size] at hS); ((try clear hF); (first | have hF := And.intro hS.facts (hR.at hS.ext) | have hF := hS.facts); simp only [HFacts, cellFacts, RFacts, cellOnly, and_true, true_and, Nat.zero_add, Nat.reduceAdd] at hF))) | fail)
    exact bodyPost_ret (v := .agg #[.int .i64 D.count, .int .i64 D.nulls, .int .i64 D.mn.kind, .int .i64 D.mn.num, .string D.mn.text, .int .i64 D.mx.kind, .int .i64 D.mx.num, .string D.mx.text]) (by simp [results, Tryz.results28, go_sem, hF]) rfl ⟨rfl, hS.ext⟩
end Go.Proofs.YtcpllhjhnfmepaaGreatDoor
