/- millpondkeep.FileOlder: the walk, where a file is made. -/
import Derived.Test.YtcpllhjhnfmepaaGreatDoorFX30
namespace Go.Proofs.YtcpllhjhnfmepaaGreatDoor
set_option linter.unusedSimpArgs false
set_option linter.unusedVariables false
open Go.RowKit
set_option linter.all false
theorem Hp.wbase {B : Nat} {w0 w : World} {L : List Item} (h : Hp B w0 w L) : ∃ x, x = w0 := ⟨w0, rfl⟩
set_option maxRecDepth 100000 in
set_option maxHeartbeats 8000000 in
theorem older_good (cs : List CG) (rs : List (List GV)) (chs : List HG) (n m q nc1 ng1 : Nat) (bA oA bR oR : Nat) (A3 : Option Addr) (cap cap2 cap3 : Nat) (w : World) (f : FG)
    (Hn : Hid (cs.length = n)) (Hm : Hid (rs.length = m)) (Hq : Hid (chs.length = q)) (h1 : 1 ≤ n) (hn : n ≤ 20) (hm : m ≤ 70) (hq : q ≤ 12)
    (HI : Hid (∀ c ∈ cs, 1 ≤ c.id ∧ c.id ≤ 1099511627777)) (HL : Hid (∀ r ∈ rs, r.length = n))
    (HC : Hid (RC w (some ⟨bA, oA, none⟩) cs)) (HR : Hid (RR w (some ⟨bR, oR, none⟩) rs)) (HH : Hid (RH w A3 chs)) (HK : Hid (KeptAt w))
    (H1 : Hid (∀ W : World, Ext w W → Calls Tryz.prog 6 #[.slice (some ⟨bA, oA, none⟩) n cap] W fun e w' => e = .returned (.bool true) ∧ Ext W w'))
    (H2 : Hid (∀ W : World, Ext w W → Calls Tryz.prog 7 #[.slice (some ⟨bR, oR, none⟩) m cap2] W fun e w' => e = .returned (.bool true) ∧ Ext W w'))
    (H3 : Hid (∀ W : World, Ext w W → Calls Tryz.prog 8 #[] W fun e w' => e = .returned (.bool true) ∧ Ext W w'))
    (HM : Hid (∀ W : World, Ext w W → Calls Tryz.prog 11 #[.slice (some ⟨bA, oA, none⟩) n cap, .slice (some ⟨bR, oR, none⟩) m cap2] W (FilRes W f nc1 ng1)))
    (HA : Hid (∀ (W : World) (v : Value) (M : List CG) (N : Nat) (A' : Option Addr) (cap' : Nat), M.length = N → N ≤ 1000 → RF W v f → RC W A' M → Calls Tryz.prog 13 #[v, .slice A' N cap'] W fun e w' => ∃ B cb, e = .returned (.tuple #[.slice B m cb, .bool true]) ∧ Ext W w' ∧ Hid (RR w' B (rs.map (rowNow cs M))))) :
    Calls Tryz.prog 4 #[.slice (some ⟨bA, oA, none⟩) n cap, .slice (some ⟨bR, oR, none⟩) m cap2, .slice A3 q cap3] w fun e w' => e = .returned (.bool true) ∧ Ext w w' := by
  have HX := Lib.hid (Ext.refl w)
  have hS := Hp.init w
  have hR := Reads.nil w
  go_enter Tryz.func4, Tryz.ntmps4
  go_wp2_with (first | ((with_reducible first | refine nhLa ?_ | refine nhLs ?_ | refine nhLd ?_ | refine nhCa ?_ | refine nhCs ?_ | refine nhCd ?_ | refine nhPa ?_ | refine nhPs ?_ | refine nhPd ?_ | refine nhKa ?_ | refine nhKs ?_ | refine nhKd ?_); ((try clear hF); clear hS; intro wk hS; (try simp only [List.set_cons_zero, List.set_cons_succ, heap_size, heap_set_size] at hS); ((try clear hF); (first | have hF := And.intro hS.facts (hR.at hS.ext) | have hF := hS.facts); simp only [HFacts, cellFacts, RFacts, cellOnly, and_true, true_and, Nat.zero_add, Nat.reduceAdd] at hF))) | (go_at_call 6; (with_reducible refine (H1.out _ (HX.out.trans hS.ext)).mono ?_); rintro e wk ⟨rfl, hX⟩; replace hS := hS.step hX; clear hX; ((try clear hF); (first | have hF := And.intro hS.facts (hR.at hS.ext) | have hF := hS.facts); simp only [HFacts, cellFacts, RFacts, cellOnly, and_true, true_and, Nat.zero_add, Nat.reduceAdd] at hF)) | (go_at_call 7; (with_reducible refine (H2.out _ (HX.out.trans hS.ext)).mono ?_); rintro e wk ⟨rfl, hX⟩; replace hS := hS.step hX; clear hX; ((try clear hF); (first | have hF := And.intro hS.facts (hR.at hS.ext) | have hF := hS.facts); simp only [HFacts, cellFacts, RFacts, cellOnly, and_true, true_and, Nat.zero_add, Nat.reduceAdd] at hF)) | (go_at_call 8; (with_reducible refine (H3.out _ (HX.out.trans hS.ext)).mono ?_); rintro e wk ⟨rfl, hX⟩; replace hS := hS.step hX; clear hX; ((try clear hF); (first | have hF := And.intro hS.facts (hR.at hS.ext) | have hF := hS.facts); simp only [HFacts, cellFacts, RFacts, cellOnly, and_true, true_and, Nat.zero_add, Nat.reduceAdd] at hF)) | (go_at_call 11; (with_reducible refine Calls.mono (HM.out _ (HX.out.trans hS.ext)) ?_); rintro e wk ⟨Ac1, cc1, Ag1, cg1, rfl, hX, F1⟩; have hX2 := hS.ext.trans hX; replace hS := hS.step hX; clear hX; have hRn := Reads.nil wk; replace HX := Lib.hid (HX.out.trans hX2); skip; clear hX2 hS hR; (try clear hF); have hS := Hp.init wk; have hR := hRn; clear hRn; ((try clear hF); (first | have hF := And.intro hS.facts (hR.at hS.ext) | have hF := hS.facts); simp only [HFacts, cellFacts, RFacts, cellOnly, and_true, true_and, Nat.zero_add, Nat.reduceAdd] at hF)))
  obtain ⟨wb, hwb⟩ := hS.wbase
  subst hwb
  obtain ⟨g9, hg9⟩ := hS.named
  rw [← hg9] at hS ⊢
  clear hg9 H1 H2 H3 HM
  clear hF
  go_loopw [11, 10] (fun i nx wr => ∃ (k : Nat) (v : Int), i = .int .i64 k ∧ k ≤ n ∧ nx = .int .i64 v ∧ 1 ≤ v ∧ v ≤ 1099511627778 ∧ Hp wb.heap.size wb wr [.blk g9 [.slice (some ⟨bA, oA, none⟩) n cap] 22, .blk wb.heap.size [.slice Ac1 nc1 cc1, .slice Ag1 ng1 cg1] 29]) (fun i _ _ => n - (intOf i).toNat)
  case atStart => exact ⟨0, 1, rfl, Nat.zero_le _, rfl, by omega, by omega, hS⟩
  case round =>
    clear hS
    obtain ⟨k, v, rfl, hk, rfl, hv0, hv1, hS⟩ := hrel
    by_cases hlt : k < n
    · obtain ⟨c, hc'⟩ : ∃ x, cs[k]? = some x := ⟨cs[k]'(by rw [Hn.out]; exact hlt), List.getElem?_eq_getElem _⟩
      obtain ⟨b, o, hA, c0, _⟩ := (HC.out.ext HX.out) k c hc'
      obtain ⟨rfl, rfl⟩ : bA = b ∧ oA = o := by simpa using hA
      have hid := HI.out c (List.mem_of_getElem? hc')
      have hw : IntKind.i64.wrap (c.id + 1) = c.id + 1 := IntWalk.i64_in _ (by omega)
      clear hc' hR
      have hR := Reads.cell c0 (Reads.nil wb)
      clear c0 hA
      ((try clear hF); (first | have hF := And.intro hS.facts (hR.at hS.ext) | have hF := hS.facts); simp only [HFacts, cellFacts, RFacts, cellOnly, and_true, true_and, Nat.zero_add, Nat.reduceAdd] at hF)
      go_wp2_with (first | ((with_reducible first | refine nhLa ?_ | refine nhLs ?_ | refine nhLd ?_ | refine nhCa ?_ | refine nhCs ?_ | refine nhCd ?_ | refine nhPa ?_ | refine nhPs ?_ | refine nhPd ?_ | refine nhKa ?_ | refine nhKs ?_ | refine nhKd ?_); ((try clear hF); clear hS; intro wk hS; (try simp only [List.set_cons_zero, List.set_cons_succ, heap_size, heap_set_size] at hS); ((try clear hF); (first | have hF := And.intro hS.facts (hR.at hS.ext) | have hF := hS.facts); simp only [HFacts, cellFacts, RFacts, cellOnly, and_true, true_and, Nat.zero_add, Nat.reduceAdd] at hF))) | fail)
      go_roundw
      case rel => exact ⟨k + 1, max v (c.id + 1), by go_num, by omega, by go_simp, by omega, by omega, hS⟩
      case measure => simp [intOf]; omega
    · obtain rfl : n = k := by omega
      clear hlt hk
      ((try clear hF); (first | have hF := And.intro hS.facts (hR.at hS.ext) | have hF := hS.facts); simp only [HFacts, cellFacts, RFacts, cellOnly, and_true, true_and, Nat.zero_add, Nat.reduceAdd] at hF)
      go_wp2_with (first | ((with_reducible first | refine nhLa ?_ | refine nhLs ?_ | refine nhLd ?_ | refine nhCa ?_ | refine nhCs ?_ | refine nhCd ?_ | refine nhPa ?_ | refine nhPs ?_ | refine nhPd ?_ | refine nhKa ?_ | refine nhKs ?_ | refine nhKd ?_); ((try clear hF); clear hS; intro wk hS; (try simp only [List.set_cons_zero, List.set_cons_succ, heap_size, heap_set_size] at hS); ((try clear hF); (first | have hF := And.intro hS.facts (hR.at hS.ext) | have hF := hS.facts); simp only [HFacts, cellFacts, RFacts, cellOnly, and_true, true_and, Nat.zero_add, Nat.reduceAdd] at hF))) | fail)
      clear hR
      have hR := Reads.nil wb
      go_loopw [12, 10] (fun i nx wr => ∃ (k : Nat) (v : Int) (A' : Option Addr) (cap' N : Nat) (M : List CG) (K : List Item), i = .int .i64 k ∧ k ≤ q ∧ nx = .int .i64 v ∧ 1 ≤ v ∧ v ≤ 1099511627778 + k ∧ Hid (M.length = N) ∧ 1 ≤ N ∧ N ≤ n + k ∧ Hid (∀ W : World, Hp wb.heap.size wb W K → RC W A' M) ∧ Hp wb.heap.size wb wr (.blk g9 [.slice A' N cap'] 22 :: .blk wb.heap.size [.slice Ac1 nc1 cc1, .slice Ag1 ng1 cg1] 29 :: K)) (fun i _ _ => q - (intOf i).toNat)
      case atStart => exact ⟨0, v, _, cap, n, cs, [], rfl, Nat.zero_le _, rfl, hv0, by omega, Hn, h1, by omega, Lib.hid (fun W h => (HC.out.ext HX.out).ext h.ext), hS⟩
      case round =>
        clear hS hv0 hv1
        obtain ⟨k, v, A', cap', N, M, K, rfl, hk, rfl, hv0, hv1, HMN, hN1, hN2, HRC, hS⟩ := hrel
        by_cases hlt : k < q
--<A
        · obtain ⟨x, hx'⟩ : ∃ x, chs[k]? = some x := ⟨chs[k]'(by rw [Hq.out]; exact hlt), List.getElem?_eq_getElem _⟩
          obtain ⟨b, o, rfl, c0, c1, c2, c3, c4, c5, c6, c7, c8, c9⟩ := HH.out k x hx'
          clear hR hx'
          have hR := (Reads.cell c0 (Reads.cell c1 (Reads.cell c2 (Reads.cell c3 (Reads.cell c4 (Reads.cell c5 (Reads.cell c6 (Reads.cell c7 (Reads.cell c8 (Reads.cell c9 (Reads.nil w))))))))))).ext HX.out
          clear c0 c1 c2 c3 c4 c5 c6 c7 c8 c9
          by_cases e1 : 60 < x.name.size
          · ((try clear hF); (first | have hF := And.intro hS.facts (hR.at hS.ext) | have hF := hS.facts); simp only [HFacts, cellFacts, RFacts, cellOnly, and_true, true_and, Nat.zero_add, Nat.reduceAdd] at hF)
            go_wp2_with (first | ((with_reducible first | refine nhLa ?_ | refine nhLs ?_ | refine nhLd ?_ | refine nhCa ?_ | refine nhCs ?_ | refine nhCd ?_ | refine nhPa ?_ | refine nhPs ?_ | refine nhPd ?_ | refine nhKa ?_ | refine nhKs ?_ | refine nhKd ?_); ((try clear hF); clear hS; intro wk hS; (try simp only [List.set_cons_zero, List.set_cons_succ, heap_size, heap_set_size] at hS); ((try clear hF); (first | have hF := And.intro hS.facts (hR.at hS.ext) | have hF := hS.facts); simp only [HFacts, cellFacts, RFacts, cellOnly, and_true, true_and, Nat.zero_add, Nat.reduceAdd] at hF))) | fail)
            go_ret
            exact ⟨rfl, HX.out.trans hS.ext⟩
          by_cases e2 : 60 < x.tgt.size
          · ((try clear hF); (first | have hF := And.intro hS.facts (hR.at hS.ext) | have hF := hS.facts); simp only [HFacts, cellFacts, RFacts, cellOnly, and_true, true_and, Nat.zero_add, Nat.reduceAdd] at hF)
            go_wp2_with (first | ((with_reducible first | refine nhLa ?_ | refine nhLs ?_ | refine nhLd ?_ | refine nhCa ?_ | refine nhCs ?_ | refine nhCd ?_ | refine nhPa ?_ | refine nhPs ?_ | refine nhPd ?_ | refine nhKa ?_ | refine nhKs ?_ | refine nhKd ?_); ((try clear hF); clear hS; intro wk hS; (try simp only [List.set_cons_zero, List.set_cons_succ, heap_size, heap_set_size] at hS); ((try clear hF); (first | have hF := And.intro hS.facts (hR.at hS.ext) | have hF := hS.facts); simp only [HFacts, cellFacts, RFacts, cellOnly, and_true, true_and, Nat.zero_add, Nat.reduceAdd] at hF))) | fail)
            go_ret
            exact ⟨rfl, HX.out.trans hS.ext⟩
          have HCB := Lib.hid (fun (W : World) (g : Nat) (t : TypeId) (h : W.heap[g]? = some (.cells #[.int .i64 x.c.id, .string x.c.name, .int .i64 x.c.kind, .bool x.c.must, .int .i64 x.c.d.kind, .int .i64 x.c.d.num, .string x.c.d.text] t (0, 0))) => columns_any [x.c] (some ⟨g, 0, none⟩) 1 1 W rfl (RC.block h rfl))
          cases e3 : shortCs [x.c] with
          | false =>
            have HCB3 := Lib.hid (fun (W : World) (g : Nat) (t : TypeId) (h : W.heap[g]? = some (.cells #[.int .i64 x.c.id, .string x.c.name, .int .i64 x.c.kind, .bool x.c.must, .int .i64 x.c.d.kind, .int .i64 x.c.d.num, .string x.c.d.text] t (0, 0))) => show Calls Tryz.prog 6 #[.slice (some ⟨g, 0, none⟩) 1 1] W (fun e w' => e = .returned (.bool false) ∧ Ext W w') from e3 ▸ HCB.out W g t h)
            clear HCB e3
            ((try clear hF); (first | have hF := And.intro hS.facts (hR.at hS.ext) | have hF := hS.facts); simp only [HFacts, cellFacts, RFacts, cellOnly, and_true, true_and, Nat.zero_add, Nat.reduceAdd] at hF)
            go_wp2_with (first | ((with_reducible first | refine nhLa ?_ | refine nhLs ?_ | refine nhLd ?_ | refine nhCa ?_ | refine nhCs ?_ | refine nhCd ?_ | refine nhPa ?_ | refine nhPs ?_ | refine nhPd ?_ | refine nhKa ?_ | refine nhKs ?_ | refine nhKd ?_); ((try clear hF); clear hS; intro wk hS; (try simp only [List.set_cons_zero, List.set_cons_succ, heap_size, heap_set_size] at hS); ((try clear hF); (first | have hF := And.intro hS.facts (hR.at hS.ext) | have hF := hS.facts); simp only [HFacts, cellFacts, RFacts, cellOnly, and_true, true_and, Nat.zero_add, Nat.reduceAdd] at hF))) | (go_at_call 6; (with_reducible refine (HCB3.out _ _ _ (hS.blkAt 0 rfl)).mono ?_); rintro e wk ⟨rfl, hX⟩; replace hS := hS.step hX; clear hX; ((try clear hF); (first | have hF := And.intro hS.facts (hR.at hS.ext) | have hF := hS.facts); simp only [HFacts, cellFacts, RFacts, cellOnly, and_true, true_and, Nat.zero_add, Nat.reduceAdd] at hF)))
            go_ret
            exact ⟨rfl, HX.out.trans hS.ext⟩
          | true =>
            have HCB3 := Lib.hid (fun (W : World) (g : Nat) (t : TypeId) (h : W.heap[g]? = some (.cells #[.int .i64 x.c.id, .string x.c.name, .int .i64 x.c.kind, .bool x.c.must, .int .i64 x.c.d.kind, .int .i64 x.c.d.num, .string x.c.d.text] t (0, 0))) => show Calls Tryz.prog 6 #[.slice (some ⟨g, 0, none⟩) 1 1] W (fun e w' => e = .returned (.bool true) ∧ Ext W w') from e3 ▸ HCB.out W g t h)
            clear HCB e3
            by_cases w0 : x.what = 0
            · have b0 : (x.what == 0) = true := by simp [w0]
              clear w0
              have HMo := Lib.hid (fun (W : World) (hx : Ext wb W) (h : RC W A' M) => chg_more x.c HMN.out hN1 (by omega) (by omega) (by omega) h (HK.out.ext (HX.out.trans hx)) (cap := cap') (nx := v))
              ((try clear hF); (first | have hF := And.intro hS.facts (hR.at hS.ext) | have hF := hS.facts); simp only [HFacts, cellFacts, RFacts, cellOnly, and_true, true_and, Nat.zero_add, Nat.reduceAdd] at hF)
              go_wp2_with (first | ((with_reducible first | refine nhLa ?_ | refine nhLs ?_ | refine nhLd ?_ | refine nhCa ?_ | refine nhCs ?_ | refine nhCd ?_ | refine nhPa ?_ | refine nhPs ?_ | refine nhPd ?_ | refine nhKa ?_ | refine nhKs ?_ | refine nhKd ?_); ((try clear hF); clear hS; intro wk hS; (try simp only [List.set_cons_zero, List.set_cons_succ, heap_size, heap_set_size] at hS); ((try clear hF); (first | have hF := And.intro hS.facts (hR.at hS.ext) | have hF := hS.facts); simp only [HFacts, cellFacts, RFacts, cellOnly, and_true, true_and, Nat.zero_add, Nat.reduceAdd] at hF))) | (go_at_call 6; (with_reducible refine (HCB3.out _ _ _ (hS.blkAt 0 rfl)).mono ?_); rintro e wk ⟨rfl, hX⟩; replace hS := hS.step hX; clear hX; ((try clear hF); (first | have hF := And.intro hS.facts (hR.at hS.ext) | have hF := hS.facts); simp only [HFacts, cellFacts, RFacts, cellOnly, and_true, true_and, Nat.zero_add, Nat.reduceAdd] at hF)) | (go_at_call 16; (with_reducible refine Calls.mono (HMo.out _ hS.ext (HRC.out _ (hS.sub (by first | simp | ((repeat (first | exact List.nil_sublist _ | exact List.Sublist.refl _ | with_reducible apply List.Sublist.cons₂ | apply List.Sublist.cons))))))) ?_); rintro e wk (⟨er, rfl, hW⟩ | ⟨A2, c2, N2, M2, rfl, HN2, hn1, hn2, hW⟩) <;> (replace hS := hS.join hW; clear hW; simp only [List.cons_append, List.nil_append] at hS; ((try clear hF); (first | have hF := And.intro hS.facts (hR.at hS.ext) | have hF := hS.facts); simp only [HFacts, cellFacts, RFacts, cellOnly, and_true, true_and, Nat.zero_add, Nat.reduceAdd] at hF))))
              · go_roundw
                case rel => exact ⟨k + 1, v, A', cap', N, M, K, by go_num, by omega, rfl, by omega, by omega, HMN, by omega, by omega, HRC, hS.sub (by first | simp | ((repeat (first | exact List.nil_sublist _ | exact List.Sublist.refl _ | with_reducible apply List.Sublist.cons₂ | apply List.Sublist.cons))))⟩
                case measure => simp [intOf]; omega
              · go_roundw
                case rel =>
                  have h5 := hS.sub (M := [.row 47 7 A2 N2 c2 (cellsC M2), .blk g9 [.slice A2 N2 c2] 22, .blk wb.heap.size [.slice Ac1 nc1 cc1, .slice Ag1 ng1 cg1] 29]) (by first | simp | ((repeat (first | exact List.nil_sublist _ | exact List.Sublist.refl _ | with_reducible apply List.Sublist.cons₂ | apply List.Sublist.cons))))
                  exact ⟨k + 1, v + 1, A2, c2, N2, M2, [.row 47 7 A2 N2 c2 (cellsC M2)], by go_num, by omega, rfl, by omega, by omega, HN2, by omega, by omega, Lib.hid (fun W h => h.rc 0 rfl), h5.perm (List.perm_append_comm (l₁ := [_, _]) (l₂ := [_]))⟩
                case measure => simp [intOf]; omega
            have b0 : (x.what == 0) = false := by simp [w0]
            clear w0
            by_cases w1 : x.what = 1
            · have b1 : (x.what == 1) = true := by simp [w1]
              clear w1
              have HLe := Lib.hid (fun (W : World) (hx : Ext wb W) (h : RC W A' M) => chg_less x.name HMN.out hN1 (by omega) h (cap := cap'))
              ((try clear hF); (first | have hF := And.intro hS.facts (hR.at hS.ext) | have hF := hS.facts); simp only [HFacts, cellFacts, RFacts, cellOnly, and_true, true_and, Nat.zero_add, Nat.reduceAdd] at hF)
              go_wp2_with (first | ((with_reducible first | refine nhLa ?_ | refine nhLs ?_ | refine nhLd ?_ | refine nhCa ?_ | refine nhCs ?_ | refine nhCd ?_ | refine nhPa ?_ | refine nhPs ?_ | refine nhPd ?_ | refine nhKa ?_ | refine nhKs ?_ | refine nhKd ?_); ((try clear hF); clear hS; intro wk hS; (try simp only [List.set_cons_zero, List.set_cons_succ, heap_size, heap_set_size] at hS); ((try clear hF); (first | have hF := And.intro hS.facts (hR.at hS.ext) | have hF := hS.facts); simp only [HFacts, cellFacts, RFacts, cellOnly, and_true, true_and, Nat.zero_add, Nat.reduceAdd] at hF))) | (go_at_call 6; (with_reducible refine (HCB3.out _ _ _ (hS.blkAt 0 rfl)).mono ?_); rintro e wk ⟨rfl, hX⟩; replace hS := hS.step hX; clear hX; ((try clear hF); (first | have hF := And.intro hS.facts (hR.at hS.ext) | have hF := hS.facts); simp only [HFacts, cellFacts, RFacts, cellOnly, and_true, true_and, Nat.zero_add, Nat.reduceAdd] at hF)) | (go_at_call 17; (with_reducible refine Calls.mono (HLe.out _ hS.ext (HRC.out _ (hS.sub (by first | simp | ((repeat (first | exact List.nil_sublist _ | exact List.Sublist.refl _ | with_reducible apply List.Sublist.cons₂ | apply List.Sublist.cons))))))) ?_); rintro e wk (⟨er, rfl, hW⟩ | ⟨A2, c2, N2, M2, rfl, HN2, hn1, hn2, hW⟩) <;> (replace hS := hS.join hW; clear hW; simp only [List.cons_append, List.nil_append] at hS; ((try clear hF); (first | have hF := And.intro hS.facts (hR.at hS.ext) | have hF := hS.facts); simp only [HFacts, cellFacts, RFacts, cellOnly, and_true, true_and, Nat.zero_add, Nat.reduceAdd] at hF))))
              · go_roundw
                case rel => exact ⟨k + 1, v, A', cap', N, M, K, by go_num, by omega, rfl, by omega, by omega, HMN, by omega, by omega, HRC, hS.sub (by first | simp | ((repeat (first | exact List.nil_sublist _ | exact List.Sublist.refl _ | with_reducible apply List.Sublist.cons₂ | apply List.Sublist.cons))))⟩
                case measure => simp [intOf]; omega
              · go_roundw
                case rel =>
                  have h5 := hS.sub (M := [.row 47 7 A2 N2 c2 (cellsC M2), .blk g9 [.slice A2 N2 c2] 22, .blk wb.heap.size [.slice Ac1 nc1 cc1, .slice Ag1 ng1 cg1] 29]) (by first | simp | ((repeat (first | exact List.nil_sublist _ | exact List.Sublist.refl _ | with_reducible apply List.Sublist.cons₂ | apply List.Sublist.cons))))
                  exact ⟨k + 1, v, A2, c2, N2, M2, [.row 47 7 A2 N2 c2 (cellsC M2)], by go_num, by omega, rfl, by omega, by omega, HN2, by omega, by omega, Lib.hid (fun W h => h.rc 0 rfl), h5.perm (List.perm_append_comm (l₁ := [_, _]) (l₂ := [_]))⟩
                case measure => simp [intOf]; omega
            have b1 : (x.what == 1) = false := by simp [w1]
            clear w1
            by_cases w2 : x.what = 2
            · have b2 : (x.what == 2) = true := by simp [w2]
              clear w2
              have HRe := Lib.hid (fun (W : World) (hx : Ext wb W) (h : RC W A' M) => chg_ren x.name x.tgt HMN.out hN1 (by omega) h (HK.out.ext (HX.out.trans hx)) (cap := cap'))
              ((try clear hF); (first | have hF := And.intro hS.facts (hR.at hS.ext) | have hF := hS.facts); simp only [HFacts, cellFacts, RFacts, cellOnly, and_true, true_and, Nat.zero_add, Nat.reduceAdd] at hF)
              go_wp2_with (first | ((with_reducible first | refine nhLa ?_ | refine nhLs ?_ | refine nhLd ?_ | refine nhCa ?_ | refine nhCs ?_ | refine nhCd ?_ | refine nhPa ?_ | refine nhPs ?_ | refine nhPd ?_ | refine nhKa ?_ | refine nhKs ?_ | refine nhKd ?_); ((try clear hF); clear hS; intro wk hS; (try simp only [List.set_cons_zero, List.set_cons_succ, heap_size, heap_set_size] at hS); ((try clear hF); (first | have hF := And.intro hS.facts (hR.at hS.ext) | have hF := hS.facts); simp only [HFacts, cellFacts, RFacts, cellOnly, and_true, true_and, Nat.zero_add, Nat.reduceAdd] at hF))) | (go_at_call 6; (with_reducible refine (HCB3.out _ _ _ (hS.blkAt 0 rfl)).mono ?_); rintro e wk ⟨rfl, hX⟩; replace hS := hS.step hX; clear hX; ((try clear hF); (first | have hF := And.intro hS.facts (hR.at hS.ext) | have hF := hS.facts); simp only [HFacts, cellFacts, RFacts, cellOnly, and_true, true_and, Nat.zero_add, Nat.reduceAdd] at hF)) | (go_at_call 18; (with_reducible refine Calls.mono (HRe.out _ hS.ext (HRC.out _ (hS.sub (by first | simp | ((repeat (first | exact List.nil_sublist _ | exact List.Sublist.refl _ | with_reducible apply List.Sublist.cons₂ | apply List.Sublist.cons))))))) ?_); rintro e wk (⟨er, rfl, hW⟩ | ⟨A2, c2, N2, M2, rfl, HN2, hn1, hn2, hW⟩) <;> (replace hS := hS.join hW; clear hW; simp only [List.cons_append, List.nil_append] at hS; ((try clear hF); (first | have hF := And.intro hS.facts (hR.at hS.ext) | have hF := hS.facts); simp only [HFacts, cellFacts, RFacts, cellOnly, and_true, true_and, Nat.zero_add, Nat.reduceAdd] at hF))))
              · go_roundw
                case rel => exact ⟨k + 1, v, A', cap', N, M, K, by go_num, by omega, rfl, by omega, by omega, HMN, by omega, by omega, HRC, hS.sub (by first | simp | ((repeat (first | exact List.nil_sublist _ | exact List.Sublist.refl _ | with_reducible apply List.Sublist.cons₂ | apply List.Sublist.cons))))⟩
                case measure => simp [intOf]; omega
              · go_roundw
                case rel =>
                  have h5 := hS.sub (M := [.row 47 7 A2 N2 c2 (cellsC M2), .blk g9 [.slice A2 N2 c2] 22, .blk wb.heap.size [.slice Ac1 nc1 cc1, .slice Ag1 ng1 cg1] 29]) (by first | simp | ((repeat (first | exact List.nil_sublist _ | exact List.Sublist.refl _ | with_reducible apply List.Sublist.cons₂ | apply List.Sublist.cons))))
                  exact ⟨k + 1, v, A2, c2, N2, M2, [.row 47 7 A2 N2 c2 (cellsC M2)], by go_num, by omega, rfl, by omega, by omega, HN2, by omega, by omega, Lib.hid (fun W h => h.rc 0 rfl), h5.perm (List.perm_append_comm (l₁ := [_, _]) (l₂ := [_]))⟩
                case measure => simp [intOf]; omega
            have b2 : (x.what == 2) = false := by simp [w2]
            clear w2
            ((try clear hF); (first | have hF := And.intro hS.facts (hR.at hS.ext) | have hF := hS.facts); simp only [HFacts, cellFacts, RFacts, cellOnly, and_true, true_and, Nat.zero_add, Nat.reduceAdd] at hF)
            go_wp2_with (first | ((with_reducible first | refine nhLa ?_ | refine nhLs ?_ | refine nhLd ?_ | refine nhCa ?_ | refine nhCs ?_ | refine nhCd ?_ | refine nhPa ?_ | refine nhPs ?_ | refine nhPd ?_ | refine nhKa ?_ | refine nhKs ?_ | refine nhKd ?_); ((try clear hF); clear hS; intro wk hS; (try simp only [List.set_cons_zero, List.set_cons_succ, heap_size, heap_set_size] at hS); ((try clear hF); (first | have hF := And.intro hS.facts (hR.at hS.ext) | have hF := hS.facts); simp only [HFacts, cellFacts, RFacts, cellOnly, and_true, true_and, Nat.zero_add, Nat.reduceAdd] at hF))) | (go_at_call 6; (with_reducible refine (HCB3.out _ _ _ (hS.blkAt 0 rfl)).mono ?_); rintro e wk ⟨rfl, hX⟩; replace hS := hS.step hX; clear hX; ((try clear hF); (first | have hF := And.intro hS.facts (hR.at hS.ext) | have hF := hS.facts); simp only [HFacts, cellFacts, RFacts, cellOnly, and_true, true_and, Nat.zero_add, Nat.reduceAdd] at hF)))
            go_roundw
            case rel => exact ⟨k + 1, v, A', cap', N, M, K, by go_num, by omega, rfl, by omega, by omega, HMN, by omega, by omega, HRC, hS.sub (by first | simp | ((repeat (first | exact List.nil_sublist _ | exact List.Sublist.refl _ | with_reducible apply List.Sublist.cons₂ | apply List.Sublist.cons))))⟩
            case measure => simp [intOf]; omega
--A>
        · obtain rfl : q = k := by omega
          clear hlt hk
          ((try clear hF); (first | have hF := And.intro hS.facts (hR.at hS.ext) | have hF := hS.facts); simp only [HFacts, cellFacts, RFacts, cellOnly, and_true, true_and, Nat.zero_add, Nat.reduceAdd] at hF)
          go_wp2_with (first | ((with_reducible first | refine nhLa ?_ | refine nhLs ?_ | refine nhLd ?_ | refine nhCa ?_ | refine nhCs ?_ | refine nhCd ?_ | refine nhPa ?_ | refine nhPs ?_ | refine nhPd ?_ | refine nhKa ?_ | refine nhKs ?_ | refine nhKd ?_); ((try clear hF); clear hS; intro wk hS; (try simp only [List.set_cons_zero, List.set_cons_succ, heap_size, heap_set_size] at hS); ((try clear hF); (first | have hF := And.intro hS.facts (hR.at hS.ext) | have hF := hS.facts); simp only [HFacts, cellFacts, RFacts, cellOnly, and_true, true_and, Nat.zero_add, Nat.reduceAdd] at hF))) | (go_at_call 13; (with_reducible refine Calls.mono (HA.out _ _ M N A' cap' HMN.out (by omega) (F1.out.ext hS.ext) (HRC.out _ (hS.sub (by first | simp | ((repeat (first | exact List.nil_sublist _ | exact List.Sublist.refl _ | with_reducible apply List.Sublist.cons₂ | apply List.Sublist.cons))))))) ?_); rintro e wk ⟨Ax, cx, rfl, hX, X1⟩; have CM := Lib.hid ((HRC.out _ (hS.sub (by first | simp | ((repeat (first | exact List.nil_sublist _ | exact List.Sublist.refl _ | with_reducible apply List.Sublist.cons₂ | apply List.Sublist.cons)))))).ext hX); have C9 := Lib.hid (hX.keeps hS.facts.1.1.1); have hX2 := hS.ext.trans hX; replace hS := hS.step hX; clear hX; have hRn := Reads.blk (hS.blkAt 0 rfl) (Reads.nil wk); replace HX := Lib.hid (HX.out.trans hX2); skip; clear hX2 hS hR; (try clear hF); have hS := Hp.init wk; have hR := hRn; clear hRn; ((try clear hF); (first | have hF := And.intro hS.facts (hR.at hS.ext) | have hF := hS.facts); simp only [HFacts, cellFacts, RFacts, cellOnly, and_true, true_and, Nat.zero_add, Nat.reduceAdd] at hF)))
          obtain ⟨w2, hw2⟩ := hS.wbase
          subst hw2
          clear hF HRC HA F1 HI HH
          go_loopw [19] (fun i wr => ∃ k : Nat, i = .int .i64 k ∧ k ≤ m ∧ Hp w2.heap.size w2 wr []) (fun i _ => m - (intOf i).toNat)
          case atStart => exact ⟨0, rfl, Nat.zero_le _, hS⟩
          case round =>
            clear hS
            obtain ⟨i, rfl, hi, hS⟩ := hrel
            by_cases hlt : i < m
            · obtain ⟨r, hr'⟩ : ∃ x, rs[i]? = some x := ⟨rs[i]'(by rw [Hm.out]; exact hlt), List.getElem?_eq_getElem _⟩
              have hrl := HL.out r (List.mem_of_getElem? hr')
              obtain ⟨b3, o3, A5, c5, rfl, r0, X5⟩ := X1.out i (rowNow cs M r) (by rw [List.getElem?_map, hr']; rfl)
              have hrn : (rowNow cs M r).length = N := by unfold rowNow; rw [List.length_map, HMN.out]
              rw [hrn] at r0
              obtain ⟨b4, o4, A6, c6, hA6, r1, X6⟩ := (HR.out.ext HX.out) i r hr'
              obtain ⟨rfl, rfl⟩ : bR = b4 ∧ oR = o4 := by simpa using hA6
              rw [hrl] at r1
              clear hA6 hr'
              have X5 := Lib.hid X5
              have X6 := Lib.hid X6
              have R0 := Lib.hid (Reads.cell r0 (Reads.cell r1 hR))
              clear r0 r1 hR
              have hR := R0.out
              ((try clear hF); (first | have hF := And.intro hS.facts (hR.at hS.ext) | have hF := hS.facts); simp only [HFacts, cellFacts, RFacts, cellOnly, and_true, true_and, Nat.zero_add, Nat.reduceAdd] at hF)
              go_wp2_with (first | ((with_reducible first | refine nhLa ?_ | refine nhLs ?_ | refine nhLd ?_ | refine nhCa ?_ | refine nhCs ?_ | refine nhCd ?_ | refine nhPa ?_ | refine nhPs ?_ | refine nhPd ?_ | refine nhKa ?_ | refine nhKs ?_ | refine nhKd ?_); ((try clear hF); clear hS; intro wk hS; (try simp only [List.set_cons_zero, List.set_cons_succ, heap_size, heap_set_size] at hS); ((try clear hF); (first | have hF := And.intro hS.facts (hR.at hS.ext) | have hF := hS.facts); simp only [HFacts, cellFacts, RFacts, cellOnly, and_true, true_and, Nat.zero_add, Nat.reduceAdd] at hF))) | fail)
              go_loopw [20] (fun p wr => ∃ (g j : Nat), p = .pointer (some ⟨g, 0, none⟩) ∧ j ≤ N ∧ Hp w2.heap.size w2 wr [.blk g [.int .i64 j] 3]) (fun p wr => N - (intOf ((wr.cell? (addrOf p)).getD undef)).toNat)
              case atStart => exact ⟨_, 0, rfl, Nat.zero_le _, hS⟩
              case round =>
                clear hS
                obtain ⟨g, j, rfl, hj, hS⟩ := hrel
                have HMW := Lib.hid (show _ = some (Value.int .i64 j) from hS.facts.1.1.1)
                by_cases hjt : j < N
                · obtain ⟨c, hc'⟩ : ∃ x, M[j]? = some x := ⟨M[j]'(by rw [HMN.out]; exact hjt), List.getElem?_eq_getElem _⟩
                  obtain ⟨b1, o1, rfl, m0, m1, m2, m3, m4, m5, m6⟩ := CM.out j c hc'
                  have hrw : (rowNow cs M r)[j]? = some (if idxC (idEq c) 0 cs < 0 then c.d else r.getD (idxC (idEq c) 0 cs).toNat gv00) := by
                    unfold rowNow
                    rw [List.getElem?_map, hc']
                    rfl
                  obtain ⟨b5, o5, rfl, v0, v1, v2⟩ := X5.out j _ hrw
                  have HIX := Lib.hid (fun (W : World) (gk : Nat) (hx : Ext w2 W) (h : W.cell? ⟨gk, 0, none⟩ = some (.int .i64 j)) (h9 : W.cell? ⟨g9, 0, none⟩ = some (.slice (some ⟨b1, o1, none⟩) N cap')) => show Calls Tryz.prog 19 #[.slice (some ⟨bA, oA, none⟩) n cap, .func (.func 20) #[] #[.pointer (some ⟨g9, 0, none⟩), .pointer (some ⟨gk, 0, none⟩)]] W (fun e w' => e = .returned (.int .i64 (idxC (idEq c) 0 cs)) ∧ Ext W w') from by
                    have := cindexFunc_any cs (some ⟨bA, oA, none⟩) cap 20 #[.pointer (some ⟨g9, 0, none⟩), .pointer (some ⟨gk, 0, none⟩)] (idEq c) W (HC.out.ext (HX.out.trans hx)) (by rw [Hn.out]; omega) eg_older1 (fun W' hx' d => older1_any c d g9 gk b1 o1 N cap' j hjt W' (hx'.keeps h9) (hx'.keeps h) ((hx.trans hx').keeps m0))
                    rw [Hn.out] at this
                    exact this)
                  clear hR hc'
                  have hR := Reads.cell m0 (Reads.cell m1 (Reads.cell m2 (Reads.cell m3 (Reads.cell m4 (Reads.cell m5 (Reads.cell m6 R0.out))))))
                  clear m0 m1 m2 m3 m4 m5 m6
                  have hix := idxC_range (idEq c) cs 0
                  obtain ⟨ix, hixe⟩ : ∃ x, x = idxC (idEq c) 0 cs := ⟨_, rfl⟩
                  rw [← hixe] at HIX v0 v1 v2 hix
                  clear hrw hixe
                  by_cases hneg : ix < 0
                  · rw [if_pos hneg] at v0 v1 v2
                    replace hR := Reads.cell v0 (Reads.cell v1 (Reads.cell v2 hR))
                    have hnn : ¬ 0 ≤ ix := by omega
                    clear v0 v1 v2 hneg hix
                    ((try clear hF); (first | have hF := And.intro hS.facts (hR.at hS.ext) | have hF := hS.facts); simp only [HFacts, cellFacts, RFacts, cellOnly, and_true, true_and, Nat.zero_add, Nat.reduceAdd] at hF)
                    go_wp2_with (first | ((with_reducible first | refine nhLa ?_ | refine nhLs ?_ | refine nhLd ?_ | refine nhCa ?_ | refine nhCs ?_ | refine nhCd ?_ | refine nhPa ?_ | refine nhPs ?_ | refine nhPd ?_ | refine nhKa ?_ | refine nhKs ?_ | refine nhKd ?_); ((try clear hF); clear hS; intro wk hS; (try simp only [List.set_cons_zero, List.set_cons_succ, heap_size, heap_set_size] at hS); ((try clear hF); (first | have hF := And.intro hS.facts (hR.at hS.ext) | have hF := hS.facts); simp only [HFacts, cellFacts, RFacts, cellOnly, and_true, true_and, Nat.zero_add, Nat.reduceAdd] at hF))) | (go_at_call 19; (with_reducible refine (HIX.out _ _ hS.ext hF.1.1 (hS.ext.keeps C9.out)).mono ?_); rintro e wk ⟨rfl, hX⟩; replace hS := hS.step hX; clear hX; ((try clear hF); (first | have hF := And.intro hS.facts (hR.at hS.ext) | have hF := hS.facts); simp only [HFacts, cellFacts, RFacts, cellOnly, and_true, true_and, Nat.zero_add, Nat.reduceAdd] at hF)) | (first | (with_reducible refine wp_region_hp (draw := true) (by kernel_rfl) (by kernel_rfl) hS ?_) | ((with_reducible refine Fixed.here ?_); (first | ((with_reducible apply Fixed.skip); (first | rfl | exact wanted_false rfl rfl rfl (by assumption)); try simp only [Act.put, List.setIfInBounds_toArray, List.set_cons_zero, List.set_cons_succ]) | ((with_reducible apply Fixed.val); (first | rfl | exact wanted_true rfl rfl rfl (by assumption)); (rintro w hS; ((try clear hF); (first | have hF := And.intro hS.facts (hR.at hS.ext) | have hF := hS.facts); simp only [HFacts, cellFacts, RFacts, cellOnly, and_true, true_and, Nat.zero_add, Nat.reduceAdd] at hF); go_simp; with_reducible rfl); try simp only [Act.put, List.setIfInBounds_toArray, List.set_cons_zero, List.set_cons_succ]) | ((with_reducible apply Fixed.guardT); rfl; rfl; rfl; (all_goals intro hg)) | ((with_reducible apply Fixed.guardF); rfl; rfl; rfl; (all_goals intro hg)) | (with_reducible refine Fixed.done ?_; (try clear hF); clear hS; intro wk hS; ((try clear hF); (first | have hF := And.intro hS.facts (hR.at hS.ext) | have hF := hS.facts); simp only [HFacts, cellFacts, RFacts, cellOnly, and_true, true_and, Nat.zero_add, Nat.reduceAdd] at hF))))))
                    have hS2 := hS.put (i := 0) (j := 0) (u := .int .i64 ((j : Int) + 1)) rfl
                    simp only [List.set_cons_zero] at hS2
                    have c1 := hS2.facts.1.1.1
                    have c0 := HMW.out
                    go_roundw
                    case rel => exact ⟨_, j + 1, rfl, by omega, by have := hS2.drop2; simpa using this⟩
                    case measure =>
                      simp only [addrOf, c1, c0, Option.getD_some, intOf]
                      omega
                  · rw [if_neg hneg] at v0 v1 v2
                    obtain ⟨jj, rfl⟩ := Int.eq_ofNat_of_zero_le (show 0 ≤ ix by omega)
                    have hjn : jj < n := by have := hix.2; rw [Hn.out] at this; omega
                    obtain ⟨x, hx'⟩ : ∃ x, r[jj]? = some x := ⟨r[jj]'(by rw [hrl]; exact hjn), List.getElem?_eq_getElem _⟩
                    have hxe : r.getD (jj : Int).toNat gv00 = x := by rw [Int.toNat_natCast, List.getD_eq_getElem?_getD, hx']; rfl
                    rw [hxe] at v0 v1 v2
                    obtain ⟨b6, o6, rfl, x0, x1, x2⟩ := X6.out jj x hx'
                    replace hR := Reads.cell v0 (Reads.cell v1 (Reads.cell v2 (Reads.cell x0 (Reads.cell x1 (Reads.cell x2 hR)))))
                    have hnn : (0 : Int) ≤ (jj : Int) := by omega
                    clear v0 v1 v2 hneg hix x0 x1 x2 hxe hx'
                    ((try clear hF); (first | have hF := And.intro hS.facts (hR.at hS.ext) | have hF := hS.facts); simp only [HFacts, cellFacts, RFacts, cellOnly, and_true, true_and, Nat.zero_add, Nat.reduceAdd] at hF)
                    go_wp2_with (first | ((with_reducible first | refine nhLa ?_ | refine nhLs ?_ | refine nhLd ?_ | refine nhCa ?_ | refine nhCs ?_ | refine nhCd ?_ | refine nhPa ?_ | refine nhPs ?_ | refine nhPd ?_ | refine nhKa ?_ | refine nhKs ?_ | refine nhKd ?_); ((try clear hF); clear hS; intro wk hS; (try simp only [List.set_cons_zero, List.set_cons_succ, heap_size, heap_set_size] at hS); ((try clear hF); (first | have hF := And.intro hS.facts (hR.at hS.ext) | have hF := hS.facts); simp only [HFacts, cellFacts, RFacts, cellOnly, and_true, true_and, Nat.zero_add, Nat.reduceAdd] at hF))) | (go_at_call 19; (with_reducible refine (HIX.out _ _ hS.ext hF.1.1 (hS.ext.keeps C9.out)).mono ?_); rintro e wk ⟨rfl, hX⟩; replace hS := hS.step hX; clear hX; ((try clear hF); (first | have hF := And.intro hS.facts (hR.at hS.ext) | have hF := hS.facts); simp only [HFacts, cellFacts, RFacts, cellOnly, and_true, true_and, Nat.zero_add, Nat.reduceAdd] at hF)) | (first | (with_reducible refine wp_region_hp (draw := true) (by kernel_rfl) (by kernel_rfl) hS ?_) | ((with_reducible refine Fixed.here ?_); (first | ((with_reducible apply Fixed.skip); (first | rfl | exact wanted_false rfl rfl rfl (by assumption)); try simp only [Act.put, List.setIfInBounds_toArray, List.set_cons_zero, List.set_cons_succ]) | ((with_reducible apply Fixed.val); (first | rfl | exact wanted_true rfl rfl rfl (by assumption)); (rintro w hS; ((try clear hF); (first | have hF := And.intro hS.facts (hR.at hS.ext) | have hF := hS.facts); simp only [HFacts, cellFacts, RFacts, cellOnly, and_true, true_and, Nat.zero_add, Nat.reduceAdd] at hF); go_simp; with_reducible rfl); try simp only [Act.put, List.setIfInBounds_toArray, List.set_cons_zero, List.set_cons_succ]) | ((with_reducible apply Fixed.guardT); rfl; rfl; rfl; (all_goals intro hg)) | ((with_reducible apply Fixed.guardF); rfl; rfl; rfl; (all_goals intro hg)) | (with_reducible refine Fixed.done ?_; (try clear hF); clear hS; intro wk hS; ((try clear hF); (first | have hF := And.intro hS.facts (hR.at hS.ext) | have hF := hS.facts); simp only [HFacts, cellFacts, RFacts, cellOnly, and_true, true_and, Nat.zero_add, Nat.reduceAdd] at hF))))))
                    have hS2 := hS.put (i := 0) (j := 0) (u := .int .i64 ((j : Int) + 1)) rfl
                    simp only [List.set_cons_zero] at hS2
                    have c1 := hS2.facts.1.1.1
                    have c0 := HMW.out
                    go_roundw
                    case rel => exact ⟨_, j + 1, rfl, by omega, by have := hS2.drop2; simpa using this⟩
                    case measure =>
                      simp only [addrOf, c1, c0, Option.getD_some, intOf]
                      omega
                · obtain rfl : N = j := by omega
                  clear hjt hj HMW
                  ((try clear hF); (first | have hF := And.intro hS.facts (hR.at hS.ext) | have hF := hS.facts); simp only [HFacts, cellFacts, RFacts, cellOnly, and_true, true_and, Nat.zero_add, Nat.reduceAdd] at hF)
                  go_wp2_with (first | ((with_reducible first | refine nhLa ?_ | refine nhLs ?_ | refine nhLd ?_ | refine nhCa ?_ | refine nhCs ?_ | refine nhCd ?_ | refine nhPa ?_ | refine nhPs ?_ | refine nhPd ?_ | refine nhKa ?_ | refine nhKs ?_ | refine nhKd ?_); ((try clear hF); clear hS; intro wk hS; (try simp only [List.set_cons_zero, List.set_cons_succ, heap_size, heap_set_size] at hS); ((try clear hF); (first | have hF := And.intro hS.facts (hR.at hS.ext) | have hF := hS.facts); simp only [HFacts, cellFacts, RFacts, cellOnly, and_true, true_and, Nat.zero_add, Nat.reduceAdd] at hF))) | fail)
                  go_roundw
                  case rel => exact ⟨i + 1, by go_num, by omega, hS.sub (by simp)⟩
                  case measure => simp [intOf]; omega
            · obtain rfl : m = i := by omega
              clear hlt hi
              ((try clear hF); (first | have hF := And.intro hS.facts (hR.at hS.ext) | have hF := hS.facts); simp only [HFacts, cellFacts, RFacts, cellOnly, and_true, true_and, Nat.zero_add, Nat.reduceAdd] at hF)
              go_wp2_with (first | ((with_reducible first | refine nhLa ?_ | refine nhLs ?_ | refine nhLd ?_ | refine nhCa ?_ | refine nhCs ?_ | refine nhCd ?_ | refine nhPa ?_ | refine nhPs ?_ | refine nhPd ?_ | refine nhKa ?_ | refine nhKs ?_ | refine nhKd ?_); ((try clear hF); clear hS; intro wk hS; (try simp only [List.set_cons_zero, List.set_cons_succ, heap_size, heap_set_size] at hS); ((try clear hF); (first | have hF := And.intro hS.facts (hR.at hS.ext) | have hF := hS.facts); simp only [HFacts, cellFacts, RFacts, cellOnly, and_true, true_and, Nat.zero_add, Nat.reduceAdd] at hF))) | fail)
              go_ret
              exact ⟨rfl, HX.out.trans hS.ext⟩
end Go.Proofs.YtcpllhjhnfmepaaGreatDoor
