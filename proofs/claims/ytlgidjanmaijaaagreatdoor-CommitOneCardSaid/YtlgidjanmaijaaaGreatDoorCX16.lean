/- millpondkeep.CommitOne: the walk. -/
import Derived.Test.YtlgidjanmaijaaaGreatDoorCX15
import Derived.Deep.CutBlock
import Derived.Lib.SlBytesRow
namespace Go.Proofs.YtlgidjanmaijaaaGreatDoor
set_option linter.unusedSimpArgs false
set_option linter.unusedVariables false
open Go.RowKit
set_option linter.all false
theorem conv_one {w : World} {g k : Nat} (hk : k ≤ 30) (hc : w.cell? ⟨g, 0, none⟩ = some (.int .u8 (97 + (k : Int)))) : ∃ L : ByteArray, L.size = 1 ∧ (convert 47 9 (.slice (some ⟨g, 0, none⟩) 1 1)).run Tryz.prog w = .ok (.string L) w := by
  refine ⟨⟨#[UInt8.ofNat (97 + k)]⟩, rfl, ?_⟩
  refine Lib.run_convert_whole (P := Tryz.prog) w 47 5 9 Tryz.underlying47 Tryz.underlying5 Tryz.underlying9 g 0 ⟨#[UInt8.ofNat (97 + k)]⟩ (fun i hi => ?_) 1
  obtain rfl : i = 0 := by
    have : (⟨#[UInt8.ofNat (97 + k)]⟩ : ByteArray).size = 1 := rfl
    omega
  rw [Nat.add_zero, hc]
  have e : ((⟨#[UInt8.ofNat (97 + k)]⟩ : ByteArray)[0]).toNat = 97 + k := by
    show (UInt8.ofNat (97 + k)).toNat = 97 + k
    rw [UInt8.toNat_ofNat', Nat.mod_eq_of_lt (by omega)]
  rw [e]
  push_cast
  rfl
set_option maxRecDepth 100000 in
set_option maxHeartbeats 16000000 in
theorem one_any (l : List TU) (A : Option Addr) (n cap : Nat) (F : List Int) (A2 : Option Addr) (n2 cap2 : Nat) (hn : l.length = n) (hn2 : F.length = n2) (h02 : A2 = none → cap2 = 0) (w : World) (hr : RT w A l) (hr2 : RI w A2 F) (hci : ∀ x ∈ l, CmI x.c) (hT : TabsC w) :
    Calls Tryz.prog 3 #[.slice A n cap, .slice A2 n2 cap2] w fun e w' => e = .returned (.bool true) ∧ Ext w w' := by
  have Hn := Lib.hid hn
  have Hn2 := Lib.hid hn2
  have HT := Lib.hid hT
  have HCI := Lib.hid hci
  clear hn hn2 hT hci
  have hS := Hp.init w
  have hR := Reads.nil w
  by_cases h30 : 30 < n
  · go_enter Tryz.func3, Tryz.ntmps3
    go_wp2_with (first | (refine hab ?_; (try clear hF); clear hS; intro wk hS; (try simp only [List.set_cons_zero, List.set_cons_succ, heap_size, heap_set_size] at hS); ((try clear hF); refine hfI ?_; intro hF)) | fail)
    go_ret
    exact ⟨rfl, hS.ext⟩
  by_cases h40 : 40 < n2
  · go_enter Tryz.func3, Tryz.ntmps3
    go_wp2_with (first | (refine hab ?_; (try clear hF); clear hS; intro wk hS; (try simp only [List.set_cons_zero, List.set_cons_succ, heap_size, heap_set_size] at hS); ((try clear hF); refine hfI ?_; intro hF)) | fail)
    go_ret
    exact ⟨rfl, hS.ext⟩
  have d30 : decide (30 < (n : Int)) = false := by simp; omega
  have d40 : decide (40 < (n2 : Int)) = false := by simp; omega
  have HCF := Lib.hid (fun (W : World) (hx : Ext w W) => committed_any W (HT.out.ext hx))
  go_enter Tryz.func3, Tryz.ntmps3
  go_wp2_with (first | (refine hab ?_; (try clear hF); clear hS; intro wk hS; (try simp only [List.set_cons_zero, List.set_cons_succ, heap_size, heap_set_size] at hS); ((try clear hF); refine hfI ?_; intro hF)) | (go_at_call 4; (with_reducible refine (HCF.out _ hS.ext).mono ?_); rintro e wk ⟨rfl, hX⟩; replace hS := hS.step hX; clear hX; ((try clear hF); refine hfI ?_; intro hF)))
  obtain ⟨gb, hgb⟩ := hS.nameAt 0 rfl
  rw [← hgb] at hS hF ⊢
  clear hgb
  obtain ⟨I, hB, hS⟩ := bkt_new hS
  (with_reducible refine Calls.mono (bfaults_any F A2 n2 cap2 Hn2.out h02 (hr2.ext hS.ext) (by omega) hB hS) ?_)
  clear hS hB
  rintro e wk ⟨rfl, I, hB, hS⟩
  simp only [List.nil_append] at hS
  clear hF hr2 h02
  go_wp2_with (first | (refine hab ?_; (try clear hF); clear hS; intro wk hS; (try simp only [List.set_cons_zero, List.set_cons_succ, heap_size, heap_set_size] at hS); ((try clear hF); refine hfI ?_; intro hF)) | fail)
  obtain ⟨g6, hg6⟩ := hS.nameAt 0 rfl
  rw [← hg6] at hS hF ⊢
  clear hg6
  have ini : Hp w.heap.size w _ (.blk g6 (snC3 s0N v0N s0N v0N s0N v0N) 34 :: .row 33 4 none 0 0 (cellsSn []) :: ([] ++ I)) := (hS.nilRow 33 4).perm (List.Perm.swap _ _ _)
  have HO0 := Lib.hid (One.start (w := w) hB)
  clear hS hB d30 d40 HCF
  go_loopw [7, 8, 9, 10, 11, 12, 13, 14, 15, 16, 17, 18, 19, 20, 21, 22, 23] (fun s7 s8 _ _ _ _ _ _ _ _ _ _ _ _ _ _ _ wr => ∃ (k m cS : Nat) (AS : Option Addr) (K I : List Item) (S : List (SN × SV)) (z0 : SN) (y0 : SV) (z1 : SN) (y1 : SV) (z2 : SN) (y2 : SV) (D : DataW Unit) (F : List Int) (cs : List CO) (ss : List SN), s8 = .int .i64 k ∧ k ≤ n ∧ s7 = .slice AS m cS ∧ m ≤ k ∧ Hid (S.length = m) ∧ Hid (One w gb k K I S z0 y0 z1 y1 z2 y2 D F cs ss) ∧ Hp w.heap.size w wr (.blk g6 (snC3 z0 y0 z1 y1 z2 y2) 34 :: .row 33 4 AS m cS (cellsSn S) :: (K ++ I))) (fun _ i _ _ _ _ _ _ _ _ _ _ _ _ _ _ _ _ => n - (intOf i).toNat)
  case atStart => exact ⟨0, 0, 0, none, [], I, [], _, _, _, _, _, _, _, _, _, _, rfl, Nat.zero_le _, rfl, Nat.le_refl _, Lib.hid rfl, HO0, ini⟩
  case round =>
    clear ini HO0
    obtain ⟨k, m, cS, AS, K, I, S, z0, y0, z1, y1, z2, y2, D, F, cs, ss, rfl, hk, rfl, hm, HSL, HO, hS⟩ := hrel
    by_cases hlt : k < n
    · obtain ⟨x, hx⟩ : ∃ x, l[k]? = some x := ⟨l[k]'(by rw [Hn.out]; exact hlt), List.getElem?_eq_getElem _⟩
      obtain ⟨b1, o1, rfl, c0, c1, c2, c3, c4, hcm⟩ := hr k x hx
      have HJ := Lib.hid (show CmJ x.c from HCI.out x (List.mem_of_getElem? hx))
      obtain ⟨se, who, tx, rd, acts, ca, cn, cc⟩ := x
      have hR := Reads.cell c0 (Reads.cell c1 (Reads.cell c2 (Reads.cell c3 (Reads.cell c4 (Reads.nil w)))))
      have HC := Lib.hid hcm
      have HSC := Lib.hid (fun (W : World) (hx : Ext w W) => show Calls Tryz.prog 6 #[.agg #[.string tx, .bool rd, .slice ca cn cc]] W fun e w' => e = .returned (.bool (shortCo tx (acts.map (·.1)))) ∧ Ext W w' from cm_short hcm W hx)
      have HPK := Lib.hid (fun (W : World) => pick_any who 3 W (by omega) (by omega))
      clear hx c0 c1 c2 c3 c4 hcm hr
      obtain ⟨sc, hsc⟩ : ∃ x, x = shortCo tx (acts.map (·.1)) := ⟨_, rfl⟩
      rw [← hsc] at HSC
      have Hsc := Lib.hid hsc.symm
      clear hsc
      cases sc with
      | false => as_aux_lemma =>
        ((try clear hF); refine hfI ?_; intro hF)
        go_wp2_with (first | (refine hab ?_; (try clear hF); clear hS; intro wk hS; (try simp only [List.set_cons_zero, List.set_cons_succ, heap_size, heap_set_size] at hS); ((try clear hF); refine hfI ?_; intro hF)) | (go_at_call 6; (with_reducible refine (HSC.out _ hS.ext).mono ?_); rintro e wk ⟨rfl, hX⟩; replace hS := hS.step hX; clear hX; ((try clear hF); refine hfI ?_; intro hF)))
        go_ret
        exact ⟨rfl, hS.ext⟩
      | true =>
      ((try clear hF); refine hfI ?_; intro hF)
      go_upto_region 16 with (first | (refine hab ?_; (try clear hF); clear hS; intro wk hS; (try simp only [List.set_cons_zero, List.set_cons_succ, heap_size, heap_set_size] at hS); ((try clear hF); refine hfI ?_; intro hF)) | (go_at_call 6; (with_reducible refine (HSC.out _ hS.ext).mono ?_); rintro e wk ⟨rfl, hX⟩; replace hS := hS.step hX; clear hX; ((try clear hF); refine hfI ?_; intro hF)) | (go_at_call 7; (with_reducible refine Calls.mono (HPK.out _) ?_); rintro e wk ⟨⟨mm, rfl, hm0, hm1⟩, hX⟩; replace hS := hS.step hX; clear hX; ((try clear hF); refine hfI ?_; intro hF)))
      obtain ⟨g9, hg9⟩ := hS.nameAt 0 rfl
      rw [← hg9] at hS hF ⊢
      clear hg9 HSC HPK
      have hmm : mm = 0 ∨ mm = 1 ∨ mm = 2 := by omega
      clear hm0 hm1
      cases se with
      | true =>
        obtain ⟨s, hs, hsv⟩ := HO.out.last
        have HLD := Lib.hid (fun (W : World) (a b d : Item) (h : Hp w.heap.size w W (a :: b :: d :: (K ++ I))) => load_3 (-1) cs.length (Nat.le_refl _) (.inl ⟨rfl, rfl⟩) s hs HO.out.log HO.out.bkt HT.out h)
        have HSE := Lib.hid hs
        clear hs hsv
        rcases hmm with rfl | rfl | rfl
        · as_aux_lemma =>
          ((try clear hF); refine hfI ?_; intro hF)
          go_wp2_with (first | (refine hab ?_; (try clear hF); clear hS; intro wk hS; (try simp only [List.set_cons_zero, List.set_cons_succ, heap_size, heap_set_size] at hS); ((try clear hF); refine hfI ?_; intro hF)) | (go_at_call 8; (with_reducible refine Calls.mono (HLD.out _ _ _ _ hS) ?_); clear hS; rintro e wk ⟨v, X, rfl, hTv, hS⟩; ((try clear hF); refine hfI ?_; intro hF)))
          go_roundw
          case rel => exact ⟨k + 1, m, cS, AS, X ++ K, I, S, s, v, z1, y1, z2, y2, D, F, cs, ss, by go_num, by omega, rfl, by omega, HSL, Lib.hid ((HO.out.grow fun W h => h.sub (List.sublist_append_right X K)).next.see0 ⟨⟨_, Nat.le_refl _, HSE.out⟩, hTv.out.more fun W h => h.sub (List.sublist_append_left X K)⟩), hS.tail.tail⟩
          case measure => simp [intOf]; omega
        · as_aux_lemma =>
          ((try clear hF); refine hfI ?_; intro hF)
          go_wp2_with (first | (refine hab ?_; (try clear hF); clear hS; intro wk hS; (try simp only [List.set_cons_zero, List.set_cons_succ, heap_size, heap_set_size] at hS); ((try clear hF); refine hfI ?_; intro hF)) | (go_at_call 8; (with_reducible refine Calls.mono (HLD.out _ _ _ _ hS) ?_); clear hS; rintro e wk ⟨v, X, rfl, hTv, hS⟩; ((try clear hF); refine hfI ?_; intro hF)))
          go_roundw
          case rel => exact ⟨k + 1, m, cS, AS, X ++ K, I, S, z0, y0, s, v, z2, y2, D, F, cs, ss, by go_num, by omega, rfl, by omega, HSL, Lib.hid ((HO.out.grow fun W h => h.sub (List.sublist_append_right X K)).next.see1 ⟨⟨_, Nat.le_refl _, HSE.out⟩, hTv.out.more fun W h => h.sub (List.sublist_append_left X K)⟩), hS.tail.tail⟩
          case measure => simp [intOf]; omega
        · as_aux_lemma =>
          ((try clear hF); refine hfI ?_; intro hF)
          go_wp2_with (first | (refine hab ?_; (try clear hF); clear hS; intro wk hS; (try simp only [List.set_cons_zero, List.set_cons_succ, heap_size, heap_set_size] at hS); ((try clear hF); refine hfI ?_; intro hF)) | (go_at_call 8; (with_reducible refine Calls.mono (HLD.out _ _ _ _ hS) ?_); clear hS; rintro e wk ⟨v, X, rfl, hTv, hS⟩; ((try clear hF); refine hfI ?_; intro hF)))
          go_roundw
          case rel => exact ⟨k + 1, m, cS, AS, X ++ K, I, S, z0, y0, z1, y1, s, v, D, F, cs, ss, by go_num, by omega, rfl, by omega, HSL, Lib.hid ((HO.out.grow fun W h => h.sub (List.sublist_append_right X K)).next.see2 ⟨⟨_, Nat.le_refl _, HSE.out⟩, hTv.out.more fun W h => h.sub (List.sublist_append_left X K)⟩), hS.tail.tail⟩
          case measure => simp [intOf]; omega
      | false =>
        have hk30 : k ≤ 30 := by omega
        have hw1 : IntKind.i64.wrap (97 + (k : Int)) = 97 + (k : Int) := IntWalk.i64_in _ (by omega)
        ((try clear hF); refine hfI ?_; intro hF)
        go_upto_region 22 with (first | (refine hab ?_; (try clear hF); clear hS; intro wk hS; (try simp only [List.set_cons_zero, List.set_cons_succ, heap_size, heap_set_size] at hS); ((try clear hF); refine hfI ?_; intro hF)) | fail)
        obtain ⟨gy, hgy⟩ := hS.nameAt 0 rfl
        rw [← hgy] at hS hF ⊢
        clear hgy
        obtain ⟨L, hLz, hcv⟩ := conv_one (w := wk) (g := gy) (k := k) (by omega) hF.1.1.1
        have hz2 : ((⟨#[116]⟩ : ByteArray) ++ L).size ≤ 10 := by rw [ByteArray.size_append, hLz]; decide
        rw [hcv]
        clear hcv
        go_upto_region 22 with (first | (refine hab ?_; (try clear hF); clear hS; intro wk hS; (try simp only [List.set_cons_zero, List.set_cons_succ, heap_size, heap_set_size] at hS); ((try clear hF); refine hfI ?_; intro hF)) | fail)
        replace hS := hS.tail
        obtain ⟨T, hTe⟩ : ∃ T, T = (⟨#[116]⟩ : ByteArray) ++ L := ⟨_, rfl⟩
        rw [← hTe] at hS hz2
        have hsh : shortCo T (acts.map (·.1)) = true := by
          have := Hsc.out
          unfold shortCo at this ⊢
          simp only [Bool.and_eq_true, decide_eq_true_eq] at this ⊢
          exact ⟨⟨by omega, this.1.2⟩, this.2⟩
        have HSH := Lib.hid hsh
        have HCT := Lib.hid (show CmAt w ⟨T, rd, acts, ca, cn, cc⟩ from ⟨HC.out.len, HC.out.ra, HC.out.one⟩)
        have HJT := Lib.hid (show CmJ ⟨T, rd, acts, ca, cn, cc⟩ from HJ.out)
        clear hTe hLz hsh HC HJ Hsc
        have HTR := Lib.hid (fun (z : SN) (y : SV) (hz : SeenOk w K cs ss z y) (W : World) (a b d : Item) (h : Hp w.heap.size w W (a :: b :: d :: (K ++ I))) => try_out (c := ⟨T, rd, acts, ca, cn, cc⟩) hz (fun W h => HCT.out.ext h.ext) HSH.out HJT.out HO.out.log HO.out.bkt (by unfold maxLen; omega) HT.out h)
        go_cut [13, 14] (fun s13 s14 wx => ∃ (vv : Int) (er : Value) (X I' : List Item), s13 = .int .i64 vv ∧ s14 = er ∧ Hid (TryOut gb k D cs ss ⟨T, rd, acts.map (·.1)⟩ I' vv er) ∧ Hp w.heap.size w wx (.blk g9 [.bool false, .int .i64 who, .string T, .bool rd, .slice ca cn cc] 40 :: .blk g6 (snC3 z0 y0 z1 y1 z2 y2) 34 :: .row 33 4 AS m cS (cellsSn S) :: ((X ++ K) ++ I')))
        case first =>
          rcases hmm with rfl | rfl | rfl
          · as_aux_lemma =>
            ((try clear hF); refine hfI ?_; intro hF)
            ((with_reducible refine wp_region_braidz_hp [.q, .q, .q, .q, .q, .q, .t, .t, .t, .t, .t, .t] 6 [.blk g9 [.bool false, .int .i64 who, .string T, .bool rd, .slice ca cn cc] 40, .blk g6 (snC3 z0 y0 z1 y1 z2 y2) 34] (by kernel_rfl) rfl (by kernel_rfl) hS (fun w h => h.sub (by simp)) ?_); clear hS; (repeat ((with_reducible refine Walk.here ?_); (first | ((with_reducible apply Walk.skipQ); (first | rfl | exact wanted_false rfl rfl rfl (by assumption)); (try simp only [Mark.isQ, if_true, Bool.false_eq_true, if_false, Act.put, List.setIfInBounds_toArray, List.set_cons_zero, List.set_cons_succ])) | ((with_reducible apply Walk.val); (first | rfl | exact wanted_true rfl rfl rfl (by assumption)); (rintro w hS; ((try clear hF); refine hfI ?_; intro hF); go_simp; first | with_reducible rfl | (rw [if_neg (by first | omega | (simp only [ByteArray.size_append]; omega) | (simp [ByteArray.size_append]; omega))]; try with_reducible rfl)); (try simp only [Mark.isQ, if_true, Bool.false_eq_true, if_false, Act.put, List.setIfInBounds_toArray, List.set_cons_zero, List.set_cons_succ])) | ((with_reducible apply Walk.tail); (try simp only [Mark.isQ, if_true, Bool.false_eq_true, if_false, Act.put, List.setIfInBounds_toArray, List.set_cons_zero, List.set_cons_succ])) | ((with_reducible apply Walk.guardT); rfl; rfl; rfl; (all_goals intro hg)) | ((with_reducible apply Walk.guardF); rfl; rfl; rfl; (all_goals intro hg))))); refine Walk.done ?_; show BraidZ _ _ _ _ 6 6 [6, 7, 8, 9, 10, 11] _ _)
            (refine BraidZ.next1 (i := 6) (by kernel_rfl) (by kernel_rfl) rfl ?_; (try simp only [List.getElem_toArray, List.getElem_cons_succ, List.getElem_cons_zero]))
            (refine ZStep.call (by (first | rfl | exact wanted_true rfl rfl rfl (by assumption))) (by rintro w hS; ((try clear hF); refine hfI ?_; intro hF); go_simp; exact ⟨rfl, rfl⟩) ?_; (intro w hS); (with_reducible refine Calls.mono (HTR.out _ _ HO.out.s0 _ _ _ _ hS) ?_); clear hS; rintro e wk ⟨vv, er, X, I', rfl, hTO, hS⟩; refine ⟨_, _, rfl, hS, (fun w h => h.sub (by first | simp | ((try simp only [List.eraseIdx_cons_zero, List.eraseIdx_cons_succ]); (repeat (first | exact List.nil_sublist _ | exact List.Sublist.refl _ | with_reducible apply List.Sublist.cons₂ | apply List.Sublist.cons))))), ?_⟩; (clear hS); try simp only [Act.put, List.setIfInBounds_toArray, List.set_cons_zero, List.set_cons_succ])
            (refine BraidZ.next1 (i := 7) (by kernel_rfl) (by kernel_rfl) rfl ?_; (try simp only [List.getElem_toArray, List.getElem_cons_succ, List.getElem_cons_zero]))
            (refine ZStep.val (by (first | rfl | exact wanted_true rfl rfl rfl (by assumption))) (fun w h => h.sub (by first | simp | ((try simp only [List.eraseIdx_cons_zero, List.eraseIdx_cons_succ]); (repeat (first | exact List.nil_sublist _ | exact List.Sublist.refl _ | with_reducible apply List.Sublist.cons₂ | apply List.Sublist.cons))))) (by rintro w hS; ((try clear hF); refine hfI ?_; intro hF); go_simp; with_reducible rfl) ?_; try simp only [Act.put, List.setIfInBounds_toArray, List.set_cons_zero, List.set_cons_succ])
            (refine BraidZ.earlyN (i := 8) (by kernel_rfl) (by kernel_rfl) (by kernel_rfl) (by kernel_rfl) rfl (fun _ _ h hx => h.step hx) ?_; (try simp only [List.getElem_toArray, List.getElem_cons_succ, List.getElem_cons_zero]); refine EStep.val (by (first | rfl | exact wanted_true rfl rfl rfl (by assumption))) (fun w => by go_simp; with_reducible rfl) ?_; try simp only [Act.put, List.setIfInBounds_toArray, List.set_cons_zero, List.set_cons_succ])
            (refine BraidZ.earlyN (i := 9) (by kernel_rfl) (by kernel_rfl) (by kernel_rfl) (by kernel_rfl) rfl (fun _ _ h hx => h.step hx) ?_; (try simp only [List.getElem_toArray, List.getElem_cons_succ, List.getElem_cons_zero]); refine EStep.val (by (first | rfl | exact wanted_true rfl rfl rfl (by assumption))) (fun w => by go_simp; with_reducible rfl) ?_; try simp only [Act.put, List.setIfInBounds_toArray, List.set_cons_zero, List.set_cons_succ])
            (refine BraidZ.earlyN (i := 10) (by kernel_rfl) (by kernel_rfl) (by kernel_rfl) (by kernel_rfl) rfl (fun _ _ h hx => h.step hx) ?_; (try simp only [List.getElem_toArray, List.getElem_cons_succ, List.getElem_cons_zero]); refine EStep.val (by (first | rfl | exact wanted_true rfl rfl rfl (by assumption))) (fun w => by go_simp; with_reducible rfl) ?_; try simp only [Act.put, List.setIfInBounds_toArray, List.set_cons_zero, List.set_cons_succ])
            (refine BraidZ.next1 (i := 11) (by kernel_rfl) (by kernel_rfl) rfl ?_; (try simp only [List.getElem_toArray, List.getElem_cons_succ, List.getElem_cons_zero]))
            (refine ZStep.val (by (first | rfl | exact wanted_true rfl rfl rfl (by assumption))) (fun w h => h.sub (by first | simp | ((try simp only [List.eraseIdx_cons_zero, List.eraseIdx_cons_succ]); (repeat (first | exact List.nil_sublist _ | exact List.Sublist.refl _ | with_reducible apply List.Sublist.cons₂ | apply List.Sublist.cons))))) (by rintro w hS; ((try clear hF); refine hfI ?_; intro hF); go_simp; with_reducible rfl) ?_; try simp only [Act.put, List.setIfInBounds_toArray, List.set_cons_zero, List.set_cons_succ])
            (refine BraidZ.last (by kernel_rfl) ?_; (try clear hF); intro wk hS; ((try clear hF); refine hfI ?_; intro hF))
            go_wp2_with (first | (refine hab ?_; (try clear hF); clear hS; intro wk hS; (try simp only [List.set_cons_zero, List.set_cons_succ, heap_size, heap_set_size] at hS); ((try clear hF); refine hfI ?_; intro hF)) | fail)
            go_meet
            case rel => exact ⟨vv, er, X, I', rfl, rfl, hTO, hS⟩
          · as_aux_lemma =>
            ((try clear hF); refine hfI ?_; intro hF)
            ((with_reducible refine wp_region_braidz_hp [.q, .q, .q, .q, .q, .q, .t, .t, .t, .t, .t, .t] 6 [.blk g9 [.bool false, .int .i64 who, .string T, .bool rd, .slice ca cn cc] 40, .blk g6 (snC3 z0 y0 z1 y1 z2 y2) 34] (by kernel_rfl) rfl (by kernel_rfl) hS (fun w h => h.sub (by simp)) ?_); clear hS; (repeat ((with_reducible refine Walk.here ?_); (first | ((with_reducible apply Walk.skipQ); (first | rfl | exact wanted_false rfl rfl rfl (by assumption)); (try simp only [Mark.isQ, if_true, Bool.false_eq_true, if_false, Act.put, List.setIfInBounds_toArray, List.set_cons_zero, List.set_cons_succ])) | ((with_reducible apply Walk.val); (first | rfl | exact wanted_true rfl rfl rfl (by assumption)); (rintro w hS; ((try clear hF); refine hfI ?_; intro hF); go_simp; first | with_reducible rfl | (rw [if_neg (by first | omega | (simp only [ByteArray.size_append]; omega) | (simp [ByteArray.size_append]; omega))]; try with_reducible rfl)); (try simp only [Mark.isQ, if_true, Bool.false_eq_true, if_false, Act.put, List.setIfInBounds_toArray, List.set_cons_zero, List.set_cons_succ])) | ((with_reducible apply Walk.tail); (try simp only [Mark.isQ, if_true, Bool.false_eq_true, if_false, Act.put, List.setIfInBounds_toArray, List.set_cons_zero, List.set_cons_succ])) | ((with_reducible apply Walk.guardT); rfl; rfl; rfl; (all_goals intro hg)) | ((with_reducible apply Walk.guardF); rfl; rfl; rfl; (all_goals intro hg))))); refine Walk.done ?_; show BraidZ _ _ _ _ 6 6 [6, 7, 8, 9, 10, 11] _ _)
            (refine BraidZ.next1 (i := 6) (by kernel_rfl) (by kernel_rfl) rfl ?_; (try simp only [List.getElem_toArray, List.getElem_cons_succ, List.getElem_cons_zero]))
            (refine ZStep.call (by (first | rfl | exact wanted_true rfl rfl rfl (by assumption))) (by rintro w hS; ((try clear hF); refine hfI ?_; intro hF); go_simp; exact ⟨rfl, rfl⟩) ?_; (intro w hS); (with_reducible refine Calls.mono (HTR.out _ _ HO.out.s1 _ _ _ _ hS) ?_); clear hS; rintro e wk ⟨vv, er, X, I', rfl, hTO, hS⟩; refine ⟨_, _, rfl, hS, (fun w h => h.sub (by first | simp | ((try simp only [List.eraseIdx_cons_zero, List.eraseIdx_cons_succ]); (repeat (first | exact List.nil_sublist _ | exact List.Sublist.refl _ | with_reducible apply List.Sublist.cons₂ | apply List.Sublist.cons))))), ?_⟩; (clear hS); try simp only [Act.put, List.setIfInBounds_toArray, List.set_cons_zero, List.set_cons_succ])
            (refine BraidZ.next1 (i := 7) (by kernel_rfl) (by kernel_rfl) rfl ?_; (try simp only [List.getElem_toArray, List.getElem_cons_succ, List.getElem_cons_zero]))
            (refine ZStep.val (by (first | rfl | exact wanted_true rfl rfl rfl (by assumption))) (fun w h => h.sub (by first | simp | ((try simp only [List.eraseIdx_cons_zero, List.eraseIdx_cons_succ]); (repeat (first | exact List.nil_sublist _ | exact List.Sublist.refl _ | with_reducible apply List.Sublist.cons₂ | apply List.Sublist.cons))))) (by rintro w hS; ((try clear hF); refine hfI ?_; intro hF); go_simp; with_reducible rfl) ?_; try simp only [Act.put, List.setIfInBounds_toArray, List.set_cons_zero, List.set_cons_succ])
            (refine BraidZ.earlyN (i := 8) (by kernel_rfl) (by kernel_rfl) (by kernel_rfl) (by kernel_rfl) rfl (fun _ _ h hx => h.step hx) ?_; (try simp only [List.getElem_toArray, List.getElem_cons_succ, List.getElem_cons_zero]); refine EStep.val (by (first | rfl | exact wanted_true rfl rfl rfl (by assumption))) (fun w => by go_simp; with_reducible rfl) ?_; try simp only [Act.put, List.setIfInBounds_toArray, List.set_cons_zero, List.set_cons_succ])
            (refine BraidZ.earlyN (i := 9) (by kernel_rfl) (by kernel_rfl) (by kernel_rfl) (by kernel_rfl) rfl (fun _ _ h hx => h.step hx) ?_; (try simp only [List.getElem_toArray, List.getElem_cons_succ, List.getElem_cons_zero]); refine EStep.val (by (first | rfl | exact wanted_true rfl rfl rfl (by assumption))) (fun w => by go_simp; with_reducible rfl) ?_; try simp only [Act.put, List.setIfInBounds_toArray, List.set_cons_zero, List.set_cons_succ])
            (refine BraidZ.earlyN (i := 10) (by kernel_rfl) (by kernel_rfl) (by kernel_rfl) (by kernel_rfl) rfl (fun _ _ h hx => h.step hx) ?_; (try simp only [List.getElem_toArray, List.getElem_cons_succ, List.getElem_cons_zero]); refine EStep.val (by (first | rfl | exact wanted_true rfl rfl rfl (by assumption))) (fun w => by go_simp; with_reducible rfl) ?_; try simp only [Act.put, List.setIfInBounds_toArray, List.set_cons_zero, List.set_cons_succ])
            (refine BraidZ.next1 (i := 11) (by kernel_rfl) (by kernel_rfl) rfl ?_; (try simp only [List.getElem_toArray, List.getElem_cons_succ, List.getElem_cons_zero]))
            (refine ZStep.val (by (first | rfl | exact wanted_true rfl rfl rfl (by assumption))) (fun w h => h.sub (by first | simp | ((try simp only [List.eraseIdx_cons_zero, List.eraseIdx_cons_succ]); (repeat (first | exact List.nil_sublist _ | exact List.Sublist.refl _ | with_reducible apply List.Sublist.cons₂ | apply List.Sublist.cons))))) (by rintro w hS; ((try clear hF); refine hfI ?_; intro hF); go_simp; with_reducible rfl) ?_; try simp only [Act.put, List.setIfInBounds_toArray, List.set_cons_zero, List.set_cons_succ])
            (refine BraidZ.last (by kernel_rfl) ?_; (try clear hF); intro wk hS; ((try clear hF); refine hfI ?_; intro hF))
            go_wp2_with (first | (refine hab ?_; (try clear hF); clear hS; intro wk hS; (try simp only [List.set_cons_zero, List.set_cons_succ, heap_size, heap_set_size] at hS); ((try clear hF); refine hfI ?_; intro hF)) | fail)
            go_meet
            case rel => exact ⟨vv, er, X, I', rfl, rfl, hTO, hS⟩
          · as_aux_lemma =>
            ((try clear hF); refine hfI ?_; intro hF)
            ((with_reducible refine wp_region_braidz_hp [.q, .q, .q, .q, .q, .q, .t, .t, .t, .t, .t, .t] 6 [.blk g9 [.bool false, .int .i64 who, .string T, .bool rd, .slice ca cn cc] 40, .blk g6 (snC3 z0 y0 z1 y1 z2 y2) 34] (by kernel_rfl) rfl (by kernel_rfl) hS (fun w h => h.sub (by simp)) ?_); clear hS; (repeat ((with_reducible refine Walk.here ?_); (first | ((with_reducible apply Walk.skipQ); (first | rfl | exact wanted_false rfl rfl rfl (by assumption)); (try simp only [Mark.isQ, if_true, Bool.false_eq_true, if_false, Act.put, List.setIfInBounds_toArray, List.set_cons_zero, List.set_cons_succ])) | ((with_reducible apply Walk.val); (first | rfl | exact wanted_true rfl rfl rfl (by assumption)); (rintro w hS; ((try clear hF); refine hfI ?_; intro hF); go_simp; first | with_reducible rfl | (rw [if_neg (by first | omega | (simp only [ByteArray.size_append]; omega) | (simp [ByteArray.size_append]; omega))]; try with_reducible rfl)); (try simp only [Mark.isQ, if_true, Bool.false_eq_true, if_false, Act.put, List.setIfInBounds_toArray, List.set_cons_zero, List.set_cons_succ])) | ((with_reducible apply Walk.tail); (try simp only [Mark.isQ, if_true, Bool.false_eq_true, if_false, Act.put, List.setIfInBounds_toArray, List.set_cons_zero, List.set_cons_succ])) | ((with_reducible apply Walk.guardT); rfl; rfl; rfl; (all_goals intro hg)) | ((with_reducible apply Walk.guardF); rfl; rfl; rfl; (all_goals intro hg))))); refine Walk.done ?_; show BraidZ _ _ _ _ 6 6 [6, 7, 8, 9, 10, 11] _ _)
            (refine BraidZ.next1 (i := 6) (by kernel_rfl) (by kernel_rfl) rfl ?_; (try simp only [List.getElem_toArray, List.getElem_cons_succ, List.getElem_cons_zero]))
            (refine ZStep.call (by (first | rfl | exact wanted_true rfl rfl rfl (by assumption))) (by rintro w hS; ((try clear hF); refine hfI ?_; intro hF); go_simp; exact ⟨rfl, rfl⟩) ?_; (intro w hS); (with_reducible refine Calls.mono (HTR.out _ _ HO.out.s2 _ _ _ _ hS) ?_); clear hS; rintro e wk ⟨vv, er, X, I', rfl, hTO, hS⟩; refine ⟨_, _, rfl, hS, (fun w h => h.sub (by first | simp | ((try simp only [List.eraseIdx_cons_zero, List.eraseIdx_cons_succ]); (repeat (first | exact List.nil_sublist _ | exact List.Sublist.refl _ | with_reducible apply List.Sublist.cons₂ | apply List.Sublist.cons))))), ?_⟩; (clear hS); try simp only [Act.put, List.setIfInBounds_toArray, List.set_cons_zero, List.set_cons_succ])
            (refine BraidZ.next1 (i := 7) (by kernel_rfl) (by kernel_rfl) rfl ?_; (try simp only [List.getElem_toArray, List.getElem_cons_succ, List.getElem_cons_zero]))
            (refine ZStep.val (by (first | rfl | exact wanted_true rfl rfl rfl (by assumption))) (fun w h => h.sub (by first | simp | ((try simp only [List.eraseIdx_cons_zero, List.eraseIdx_cons_succ]); (repeat (first | exact List.nil_sublist _ | exact List.Sublist.refl _ | with_reducible apply List.Sublist.cons₂ | apply List.Sublist.cons))))) (by rintro w hS; ((try clear hF); refine hfI ?_; intro hF); go_simp; with_reducible rfl) ?_; try simp only [Act.put, List.setIfInBounds_toArray, List.set_cons_zero, List.set_cons_succ])
            (refine BraidZ.earlyN (i := 8) (by kernel_rfl) (by kernel_rfl) (by kernel_rfl) (by kernel_rfl) rfl (fun _ _ h hx => h.step hx) ?_; (try simp only [List.getElem_toArray, List.getElem_cons_succ, List.getElem_cons_zero]); refine EStep.val (by (first | rfl | exact wanted_true rfl rfl rfl (by assumption))) (fun w => by go_simp; with_reducible rfl) ?_; try simp only [Act.put, List.setIfInBounds_toArray, List.set_cons_zero, List.set_cons_succ])
            (refine BraidZ.earlyN (i := 9) (by kernel_rfl) (by kernel_rfl) (by kernel_rfl) (by kernel_rfl) rfl (fun _ _ h hx => h.step hx) ?_; (try simp only [List.getElem_toArray, List.getElem_cons_succ, List.getElem_cons_zero]); refine EStep.val (by (first | rfl | exact wanted_true rfl rfl rfl (by assumption))) (fun w => by go_simp; with_reducible rfl) ?_; try simp only [Act.put, List.setIfInBounds_toArray, List.set_cons_zero, List.set_cons_succ])
            (refine BraidZ.earlyN (i := 10) (by kernel_rfl) (by kernel_rfl) (by kernel_rfl) (by kernel_rfl) rfl (fun _ _ h hx => h.step hx) ?_; (try simp only [List.getElem_toArray, List.getElem_cons_succ, List.getElem_cons_zero]); refine EStep.val (by (first | rfl | exact wanted_true rfl rfl rfl (by assumption))) (fun w => by go_simp; with_reducible rfl) ?_; try simp only [Act.put, List.setIfInBounds_toArray, List.set_cons_zero, List.set_cons_succ])
            (refine BraidZ.next1 (i := 11) (by kernel_rfl) (by kernel_rfl) rfl ?_; (try simp only [List.getElem_toArray, List.getElem_cons_succ, List.getElem_cons_zero]))
            (refine ZStep.val (by (first | rfl | exact wanted_true rfl rfl rfl (by assumption))) (fun w h => h.sub (by first | simp | ((try simp only [List.eraseIdx_cons_zero, List.eraseIdx_cons_succ]); (repeat (first | exact List.nil_sublist _ | exact List.Sublist.refl _ | with_reducible apply List.Sublist.cons₂ | apply List.Sublist.cons))))) (by rintro w hS; ((try clear hF); refine hfI ?_; intro hF); go_simp; with_reducible rfl) ?_; try simp only [Act.put, List.setIfInBounds_toArray, List.set_cons_zero, List.set_cons_succ])
            (refine BraidZ.last (by kernel_rfl) ?_; (try clear hF); intro wk hS; ((try clear hF); refine hfI ?_; intro hF))
            go_wp2_with (first | (refine hab ?_; (try clear hF); clear hS; intro wk hS; (try simp only [List.set_cons_zero, List.set_cons_succ, heap_size, heap_set_size] at hS); ((try clear hF); refine hfI ?_; intro hF)) | fail)
            go_meet
            case rel => exact ⟨vv, er, X, I', rfl, rfl, hTO, hS⟩
        case rest =>
          obtain ⟨vv, er, X, I', rfl, rfl, hTO, hS⟩ := hcut
          clear HTR hmm
          have hmc : cs.length = m := by rw [← HO.out.len, HSL.out]
          have hm30 : m ≤ 30 := by omega
          have HMC := Lib.hid hmc
          clear hmc
          rcases hTO.out with ⟨hv, rfl, D', F', s', hL', hB'⟩ | ⟨rfl, ⟨tp, pv, rfl⟩, F', hB'⟩
          · as_aux_lemma =>
            obtain rfl : vv = (m : Int) + 1 := by rw [hv, HMC.out]
            clear hv hTO
            have hsl : (ss ++ [s'])[(cs ++ [(⟨T, rd, acts.map (·.1)⟩ : CO)]).length]? = some s' := by
              have e : (cs ++ [(⟨T, rd, acts.map (·.1)⟩ : CO)]).length = ss.length := by rw [List.length_append, HO.out.log.len]; rfl
              rw [e, List.getElem?_append_right (Nat.le_refl _), Nat.sub_self]
              rfl
            have hver : s'.ver = (m : Int) + 1 := by
              rw [(hL'.good _ s' hsl).2, List.length_append, HMC.out]
              push_cast
              rfl
            have hne : (s'.ver != (m : Int) + 1) = false := by rw [hver]; simp
            have hcm : (cs ++ [(⟨T, rd, acts.map (·.1)⟩ : CO)])[m]? = some ⟨T, rd, acts.map (·.1)⟩ := by
              rw [← HMC.out, List.getElem?_append_right (Nat.le_refl _), Nat.sub_self]
              rfl
            have HLD := Lib.hid (fun (W : World) (a b d : Item) (h : Hp w.heap.size w W (a :: b :: d :: ((X ++ K) ++ I'))) => load_3 (-1) _ (Nat.le_refl _) (.inl ⟨rfl, rfl⟩) s' hsl hL' hB' HT.out h)
            obtain ⟨T2, hT2⟩ : ∃ x, x = bget D' (keyS (m + 1)) := ⟨_, rfl⟩
            have HCK := Lib.hid (show CoOk ⟨T, rd, acts.map (·.1)⟩ T2 from by rw [hT2]; exact (hL'.text m _ hcm).1)
            have HKY := Lib.hid (fun (W : World) (hx : Ext w W) => show Calls Tryz.prog 11 #[.int .i64 ((m : Int) + 1)] W (fun e w' => e = .returned (.string (keyS (m + 1))) ∧ Ext W w') from key_any (m + 1) W (by omega) (HT.out.ext hx).2.1)
            have HG1 := Lib.hid (fun (a b d f : Item) (N : List Item) (W : World) (h : Hp w.heap.size w W (a :: b :: d :: f :: (N ++ I'))) => show Calls Tryz.prog 10 #[.pointer (some ⟨gb, 0, none⟩), .string (keyS (m + 1))] W fun e w' => e = .returned (.tuple #[.string T2, .nilIface]) ∧ Ext W w' from by
              have := bget_any (M := a :: b :: d :: f :: N) (keyS (m + 1)) (by have := (keyS_size (n := m + 1) (by omega)).1; unfold maxLen; omega) hB' h
              rw [(hL'.text m _ hcm).2, ← hT2] at this
              exact this)
            have HPA := Lib.hid (fun (W : World) (L : List Item) (h : Hp w.heap.size w W L) => show Calls Tryz.prog 12 #[.string T2] W fun e w' => ∃ (l : List (AN × AV)) (A : Option Addr) (n cap : Nat) (C : List Item), Hid (l.map (·.1) = acts.map (·.1)) ∧ e = .returned (.tuple #[.agg #[.string T, .bool rd, .slice A n cap], .nilIface]) ∧ Hp w.heap.size w w' (C ++ L) ∧ Hid (∀ (B : Nat) (w0 W : World), Hp B w0 W C → CmAt W ⟨T, rd, l, A, n, cap⟩) ∧ Hid (∀ a v, (a, v) ∈ l → PrOk a v) from by
              rw [hT2]
              exact parse_log hL' hcm (HT.out.ext h.ext) h)
            have HL' := Lib.hid hL'
            have HB' := Lib.hid hB'
            clear hsl hver hcm hT2 hL' hB'
            ((try clear hF); refine hfI ?_; intro hF)
            go_upto_region 29 with (first | (refine hab ?_; (try clear hF); clear hS; intro wk hS; (try simp only [List.set_cons_zero, List.set_cons_succ, heap_size, heap_set_size] at hS); ((try clear hF); refine hfI ?_; intro hF)) | (go_at_call 8; (with_reducible refine Calls.mono (HLD.out _ _ _ _ hS) ?_); clear hS; rintro e wk ⟨v', X1, rfl, hTv, hS⟩; ((try clear hF); refine hfI ?_; intro hF)) | (go_at_call 11; (with_reducible refine (HKY.out _ hS.ext).mono ?_); rintro e wk ⟨rfl, hX⟩; replace hS := hS.step hX; clear hX; ((try clear hF); refine hfI ?_; intro hF)) | (go_at_call 10; (with_reducible refine (HG1.out _ _ _ _ _ _ hS).mono ?_); rintro e wk ⟨rfl, hX⟩; replace hS := hS.step hX; clear hX; ((try clear hF); refine hfI ?_; intro hF)) | (go_at_call 12; (with_reducible refine Calls.mono (HPA.out _ _ hS) ?_); clear hS; rintro e wk ⟨l2, A3, n3, c3, C, hl, rfl, hS, hCm, hPr⟩; replace hS := hS.pull4; ((try clear hF); refine hfI ?_; intro hF)))
            have HAK := Lib.hid (fun (W : World) (hx : Ext w W) (hC : Hp w.heap.size w W C) => show Calls Tryz.prog 13 #[.agg #[.string T, .bool rd, .slice A3 n3 c3], .agg #[.string T, .bool rd, .slice ca cn cc]] W fun e w' => e = .returned (.bool true) ∧ Ext W w' from by
              have k1 := hCm.out _ _ W hC
              have k2 := HCT.out.ext hx
              obtain ⟨z1, z2, _⟩ := shortCo_out HSH.out
              have e1 : l2.length = n3 := k1.len
              have e2 : acts.length = cn := k2.len
              have e3 : l2.length = acts.length := by
                have := congrArg List.length hl.out
                rwa [List.length_map, List.length_map] at this
              rw [List.length_map] at z2
              exact alike_any ⟨T, rd, l2, A3, n3, c3⟩ ⟨T, rd, acts, ca, cn, cc⟩ T2 W ⟨k1, (show n3 ≤ 100000 by omega), (show T.size ≤ 100000 by omega), fun a v hm => hPr.out a v hm⟩ (short_pr k2 HJT.out HSH.out) (by show printC T rd (l2.map (·.1)) = some T2; rw [hl.out]; exact HCK.out.1) HCK.out.1 rfl rfl (show n3 = cn by omega) (HT.out.ext hx).2.1 (HT.out.ext hx).1)
            have HAK2 := Lib.hid (fun (W : World) (a b d f g : Item) (Z : List Item) (h : Hp w.heap.size w W (a :: b :: d :: f :: g :: (C ++ Z))) => HAK.out W h.ext (h.sub (.cons _ (.cons _ (.cons _ (.cons _ (.cons _ (List.sublist_append_left C Z))))))))
            clear HAK hl hCm hPr HPA HG1 HKY HLD HCK
            go_wp2_with (first | (refine hab ?_; (try clear hF); clear hS; intro wk hS; (try simp only [List.set_cons_zero, List.set_cons_succ, heap_size, heap_set_size] at hS); ((try clear hF); refine hfI ?_; intro hF)) | (go_at_call 13; (with_reducible refine (HAK2.out _ _ _ _ _ _ _ hS).mono ?_); rintro e wk ⟨rfl, hX⟩; replace hS := hS.step hX; clear hX; ((try clear hF); refine hfI ?_; intro hF)) | (at_builtin; refine wpList_push_hp Tryz.elem_snaps rfl (.tmp 148) (.tmp 150) rfl (hS.second 4 rfl) rfl rfl rfl (by simp [Value.oneCell']) (by omega) (by omega) ?_; clear hS; intro Ak capk wk hS; (try simp only [List.eraseIdx_cons_zero, List.eraseIdx_cons_succ, List.set_cons_zero, List.set_cons_succ] at hS); ((try clear hF); refine hfI ?_; intro hF)))
            obtain ⟨S2, hS2⟩ : ∃ x, x = S ++ [(s', v')] := ⟨_, rfl⟩
            have HSL1 := Lib.hid (show S2.length = m + 1 by rw [hS2, List.length_append, HSL.out]; rfl)
            have hcl : cellsSn S ++ [.int .i64 s'.ver, .slice v'.ca v'.cn v'.cc, .int .i64 s'.next, .slice v'.fa v'.fn v'.fc] = cellsSn S2 := by rw [hS2, cellsSn_append]; rfl
            have HO1 := Lib.hid ((HO.out.grow (K' := X1 ++ (X ++ K)) fun W h => h.sub ((List.sublist_append_right X K).trans (List.sublist_append_right X1 _))).push HL'.out HB'.out (hTv.out.more fun W h => h.sub (List.sublist_append_left X1 _)))
            rw [← hS2] at HO1
            rw [hcl] at hS
            obtain ⟨AK, hAK⟩ : ∃ x, x = Ak := ⟨_, rfl⟩
            obtain ⟨cK, hcK⟩ : ∃ x, x = capk := ⟨_, rfl⟩
            rw [← hAK, ← hcK] at hS ⊢
            clear hAK hcK
            have ini := ((((((hS.drop 1).drop 1).drop 1).front 0 rfl).front 1 rfl)).sub (.cons₂ _ (.cons₂ _ (List.sublist_append_right C _)))
            clear hS hF hTv HB' HL' HO hne HAK2 hcl hS2
            go_loopw [21, 22, 23] (fun s21 _ _ wr => ∃ j : Nat, s21 = .int .i64 j ∧ j ≤ m + 1 ∧ Hp w.heap.size w wr (.blk g6 (snC3 z0 y0 z1 y1 z2 y2) 34 :: .row 33 4 AK (m + 1) cK (cellsSn S2) :: ((X1 ++ (X ++ K)) ++ I'))) (fun i _ _ _ => m + 1 - (intOf i).toNat)
            case atStart => exact ⟨0, rfl, Nat.zero_le _, ini⟩
            case round =>
              clear ini
              obtain ⟨j, rfl, hj, hS⟩ := hrel
              by_cases hlj : j < m + 1
              · as_aux_lemma =>
                obtain ⟨⟨sj, vj⟩, hsj⟩ : ∃ x, S2[j]? = some x := ⟨S2[j]'(by rw [HSL1.out]; exact hlj), List.getElem?_eq_getElem _⟩
                obtain ⟨hss, htj⟩ := HO1.out.was j sj vj hsj
                have HDD := Lib.hid (cellsSn_at S2 j sj vj hsj)
                have HTJ := Lib.hid htj
                have HLE := Lib.hid (fun (W : World) (a b : Item) (h : Hp w.heap.size w W (a :: b :: ((X1 ++ (X ++ K)) ++ I'))) => load_2 ((j : Int) + 1) (j + 1) (by rw [← HO1.out.len, HSL1.out]; omega) (.inr (by push_cast; rfl)) sj hss HO1.out.log HO1.out.bkt HT.out h)
                obtain ⟨gS, hgS⟩ := hS.rowSome 1 rfl (fun h => by
                  have h1 := cellsSn_len S2
                  rw [h, HSL1.out] at h1
                  simp at h1
                  try omega)
                subst hgS
                clear hsj hss htj
                ((try clear hF); refine hfI ?_; intro hF)
                go_upto_region 36 with (first | (refine hab ?_; (try clear hF); clear hS; intro wk hS; (try simp only [List.set_cons_zero, List.set_cons_succ, heap_size, heap_set_size] at hS); ((try clear hF); refine hfI ?_; intro hF)) | (go_at_call 8; (with_reducible refine Calls.mono (HLE.out _ _ _ hS) ?_); clear hS; rintro e wk ⟨v2, X2, rfl, hT2, hS⟩; ((try clear hF); refine hfI ?_; intro hF)))
                have HSM := Lib.hid (fun (W : World) (h1 : Hp w.heap.size w W X2) (h2 : Hp w.heap.size w W ((X1 ++ (X ++ K)))) => sameQ hT2.out HTJ.out h1 h2)
                have sub1 : X2.Sublist ((X2 ++ ((X1 ++ (X ++ K)))) ++ I') := (List.sublist_append_left _ _).trans (List.sublist_append_left _ _)
                have sub2 : ((X1 ++ (X ++ K))).Sublist ((X2 ++ ((X1 ++ (X ++ K)))) ++ I') := (List.sublist_append_right _ _).trans (List.sublist_append_left _ _)
                have HSM2 := Lib.hid (fun (W : World) (a b d : Item) (h : Hp w.heap.size w W (a :: b :: d :: ((X2 ++ ((X1 ++ (X ++ K)))) ++ I'))) => HSM.out W (h.sub (.cons _ (.cons _ (.cons _ sub1)))) (h.sub (.cons _ (.cons _ (.cons _ sub2)))))
                clear sub1 sub2 HSM hT2 HTJ HLE
                ((with_reducible refine wp_region_hp (draw := true) (by kernel_rfl) (by kernel_rfl) hS ?_); (repeat ((with_reducible refine Fixed.here ?_); (first | ((with_reducible apply Fixed.skip); (first | rfl | exact wanted_false rfl rfl rfl (by assumption)); try simp only [Act.put, List.setIfInBounds_toArray, List.set_cons_zero, List.set_cons_succ]) | ((with_reducible apply Fixed.val); (first | rfl | exact wanted_true rfl rfl rfl (by assumption)); (rintro w hS; ((try clear hF); refine hfI ?_; intro hF); have d0 := hS.rowAt 2 rfl HDD.out.1; have d1 := hS.rowAt 2 rfl HDD.out.2.1; have d2 := hS.rowAt 2 rfl HDD.out.2.2.1; have d3 := hS.rowAt 2 rfl HDD.out.2.2.2; go_simp; with_reducible rfl); try simp only [Act.put, List.setIfInBounds_toArray, List.set_cons_zero, List.set_cons_succ]) | ((with_reducible apply Fixed.call); (first | rfl | exact wanted_true rfl rfl rfl (by assumption)); (rintro w hS; ((try clear hF); refine hfI ?_; intro hF); have d0 := hS.rowAt 2 rfl HDD.out.1; have d1 := hS.rowAt 2 rfl HDD.out.2.1; have d2 := hS.rowAt 2 rfl HDD.out.2.2.1; have d3 := hS.rowAt 2 rfl HDD.out.2.2.2; go_simp; exact ⟨rfl, rfl⟩); (rintro w hS; first | (with_reducible exact HSM2.out _ _ _ _ hS)); try simp only [Act.put, List.setIfInBounds_toArray, List.set_cons_zero, List.set_cons_succ])))); (with_reducible refine Fixed.done ?_); (try clear hF); clear hS; intro wk hS; ((try clear hF); refine hfI ?_; intro hF))
                go_wp2_with (first | (refine hab ?_; (try clear hF); clear hS; intro wk hS; (try simp only [List.set_cons_zero, List.set_cons_succ, heap_size, heap_set_size] at hS); ((try clear hF); refine hfI ?_; intro hF)) | fail)
                go_roundw
                case rel => exact ⟨j + 1, by go_num, by omega, hS.sub (.cons _ (.cons₂ _ (.cons₂ _ ((List.sublist_append_right X2 ((X1 ++ (X ++ K)))).append_right I'))))⟩
                case measure => simp [intOf]; omega
              · as_aux_lemma =>
                obtain rfl : m + 1 = j := by omega
                ((try clear hF); refine hfI ?_; intro hF)
                go_wp2_with (first | (refine hab ?_; (try clear hF); clear hS; intro wk hS; (try simp only [List.set_cons_zero, List.set_cons_succ, heap_size, heap_set_size] at hS); ((try clear hF); refine hfI ?_; intro hF)) | fail)
                go_roundw
                case rel => exact ⟨k + 1, m + 1, cK, AK, (X1 ++ (X ++ K)), I', S2, z0, y0, z1, y1, z2, y2, D', F', cs ++ [⟨T, rd, acts.map (·.1)⟩], ss ++ [s'], by go_num, by omega, rfl, by omega, HSL1, HO1, hS⟩
                case measure => simp [intOf]; omega
          · as_aux_lemma =>
            clear hTO
            obtain ⟨s, hs, hsv⟩ := HO.out.last
            have hne : (s.ver != (m : Int)) = false := by rw [hsv, HMC.out]; simp
            have HLD := Lib.hid (fun (W : World) (a b d : Item) (h : Hp w.heap.size w W (a :: b :: d :: ((X ++ K) ++ I'))) => load_3 (-1) cs.length (Nat.le_refl _) (.inl ⟨rfl, rfl⟩) s hs HO.out.log hB' HT.out h)
            have HB' := Lib.hid hB'
            clear hs hsv hB'
            ((try clear hF); refine hfI ?_; intro hF)
            go_wp2_with (first | (refine hab ?_; (try clear hF); clear hS; intro wk hS; (try simp only [List.set_cons_zero, List.set_cons_succ, heap_size, heap_set_size] at hS); ((try clear hF); refine hfI ?_; intro hF)) | (go_at_call 8; (with_reducible refine Calls.mono (HLD.out _ _ _ _ hS) ?_); clear hS; rintro e wk ⟨v', X1, rfl, hTv, hS⟩; ((try clear hF); refine hfI ?_; intro hF)))
            have HO1 := Lib.hid ((HO.out.grow (K' := X1 ++ (X ++ K)) fun W h => h.sub ((List.sublist_append_right X K).trans (List.sublist_append_right X1 _))).err HB'.out)
            have HSL1 := HSL
            have ini := hS.tail.tail
            clear hS hF HLD hTv HB' HO hne
            go_loopw [21, 22, 23] (fun s21 _ _ wr => ∃ j : Nat, s21 = .int .i64 j ∧ j ≤ m ∧ Hp w.heap.size w wr (.blk g6 (snC3 z0 y0 z1 y1 z2 y2) 34 :: .row 33 4 AS (m) cS (cellsSn S) :: ((X1 ++ (X ++ K)) ++ I'))) (fun i _ _ _ => m - (intOf i).toNat)
            case atStart => exact ⟨0, rfl, Nat.zero_le _, ini⟩
            case round =>
              clear ini
              obtain ⟨j, rfl, hj, hS⟩ := hrel
              by_cases hlj : j < m
              · as_aux_lemma =>
                obtain ⟨⟨sj, vj⟩, hsj⟩ : ∃ x, S[j]? = some x := ⟨S[j]'(by rw [HSL1.out]; exact hlj), List.getElem?_eq_getElem _⟩
                obtain ⟨hss, htj⟩ := HO1.out.was j sj vj hsj
                have HDD := Lib.hid (cellsSn_at S j sj vj hsj)
                have HTJ := Lib.hid htj
                have HLE := Lib.hid (fun (W : World) (a b : Item) (h : Hp w.heap.size w W (a :: b :: ((X1 ++ (X ++ K)) ++ I'))) => load_2 ((j : Int) + 1) (j + 1) (by rw [← HO1.out.len, HSL1.out]; omega) (.inr (by push_cast; rfl)) sj hss HO1.out.log HO1.out.bkt HT.out h)
                obtain ⟨gS, hgS⟩ := hS.rowSome 1 rfl (fun h => by
                  have h1 := cellsSn_len S
                  rw [h, HSL1.out] at h1
                  simp at h1
                  try omega)
                subst hgS
                clear hsj hss htj
                ((try clear hF); refine hfI ?_; intro hF)
                go_upto_region 36 with (first | (refine hab ?_; (try clear hF); clear hS; intro wk hS; (try simp only [List.set_cons_zero, List.set_cons_succ, heap_size, heap_set_size] at hS); ((try clear hF); refine hfI ?_; intro hF)) | (go_at_call 8; (with_reducible refine Calls.mono (HLE.out _ _ _ hS) ?_); clear hS; rintro e wk ⟨v2, X2, rfl, hT2, hS⟩; ((try clear hF); refine hfI ?_; intro hF)))
                have HSM := Lib.hid (fun (W : World) (h1 : Hp w.heap.size w W X2) (h2 : Hp w.heap.size w W ((X1 ++ (X ++ K)))) => sameQ hT2.out HTJ.out h1 h2)
                have sub1 : X2.Sublist ((X2 ++ ((X1 ++ (X ++ K)))) ++ I') := (List.sublist_append_left _ _).trans (List.sublist_append_left _ _)
                have sub2 : ((X1 ++ (X ++ K))).Sublist ((X2 ++ ((X1 ++ (X ++ K)))) ++ I') := (List.sublist_append_right _ _).trans (List.sublist_append_left _ _)
                have HSM2 := Lib.hid (fun (W : World) (a b d : Item) (h : Hp w.heap.size w W (a :: b :: d :: ((X2 ++ ((X1 ++ (X ++ K)))) ++ I'))) => HSM.out W (h.sub (.cons _ (.cons _ (.cons _ sub1)))) (h.sub (.cons _ (.cons _ (.cons _ sub2)))))
                clear sub1 sub2 HSM hT2 HTJ HLE
                ((with_reducible refine wp_region_hp (draw := true) (by kernel_rfl) (by kernel_rfl) hS ?_); (repeat ((with_reducible refine Fixed.here ?_); (first | ((with_reducible apply Fixed.skip); (first | rfl | exact wanted_false rfl rfl rfl (by assumption)); try simp only [Act.put, List.setIfInBounds_toArray, List.set_cons_zero, List.set_cons_succ]) | ((with_reducible apply Fixed.val); (first | rfl | exact wanted_true rfl rfl rfl (by assumption)); (rintro w hS; ((try clear hF); refine hfI ?_; intro hF); have d0 := hS.rowAt 2 rfl HDD.out.1; have d1 := hS.rowAt 2 rfl HDD.out.2.1; have d2 := hS.rowAt 2 rfl HDD.out.2.2.1; have d3 := hS.rowAt 2 rfl HDD.out.2.2.2; go_simp; with_reducible rfl); try simp only [Act.put, List.setIfInBounds_toArray, List.set_cons_zero, List.set_cons_succ]) | ((with_reducible apply Fixed.call); (first | rfl | exact wanted_true rfl rfl rfl (by assumption)); (rintro w hS; ((try clear hF); refine hfI ?_; intro hF); have d0 := hS.rowAt 2 rfl HDD.out.1; have d1 := hS.rowAt 2 rfl HDD.out.2.1; have d2 := hS.rowAt 2 rfl HDD.out.2.2.1; have d3 := hS.rowAt 2 rfl HDD.out.2.2.2; go_simp; exact ⟨rfl, rfl⟩); (rintro w hS; first | (with_reducible exact HSM2.out _ _ _ _ hS)); try simp only [Act.put, List.setIfInBounds_toArray, List.set_cons_zero, List.set_cons_succ])))); (with_reducible refine Fixed.done ?_); (try clear hF); clear hS; intro wk hS; ((try clear hF); refine hfI ?_; intro hF))
                go_wp2_with (first | (refine hab ?_; (try clear hF); clear hS; intro wk hS; (try simp only [List.set_cons_zero, List.set_cons_succ, heap_size, heap_set_size] at hS); ((try clear hF); refine hfI ?_; intro hF)) | fail)
                go_roundw
                case rel => exact ⟨j + 1, by go_num, by omega, hS.sub (.cons _ (.cons₂ _ (.cons₂ _ ((List.sublist_append_right X2 ((X1 ++ (X ++ K)))).append_right I'))))⟩
                case measure => simp [intOf]; omega
              · as_aux_lemma =>
                obtain rfl : m = j := by omega
                ((try clear hF); refine hfI ?_; intro hF)
                go_wp2_with (first | (refine hab ?_; (try clear hF); clear hS; intro wk hS; (try simp only [List.set_cons_zero, List.set_cons_succ, heap_size, heap_set_size] at hS); ((try clear hF); refine hfI ?_; intro hF)) | fail)
                go_roundw
                case rel => exact ⟨k + 1, m, cS, AS, (X1 ++ (X ++ K)), I', S, z0, y0, z1, y1, z2, y2, D, F', cs, ss, by go_num, by omega, rfl, by omega, HSL1, HO1, hS⟩
                case measure => simp [intOf]; omega
    · obtain rfl : k = n := by omega
      ((try clear hF); refine hfI ?_; intro hF)
      go_wp2_with (first | (refine hab ?_; (try clear hF); clear hS; intro wk hS; (try simp only [List.set_cons_zero, List.set_cons_succ, heap_size, heap_set_size] at hS); ((try clear hF); refine hfI ?_; intro hF)) | fail)
      go_ret
      exact ⟨rfl, hS.ext⟩
end Go.Proofs.YtlgidjanmaijaaaGreatDoor
