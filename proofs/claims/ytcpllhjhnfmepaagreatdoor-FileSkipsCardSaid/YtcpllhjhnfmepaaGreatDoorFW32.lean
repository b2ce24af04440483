/- Texts joined: schema.Cond; (File).May. millpondkeep.FileSkips: the parts of the walk. millpondkeep.FileSkips: the walk, where a file is made and the condition may be asked. -/
import Derived.Test.YtcpllhjhnfmepaaGreatDoorFW31
import Derived.Test.YtcpllhjhnfmepaaGreatDoorFW16
import Derived.Test.YtcpllhjhnfmepaaGreatDoorFW04
import Derived.Test.YtcpllhjhnfmepaaGreatDoorFW22
/- schema.Cond; (File).May. -/
namespace Go.Proofs.YtcpllhjhnfmepaaGreatDoor
set_option linter.unusedSimpArgs false
set_option linter.unusedVariables false
open Go.RowKit
set_option linter.all false
theorem errV_ne {n : Int} (h : n ≠ 0) : errV n = .iface 86 (.int .i64 n) := by unfold errV; rw [if_neg h]
theorem errV_zero : errV 0 = .nilIface := by unfold errV; rw [if_pos rfl]
set_option maxRecDepth 100000 in
set_option maxHeartbeats 8000000 in
theorem scond_any (cs : List CG) (A : Option Addr) (n cap : Nat) (Hn : Hid (cs.length = n)) (hl : n ≤ 1000) :
    ∀ (t : CT) (v : Value) (w : World), CondAt w v t → Hid (RC w A cs) → Calls Tryz.prog 22 #[.slice A n cap, v] w fun e w' => e = .returned (errV (condE cs t)) ∧ Ext w w' := by
  intro t
  induction t with
  | nil =>
    intro v w hc hr
    have hc : v = .pointer none := hc
    subst hc
    have hS := Hp.init w
    have hR := Reads.nil w
    rw [show condE cs .nil = 0 from rfl, errV_zero]
    go_enter Tryz.func22, Tryz.ntmps22
    go_wp2_with (first | ((with_reducible first | refine nhLa ?_ | refine nhLs ?_ | refine nhLd ?_ | refine nhCa ?_ | refine nhCs ?_ | refine nhCd ?_ | refine nhPa ?_ | refine nhPs ?_ | refine nhPd ?_ | refine nhKa ?_ | refine nhKs ?_ | refine nhKd ?_); ((try clear hF); clear hS; intro wk hS; (try simp only [List.set_cons_zero, List.set_cons_succ, heap_size, heap_set_size] at hS); ((try clear hF); (first | have hF := And.intro hS.facts (hR.at hS.ext) | have hF := hS.facts); simp only [HFacts, cellFacts, RFacts, cellOnly, and_true, true_and, Nat.zero_add, Nat.reduceAdd] at hF))) | fail)
    go_ret
    exact ⟨rfl, hS.ext⟩
  | node c col x l r ihl ihr =>
    intro v w hc hr
    obtain ⟨b, lv, rv, rfl, hb, hl', hr'⟩ := hc
    obtain ⟨pl, rfl⟩ := hl'.pointer
    obtain ⟨pr, rfl⟩ := hr'.pointer
    have IHL := Lib.hid (fun W (hX : Ext w W) => ihl _ W (hl'.ext hX) (Lib.hid (hr.out.ext hX)))
    have IHR := Lib.hid (fun W (hX : Ext w W) => ihr _ W (hr'.ext hX) (Lib.hid (hr.out.ext hX)))
    have HF := Lib.hid (fun W (hX : Ext w W) => show Calls Tryz.prog 27 #[.slice A n cap, .string col] W (fun e w' => e = .returned (.int .i64 (idxC (nmEq col) 0 cs)) ∧ Ext W w') from by
      have := find_any cs A cap col W (hr.out.ext hX) (by rw [Hn.out]; omega)
      rw [Hn.out] at this
      exact this)
    clear ihl ihr hl' hr'
    unfold condE
    have hR := Reads.blk hb (Reads.nil w)
    have hS := Hp.init w
    by_cases h9 : 9 ≤ c
    · rw [if_pos h9]
      clear HF hb
      obtain ⟨L, hL⟩ : ∃ L, L = condE cs l := ⟨_, rfl⟩
      obtain ⟨R, hR'⟩ : ∃ R, R = condE cs r := ⟨_, rfl⟩
      rw [← hL] at IHL ⊢
      rw [← hR'] at IHR ⊢
      clear hL hR'
      by_cases h0 : L = 0
      · subst h0
        rw [errV_zero] at IHL
        rw [if_pos rfl]
        obtain ⟨rv2, hrv⟩ : ∃ x, x = errV R := ⟨_, rfl⟩
        rw [← hrv] at IHR ⊢
        clear hrv
        ((try clear hF); (first | have hF := And.intro hS.facts (hR.at hS.ext) | have hF := hS.facts); simp only [HFacts, cellFacts, RFacts, cellOnly, and_true, true_and, Nat.zero_add, Nat.reduceAdd] at hF)
        go_enter Tryz.func22, Tryz.ntmps22
        go_wp2_with (first | ((with_reducible first | refine nhLa ?_ | refine nhLs ?_ | refine nhLd ?_ | refine nhCa ?_ | refine nhCs ?_ | refine nhCd ?_ | refine nhPa ?_ | refine nhPs ?_ | refine nhPd ?_ | refine nhKa ?_ | refine nhKs ?_ | refine nhKd ?_); ((try clear hF); clear hS; intro wk hS; (try simp only [List.set_cons_zero, List.set_cons_succ, heap_size, heap_set_size] at hS); ((try clear hF); (first | have hF := And.intro hS.facts (hR.at hS.ext) | have hF := hS.facts); simp only [HFacts, cellFacts, RFacts, cellOnly, and_true, true_and, Nat.zero_add, Nat.reduceAdd] at hF))) | (go_at_call 22; (with_reducible refine (IHL.out _ hS.ext).mono ?_); rintro e wk ⟨rfl, hX⟩; replace hS := hS.step hX; clear hX; ((try clear hF); (first | have hF := And.intro hS.facts (hR.at hS.ext) | have hF := hS.facts); simp only [HFacts, cellFacts, RFacts, cellOnly, and_true, true_and, Nat.zero_add, Nat.reduceAdd] at hF)) | (go_at_call 22; (with_reducible refine (IHR.out _ hS.ext).mono ?_); rintro e wk ⟨rfl, hX⟩; replace hS := hS.step hX; clear hX; ((try clear hF); (first | have hF := And.intro hS.facts (hR.at hS.ext) | have hF := hS.facts); simp only [HFacts, cellFacts, RFacts, cellOnly, and_true, true_and, Nat.zero_add, Nat.reduceAdd] at hF)))
        go_ret
        exact ⟨rfl, hS.ext⟩
      · rw [errV_ne h0] at IHL
        rw [if_neg h0, errV_ne h0]
        clear IHR h0
        ((try clear hF); (first | have hF := And.intro hS.facts (hR.at hS.ext) | have hF := hS.facts); simp only [HFacts, cellFacts, RFacts, cellOnly, and_true, true_and, Nat.zero_add, Nat.reduceAdd] at hF)
        go_enter Tryz.func22, Tryz.ntmps22
        go_wp2_with (first | ((with_reducible first | refine nhLa ?_ | refine nhLs ?_ | refine nhLd ?_ | refine nhCa ?_ | refine nhCs ?_ | refine nhCd ?_ | refine nhPa ?_ | refine nhPs ?_ | refine nhPd ?_ | refine nhKa ?_ | refine nhKs ?_ | refine nhKd ?_); ((try clear hF); clear hS; intro wk hS; (try simp only [List.set_cons_zero, List.set_cons_succ, heap_size, heap_set_size] at hS); ((try clear hF); (first | have hF := And.intro hS.facts (hR.at hS.ext) | have hF := hS.facts); simp only [HFacts, cellFacts, RFacts, cellOnly, and_true, true_and, Nat.zero_add, Nat.reduceAdd] at hF))) | (go_at_call 22; (with_reducible refine (IHL.out _ hS.ext).mono ?_); rintro e wk ⟨rfl, hX⟩; replace hS := hS.step hX; clear hX; ((try clear hF); (first | have hF := And.intro hS.facts (hR.at hS.ext) | have hF := hS.facts); simp only [HFacts, cellFacts, RFacts, cellOnly, and_true, true_and, Nat.zero_add, Nat.reduceAdd] at hF)))
        go_ret
        exact ⟨rfl, hS.ext⟩
    · rw [if_neg h9]
      clear IHL IHR hb
      obtain ⟨ix, hix⟩ : ∃ ix, ix = idxC (nmEq col) 0 cs := ⟨_, rfl⟩
      have hir := idxC_range (nmEq col) cs 0
      rw [← hix] at HF hir ⊢
      clear hix
      by_cases hneg : ix < 0
      · rw [if_pos hneg, errV_ne (by decide)]
        clear hir
        ((try clear hF); (first | have hF := And.intro hS.facts (hR.at hS.ext) | have hF := hS.facts); simp only [HFacts, cellFacts, RFacts, cellOnly, and_true, true_and, Nat.zero_add, Nat.reduceAdd] at hF)
        go_enter Tryz.func22, Tryz.ntmps22
        go_wp2_with (first | ((with_reducible first | refine nhLa ?_ | refine nhLs ?_ | refine nhLd ?_ | refine nhCa ?_ | refine nhCs ?_ | refine nhCd ?_ | refine nhPa ?_ | refine nhPs ?_ | refine nhPd ?_ | refine nhKa ?_ | refine nhKs ?_ | refine nhKd ?_); ((try clear hF); clear hS; intro wk hS; (try simp only [List.set_cons_zero, List.set_cons_succ, heap_size, heap_set_size] at hS); ((try clear hF); (first | have hF := And.intro hS.facts (hR.at hS.ext) | have hF := hS.facts); simp only [HFacts, cellFacts, RFacts, cellOnly, and_true, true_and, Nat.zero_add, Nat.reduceAdd] at hF))) | (go_at_call 27; (with_reducible refine (HF.out _ hS.ext).mono ?_); rintro e wk ⟨rfl, hX⟩; replace hS := hS.step hX; clear hX; ((try clear hF); (first | have hF := And.intro hS.facts (hR.at hS.ext) | have hF := hS.facts); simp only [HFacts, cellFacts, RFacts, cellOnly, and_true, true_and, Nat.zero_add, Nat.reduceAdd] at hF)))
        go_ret
        exact ⟨rfl, hS.ext⟩
      · rw [if_neg hneg]
        obtain ⟨j, rfl⟩ := Int.eq_ofNat_of_zero_le (show 0 ≤ ix by omega)
        have hjn : j < n := by have := hir.2; rw [Hn.out] at this; omega
        obtain ⟨d, hd⟩ : ∃ x, cs[j]? = some x := ⟨cs[j]'(by rw [Hn.out]; exact hjn), List.getElem?_eq_getElem _⟩
        obtain ⟨b1, o1, rfl, d0, d1, d2, _⟩ := hr.out j d hd
        rw [Int.toNat_natCast, List.getD_eq_getElem?_getD, hd, Option.getD_some]
        replace hR := Reads.cell d2 hR
        have hj0 : (0 : Int) ≤ (j : Int) := by omega
        clear d0 d1 d2 hd hir hneg
        by_cases h7 : c < 7
        · by_cases hk : x.kind = 0
          · rw [if_neg (by simp [hk]), errV_zero]
            have k0 : (x.kind != 0) = false := by simp [hk]
            clear hk
            ((try clear hF); (first | have hF := And.intro hS.facts (hR.at hS.ext) | have hF := hS.facts); simp only [HFacts, cellFacts, RFacts, cellOnly, and_true, true_and, Nat.zero_add, Nat.reduceAdd] at hF)
            go_enter Tryz.func22, Tryz.ntmps22
            go_wp2_with (first | ((with_reducible first | refine nhLa ?_ | refine nhLs ?_ | refine nhLd ?_ | refine nhCa ?_ | refine nhCs ?_ | refine nhCd ?_ | refine nhPa ?_ | refine nhPs ?_ | refine nhPd ?_ | refine nhKa ?_ | refine nhKs ?_ | refine nhKd ?_); ((try clear hF); clear hS; intro wk hS; (try simp only [List.set_cons_zero, List.set_cons_succ, heap_size, heap_set_size] at hS); ((try clear hF); (first | have hF := And.intro hS.facts (hR.at hS.ext) | have hF := hS.facts); simp only [HFacts, cellFacts, RFacts, cellOnly, and_true, true_and, Nat.zero_add, Nat.reduceAdd] at hF))) | (go_at_call 27; (with_reducible refine (HF.out _ hS.ext).mono ?_); rintro e wk ⟨rfl, hX⟩; replace hS := hS.step hX; clear hX; ((try clear hF); (first | have hF := And.intro hS.facts (hR.at hS.ext) | have hF := hS.facts); simp only [HFacts, cellFacts, RFacts, cellOnly, and_true, true_and, Nat.zero_add, Nat.reduceAdd] at hF)) | (first | (with_reducible refine wp_region_hp (draw := true) (by kernel_rfl) (by kernel_rfl) hS ?_) | ((with_reducible refine Fixed.here ?_); (first | ((with_reducible apply Fixed.skip); (first | rfl | exact wanted_false rfl rfl rfl (by assumption)); try simp only [Act.put, List.setIfInBounds_toArray, List.set_cons_zero, List.set_cons_succ]) | ((with_reducible apply Fixed.val); (first | rfl | exact wanted_true rfl rfl rfl (by assumption)); (rintro w hS; ((try clear hF); (first | have hF := And.intro hS.facts (hR.at hS.ext) | have hF := hS.facts); simp only [HFacts, cellFacts, RFacts, cellOnly, and_true, true_and, Nat.zero_add, Nat.reduceAdd] at hF); go_simp; with_reducible rfl); try simp only [Act.put, List.setIfInBounds_toArray, List.set_cons_zero, List.set_cons_succ]) | ((with_reducible apply Fixed.guardT); rfl; rfl; rfl; (all_goals intro hg)) | ((with_reducible apply Fixed.guardF); rfl; rfl; rfl; (all_goals intro hg)) | (with_reducible refine Fixed.done ?_; (try clear hF); clear hS; intro wk hS; ((try clear hF); (first | have hF := And.intro hS.facts (hR.at hS.ext) | have hF := hS.facts); simp only [HFacts, cellFacts, RFacts, cellOnly, and_true, true_and, Nat.zero_add, Nat.reduceAdd] at hF))))))
            go_ret
            exact ⟨rfl, hS.ext⟩
          · have k0 : (x.kind != 0) = true := by simp [hk]
            by_cases hkd : x.kind = d.kind
            · rw [if_neg (by simp [hkd]), errV_zero]
              have k1 : (x.kind != d.kind) = false := by simp [hkd]
              clear hk hkd
              ((try clear hF); (first | have hF := And.intro hS.facts (hR.at hS.ext) | have hF := hS.facts); simp only [HFacts, cellFacts, RFacts, cellOnly, and_true, true_and, Nat.zero_add, Nat.reduceAdd] at hF)
              go_enter Tryz.func22, Tryz.ntmps22
              go_wp2_with (first | ((with_reducible first | refine nhLa ?_ | refine nhLs ?_ | refine nhLd ?_ | refine nhCa ?_ | refine nhCs ?_ | refine nhCd ?_ | refine nhPa ?_ | refine nhPs ?_ | refine nhPd ?_ | refine nhKa ?_ | refine nhKs ?_ | refine nhKd ?_); ((try clear hF); clear hS; intro wk hS; (try simp only [List.set_cons_zero, List.set_cons_succ, heap_size, heap_set_size] at hS); ((try clear hF); (first | have hF := And.intro hS.facts (hR.at hS.ext) | have hF := hS.facts); simp only [HFacts, cellFacts, RFacts, cellOnly, and_true, true_and, Nat.zero_add, Nat.reduceAdd] at hF))) | (go_at_call 27; (with_reducible refine (HF.out _ hS.ext).mono ?_); rintro e wk ⟨rfl, hX⟩; replace hS := hS.step hX; clear hX; ((try clear hF); (first | have hF := And.intro hS.facts (hR.at hS.ext) | have hF := hS.facts); simp only [HFacts, cellFacts, RFacts, cellOnly, and_true, true_and, Nat.zero_add, Nat.reduceAdd] at hF)) | (first | (with_reducible refine wp_region_hp (draw := true) (by kernel_rfl) (by kernel_rfl) hS ?_) | ((with_reducible refine Fixed.here ?_); (first | ((with_reducible apply Fixed.skip); (first | rfl | exact wanted_false rfl rfl rfl (by assumption)); try simp only [Act.put, List.setIfInBounds_toArray, List.set_cons_zero, List.set_cons_succ]) | ((with_reducible apply Fixed.val); (first | rfl | exact wanted_true rfl rfl rfl (by assumption)); (rintro w hS; ((try clear hF); (first | have hF := And.intro hS.facts (hR.at hS.ext) | have hF := hS.facts); simp only [HFacts, cellFacts, RFacts, cellOnly, and_true, true_and, Nat.zero_add, Nat.reduceAdd] at hF); go_simp; with_reducible rfl); try simp only [Act.put, List.setIfInBounds_toArray, List.set_cons_zero, List.set_cons_succ]) | ((with_reducible apply Fixed.guardT); rfl; rfl; rfl; (all_goals intro hg)) | ((with_reducible apply Fixed.guardF); rfl; rfl; rfl; (all_goals intro hg)) | (with_reducible refine Fixed.done ?_; (try clear hF); clear hS; intro wk hS; ((try clear hF); (first | have hF := And.intro hS.facts (hR.at hS.ext) | have hF := hS.facts); simp only [HFacts, cellFacts, RFacts, cellOnly, and_true, true_and, Nat.zero_add, Nat.reduceAdd] at hF))))))
              go_ret
              exact ⟨rfl, hS.ext⟩
            · rw [if_pos ⟨h7, hk, hkd⟩, errV_ne (by decide)]
              have k1 : (x.kind != d.kind) = true := by simp [hkd]
              clear hk hkd
              ((try clear hF); (first | have hF := And.intro hS.facts (hR.at hS.ext) | have hF := hS.facts); simp only [HFacts, cellFacts, RFacts, cellOnly, and_true, true_and, Nat.zero_add, Nat.reduceAdd] at hF)
              go_enter Tryz.func22, Tryz.ntmps22
              go_wp2_with (first | ((with_reducible first | refine nhLa ?_ | refine nhLs ?_ | refine nhLd ?_ | refine nhCa ?_ | refine nhCs ?_ | refine nhCd ?_ | refine nhPa ?_ | refine nhPs ?_ | refine nhPd ?_ | refine nhKa ?_ | refine nhKs ?_ | refine nhKd ?_); ((try clear hF); clear hS; intro wk hS; (try simp only [List.set_cons_zero, List.set_cons_succ, heap_size, heap_set_size] at hS); ((try clear hF); (first | have hF := And.intro hS.facts (hR.at hS.ext) | have hF := hS.facts); simp only [HFacts, cellFacts, RFacts, cellOnly, and_true, true_and, Nat.zero_add, Nat.reduceAdd] at hF))) | (go_at_call 27; (with_reducible refine (HF.out _ hS.ext).mono ?_); rintro e wk ⟨rfl, hX⟩; replace hS := hS.step hX; clear hX; ((try clear hF); (first | have hF := And.intro hS.facts (hR.at hS.ext) | have hF := hS.facts); simp only [HFacts, cellFacts, RFacts, cellOnly, and_true, true_and, Nat.zero_add, Nat.reduceAdd] at hF)) | (first | (with_reducible refine wp_region_hp (draw := true) (by kernel_rfl) (by kernel_rfl) hS ?_) | ((with_reducible refine Fixed.here ?_); (first | ((with_reducible apply Fixed.skip); (first | rfl | exact wanted_false rfl rfl rfl (by assumption)); try simp only [Act.put, List.setIfInBounds_toArray, List.set_cons_zero, List.set_cons_succ]) | ((with_reducible apply Fixed.val); (first | rfl | exact wanted_true rfl rfl rfl (by assumption)); (rintro w hS; ((try clear hF); (first | have hF := And.intro hS.facts (hR.at hS.ext) | have hF := hS.facts); simp only [HFacts, cellFacts, RFacts, cellOnly, and_true, true_and, Nat.zero_add, Nat.reduceAdd] at hF); go_simp; with_reducible rfl); try simp only [Act.put, List.setIfInBounds_toArray, List.set_cons_zero, List.set_cons_succ]) | ((with_reducible apply Fixed.guardT); rfl; rfl; rfl; (all_goals intro hg)) | ((with_reducible apply Fixed.guardF); rfl; rfl; rfl; (all_goals intro hg)) | (with_reducible refine Fixed.done ?_; (try clear hF); clear hS; intro wk hS; ((try clear hF); (first | have hF := And.intro hS.facts (hR.at hS.ext) | have hF := hS.facts); simp only [HFacts, cellFacts, RFacts, cellOnly, and_true, true_and, Nat.zero_add, Nat.reduceAdd] at hF))))))
              go_ret
              exact ⟨rfl, hS.ext⟩
        · rw [if_neg (by omega), errV_zero]
          have d7 : decide (c < 7) = false := decide_eq_false h7
          have h7' : 7 ≤ c := by omega
          ((try clear hF); (first | have hF := And.intro hS.facts (hR.at hS.ext) | have hF := hS.facts); simp only [HFacts, cellFacts, RFacts, cellOnly, and_true, true_and, Nat.zero_add, Nat.reduceAdd] at hF)
          go_enter Tryz.func22, Tryz.ntmps22
          go_wp2_with (first | ((with_reducible first | refine nhLa ?_ | refine nhLs ?_ | refine nhLd ?_ | refine nhCa ?_ | refine nhCs ?_ | refine nhCd ?_ | refine nhPa ?_ | refine nhPs ?_ | refine nhPd ?_ | refine nhKa ?_ | refine nhKs ?_ | refine nhKd ?_); ((try clear hF); clear hS; intro wk hS; (try simp only [List.set_cons_zero, List.set_cons_succ, heap_size, heap_set_size] at hS); ((try clear hF); (first | have hF := And.intro hS.facts (hR.at hS.ext) | have hF := hS.facts); simp only [HFacts, cellFacts, RFacts, cellOnly, and_true, true_and, Nat.zero_add, Nat.reduceAdd] at hF))) | (go_at_call 27; (with_reducible refine (HF.out _ hS.ext).mono ?_); rintro e wk ⟨rfl, hX⟩; replace hS := hS.step hX; clear hX; ((try clear hF); (first | have hF := And.intro hS.facts (hR.at hS.ext) | have hF := hS.facts); simp only [HFacts, cellFacts, RFacts, cellOnly, and_true, true_and, Nat.zero_add, Nat.reduceAdd] at hF)) | (first | (with_reducible refine wp_region_hp (draw := true) (by kernel_rfl) (by kernel_rfl) hS ?_) | ((with_reducible refine Fixed.here ?_); (first | ((with_reducible apply Fixed.skip); (first | rfl | exact wanted_false rfl rfl rfl (by assumption)); try simp only [Act.put, List.setIfInBounds_toArray, List.set_cons_zero, List.set_cons_succ]) | ((with_reducible apply Fixed.val); (first | rfl | exact wanted_true rfl rfl rfl (by assumption)); (rintro w hS; ((try clear hF); (first | have hF := And.intro hS.facts (hR.at hS.ext) | have hF := hS.facts); simp only [HFacts, cellFacts, RFacts, cellOnly, and_true, true_and, Nat.zero_add, Nat.reduceAdd] at hF); go_simp; with_reducible rfl); try simp only [Act.put, List.setIfInBounds_toArray, List.set_cons_zero, List.set_cons_succ]) | ((with_reducible apply Fixed.guardT); rfl; rfl; rfl; (all_goals intro hg)) | ((with_reducible apply Fixed.guardF); rfl; rfl; rfl; (all_goals intro hg)) | (with_reducible refine Fixed.done ?_; (try clear hF); clear hS; intro wk hS; ((try clear hF); (first | have hF := And.intro hS.facts (hR.at hS.ext) | have hF := hS.facts); simp only [HFacts, cellFacts, RFacts, cellOnly, and_true, true_and, Nat.zero_add, Nat.reduceAdd] at hF))))))
          go_ret
          exact ⟨rfl, hS.ext⟩
set_option maxRecDepth 100000 in
theorem eg_fmay1 : ∀ args w, (callFunc 55 args).run Tryz.prog w = .ok (.enter 55 args) w := fun _ _ => by kernel_rfl
set_option maxRecDepth 100000 in
set_option maxHeartbeats 8000000 in
theorem fmay1_any (s : ByteArray) (bl bf bw : Nat) (cs : List CG) (A : Option Addr) (n cap : Nat) (hn : cs.length = n) (hl : n ≤ 1000) (f : FG) (vf0 vf1 : Value) (which : Nat) (g : GG) (w : World) (hr : RC w A cs) (hf : RF w (.agg #[vf0, vf1]) f) (hg : f.groups[which]? = some g) (hg0 : 0 ≤ g.rows) (h60 : g.rows ≤ 60) (hb : g.stats.length = f.cols.length) (hc : f.cols.length ≤ 1000) (hgl : f.groups.length ≤ 100000)
    (h1 : w.cell? ⟨bl, 0, none⟩ = some (.slice A n cap)) (h2 : w.cell? ⟨bf, 0, none⟩ = some vf0) (h3 : w.cell? ⟨bf, 1, none⟩ = some vf1) (h4 : w.cell? ⟨bw, 0, none⟩ = some (.int .i64 which)) :
    Calls Tryz.prog 55 #[.string s, .pointer (some ⟨bl, 0, none⟩), .pointer (some ⟨bf, 0, none⟩), .pointer (some ⟨bw, 0, none⟩)] w fun e w' => e = .returned (stV (knowN f g cs s)) ∧ Ext w w' := by
  have Hn := Lib.hid hn
  have HF := Lib.hid (fun W (hX : Ext w W) => show Calls Tryz.prog 27 #[.slice A n cap, .string s] W (fun e w' => e = .returned (.int .i64 (idxC (nmEq s) 0 cs)) ∧ Ext W w') from by
    have := find_any cs A cap s W (hr.ext hX) (by rw [Hn.out]; omega)
    rw [Hn.out] at this
    exact this)
  have HKN := Lib.hid (fun (W : World) (c : CG) (hX : Ext w W) => fknown_any f (.agg #[vf0, vf1]) which g c W (hf.ext hX) hg hg0 h60 hb hc hgl)
  have hR := Reads.cell h1 (Reads.cell h2 (Reads.cell h3 (Reads.cell h4 (Reads.nil w))))
  clear hf hg hg0 h60 hb hc hgl h1 h2 h3 h4 hn
  have hS := Hp.init w
  obtain ⟨ix, hix⟩ : ∃ ix, ix = idxC (nmEq s) 0 cs := ⟨_, rfl⟩
  have hir := idxC_range (nmEq s) cs 0
  unfold knowN
  rw [← hix] at HF hir ⊢
  clear hix
  by_cases hneg : ix < 0
  · rw [if_pos hneg]
    clear hir HKN hr
    unfold stV zeroV
    ((try clear hF); (first | have hF := And.intro hS.facts (hR.at hS.ext) | have hF := hS.facts); simp only [HFacts, cellFacts, RFacts, cellOnly, and_true, true_and, Nat.zero_add, Nat.reduceAdd] at hF)
    go_enter Tryz.func55, Tryz.ntmps55
    go_wp2_with (first | ((with_reducible first | refine nhLa ?_ | refine nhLs ?_ | refine nhLd ?_ | refine nhCa ?_ | refine nhCs ?_ | refine nhCd ?_ | refine nhPa ?_ | refine nhPs ?_ | refine nhPd ?_ | refine nhKa ?_ | refine nhKs ?_ | refine nhKd ?_); ((try clear hF); clear hS; intro wk hS; (try simp only [List.set_cons_zero, List.set_cons_succ, heap_size, heap_set_size] at hS); ((try clear hF); (first | have hF := And.intro hS.facts (hR.at hS.ext) | have hF := hS.facts); simp only [HFacts, cellFacts, RFacts, cellOnly, and_true, true_and, Nat.zero_add, Nat.reduceAdd] at hF))) | (go_at_call 27; (with_reducible refine (HF.out _ hS.ext).mono ?_); rintro e wk ⟨rfl, hX⟩; replace hS := hS.step hX; clear hX; ((try clear hF); (first | have hF := And.intro hS.facts (hR.at hS.ext) | have hF := hS.facts); simp only [HFacts, cellFacts, RFacts, cellOnly, and_true, true_and, Nat.zero_add, Nat.reduceAdd] at hF)))
    exact bodyPost_ret (v := .agg #[.int .i64 0, .int .i64 0, .int .i64 0, .int .i64 0, .string ⟨#[]⟩, .int .i64 0, .int .i64 0, .string ⟨#[]⟩]) (by simp [results, Tryz.results55, go_sem, hF]) rfl ⟨rfl, hS.ext⟩
  · rw [if_neg hneg]
    obtain ⟨j, rfl⟩ := Int.eq_ofNat_of_zero_le (show 0 ≤ ix by omega)
    have hjn : j < n := by have := hir.2; rw [Hn.out] at this; omega
    obtain ⟨d, hd⟩ : ∃ x, cs[j]? = some x := ⟨cs[j]'(by rw [Hn.out]; exact hjn), List.getElem?_eq_getElem _⟩
    obtain ⟨b1, o1, rfl, d0, d1, d2, d3, d4, d5, d6⟩ := hr j d hd
    rw [Int.toNat_natCast, List.getD_eq_getElem?_getD, hd, Option.getD_some]
    replace hR := Reads.cell d0 (Reads.cell d1 (Reads.cell d2 (Reads.cell d3 (Reads.cell d4 (Reads.cell d5 (Reads.cell d6 hR))))))
    have hj0 : (0 : Int) ≤ (j : Int) := by omega
    have HKD := Lib.hid (fun (W : World) (hX : Ext w W) => HKN.out W d hX)
    obtain ⟨t, ht⟩ : ∃ t, t = knownF f g d := ⟨_, rfl⟩
    rw [← ht] at HKD ⊢
    unfold stV at HKD ⊢
    clear d0 d1 d2 d3 d4 d5 d6 hd hir hneg hr HKN ht
    ((try clear hF); (first | have hF := And.intro hS.facts (hR.at hS.ext) | have hF := hS.facts); simp only [HFacts, cellFacts, RFacts, cellOnly, and_true, true_and, Nat.zero_add, Nat.reduceAdd] at hF)
    go_enter Tryz.func55, Tryz.ntmps55
    go_wp2_with (first | ((with_reducible first | refine nhLa ?_ | refine nhLs ?_ | refine nhLd ?_ | refine nhCa ?_ | refine nhCs ?_ | refine nhCd ?_ | refine nhPa ?_ | refine nhPs ?_ | refine nhPd ?_ | refine nhKa ?_ | refine nhKs ?_ | refine nhKd ?_); ((try clear hF); clear hS; intro wk hS; (try simp only [List.set_cons_zero, List.set_cons_succ, heap_size, heap_set_size] at hS); ((try clear hF); (first | have hF := And.intro hS.facts (hR.at hS.ext) | have hF := hS.facts); simp only [HFacts, cellFacts, RFacts, cellOnly, and_true, true_and, Nat.zero_add, Nat.reduceAdd] at hF))) | (go_at_call 27; (with_reducible refine (HF.out _ hS.ext).mono ?_); rintro e wk ⟨rfl, hX⟩; replace hS := hS.step hX; clear hX; ((try clear hF); (first | have hF := And.intro hS.facts (hR.at hS.ext) | have hF := hS.facts); simp only [HFacts, cellFacts, RFacts, cellOnly, and_true, true_and, Nat.zero_add, Nat.reduceAdd] at hF)))
    ((with_reducible refine wp_region_tail_hp (id := 4) [.q, .q, .q, .q, .q, .q, .q, .t] (by kernel_rfl) rfl (by kernel_rfl) hS ?_); (repeat ((with_reducible refine Walk.here ?_); (first | ((with_reducible apply Walk.skipQ); (first | rfl | exact wanted_false rfl rfl rfl (by assumption)); (try simp only [Mark.isQ, if_true, Bool.false_eq_true, if_false, Act.put, List.setIfInBounds_toArray, List.set_cons_zero, List.set_cons_succ])) | ((with_reducible apply Walk.skipP); (first | rfl | exact wanted_false rfl rfl rfl (by assumption)); (try simp only [Mark.isQ, if_true, Bool.false_eq_true, if_false, Act.put, List.setIfInBounds_toArray, List.set_cons_zero, List.set_cons_succ])) | ((with_reducible apply Walk.val); (first | rfl | exact wanted_true rfl rfl rfl (by assumption)); (rintro w hS; ((try clear hF); (first | have hF := And.intro hS.facts (hR.at hS.ext) | have hF := hS.facts); simp only [HFacts, cellFacts, RFacts, cellOnly, and_true, true_and, Nat.zero_add, Nat.reduceAdd] at hF); go_simp; with_reducible rfl); (try simp only [Mark.isQ, if_true, Bool.false_eq_true, if_false, Act.put, List.setIfInBounds_toArray, List.set_cons_zero, List.set_cons_succ])) | ((with_reducible apply Walk.pure); (first | rfl | exact wanted_true rfl rfl rfl (by assumption)); (intro w; go_simp; with_reducible rfl); (try simp only [Mark.isQ, if_true, Bool.false_eq_true, if_false, Act.put, List.setIfInBounds_toArray, List.set_cons_zero, List.set_cons_succ])) | ((with_reducible apply Walk.call); (first | rfl | exact wanted_true rfl rfl rfl (by assumption)); (rintro w hS; ((try clear hF); (first | have hF := And.intro hS.facts (hR.at hS.ext) | have hF := hS.facts); simp only [HFacts, cellFacts, RFacts, cellOnly, and_true, true_and, Nat.zero_add, Nat.reduceAdd] at hF); go_simp; exact ⟨rfl, rfl⟩); (rintro w hS; first | (with_reducible exact HKD.out w hS.ext)); (try simp only [Mark.isQ, if_true, Bool.false_eq_true, if_false, Act.put, List.setIfInBounds_toArray, List.set_cons_zero, List.set_cons_succ])) | ((with_reducible apply Walk.blk); (focus (intro w; go_simp; try with_reducible rfl)); (try simp only [Mark.isQ, if_true, Bool.false_eq_true, if_false, Act.put, List.setIfInBounds_toArray, List.set_cons_zero, List.set_cons_succ])) | ((with_reducible apply Walk.tail); (try simp only [Mark.isQ, if_true, Bool.false_eq_true, if_false, Act.put, List.setIfInBounds_toArray, List.set_cons_zero, List.set_cons_succ])) | ((with_reducible apply Walk.guardT); rfl; rfl; rfl; (all_goals intro hg)) | ((with_reducible apply Walk.guardF); rfl; rfl; rfl; (all_goals intro hg))))); refine Walk.done ?_; (try clear hF); clear hS; intro bs wk hS QN hQN; simp only [itemsOf, blksOf, List.map_cons, List.map_nil, List.cons_append, List.nil_append, Nat.reduceAdd, Nat.zero_add] at hS; simp only [tailsOf, putB, Act.put, List.setIfInBounds_toArray, List.set_cons_zero, List.set_cons_succ, Nat.reduceAdd, Nat.zero_add]; ((try clear hF); (first | have hF := And.intro hS.facts (hR.at hS.ext) | have hF := hS.facts); simp only [HFacts, cellFacts, RFacts, cellOnly, and_true, true_and, Nat.zero_add, Nat.reduceAdd] at hF))
    go_wp2_with (first | ((with_reducible first | refine nhLa ?_ | refine nhLs ?_ | refine nhLd ?_ | refine nhCa ?_ | refine nhCs ?_ | refine nhCd ?_ | refine nhPa ?_ | refine nhPs ?_ | refine nhPd ?_ | refine nhKa ?_ | refine nhKs ?_ | refine nhKd ?_); ((try clear hF); clear hS; intro wk hS; (try simp only [List.set_cons_zero, List.set_cons_succ, heap_size, heap_set_size] at hS); ((try clear hF); (first | have hF := And.intro hS.facts (hR.at hS.ext) | have hF := hS.facts); simp only [HFacts, cellFacts, RFacts, cellOnly, and_true, true_and, Nat.zero_add, Nat.reduceAdd] at hF))) | fail)
    exact bodyPost_ret (v := .agg #[.int .i64 t.count, .int .i64 t.nulls, .int .i64 t.mn.kind, .int .i64 t.mn.num, .string t.mn.text, .int .i64 t.mx.kind, .int .i64 t.mx.num, .string t.mx.text]) (by simp [results, Tryz.results55, go_sem, hF]) rfl ⟨rfl, hS.ext⟩
set_option maxRecDepth 100000 in
set_option maxHeartbeats 8000000 in
theorem fmay_any (cs : List CG) (A : Option Addr) (n cap : Nat) (hn : cs.length = n) (hl : n ≤ 1000) (f : FG) (v vc : Value) (t : CT) (which : Nat) (g : GG) (w : World) (hr : RC w A cs) (hf : RF w v f) (hg : f.groups[which]? = some g) (hg0 : 0 ≤ g.rows) (h60 : g.rows ≤ 60) (hb : g.stats.length = f.cols.length) (hc : f.cols.length ≤ 1000) (hgl : f.groups.length ≤ 100000)
    (hgood : GoodC t) (hct : CondAt w vc t) (ho : OppAt w) :
    Calls Tryz.prog 24 #[v, .int .i64 which, .slice A n cap, vc] w fun e w' => e = .returned (.bool (mayS (knowN f g cs) false t)) ∧ Ext w w' := by
  have HM := Lib.hid (fun (W : World) (bl bf bw : Nat) (vf0 vf1 : Value) (hv : v = .agg #[vf0, vf1]) (hX : Ext w W) (h1 : W.cell? ⟨bl, 0, none⟩ = some (.slice A n cap)) (h2 : W.cell? ⟨bf, 0, none⟩ = some vf0) (h3 : W.cell? ⟨bf, 1, none⟩ = some vf1) (h4 : W.cell? ⟨bw, 0, none⟩ = some (.int .i64 which)) =>
    mayM_any W 55 #[.pointer (some ⟨bl, 0, none⟩), .pointer (some ⟨bf, 0, none⟩), .pointer (some ⟨bw, 0, none⟩)] (knowN f g cs) eg_fmay1 (fun W' hX' s => fmay1_any s bl bf bw cs A n cap hn hl f vf0 vf1 which g W' (hr.ext (hX.trans hX')) (hv ▸ hf.ext (hX.trans hX')) hg hg0 h60 hb hc hgl (hX'.keeps h1) (hX'.keeps h2) (hX'.keeps h3) (hX'.keeps h4)) (ho.ext hX) t vc hgood (hct.ext hX))
  obtain ⟨Ac, cc, Ag, cg, rfl, _, _, _⟩ := hf
  clear hr hg hg0 h60 hb hc hgl hgood hct ho hn
  obtain ⟨rb, hrb⟩ : ∃ b, b = mayS (knowN f g cs) false t := ⟨_, rfl⟩
  rw [← hrb] at HM ⊢
  clear hrb
  generalize f.cols.length = nc at *
  generalize f.groups.length = ng at *
  have hS := Hp.init w
  have hR := Reads.nil w
  go_enter Tryz.func24, Tryz.ntmps24
  go_wp2_with (first | ((with_reducible first | refine nhLa ?_ | refine nhLs ?_ | refine nhLd ?_ | refine nhCa ?_ | refine nhCs ?_ | refine nhCd ?_ | refine nhPa ?_ | refine nhPs ?_ | refine nhPd ?_ | refine nhKa ?_ | refine nhKs ?_ | refine nhKd ?_); ((try clear hF); clear hS; intro wk hS; (try simp only [List.set_cons_zero, List.set_cons_succ, heap_size, heap_set_size] at hS); ((try clear hF); (first | have hF := And.intro hS.facts (hR.at hS.ext) | have hF := hS.facts); simp only [HFacts, cellFacts, RFacts, cellOnly, and_true, true_and, Nat.zero_add, Nat.reduceAdd] at hF))) | (go_at_call 54; (with_reducible refine (HM.out _ _ _ _ _ _ rfl hS.ext hF.1.1 hF.2.2.1.1 hF.2.2.2.1 hF.2.1.1).mono ?_); rintro e wk ⟨rfl, hX⟩; replace hS := hS.step hX; clear hX; ((try clear hF); (first | have hF := And.intro hS.facts (hR.at hS.ext) | have hF := hS.facts); simp only [HFacts, cellFacts, RFacts, cellOnly, and_true, true_and, Nat.zero_add, Nat.reduceAdd] at hF)))
  go_ret
  exact ⟨rfl, hS.ext⟩
end Go.Proofs.YtcpllhjhnfmepaaGreatDoor

/- millpondkeep.FileSkips: the parts of the walk. -/
namespace Go.Proofs.YtcpllhjhnfmepaaGreatDoor
set_option linter.unusedSimpArgs false
set_option linter.unusedVariables false
open Go.RowKit
set_option linter.all false
set_option maxRecDepth 100000 in
theorem eg_skips1 : ∀ args w, (callFunc 26 args).run Tryz.prog w = .ok (.enter 26 args) w := fun _ _ => by kernel_rfl
set_option maxRecDepth 100000 in
set_option maxHeartbeats 8000000 in
theorem skips1_any (s : ByteArray) (bl br bi : Nat) (cs : List CG) (A : Option Addr) (n cap : Nat) (hn : cs.length = n) (hl : n ≤ 1000) (gm i nr : Nat) (r : List GV) (A5 : Option Addr) (c5 : Nat) (hi : i < nr) (hrl : r.length = n) (w : World) (hr : RC w A cs) (hs : NameIn cs s)
    (h1 : w.cell? ⟨bl, 0, none⟩ = some (.slice A n cap)) (h2 : w.cell? ⟨br, 0, none⟩ = some (.slice (some ⟨gm, 0, none⟩) nr nr)) (h3 : w.cell? ⟨bi, 0, none⟩ = some (.int .i64 i)) (h4 : w.cell? ⟨gm, i, none⟩ = some (.slice A5 n c5)) (hv : RV w A5 r) :
    Calls Tryz.prog 26 #[.string s, .pointer (some ⟨br, 0, none⟩), .pointer (some ⟨bi, 0, none⟩), .pointer (some ⟨bl, 0, none⟩)] w fun e w' => e = .returned (.agg #[.int .i64 (rowG cs r s).kind, .int .i64 (rowG cs r s).num, .string (rowG cs r s).text]) ∧ Ext w w' := by
  have Hn := Lib.hid hn
  have HF := Lib.hid (fun W (hX : Ext w W) => show Calls Tryz.prog 27 #[.slice A n cap, .string s] W (fun e w' => e = .returned (.int .i64 (idxC (nmEq s) 0 cs)) ∧ Ext W w') from by
    have := find_any cs A cap s W (hr.ext hX) (by rw [Hn.out]; omega)
    rw [Hn.out] at this
    exact this)
  obtain ⟨ix, hix⟩ : ∃ ix, ix = idxC (nmEq s) 0 cs := ⟨_, rfl⟩
  have hir := idxC_range (nmEq s) cs 0
  unfold NameIn at hs
  unfold rowG
  rw [← hix] at HF hir hs ⊢
  clear hix
  obtain ⟨j, rfl⟩ := Int.eq_ofNat_of_zero_le hs
  have hjn : j < n := by have := hir.2; rw [Hn.out] at this; omega
  obtain ⟨x, hx⟩ : ∃ x, r[j]? = some x := ⟨r[j]'(by omega), List.getElem?_eq_getElem _⟩
  obtain ⟨b5, o5, rfl, x0, x1, x2⟩ := hv j x hx
  rw [Int.toNat_natCast, List.getD_eq_getElem?_getD, hx, Option.getD_some]
  have hR := Reads.cell h1 (Reads.cell h2 (Reads.cell h3 (Reads.cell h4 (Reads.cell x0 (Reads.cell x1 (Reads.cell x2 (Reads.nil w)))))))
  have hi0 : (0 : Int) ≤ (i : Int) := by omega
  have hj0 : (0 : Int) ≤ (j : Int) := by omega
  clear x0 x1 x2 h1 h2 h3 h4 hir hs hx hr hrl
  have hS := Hp.init w
  ((try clear hF); (first | have hF := And.intro hS.facts (hR.at hS.ext) | have hF := hS.facts); simp only [HFacts, cellFacts, RFacts, cellOnly, and_true, true_and, Nat.zero_add, Nat.reduceAdd] at hF)
  go_enter Tryz.func26, Tryz.ntmps26
  go_wp2_with (first | ((with_reducible first | refine nhLa ?_ | refine nhLs ?_ | refine nhLd ?_ | refine nhCa ?_ | refine nhCs ?_ | refine nhCd ?_ | refine nhPa ?_ | refine nhPs ?_ | refine nhPd ?_ | refine nhKa ?_ | refine nhKs ?_ | refine nhKd ?_); ((try clear hF); clear hS; intro wk hS; (try simp only [List.set_cons_zero, List.set_cons_succ, heap_size, heap_set_size] at hS); ((try clear hF); (first | have hF := And.intro hS.facts (hR.at hS.ext) | have hF := hS.facts); simp only [HFacts, cellFacts, RFacts, cellOnly, and_true, true_and, Nat.zero_add, Nat.reduceAdd] at hF))) | fail)
  ((with_reducible refine wp_region_tail_hp (id := 1) [.q, .q, .q, .q, .q, .q, .q, .q, .q, .t] (by kernel_rfl) rfl (by kernel_rfl) hS ?_); (repeat ((with_reducible refine Walk.here ?_); (first | ((with_reducible apply Walk.skipQ); (first | rfl | exact wanted_false rfl rfl rfl (by assumption)); (try simp only [Mark.isQ, if_true, Bool.false_eq_true, if_false, Act.put, List.setIfInBounds_toArray, List.set_cons_zero, List.set_cons_succ])) | ((with_reducible apply Walk.skipP); (first | rfl | exact wanted_false rfl rfl rfl (by assumption)); (try simp only [Mark.isQ, if_true, Bool.false_eq_true, if_false, Act.put, List.setIfInBounds_toArray, List.set_cons_zero, List.set_cons_succ])) | ((with_reducible apply Walk.val); (first | rfl | exact wanted_true rfl rfl rfl (by assumption)); (rintro w hS; ((try clear hF); (first | have hF := And.intro hS.facts (hR.at hS.ext) | have hF := hS.facts); simp only [HFacts, cellFacts, RFacts, cellOnly, and_true, true_and, Nat.zero_add, Nat.reduceAdd] at hF); go_simp; with_reducible rfl); (try simp only [Mark.isQ, if_true, Bool.false_eq_true, if_false, Act.put, List.setIfInBounds_toArray, List.set_cons_zero, List.set_cons_succ])) | ((with_reducible apply Walk.pure); (first | rfl | exact wanted_true rfl rfl rfl (by assumption)); (intro w; go_simp; with_reducible rfl); (try simp only [Mark.isQ, if_true, Bool.false_eq_true, if_false, Act.put, List.setIfInBounds_toArray, List.set_cons_zero, List.set_cons_succ])) | ((with_reducible apply Walk.call); (first | rfl | exact wanted_true rfl rfl rfl (by assumption)); (rintro w hS; ((try clear hF); (first | have hF := And.intro hS.facts (hR.at hS.ext) | have hF := hS.facts); simp only [HFacts, cellFacts, RFacts, cellOnly, and_true, true_and, Nat.zero_add, Nat.reduceAdd] at hF); go_simp; exact ⟨rfl, rfl⟩); (rintro w hS; first | (with_reducible exact HF.out w hS.ext)); (try simp only [Mark.isQ, if_true, Bool.false_eq_true, if_false, Act.put, List.setIfInBounds_toArray, List.set_cons_zero, List.set_cons_succ])) | ((with_reducible apply Walk.blk); (focus (intro w; go_simp; try with_reducible rfl)); (try simp only [Mark.isQ, if_true, Bool.false_eq_true, if_false, Act.put, List.setIfInBounds_toArray, List.set_cons_zero, List.set_cons_succ])) | ((with_reducible apply Walk.tail); (try simp only [Mark.isQ, if_true, Bool.false_eq_true, if_false, Act.put, List.setIfInBounds_toArray, List.set_cons_zero, List.set_cons_succ])) | ((with_reducible apply Walk.guardT); rfl; rfl; rfl; (all_goals intro hg)) | ((with_reducible apply Walk.guardF); rfl; rfl; rfl; (all_goals intro hg))))); refine Walk.done ?_; (try clear hF); clear hS; intro bs wk hS QN hQN; simp only [itemsOf, blksOf, List.map_cons, List.map_nil, List.cons_append, List.nil_append, Nat.reduceAdd, Nat.zero_add] at hS; simp only [tailsOf, putB, Act.put, List.setIfInBounds_toArray, List.set_cons_zero, List.set_cons_succ, Nat.reduceAdd, Nat.zero_add]; ((try clear hF); (first | have hF := And.intro hS.facts (hR.at hS.ext) | have hF := hS.facts); simp only [HFacts, cellFacts, RFacts, cellOnly, and_true, true_and, Nat.zero_add, Nat.reduceAdd] at hF))
  go_wp2_with (first | ((with_reducible first | refine nhLa ?_ | refine nhLs ?_ | refine nhLd ?_ | refine nhCa ?_ | refine nhCs ?_ | refine nhCd ?_ | refine nhPa ?_ | refine nhPs ?_ | refine nhPd ?_ | refine nhKa ?_ | refine nhKs ?_ | refine nhKd ?_); ((try clear hF); clear hS; intro wk hS; (try simp only [List.set_cons_zero, List.set_cons_succ, heap_size, heap_set_size] at hS); ((try clear hF); (first | have hF := And.intro hS.facts (hR.at hS.ext) | have hF := hS.facts); simp only [HFacts, cellFacts, RFacts, cellOnly, and_true, true_and, Nat.zero_add, Nat.reduceAdd] at hF))) | fail)
  exact bodyPost_ret (v := .agg #[.int .i64 x.kind, .int .i64 x.num, .string x.text]) (by simp [results, Tryz.results26, go_sem, hF]) rfl ⟨rfl, hS.ext⟩
/-- what Read hands back, of a file that Make made -/
theorem read_made {cs : List CG} {rs : List (List GV)} (h : mkE cs rs = 0) (hv : ∀ r ∈ rs, ∀ x ∈ r, i64 x.num) {k : Nat} (hk : k < (rs.length + 5) / 6) {A : Option Addr} {n cap : Nat} (hn : cs.length = n) (hl : n ≤ 1000) {W : World} {v : Value} (hf : RF W v (makeF cs rs)) (hr : RC W A cs) :
    Calls Tryz.prog 23 #[v, .int .i64 k, .slice A n cap] W fun e w' => ∃ gm, e = .returned (.tuple #[.slice (some ⟨gm, 0, none⟩) (partM rs k).length (partM rs k).length, .nilIface]) ∧ Ext W w' ∧ Hid (RR w' (some ⟨gm, 0, none⟩) (partM rs k)) := by
  subst hn
  have hfine := fine_made h hv
  have hg : (makeF cs rs).groups[k]? = some (grpM cs (partM rs k)) := by
    unfold makeF
    simp [List.getElem?_map, List.getElem?_range, hk]
  have h1 := hfine.g _ (List.mem_of_getElem? hg)
  have := fread_any (makeF cs rs) v k (grpM cs (partM rs k)) cs A cap W hf hr hg h1.1 h1.2.1 h1.2.2.1 h1.2.2.2.2 hfine.c hl (by have := hfine.n; omega)
  rw [readV_made h hv k cs 0 rfl] at this
  refine this.mono fun e w' ⟨gm, xs, e1, e2, e3, e4⟩ => ?_
  have hrows := mk_rows (mk_good h).2.2.2
  have e5 : (grpM cs (partM rs k)).rows.toNat = (partM rs k).length := Int.toNat_natCast _
  have e6 : xs.map (·.2.2) = partM rs k := by
    rw [e3.out, e5, ← List.range_eq_range', List.range_eq_range']
    exact rowsOf_made fun r hr' => row_len (hrows r (partM_mem hr'))
  rw [e5] at e1 e4
  refine ⟨gm, e1, e4.ext, Lib.hid ?_⟩
  have := e4.rrb 0 rfl (fun x hx => by simp [hx]) (RBuilt.rows xs)
  rw [e6] at this
  exact this
end Go.Proofs.YtcpllhjhnfmepaaGreatDoor

/- millpondkeep.FileSkips: the walk, where a file is made and the condition may be asked. -/
namespace Go.Proofs.YtcpllhjhnfmepaaGreatDoor
set_option linter.unusedSimpArgs false
set_option linter.unusedVariables false
open Go.RowKit
set_option linter.all false
def addrOf2 : Value → Addr
  | .pointer (some a) => a
  | _ => ⟨0, 0, none⟩
theorem Hp.wnow {B : Nat} {w0 w : World} {L : List Item} (h : Hp B w0 w L) : ∃ x, x = w := ⟨w, rfl⟩
theorem Hp.wroot {B : Nat} {w0 w : World} {L : List Item} (h : Hp B w0 w L) : ∃ x, x = w0 := ⟨w0, rfl⟩
set_option maxRecDepth 100000 in
set_option maxHeartbeats 8000000 in
theorem skips_good (cs : List CG) (P : Nat → List (List GV)) (mb : Nat → Bool) (t : CT) (n m q ng : Nat) (bA oA : Nat) (A2 A3 : Option Addr) (cap cap2 cap3 : Nat) (w : World) (f : FG)
    (Hn : Hid (cs.length = n)) (h1 : 1 ≤ n) (hn : n ≤ 20) (hng : ng ≤ 100) (HP : Hid (∀ k, (P k).length ≤ 60 ∧ ∀ r ∈ P k, r.length = n)) (HA0 : Hid (AllC (NameIn cs) t))
    (HC : Hid (RC w (some ⟨bA, oA, none⟩) cs)) (HO : Hid (OppAt w)) (HSK : Hid (∀ k, mb k = false → ∀ r ∈ P k, evalC (rowG cs r) t ≠ 1))
    (H1 : Hid (∀ W : World, Ext w W → Calls Tryz.prog 6 #[.slice (some ⟨bA, oA, none⟩) n cap] W fun e w' => e = .returned (.bool true) ∧ Ext W w'))
    (H2 : Hid (∀ W : World, Ext w W → Calls Tryz.prog 7 #[.slice A2 m cap2] W fun e w' => e = .returned (.bool true) ∧ Ext W w'))
    (H3 : Hid (∀ W : World, Ext w W → Calls Tryz.prog 8 #[] W fun e w' => e = .returned (.bool true) ∧ Ext W w'))
    (HCO : Hid (∀ W : World, Ext w W → Calls Tryz.prog 21 #[.slice A3 q cap3] W fun e w' => (∃ v, e = .returned v ∧ CondAt w' v t) ∧ Ext W w'))
    (HM : Hid (∀ W : World, Ext w W → Calls Tryz.prog 11 #[.slice (some ⟨bA, oA, none⟩) n cap, .slice A2 m cap2] W (FilRes W f n ng)))
    (HSC : Hid (∀ (W : World) (vc : Value), CondAt W vc t → Ext w W → Calls Tryz.prog 22 #[.slice (some ⟨bA, oA, none⟩) n cap, vc] W fun e w' => e = .returned .nilIface ∧ Ext W w'))
    (HRD : Hid (∀ (W : World) (v : Value) (k : Nat), k < ng → RF W v f → Ext w W → Calls Tryz.prog 23 #[v, .int .i64 k, .slice (some ⟨bA, oA, none⟩) n cap] W fun e w' => ∃ gm, e = .returned (.tuple #[.slice (some ⟨gm, 0, none⟩) (P k).length (P k).length, .nilIface]) ∧ Ext W w' ∧ Hid (RR w' (some ⟨gm, 0, none⟩) (P k))))
    (HMY : Hid (∀ (W : World) (v vc : Value) (k : Nat), k < ng → RF W v f → CondAt W vc t → Ext w W → Calls Tryz.prog 24 #[v, .int .i64 k, .slice (some ⟨bA, oA, none⟩) n cap, vc] W fun e w' => e = .returned (.bool (mb k)) ∧ Ext W w'))
    (HKN : Hid (∀ (W : World) (v : Value) (k j : Nat) (c : CG), k < ng → cs[j]? = some c → RF W v f → Calls Tryz.prog 28 #[v, .int .i64 k, .agg #[.int .i64 c.id, .string c.name, .int .i64 c.kind, .bool c.must, .int .i64 c.d.kind, .int .i64 c.d.num, .string c.d.text]] W fun e w' => e = .returned (stV (ofS (colL (P k) j))) ∧ Ext W w')) :
    Calls Tryz.prog 5 #[.slice (some ⟨bA, oA, none⟩) n cap, .slice A2 m cap2, .slice A3 q cap3] w fun e w' => e = .returned (.bool true) ∧ Ext w w' := by
  have HX := Lib.hid (Ext.refl w)
  have hS := Hp.init w
  have hR := Reads.nil w
  go_enter Tryz.func5, Tryz.ntmps5
  go_wp2_with (first | ((with_reducible first | refine nhLa ?_ | refine nhLs ?_ | refine nhLd ?_ | refine nhCa ?_ | refine nhCs ?_ | refine nhCd ?_ | refine nhPa ?_ | refine nhPs ?_ | refine nhPd ?_ | refine nhKa ?_ | refine nhKs ?_ | refine nhKd ?_); ((try clear hF); clear hS; intro wk hS; (try simp only [List.set_cons_zero, List.set_cons_succ, heap_size, heap_set_size] at hS); ((try clear hF); (first | have hF := And.intro hS.facts (hR.at hS.ext) | have hF := hS.facts); simp only [HFacts, cellFacts, RFacts, cellOnly, and_true, true_and, Nat.zero_add, Nat.reduceAdd] at hF))) | (go_at_call 6; (with_reducible refine (H1.out _ (HX.out.trans hS.ext)).mono ?_); rintro e wk ⟨rfl, hX⟩; replace hS := hS.step hX; clear hX; ((try clear hF); (first | have hF := And.intro hS.facts (hR.at hS.ext) | have hF := hS.facts); simp only [HFacts, cellFacts, RFacts, cellOnly, and_true, true_and, Nat.zero_add, Nat.reduceAdd] at hF)) | (go_at_call 7; (with_reducible refine (H2.out _ (HX.out.trans hS.ext)).mono ?_); rintro e wk ⟨rfl, hX⟩; replace hS := hS.step hX; clear hX; ((try clear hF); (first | have hF := And.intro hS.facts (hR.at hS.ext) | have hF := hS.facts); simp only [HFacts, cellFacts, RFacts, cellOnly, and_true, true_and, Nat.zero_add, Nat.reduceAdd] at hF)) | (go_at_call 8; (with_reducible refine (H3.out _ (HX.out.trans hS.ext)).mono ?_); rintro e wk ⟨rfl, hX⟩; replace hS := hS.step hX; clear hX; ((try clear hF); (first | have hF := And.intro hS.facts (hR.at hS.ext) | have hF := hS.facts); simp only [HFacts, cellFacts, RFacts, cellOnly, and_true, true_and, Nat.zero_add, Nat.reduceAdd] at hF)) | (go_at_call 21; (with_reducible refine Calls.mono (HCO.out _ (HX.out.trans hS.ext)) ?_); rintro e wk ⟨⟨vc, rfl, hCT⟩, hX⟩; (obtain ⟨pc, rfl⟩ := hCT.pointer); have CT := Lib.hid hCT; clear hCT; have C3 := Lib.hid (hX.keeps hS.facts.1.1.1); have hX2 := hS.ext.trans hX; replace hS := hS.step hX; clear hX; have hRn := Reads.blk (hS.blkAt 0 rfl) (Reads.nil wk); replace HX := Lib.hid (HX.out.trans hX2); skip; clear hX2 hS hR; (try clear hF); have hS := Hp.init wk; have hR := hRn; clear hRn; ((try clear hF); (first | have hF := And.intro hS.facts (hR.at hS.ext) | have hF := hS.facts); simp only [HFacts, cellFacts, RFacts, cellOnly, and_true, true_and, Nat.zero_add, Nat.reduceAdd] at hF)) | (go_at_call 11; (with_reducible refine Calls.mono (HM.out _ (HX.out.trans hS.ext)) ?_); rintro e wk ⟨Ac1, cc1, Ag1, cg1, rfl, hX, F1⟩; replace C3 := Lib.hid ((hS.ext.trans hX).keeps C3.out); have hX2 := hS.ext.trans hX; replace hS := hS.step hX; clear hX; have hRn := hR.ext hX2; replace HX := Lib.hid (HX.out.trans hX2); (try replace CT := Lib.hid (CT.out.ext hX2)); clear hX2 hS hR; (try clear hF); have hS := Hp.init wk; have hR := hRn; clear hRn; ((try clear hF); (first | have hF := And.intro hS.facts (hR.at hS.ext) | have hF := hS.facts); simp only [HFacts, cellFacts, RFacts, cellOnly, and_true, true_and, Nat.zero_add, Nat.reduceAdd] at hF)) | (go_at_call 22; (with_reducible refine (HSC.out _ _ (CT.out.ext hS.ext) (HX.out.trans hS.ext)).mono ?_); rintro e wk ⟨rfl, hX⟩; replace hS := hS.step hX; clear hX; ((try clear hF); (first | have hF := And.intro hS.facts (hR.at hS.ext) | have hF := hS.facts); simp only [HFacts, cellFacts, RFacts, cellOnly, and_true, true_and, Nat.zero_add, Nat.reduceAdd] at hF)))
  obtain ⟨w1, hw1⟩ := hS.wnow
  subst hw1
  have hX2 := hS.ext
  have hRn := Reads.blk (hS.blkAt 0 rfl) (hR.ext hX2)
  replace F1 := Lib.hid (F1.out.ext hX2)
  replace CT := Lib.hid (CT.out.ext hX2)
  replace HX := Lib.hid (HX.out.trans hX2)
  replace C3 := Lib.hid (hX2.keeps C3.out)
  clear hX2 hS hR hF H1 H2 H3 HCO HM HSC
  have hS := Hp.init w1
  have hR := hRn
  clear hRn
  go_loopw [46] (fun i wr => ∃ k : Nat, i = .int .i64 k ∧ k ≤ ng ∧ Hp w1.heap.size w1 wr []) (fun i _ => ng - (intOf i).toNat)
  case atStart => exact ⟨0, rfl, Nat.zero_le _, hS⟩
  case round =>
    clear hS
    obtain ⟨k, rfl, hk, hS⟩ := hrel
    by_cases hlt : k < ng
    · obtain ⟨nr, hnr⟩ : ∃ n, n = (P k).length := ⟨_, rfl⟩
      have HPK := Lib.hid (HP.out k).2
      have hnr60 : nr ≤ 60 := by rw [hnr]; exact (HP.out k).1
      have HNR := Lib.hid hnr
      have HRDk := Lib.hid (fun (W : World) (v : Value) (h : RF W v f) (hx : Ext w W) => show Calls Tryz.prog 23 #[v, .int .i64 k, .slice (some ⟨bA, oA, none⟩) n cap] W (fun e w' => ∃ gm, e = .returned (.tuple #[.slice (some ⟨gm, 0, none⟩) nr nr, .nilIface]) ∧ Ext W w' ∧ Hid (RR w' (some ⟨gm, 0, none⟩) (P k))) from by
        rw [hnr]
        exact HRD.out W v k hlt h hx)
      clear hnr
      ((try clear hF); (first | have hF := And.intro hS.facts (hR.at hS.ext) | have hF := hS.facts); simp only [HFacts, cellFacts, RFacts, cellOnly, and_true, true_and, Nat.zero_add, Nat.reduceAdd] at hF)
      go_wp2_with (first | ((with_reducible first | refine nhLa ?_ | refine nhLs ?_ | refine nhLd ?_ | refine nhCa ?_ | refine nhCs ?_ | refine nhCd ?_ | refine nhPa ?_ | refine nhPs ?_ | refine nhPd ?_ | refine nhKa ?_ | refine nhKs ?_ | refine nhKd ?_); ((try clear hF); clear hS; intro wk hS; (try simp only [List.set_cons_zero, List.set_cons_succ, heap_size, heap_set_size] at hS); ((try clear hF); (first | have hF := And.intro hS.facts (hR.at hS.ext) | have hF := hS.facts); simp only [HFacts, cellFacts, RFacts, cellOnly, and_true, true_and, Nat.zero_add, Nat.reduceAdd] at hF))) | (go_at_call 23; (with_reducible refine Calls.mono (HRDk.out _ _ (F1.out.ext hS.ext) (HX.out.trans hS.ext)) ?_); rintro e wk ⟨gm, rfl, hX, RW⟩; have HB := Lib.hid (hS.ext.trans hX); replace C3 := Lib.hid ((hS.ext.trans hX).keeps C3.out); have hX2 := hS.ext.trans hX; replace hS := hS.step hX; clear hX; have hRn := hR.ext hX2; replace HX := Lib.hid (HX.out.trans hX2); (try replace CT := Lib.hid (CT.out.ext hX2)); (try replace F1 := Lib.hid (F1.out.ext hX2)); clear hX2 hS hR; (try clear hF); have hS := Hp.init wk; have hR := hRn; clear hRn; ((try clear hF); (first | have hF := And.intro hS.facts (hR.at hS.ext) | have hF := hS.facts); simp only [HFacts, cellFacts, RFacts, cellOnly, and_true, true_and, Nat.zero_add, Nat.reduceAdd] at hF)))
      obtain ⟨w3, hw3⟩ := hS.wroot
      subst hw3
      clear hF HRDk
      go_loopw [13] (fun p wr => ∃ (g j : Nat), p = .pointer (some ⟨g, 0, none⟩) ∧ j ≤ nr ∧ Hp w3.heap.size w3 wr [.blk g [.int .i64 j] 3, .blk w3.heap.size [.slice (some ⟨gm, 0, none⟩) nr nr] 23]) (fun p wr => nr - (intOf ((wr.cell? (addrOf2 p)).getD undef)).toNat)
      case atStart => exact ⟨_, 0, rfl, Nat.zero_le _, hS⟩
      case round =>
        clear hS
        obtain ⟨g, j, rfl, hj, hS⟩ := hrel
        have HMW := Lib.hid (show _ = some (Value.int .i64 j) from hS.facts.1.1.1)
        by_cases hjt : j < nr
        · obtain ⟨r, hr'⟩ : ∃ x, (P k)[j]? = some x := ⟨(P k)[j]'(by rw [← HNR.out]; exact hjt), List.getElem?_eq_getElem _⟩
          have hrl := HPK.out r (List.mem_of_getElem? hr')
          obtain ⟨b4, o4, A5, c5, hA, r0, X5⟩ := RW.out j r hr'
          obtain ⟨rfl, rfl⟩ : gm = b4 ∧ 0 = o4 := by simpa using hA
          rw [hrl, Nat.zero_add] at r0
          have X5 := Lib.hid X5
          have R0 := Lib.hid r0
          have HMYk := Lib.hid (fun (W : World) (hx : Ext w3 W) => HMY.out W _ _ k hlt (F1.out.ext hx) (CT.out.ext hx) (HX.out.trans hx))
          clear hA r0
          cases hmb : mb k with
          | true =>
            rw [hmb] at HMYk
            clear hmb hr'
            ((try clear hF); (first | have hF := And.intro hS.facts (hR.at hS.ext) | have hF := hS.facts); simp only [HFacts, cellFacts, RFacts, cellOnly, and_true, true_and, Nat.zero_add, Nat.reduceAdd] at hF)
            go_wp2_with (first | ((with_reducible first | refine nhLa ?_ | refine nhLs ?_ | refine nhLd ?_ | refine nhCa ?_ | refine nhCs ?_ | refine nhCd ?_ | refine nhPa ?_ | refine nhPs ?_ | refine nhPd ?_ | refine nhKa ?_ | refine nhKs ?_ | refine nhKd ?_); ((try clear hF); clear hS; intro wk hS; (try simp only [List.set_cons_zero, List.set_cons_succ, heap_size, heap_set_size] at hS); ((try clear hF); (first | have hF := And.intro hS.facts (hR.at hS.ext) | have hF := hS.facts); simp only [HFacts, cellFacts, RFacts, cellOnly, and_true, true_and, Nat.zero_add, Nat.reduceAdd] at hF))) | (go_at_call 24; (with_reducible refine (HMYk.out _ hS.ext).mono ?_); rintro e wk ⟨rfl, hX⟩; replace hS := hS.step hX; clear hX; ((try clear hF); (first | have hF := And.intro hS.facts (hR.at hS.ext) | have hF := hS.facts); simp only [HFacts, cellFacts, RFacts, cellOnly, and_true, true_and, Nat.zero_add, Nat.reduceAdd] at hF)))
            have hS2 := hS.put (i := 0) (j := 0) (u := .int .i64 ((j : Int) + 1)) rfl
            simp only [List.set_cons_zero] at hS2
            have c1 := hS2.facts.1.1.1
            have c0 := HMW.out
            go_roundw
            case rel => exact ⟨_, j + 1, rfl, by omega, by have := hS2.drop 1; simpa using this⟩
            case measure =>
              simp only [addrOf2, c1, c0, Option.getD_some, intOf]
              omega
          | false =>
            have hev := HSK.out k hmb r (List.mem_of_getElem? hr')
            rw [hmb] at HMYk
            have HHO := Lib.hid (fun (W : World) (hx : Ext w3 W) (k1 : W.cell? ⟨g, 0, none⟩ = some (.int .i64 j)) (k2 : W.cell? ⟨w3.heap.size, 0, none⟩ = some (.slice (some ⟨gm, 0, none⟩) nr nr)) => holds_in W 26 #[.pointer (some ⟨w3.heap.size, 0, none⟩), .pointer (some ⟨g, 0, none⟩), .pointer (some ⟨w.heap.size, 0, none⟩)] (NameIn cs) (rowG cs r) eg_skips1 (fun W' hx' s hs => skips1_any s w.heap.size w3.heap.size g cs (some ⟨bA, oA, none⟩) n cap Hn.out (by omega) gm j nr r A5 c5 hjt hrl W' (HC.out.ext (HX.out.trans (hx.trans hx'))) hs ((hx.trans hx').keeps C3.out) (hx'.keeps k2) (hx'.keeps k1) ((hx.trans hx').keeps R0.out) (X5.out.ext (hx.trans hx'))) t _ W HA0.out (CT.out.ext hx) (Ext.refl W))
            obtain ⟨ev, hev'⟩ : ∃ v, v = evalC (rowG cs r) t := ⟨_, rfl⟩
            rw [← hev'] at HHO hev
            have e1 : (ev == 1) = false := by simpa using hev
            clear hmb hr' hev hev'
            ((try clear hF); (first | have hF := And.intro hS.facts (hR.at hS.ext) | have hF := hS.facts); simp only [HFacts, cellFacts, RFacts, cellOnly, and_true, true_and, Nat.zero_add, Nat.reduceAdd] at hF)
            go_wp2_with (first | ((with_reducible first | refine nhLa ?_ | refine nhLs ?_ | refine nhLd ?_ | refine nhCa ?_ | refine nhCs ?_ | refine nhCd ?_ | refine nhPa ?_ | refine nhPs ?_ | refine nhPd ?_ | refine nhKa ?_ | refine nhKs ?_ | refine nhKd ?_); ((try clear hF); clear hS; intro wk hS; (try simp only [List.set_cons_zero, List.set_cons_succ, heap_size, heap_set_size] at hS); ((try clear hF); (first | have hF := And.intro hS.facts (hR.at hS.ext) | have hF := hS.facts); simp only [HFacts, cellFacts, RFacts, cellOnly, and_true, true_and, Nat.zero_add, Nat.reduceAdd] at hF))) | (go_at_call 24; (with_reducible refine (HMYk.out _ hS.ext).mono ?_); rintro e wk ⟨rfl, hX⟩; replace hS := hS.step hX; clear hX; ((try clear hF); (first | have hF := And.intro hS.facts (hR.at hS.ext) | have hF := hS.facts); simp only [HFacts, cellFacts, RFacts, cellOnly, and_true, true_and, Nat.zero_add, Nat.reduceAdd] at hF)) | (go_at_call 25; (with_reducible refine (HHO.out _ hS.ext hF.1.1.1 hF.1.2.1).mono ?_); rintro e wk ⟨rfl, hX⟩; replace hS := hS.step hX; clear hX; ((try clear hF); (first | have hF := And.intro hS.facts (hR.at hS.ext) | have hF := hS.facts); simp only [HFacts, cellFacts, RFacts, cellOnly, and_true, true_and, Nat.zero_add, Nat.reduceAdd] at hF)))
            have hS2 := hS.put (i := 0) (j := 0) (u := .int .i64 ((j : Int) + 1)) rfl
            simp only [List.set_cons_zero] at hS2
            have c1 := hS2.facts.1.1.1
            have c0 := HMW.out
            go_roundw
            case rel => exact ⟨_, j + 1, rfl, by omega, by have := hS2.drop 1; simpa using this⟩
            case measure =>
              simp only [addrOf2, c1, c0, Option.getD_some, intOf]
              omega
        · obtain rfl : nr = j := by omega
          clear hjt hj HMW
          ((try clear hF); (first | have hF := And.intro hS.facts (hR.at hS.ext) | have hF := hS.facts); simp only [HFacts, cellFacts, RFacts, cellOnly, and_true, true_and, Nat.zero_add, Nat.reduceAdd] at hF)
          go_wp2_with (first | ((with_reducible first | refine nhLa ?_ | refine nhLs ?_ | refine nhLd ?_ | refine nhCa ?_ | refine nhCs ?_ | refine nhCd ?_ | refine nhPa ?_ | refine nhPs ?_ | refine nhPd ?_ | refine nhKa ?_ | refine nhKs ?_ | refine nhKd ?_); ((try clear hF); clear hS; intro wk hS; (try simp only [List.set_cons_zero, List.set_cons_succ, heap_size, heap_set_size] at hS); ((try clear hF); (first | have hF := And.intro hS.facts (hR.at hS.ext) | have hF := hS.facts); simp only [HFacts, cellFacts, RFacts, cellOnly, and_true, true_and, Nat.zero_add, Nat.reduceAdd] at hF))) | fail)
          replace hS := hS.drop 0
          simp only [List.eraseIdx_cons_zero] at hS
          clear hF
          go_loopw [14] (fun i wr => ∃ j2 : Nat, i = .int .i64 j2 ∧ j2 ≤ n ∧ Hp w3.heap.size w3 wr [.blk w3.heap.size [.slice (some ⟨gm, 0, none⟩) nr nr] 23]) (fun i _ => n - (intOf i).toNat)
          case atStart => exact ⟨0, rfl, Nat.zero_le _, hS⟩
          case round =>
            clear hS
            obtain ⟨j2, rfl, hj2, hS⟩ := hrel
            by_cases hlt2 : j2 < n
            · obtain ⟨c, hc'⟩ : ∃ x, cs[j2]? = some x := ⟨cs[j2]'(by rw [Hn.out]; exact hlt2), List.getElem?_eq_getElem _⟩
              have HKNj := Lib.hid (fun (W : World) (hx : Ext w3 W) => HKN.out W _ k j2 c hlt hc' (F1.out.ext hx))
              have HOF := Lib.hid (fun (W : World) (A : Option Addr) (cap : Nat) (h : RV W A (colL (P k) j2)) => show Calls Tryz.prog 29 #[.slice A nr cap] W (fun e w' => e = .returned (stV (ofS (colL (P k) j2))) ∧ Ext W w') from by
                have hle : (colL (P k) j2).length = nr := by unfold colL; rw [List.length_map, HNR.out]
                have := of_any (colL (P k) j2) A cap W h (by omega)
                rw [hle] at this
                exact this)
              obtain ⟨bC, oC, hCA, c0, c1, c2, c3, c4, c5, c6⟩ := (HC.out.ext HX.out) j2 c hc'
              obtain ⟨rfl, rfl⟩ : bA = bC ∧ oA = oC := by simpa using hCA
              have hR2 := Lib.hid (Reads.cell c0 (Reads.cell c1 (Reads.cell c2 (Reads.cell c3 (Reads.cell c4 (Reads.cell c5 (Reads.cell c6 hR)))))))
              obtain ⟨T, hT⟩ : ∃ T, T = ofS (colL (P k) j2) := ⟨_, rfl⟩
              rw [← hT] at HKNj HOF
              unfold stV at HKNj HOF
              clear hT hc' hCA c0 c1 c2 c3 c4 c5 c6
              ((try clear hF); (first | have hF := And.intro hS.facts (hR.at hS.ext) | have hF := hS.facts); simp only [HFacts, cellFacts, RFacts, cellOnly, and_true, true_and, Nat.zero_add, Nat.reduceAdd] at hF)
              go_wp2_with (first | ((with_reducible first | refine nhLa ?_ | refine nhLs ?_ | refine nhLd ?_ | refine nhCa ?_ | refine nhCs ?_ | refine nhCd ?_ | refine nhPa ?_ | refine nhPs ?_ | refine nhPd ?_ | refine nhKa ?_ | refine nhKs ?_ | refine nhKd ?_); ((try clear hF); clear hS; intro wk hS; (try simp only [List.set_cons_zero, List.set_cons_succ, heap_size, heap_set_size] at hS); ((try clear hF); (first | have hF := And.intro hS.facts (hR.at hS.ext) | have hF := hS.facts); simp only [HFacts, cellFacts, RFacts, cellOnly, and_true, true_and, Nat.zero_add, Nat.reduceAdd] at hF))) | fail)
              replace hS := hS.nilRow 45 3
              clear hF
              go_loopw [16, 15] (fun i v wr => ∃ (i3 : Nat) (A6 : Option Addr) (c6 : Nat), i = .int .i64 i3 ∧ i3 ≤ nr ∧ v = .slice A6 i3 c6 ∧ Hp w3.heap.size w3 wr (.row 45 3 A6 i3 c6 (cellsV ((colL (P k) j2).take i3)) :: [.blk w3.heap.size [.slice (some ⟨gm, 0, none⟩) nr nr] 23])) (fun i _ _ => nr - (intOf i).toNat)
              case atStart => exact ⟨0, none, 0, rfl, Nat.zero_le _, rfl, hS⟩
              case round =>
                clear hS
                obtain ⟨i3, A6, cap6, rfl, hi3, rfl, hS⟩ := hrel
                by_cases hlt3 : i3 < nr
                · obtain ⟨r, hr'⟩ : ∃ x, (P k)[i3]? = some x := ⟨(P k)[i3]'(by rw [← HNR.out]; exact hlt3), List.getElem?_eq_getElem _⟩
                  have hrl := HPK.out r (List.mem_of_getElem? hr')
                  obtain ⟨b4, o4, A5, c5, hA, r0, X5⟩ := RW.out i3 r hr'
                  obtain ⟨rfl, rfl⟩ : gm = b4 ∧ 0 = o4 := by simpa using hA
                  rw [hrl, Nat.zero_add] at r0
                  obtain ⟨x, hx'⟩ : ∃ x, r[j2]? = some x := ⟨r[j2]'(by omega), List.getElem?_eq_getElem _⟩
                  obtain ⟨b5, o5, rfl, x0, x1, x2⟩ := X5 j2 x hx'
                  have HTK := Lib.hid (show (colL (P k) j2).take (i3 + 1) = (colL (P k) j2).take i3 ++ [x] by
                    rw [List.take_add_one]
                    unfold colL
                    rw [List.getElem?_map, hr', Option.map_some, List.getD_eq_getElem?_getD, hx']
                    rfl)
                  clear hA X5 hr' hx' hR
                  have hR := Reads.cell r0 (Reads.cell x0 (Reads.cell x1 (Reads.cell x2 hR2.out)))
                  clear r0 x0 x1 x2
                  ((try clear hF); (first | have hF := And.intro hS.facts (hR.at hS.ext) | have hF := hS.facts); simp only [HFacts, cellFacts, RFacts, cellOnly, and_true, true_and, Nat.zero_add, Nat.reduceAdd] at hF)
                  go_wp2_with (first | ((with_reducible first | refine nhLa ?_ | refine nhLs ?_ | refine nhLd ?_ | refine nhCa ?_ | refine nhCs ?_ | refine nhCd ?_ | refine nhPa ?_ | refine nhPs ?_ | refine nhPd ?_ | refine nhKa ?_ | refine nhKs ?_ | refine nhKd ?_); ((try clear hF); clear hS; intro wk hS; (try simp only [List.set_cons_zero, List.set_cons_succ, heap_size, heap_set_size] at hS); ((try clear hF); (first | have hF := And.intro hS.facts (hR.at hS.ext) | have hF := hS.facts); simp only [HFacts, cellFacts, RFacts, cellOnly, and_true, true_and, Nat.zero_add, Nat.reduceAdd] at hF))) | (at_builtin; refine wpList_push_hp Tryz.elem_vals rfl (.tmp 89) (.tmp 97) rfl (hS.second 0 rfl) rfl rfl rfl (by simp [Value.oneCell']) (by omega) (by omega) ?_; clear hS; intro Ak capk wk hS; (try simp only [List.eraseIdx_cons_zero, List.eraseIdx_cons_succ, List.set_cons_zero, List.set_cons_succ] at hS); ((try clear hF); (first | have hF := And.intro hS.facts (hR.at hS.ext) | have hF := hS.facts); simp only [HFacts, cellFacts, RFacts, cellOnly, and_true, true_and, Nat.zero_add, Nat.reduceAdd] at hF)))
                  go_roundw
                  case rel =>
                    refine ⟨i3 + 1, _, _, by go_num, by omega, rfl, ?_⟩
                    rw [HTK.out, cellsV_append]
                    exact hS
                  case measure => simp [intOf]; omega
                · obtain rfl : nr = i3 := by omega
                  have hta : (colL (P k) j2).take nr = colL (P k) j2 := by rw [List.take_of_length_le]; unfold colL; rw [List.length_map, HNR.out]; omega
                  rw [hta] at hS
                  clear hta hlt3 hi3 hR
                  have hR := hR2.out
                  ((try clear hF); (first | have hF := And.intro hS.facts (hR.at hS.ext) | have hF := hS.facts); simp only [HFacts, cellFacts, RFacts, cellOnly, and_true, true_and, Nat.zero_add, Nat.reduceAdd] at hF)
                  go_wp2_with (first | ((with_reducible first | refine nhLa ?_ | refine nhLs ?_ | refine nhLd ?_ | refine nhCa ?_ | refine nhCs ?_ | refine nhCd ?_ | refine nhPa ?_ | refine nhPs ?_ | refine nhPd ?_ | refine nhKa ?_ | refine nhKs ?_ | refine nhKd ?_); ((try clear hF); clear hS; intro wk hS; (try simp only [List.set_cons_zero, List.set_cons_succ, heap_size, heap_set_size] at hS); ((try clear hF); (first | have hF := And.intro hS.facts (hR.at hS.ext) | have hF := hS.facts); simp only [HFacts, cellFacts, RFacts, cellOnly, and_true, true_and, Nat.zero_add, Nat.reduceAdd] at hF))) | (first | (with_reducible refine wp_region_hp (draw := true) (by kernel_rfl) (by kernel_rfl) hS ?_) | ((with_reducible refine Fixed.here ?_); (first | ((with_reducible apply Fixed.skip); (first | rfl | exact wanted_false rfl rfl rfl (by assumption)); try simp only [Act.put, List.setIfInBounds_toArray, List.set_cons_zero, List.set_cons_succ]) | ((with_reducible apply Fixed.val); (first | rfl | exact wanted_true rfl rfl rfl (by assumption)); (rintro w hS; ((try clear hF); (first | have hF := And.intro hS.facts (hR.at hS.ext) | have hF := hS.facts); simp only [HFacts, cellFacts, RFacts, cellOnly, and_true, true_and, Nat.zero_add, Nat.reduceAdd] at hF); go_simp; with_reducible rfl); try simp only [Act.put, List.setIfInBounds_toArray, List.set_cons_zero, List.set_cons_succ]) | ((with_reducible apply Fixed.call); (first | rfl | exact wanted_true rfl rfl rfl (by assumption)); (rintro w hS; ((try clear hF); (first | have hF := And.intro hS.facts (hR.at hS.ext) | have hF := hS.facts); simp only [HFacts, cellFacts, RFacts, cellOnly, and_true, true_and, Nat.zero_add, Nat.reduceAdd] at hF); go_simp; exact ⟨rfl, rfl⟩); (rintro w hS; first | (with_reducible exact HKNj.out w hS.ext) | (with_reducible exact HOF.out w _ _ (hS.rv 0 rfl))); try simp only [Act.put, List.setIfInBounds_toArray, List.set_cons_zero, List.set_cons_succ]) | ((with_reducible apply Fixed.guardT); rfl; rfl; rfl; (all_goals intro hg)) | ((with_reducible apply Fixed.guardF); rfl; rfl; rfl; (all_goals intro hg)) | (with_reducible refine Fixed.done ?_; (try clear hF); clear hS; intro wk hS; ((try clear hF); (first | have hF := And.intro hS.facts (hR.at hS.ext) | have hF := hS.facts); simp only [HFacts, cellFacts, RFacts, cellOnly, and_true, true_and, Nat.zero_add, Nat.reduceAdd] at hF))))))
                  go_roundw
                  case rel => exact ⟨j2 + 1, by go_num, by omega, hS.tail⟩
                  case measure => simp [intOf]; omega
            · obtain rfl : n = j2 := by omega
              clear hlt2 hj2
              ((try clear hF); (first | have hF := And.intro hS.facts (hR.at hS.ext) | have hF := hS.facts); simp only [HFacts, cellFacts, RFacts, cellOnly, and_true, true_and, Nat.zero_add, Nat.reduceAdd] at hF)
              go_wp2_with (first | ((with_reducible first | refine nhLa ?_ | refine nhLs ?_ | refine nhLd ?_ | refine nhCa ?_ | refine nhCs ?_ | refine nhCd ?_ | refine nhPa ?_ | refine nhPs ?_ | refine nhPd ?_ | refine nhKa ?_ | refine nhKs ?_ | refine nhKd ?_); ((try clear hF); clear hS; intro wk hS; (try simp only [List.set_cons_zero, List.set_cons_succ, heap_size, heap_set_size] at hS); ((try clear hF); (first | have hF := And.intro hS.facts (hR.at hS.ext) | have hF := hS.facts); simp only [HFacts, cellFacts, RFacts, cellOnly, and_true, true_and, Nat.zero_add, Nat.reduceAdd] at hF))) | fail)
              go_roundw
              case rel => exact ⟨k + 1, by go_num, by omega, (Hp.init w1).step (HB.out.trans hS.ext)⟩
              case measure => simp [intOf]; omega
    · obtain rfl : ng = k := by omega
      clear hlt hk
      ((try clear hF); (first | have hF := And.intro hS.facts (hR.at hS.ext) | have hF := hS.facts); simp only [HFacts, cellFacts, RFacts, cellOnly, and_true, true_and, Nat.zero_add, Nat.reduceAdd] at hF)
      go_wp2_with (first | ((with_reducible first | refine nhLa ?_ | refine nhLs ?_ | refine nhLd ?_ | refine nhCa ?_ | refine nhCs ?_ | refine nhCd ?_ | refine nhPa ?_ | refine nhPs ?_ | refine nhPd ?_ | refine nhKa ?_ | refine nhKs ?_ | refine nhKd ?_); ((try clear hF); clear hS; intro wk hS; (try simp only [List.set_cons_zero, List.set_cons_succ, heap_size, heap_set_size] at hS); ((try clear hF); (first | have hF := And.intro hS.facts (hR.at hS.ext) | have hF := hS.facts); simp only [HFacts, cellFacts, RFacts, cellOnly, and_true, true_and, Nat.zero_add, Nat.reduceAdd] at hF))) | fail)
      go_ret
      exact ⟨rfl, HX.out.trans hS.ext⟩
end Go.Proofs.YtcpllhjhnfmepaaGreatDoor
