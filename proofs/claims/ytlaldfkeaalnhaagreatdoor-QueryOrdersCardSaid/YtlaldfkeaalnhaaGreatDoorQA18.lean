/- file.Make. -/
import Derived.Test.YtlaldfkeaalnhaaGreatDoorQA13
import Derived.Test.YtlaldfkeaalnhaaGreatDoorQA16
import Derived.Test.YtlaldfkeaalnhaaGreatDoorQA10
import Derived.Test.YtlaldfkeaalnhaaGreatDoorQA14
import Derived.Test.YtlaldfkeaalnhaaGreatDoorQA11
import Derived.Test.YtlaldfkeaalnhaaGreatDoorQA04
namespace Go.Proofs.YtlaldfkeaalnhaaGreatDoor
set_option linter.unusedSimpArgs false
set_option linter.unusedVariables false
open Go.RowKit
set_option linter.all false
attribute [local go_sem] Oper.semAt_some
theorem rchunk_stops (n : Nat) (hn : 1 ≤ n) (bs bn b off len cap : Nat) (hl : len ≤ 1000) (hc : len ≤ cap) (hcap : cap ≤ 140737488355328) (w : World)
    (h1 : w.cell? ⟨bs, 0, none⟩ = some (.slice (some ⟨b, off, none⟩) len cap)) (h2 : w.cell? ⟨bn, 0, none⟩ = some (.int .i64 6)) :
    SeqStopsK Fence.wide n Tryz.prog 87 #[.pointer (some ⟨bs, 0, none⟩), .pointer (some ⟨bn, 0, none⟩)] (chV b off len) (ChKeep bs bn) (fun ys => ys = List.range ((len + 5) / 6)) (fun _ => True) ((len + 5) / 6) w := fun l J Jx W hW hJa _ hY h0 =>
  (rchunk1_in n hn l bs bn b off len cap hl hc hcap J Jx W hJa hY (Ext.keeps (Ext.mk hW) h1) (Ext.keeps (Ext.mk hW) h2) h0).mono fun e W' ⟨h3, h4⟩ => ⟨h3, h4.elim (fun h => .inl ⟨_, rfl, h⟩) (fun ⟨pre, h⟩ => .inr ⟨pre, trivial, h⟩)⟩
theorem chkeep_put {bs bn : Nat} {W : World} {l : Nat} {o o' : Obj} (hl : W.heap[l]? = some o) (hc : o.isCells = false) : ChKeep bs bn W (W.putObj l o') :=
  ⟨fun v hv => cell_kept hv (grownBy_putObj' W l o') (fun r e => by cases e; exact ⟨o, hl, hc⟩), fun v hv => cell_kept hv (grownBy_putObj' W l o') (fun r e => by cases e; exact ⟨o, hl, hc⟩)⟩
theorem rgt_col {next : Int} : ∀ {l pre : List CG}, rgt next pre l = true → ∀ c ∈ l, colB c = true
  | [], _, _ => fun c h => by cases h
  | d :: l, pre, h => by
    unfold rgt at h
    simp only [Bool.and_eq_true] at h
    intro c hc
    rcases List.mem_cons.1 hc with rfl | hc
    · exact h.1.1.1
    · exact rgt_col h.2 c hc
theorem mk_good {cs : List CG} {rs : List (List GV)} (h : mkE cs rs = 0) : rightC cs (nextM cs) = true ∧ 1 ≤ rs.length ∧ rs.length ≤ 60 ∧ rowsE cs rs = 0 := by
  unfold mkE at h
  split at h
  · cases h
  · rename_i h1
    split at h
    · cases h
    · rename_i h2
      exact ⟨by simpa using h1, by omega, by omega, h⟩
theorem mk_kind {cs : List CG} {rs : List (List GV)} (h : mkE cs rs = 0) {c : CG} (hc : c ∈ cs) : c.kind = 1 ∨ c.kind = 2 := by
  have h1 := (mk_good h).1
  unfold rightC at h1
  simp only [Bool.and_eq_true] at h1
  have h2 := rgt_col h1.1 c hc
  unfold colB at h2
  simp only [Bool.and_eq_true, Bool.or_eq_true, beq_iff_eq] at h2
  exact h2.1.1.1.2
/-- an error that tells n -/
def IsErr (w : World) (er : Value) (n : Int) : Prop := er = .iface 101 (.int .i64 n) ∨ ∃ (g : Nat) (i : Int), er = .iface 103 (.pointer (some ⟨g, 0, none⟩)) ∧ w.cell? ⟨g, 0, none⟩ = some (.int .i64 n) ∧ w.cell? ⟨g, 1, none⟩ = some (.int .i64 i)
/-- what Make hands back -/
def MkRes (w : World) (cs : List CG) (rs : List (List GV)) (e : Ending) (w' : World) : Prop :=
  if mkE cs rs = 0 then ∃ v, e = .returned (.tuple #[v, .nilIface]) ∧ Ext w w' ∧ RF w' v (makeF cs rs)
  else ∃ er, e = .returned (.tuple #[.agg #[.slice none 0 0, .slice none 0 0], er]) ∧ IsErr w' er (mkE cs rs) ∧ Ext w w'
theorem MkRes.bad {w w' : World} {cs : List CG} {rs : List (List GV)} {n : Int} {er : Value} (h : mkE cs rs = n) (hn : n ≠ 0) (he : IsErr w' er n) (hx : Ext w w') : MkRes w cs rs (.returned (.tuple #[.agg #[.slice none 0 0, .slice none 0 0], er])) w' := by
  unfold MkRes
  rw [h, if_neg hn]
  exact ⟨er, rfl, he, hx⟩
theorem MkRes.good {w w' : World} {cs : List CG} {rs : List (List GV)} {v : Value} (h : mkE cs rs = 0) (hx : Ext w w') (hf : RF w' v (makeF cs rs)) : MkRes w cs rs (.returned (.tuple #[v, .nilIface])) w' := by
  unfold MkRes
  rw [if_pos h]
  exact ⟨v, rfl, hx, hf⟩
set_option maxRecDepth 100000 in
set_option maxHeartbeats 8000000 in
theorem fmake_any (cs : List CG) (rs : List (List GV)) (A A2 : Option Addr) (cap cap2 : Nat) (w : World) (hc : RC w A cs) (hr : RR w A2 rs) (hcap : cs.length ≤ cap) (hcap2 : rs.length ≤ cap2) (hcap3 : cap2 ≤ 140737488355328) (hl : cs.length ≤ 1000) (hl2 : rs.length ≤ 1000)
    (hrl : ∀ r ∈ rs, r.length ≤ 1000) (hi : ∀ c ∈ cs, i64 c.id) (hv : ∀ r ∈ rs, ∀ x ∈ r, i64 x.num) (hK : KeptAt w) (hE : ErrAt w) :
    Calls Tryz.prog 20 #[.slice A cs.length cap, .slice A2 rs.length cap2] w (MkRes w cs rs) := by
  obtain ⟨n, hn⟩ : ∃ n, n = cs.length := ⟨_, rfl⟩
  obtain ⟨m, hm⟩ : ∃ n, n = rs.length := ⟨_, rfl⟩
  have HSR := Lib.hid (fun (W : World) (hx : Ext w W) (nx : Int) => sright_any cs A cap nx W (hc.ext hx) (by omega) hcap (hK.ext hx))
  rw [← hn] at hcap hl HSR ⊢
  rw [← hm] at hcap2 hl2 ⊢
  have Hn := Lib.hid hn
  have Hm := Lib.hid hm
  have HI := Lib.hid hi
  clear hn hm hi
  have hS := Hp.init w
  have hR := Reads.nil w
  have hO := open_wide
  refine (callsIn_wide (n := 3)).1 ?_
  refine callsIn_of_wp_marks Tryz.func20 rfl trivial ?_ rfl; simp only [Tryz.ntmps20, List.size_toArray, List.length_cons, List.length_nil, Nat.reduceAdd, Nat.reduceSub, Array.replicate_succ, Array.replicate_zero, List.push_toArray, List.append_toArray, List.nil_append, List.cons_append]
  gi_wp2_with (first | ((with_reducible first | refine niLa ?_ | refine niLs ?_ | refine niLd ?_ | refine niCa ?_ | refine niCs ?_ | refine niCd ?_ | refine niPa ?_ | refine niPs ?_ | refine niPd ?_ | refine niKa ?_ | refine niKs ?_ | refine niKd ?_); ((try clear hF); clear hS; intro wk hS; (try simp only [List.set_cons_zero, List.set_cons_succ, heap_size, heap_set_size] at hS); ((try clear hF); (first | have hF := And.intro hS.facts (HRD.out _ (hS.sub (by first | simp | ((repeat (first | exact List.nil_sublist _ | exact List.Sublist.refl _ | with_reducible apply List.Sublist.cons₂ | apply List.Sublist.cons)))))) | have hF := And.intro hS.facts (hR.at hS.ext) | have hF := hS.facts); simp only [HFacts, cellFacts, RFacts, cellOnly, and_true, true_and, Nat.zero_add, Nat.reduceAdd] at hF))) | fail)
  obtain ⟨g5, hg5⟩ := hS.named
  rw [← hg5] at hS hF ⊢
  clear hg5
  obtain ⟨g4, hg4⟩ := (hS.front 1 rfl).named
  rw [← hg4] at hS hF ⊢
  clear hg4
  gi_loopw [22, 6] (fun i x wr => ∃ (k : Nat) (nx : Int), i = .int .i64 k ∧ k ≤ n ∧ x = .int .i64 nx ∧ 1 ≤ nx ∧ nx ≤ 1099511627777 ∧ Hid (nx = (cs.take k).foldl (fun n c => max n (min c.id 1099511627776 + 1)) 1) ∧
    Hp w.heap.size w wr [.blk g5 [.nilIface] 51, .blk g4 [.slice none 0 0, .slice none 0 0] 60, .blk w.heap.size [.slice A n cap] 22]) (fun i _ _ => n - (intOf i).toNat)
  case atStart => exact ⟨0, 1, rfl, Nat.zero_le _, rfl, by omega, by omega, Lib.hid rfl, hS⟩
  case round =>
    clear hS hF
    obtain ⟨k, nx, rfl, hk, rfl, hx1, hx2, HNX, hS⟩ := hrel
    by_cases hlt : k < n
    · obtain ⟨c, hc'⟩ : ∃ x, cs[k]? = some x := ⟨cs[k]'(by rw [← Hn.out]; exact hlt), List.getElem?_eq_getElem _⟩
      obtain ⟨b1, o1, rfl, c0, c1, c2, c3, c4, c5, c6⟩ := hc k c hc'
      have hci := HI.out c (List.mem_of_getElem? hc')
      unfold i64 at hci
      have HT := Lib.hid (nextM_take hc')
      have hw1 : IntKind.i64.wrap (min c.id 1099511627776 + 1) = min c.id 1099511627776 + 1 := IntWalk.i64_in _ (by omega)
      clear hR
      have hR := Reads.cell c0 (Reads.cell c1 (Reads.cell c2 (Reads.cell c3 (Reads.cell c4 (Reads.cell c5 (Reads.cell c6 (Reads.nil w)))))))
      clear c0 c1 c2 c3 c4 c5 c6 hc' hc
      ((try clear hF); (first | have hF := And.intro hS.facts (HRD.out _ (hS.sub (by first | simp | ((repeat (first | exact List.nil_sublist _ | exact List.Sublist.refl _ | with_reducible apply List.Sublist.cons₂ | apply List.Sublist.cons)))))) | have hF := And.intro hS.facts (hR.at hS.ext) | have hF := hS.facts); simp only [HFacts, cellFacts, RFacts, cellOnly, and_true, true_and, Nat.zero_add, Nat.reduceAdd] at hF)
      gi_wp2_with (first | ((with_reducible first | refine niLa ?_ | refine niLs ?_ | refine niLd ?_ | refine niCa ?_ | refine niCs ?_ | refine niCd ?_ | refine niPa ?_ | refine niPs ?_ | refine niPd ?_ | refine niKa ?_ | refine niKs ?_ | refine niKd ?_); ((try clear hF); clear hS; intro wk hS; (try simp only [List.set_cons_zero, List.set_cons_succ, heap_size, heap_set_size] at hS); ((try clear hF); (first | have hF := And.intro hS.facts (HRD.out _ (hS.sub (by first | simp | ((repeat (first | exact List.nil_sublist _ | exact List.Sublist.refl _ | with_reducible apply List.Sublist.cons₂ | apply List.Sublist.cons)))))) | have hF := And.intro hS.facts (hR.at hS.ext) | have hF := hS.facts); simp only [HFacts, cellFacts, RFacts, cellOnly, and_true, true_and, Nat.zero_add, Nat.reduceAdd] at hF))) | fail)
      go_roundw
      case rel => exact ⟨k + 1, max nx (min c.id 1099511627776 + 1), by go_num, by omega, rfl, by omega, by omega, Lib.hid (by rw [HT.out, HNX.out]), hS.sub (by simp)⟩
      case measure => simp [intOf]; omega
    · obtain rfl : k = n := by omega
      have hNM : nx = nextM cs := by rw [HNX.out, Hn.out, List.take_length]; rfl
      obtain ⟨rb, hrb⟩ : ∃ x, x = rightC cs nx := ⟨_, rfl⟩
      have HSR2 := Lib.hid (fun (W : World) (hx : Ext w W) => HSR.out W hx nx)
      rw [← hrb] at HSR2
      clear HSR HNX
      cases rb with
      | false =>
        have HE1 := Lib.hid (show mkE cs rs = 1 by unfold mkE; rw [← hNM, ← hrb, if_pos rfl])
        clear hrb hNM
        ((try clear hF); (first | have hF := And.intro hS.facts (HRD.out _ (hS.sub (by first | simp | ((repeat (first | exact List.nil_sublist _ | exact List.Sublist.refl _ | with_reducible apply List.Sublist.cons₂ | apply List.Sublist.cons)))))) | have hF := And.intro hS.facts (hR.at hS.ext) | have hF := hS.facts); simp only [HFacts, cellFacts, RFacts, cellOnly, and_true, true_and, Nat.zero_add, Nat.reduceAdd] at hF)
        gi_wp2_with (first | ((with_reducible first | refine niLa ?_ | refine niLs ?_ | refine niLd ?_ | refine niCa ?_ | refine niCs ?_ | refine niCd ?_ | refine niPa ?_ | refine niPs ?_ | refine niPd ?_ | refine niKa ?_ | refine niKs ?_ | refine niKd ?_); ((try clear hF); clear hS; intro wk hS; (try simp only [List.set_cons_zero, List.set_cons_succ, heap_size, heap_set_size] at hS); ((try clear hF); (first | have hF := And.intro hS.facts (HRD.out _ (hS.sub (by first | simp | ((repeat (first | exact List.nil_sublist _ | exact List.Sublist.refl _ | with_reducible apply List.Sublist.cons₂ | apply List.Sublist.cons)))))) | have hF := And.intro hS.facts (hR.at hS.ext) | have hF := hS.facts); simp only [HFacts, cellFacts, RFacts, cellOnly, and_true, true_and, Nat.zero_add, Nat.reduceAdd] at hF))) | (refine ⟨trivial, ?_⟩; gi_at_call 54; (with_reducible refine CallsIn.mono (hO.calls (HSR2.out _ hS.ext)) ?_); rintro e wk ⟨rfl, hX⟩; replace hS := hS.step hX; clear hX; ((try clear hF); (first | have hF := And.intro hS.facts (HRD.out _ (hS.sub (by first | simp | ((repeat (first | exact List.nil_sublist _ | exact List.Sublist.refl _ | with_reducible apply List.Sublist.cons₂ | apply List.Sublist.cons)))))) | have hF := And.intro hS.facts (hR.at hS.ext) | have hF := hS.facts); simp only [HFacts, cellFacts, RFacts, cellOnly, and_true, true_and, Nat.zero_add, Nat.reduceAdd] at hF)))
        exact ⟨.tuple #[.agg #[.slice none 0 0, .slice none 0 0], .iface 101 (.int .i64 1)], by simp [results, Tryz.results20, go_sem, hF], MkRes.bad HE1.out (by decide) (.inl rfl) hS.ext⟩
      | true =>
        by_cases hm0 : m < 1 ∨ 60 < m
        · have HE1 := Lib.hid (show mkE cs rs = 4 by unfold mkE; rw [← hNM, ← hrb, if_neg (by simp), if_pos (by rw [← Hm.out]; exact hm0)])
          clear hrb hNM
          rcases hm0 with hm0 | hm0
          all_goals
            ((try clear hF); (first | have hF := And.intro hS.facts (HRD.out _ (hS.sub (by first | simp | ((repeat (first | exact List.nil_sublist _ | exact List.Sublist.refl _ | with_reducible apply List.Sublist.cons₂ | apply List.Sublist.cons)))))) | have hF := And.intro hS.facts (hR.at hS.ext) | have hF := hS.facts); simp only [HFacts, cellFacts, RFacts, cellOnly, and_true, true_and, Nat.zero_add, Nat.reduceAdd] at hF)
            gi_wp2_with (first | ((with_reducible first | refine niLa ?_ | refine niLs ?_ | refine niLd ?_ | refine niCa ?_ | refine niCs ?_ | refine niCd ?_ | refine niPa ?_ | refine niPs ?_ | refine niPd ?_ | refine niKa ?_ | refine niKs ?_ | refine niKd ?_); ((try clear hF); clear hS; intro wk hS; (try simp only [List.set_cons_zero, List.set_cons_succ, heap_size, heap_set_size] at hS); ((try clear hF); (first | have hF := And.intro hS.facts (HRD.out _ (hS.sub (by first | simp | ((repeat (first | exact List.nil_sublist _ | exact List.Sublist.refl _ | with_reducible apply List.Sublist.cons₂ | apply List.Sublist.cons)))))) | have hF := And.intro hS.facts (hR.at hS.ext) | have hF := hS.facts); simp only [HFacts, cellFacts, RFacts, cellOnly, and_true, true_and, Nat.zero_add, Nat.reduceAdd] at hF))) | (refine ⟨trivial, ?_⟩; gi_at_call 54; (with_reducible refine CallsIn.mono (hO.calls (HSR2.out _ hS.ext)) ?_); rintro e wk ⟨rfl, hX⟩; replace hS := hS.step hX; clear hX; ((try clear hF); (first | have hF := And.intro hS.facts (HRD.out _ (hS.sub (by first | simp | ((repeat (first | exact List.nil_sublist _ | exact List.Sublist.refl _ | with_reducible apply List.Sublist.cons₂ | apply List.Sublist.cons)))))) | have hF := And.intro hS.facts (hR.at hS.ext) | have hF := hS.facts); simp only [HFacts, cellFacts, RFacts, cellOnly, and_true, true_and, Nat.zero_add, Nat.reduceAdd] at hF)))
            exact ⟨.tuple #[.agg #[.slice none 0 0, .slice none 0 0], .iface 101 (.int .i64 4)], by simp [results, Tryz.results20, go_sem, hF], MkRes.bad HE1.out (by decide) (.inl rfl) hS.ext⟩
        · have hm1 : ¬ m < 1 := fun h => hm0 (.inl h)
          have hm2 : ¬ 60 < m := fun h => hm0 (.inr h)
          have HE0 := Lib.hid (show mkE cs rs = rowsE cs rs by unfold mkE; rw [← hNM, ← hrb, if_neg (by simp), if_neg (by rw [← Hm.out]; exact hm0)])
          have hn1 : 1 ≤ k := by
            have h := hrb.symm
            unfold rightC at h
            rw [Hn.out]
            simp only [Bool.and_eq_true, decide_eq_true_eq] at h
            omega
          clear hrb hNM hm0
          ((try clear hF); (first | have hF := And.intro hS.facts (HRD.out _ (hS.sub (by first | simp | ((repeat (first | exact List.nil_sublist _ | exact List.Sublist.refl _ | with_reducible apply List.Sublist.cons₂ | apply List.Sublist.cons)))))) | have hF := And.intro hS.facts (hR.at hS.ext) | have hF := hS.facts); simp only [HFacts, cellFacts, RFacts, cellOnly, and_true, true_and, Nat.zero_add, Nat.reduceAdd] at hF)
          gi_wp2_with (first | ((with_reducible first | refine niLa ?_ | refine niLs ?_ | refine niLd ?_ | refine niCa ?_ | refine niCs ?_ | refine niCd ?_ | refine niPa ?_ | refine niPs ?_ | refine niPd ?_ | refine niKa ?_ | refine niKs ?_ | refine niKd ?_); ((try clear hF); clear hS; intro wk hS; (try simp only [List.set_cons_zero, List.set_cons_succ, heap_size, heap_set_size] at hS); ((try clear hF); (first | have hF := And.intro hS.facts (HRD.out _ (hS.sub (by first | simp | ((repeat (first | exact List.nil_sublist _ | exact List.Sublist.refl _ | with_reducible apply List.Sublist.cons₂ | apply List.Sublist.cons)))))) | have hF := And.intro hS.facts (hR.at hS.ext) | have hF := hS.facts); simp only [HFacts, cellFacts, RFacts, cellOnly, and_true, true_and, Nat.zero_add, Nat.reduceAdd] at hF))) | (refine ⟨trivial, ?_⟩; gi_at_call 54; (with_reducible refine CallsIn.mono (hO.calls (HSR2.out _ hS.ext)) ?_); rintro e wk ⟨rfl, hX⟩; replace hS := hS.step hX; clear hX; ((try clear hF); (first | have hF := And.intro hS.facts (HRD.out _ (hS.sub (by first | simp | ((repeat (first | exact List.nil_sublist _ | exact List.Sublist.refl _ | with_reducible apply List.Sublist.cons₂ | apply List.Sublist.cons)))))) | have hF := And.intro hS.facts (hR.at hS.ext) | have hF := hS.facts); simp only [HFacts, cellFacts, RFacts, cellOnly, and_true, true_and, Nat.zero_add, Nat.reduceAdd] at hF)))
          clear HSR2
          gi_loopw [53] (fun i wr => ∃ q : Nat, i = .int .i64 q ∧ q ≤ m ∧ Hid (rowsE cs rs = rowsE cs (rs.drop q)) ∧
            Hp w.heap.size w wr [.blk g5 [.nilIface] 51, .blk g4 [.slice none 0 0, .slice none 0 0] 60, .blk w.heap.size [.slice A k cap] 22]) (fun i _ => m - (intOf i).toNat)
          case atStart => exact ⟨0, rfl, Nat.zero_le _, Lib.hid rfl, hS⟩
          case round =>
            clear hS hF
            obtain ⟨q, rfl, hq, HRE, hS⟩ := hrel
            by_cases hlq : q < m
            · obtain ⟨r, hr'⟩ : ∃ x, rs[q]? = some x := ⟨rs[q]'(by rw [← Hm.out]; exact hlq), List.getElem?_eq_getElem _⟩
              obtain ⟨b2, o2, A3, c3, rfl, h0, h1⟩ := hr q r hr'
              have hrl2 := hrl r (List.mem_of_getElem? hr')
              have HRS := Lib.hid (show rowsE cs (rs.drop q) = if rowE cs r = 0 then rowsE cs (rs.drop (q + 1)) else rowE cs r by
                obtain ⟨hk, e⟩ := List.getElem?_eq_some_iff.1 hr'
                rw [List.drop_eq_getElem_cons hk, e]
                rfl)
              have HRW := Lib.hid (fun (W : World) (hx : Ext w W) => row_any cs r A A3 cap c3 W (hc.ext hx) (h1.ext hx) (by rw [← Hn.out]; omega) hrl2)
              obtain ⟨rl, hrl3⟩ : ∃ x, x = r.length := ⟨_, rfl⟩
              obtain ⟨re, hre⟩ : ∃ x, x = rowE cs r := ⟨_, rfl⟩
              rw [← hrl3, ← hre, ← Hn.out] at HRW
              rw [← hre] at HRS
              rw [← hrl3] at h0
              clear hR
              have hR := Reads.cell h0 (Reads.nil w)
              clear hrl3 hre h0 h1 hr' hrl2
              by_cases hre0 : re = 0
              · subst hre0
                have HRW0 := Lib.hid (fun (W : World) (hx : Ext w W) => show Calls Tryz.prog 55 #[.slice A k cap, .slice A3 rl c3] W fun e w' => e = .returned .nilIface ∧ Ext W w' from HRW.out W hx)
                clear HRW
                ((try clear hF); (first | have hF := And.intro hS.facts (HRD.out _ (hS.sub (by first | simp | ((repeat (first | exact List.nil_sublist _ | exact List.Sublist.refl _ | with_reducible apply List.Sublist.cons₂ | apply List.Sublist.cons)))))) | have hF := And.intro hS.facts (hR.at hS.ext) | have hF := hS.facts); simp only [HFacts, cellFacts, RFacts, cellOnly, and_true, true_and, Nat.zero_add, Nat.reduceAdd] at hF)
                gi_wp2_with (first | ((with_reducible first | refine niLa ?_ | refine niLs ?_ | refine niLd ?_ | refine niCa ?_ | refine niCs ?_ | refine niCd ?_ | refine niPa ?_ | refine niPs ?_ | refine niPd ?_ | refine niKa ?_ | refine niKs ?_ | refine niKd ?_); ((try clear hF); clear hS; intro wk hS; (try simp only [List.set_cons_zero, List.set_cons_succ, heap_size, heap_set_size] at hS); ((try clear hF); (first | have hF := And.intro hS.facts (HRD.out _ (hS.sub (by first | simp | ((repeat (first | exact List.nil_sublist _ | exact List.Sublist.refl _ | with_reducible apply List.Sublist.cons₂ | apply List.Sublist.cons)))))) | have hF := And.intro hS.facts (hR.at hS.ext) | have hF := hS.facts); simp only [HFacts, cellFacts, RFacts, cellOnly, and_true, true_and, Nat.zero_add, Nat.reduceAdd] at hF))) | (refine ⟨trivial, ?_⟩; gi_at_call 55; (with_reducible refine CallsIn.mono (hO.calls (HRW0.out _ hS.ext)) ?_); rintro e wk ⟨rfl, hX⟩; replace hS := hS.step hX; clear hX; ((try clear hF); (first | have hF := And.intro hS.facts (HRD.out _ (hS.sub (by first | simp | ((repeat (first | exact List.nil_sublist _ | exact List.Sublist.refl _ | with_reducible apply List.Sublist.cons₂ | apply List.Sublist.cons)))))) | have hF := And.intro hS.facts (hR.at hS.ext) | have hF := hS.facts); simp only [HFacts, cellFacts, RFacts, cellOnly, and_true, true_and, Nat.zero_add, Nat.reduceAdd] at hF)))
                go_roundw
                case rel => exact ⟨q + 1, by go_num, by omega, Lib.hid (by rw [HRE.out, HRS.out]; simp), hS⟩
                case measure => simp [intOf]; omega
              · have HE1 := Lib.hid (show mkE cs rs = re by rw [HE0.out, HRE.out, HRS.out, if_neg hre0])
                unfold errV at HRW
                rw [if_neg hre0] at HRW
                have HTL := Lib.hid (fun (W : World) (hx : Ext w W) => tell_any re W (hE.ext hx))
                clear HRE HRS
                ((try clear hF); (first | have hF := And.intro hS.facts (HRD.out _ (hS.sub (by first | simp | ((repeat (first | exact List.nil_sublist _ | exact List.Sublist.refl _ | with_reducible apply List.Sublist.cons₂ | apply List.Sublist.cons)))))) | have hF := And.intro hS.facts (hR.at hS.ext) | have hF := hS.facts); simp only [HFacts, cellFacts, RFacts, cellOnly, and_true, true_and, Nat.zero_add, Nat.reduceAdd] at hF)
                gi_wp2_with (first | ((with_reducible first | refine niLa ?_ | refine niLs ?_ | refine niLd ?_ | refine niCa ?_ | refine niCs ?_ | refine niCd ?_ | refine niPa ?_ | refine niPs ?_ | refine niPd ?_ | refine niKa ?_ | refine niKs ?_ | refine niKd ?_); ((try clear hF); clear hS; intro wk hS; (try simp only [List.set_cons_zero, List.set_cons_succ, heap_size, heap_set_size] at hS); ((try clear hF); (first | have hF := And.intro hS.facts (HRD.out _ (hS.sub (by first | simp | ((repeat (first | exact List.nil_sublist _ | exact List.Sublist.refl _ | with_reducible apply List.Sublist.cons₂ | apply List.Sublist.cons)))))) | have hF := And.intro hS.facts (hR.at hS.ext) | have hF := hS.facts); simp only [HFacts, cellFacts, RFacts, cellOnly, and_true, true_and, Nat.zero_add, Nat.reduceAdd] at hF))) | (refine ⟨trivial, ?_⟩; gi_at_call 55; (with_reducible refine CallsIn.mono (hO.calls (HRW.out _ hS.ext)) ?_); rintro e wk ⟨rfl, hX⟩; replace hS := hS.step hX; clear hX; ((try clear hF); (first | have hF := And.intro hS.facts (HRD.out _ (hS.sub (by first | simp | ((repeat (first | exact List.nil_sublist _ | exact List.Sublist.refl _ | with_reducible apply List.Sublist.cons₂ | apply List.Sublist.cons)))))) | have hF := And.intro hS.facts (hR.at hS.ext) | have hF := hS.facts); simp only [HFacts, cellFacts, RFacts, cellOnly, and_true, true_and, Nat.zero_add, Nat.reduceAdd] at hF)) | (refine ⟨trivial, ?_⟩; gi_at_call 56; (with_reducible refine CallsIn.mono (hO.calls (HTL.out _ hS.ext)) ?_); rintro e wk ⟨rfl, hX⟩; replace hS := hS.step hX; clear hX; ((try clear hF); (first | have hF := And.intro hS.facts (HRD.out _ (hS.sub (by first | simp | ((repeat (first | exact List.nil_sublist _ | exact List.Sublist.refl _ | with_reducible apply List.Sublist.cons₂ | apply List.Sublist.cons)))))) | have hF := And.intro hS.facts (hR.at hS.ext) | have hF := hS.facts); simp only [HFacts, cellFacts, RFacts, cellOnly, and_true, true_and, Nat.zero_add, Nat.reduceAdd] at hF)))
                exact ⟨.tuple #[.agg #[.slice none 0 0, .slice none 0 0], .iface 103 (.pointer (some ⟨_, 0, none⟩))], by simp [results, Tryz.results20, go_sem, hF], MkRes.bad HE1.out hre0 (.inr ⟨_, _, rfl, hF.1.1.1.1, hF.1.1.2.1⟩) hS.ext⟩
            · obtain rfl : q = m := by omega
              have HMK := Lib.hid (show mkE cs rs = 0 by rw [HE0.out, HRE.out, Hm.out, List.drop_length]; rfl)
              clear HE0 HRE
              obtain ⟨c, hc'⟩ : ∃ x, cs[0]? = some x := ⟨cs[0]'(by rw [← Hn.out]; omega), List.getElem?_eq_getElem _⟩
              obtain ⟨b1, o1, rfl, _⟩ := hc 0 c hc'
              obtain ⟨r, hr'⟩ : ∃ x, rs[0]? = some x := ⟨rs[0]'(by rw [← Hm.out]; omega), List.getElem?_eq_getElem _⟩
              obtain ⟨b2, o2, _, _, rfl, _⟩ := hr 0 r hr'
              have HCL := Lib.hid (fun (W : World) (L : List Item) (hW : Hp w.heap.size w W L) => show Calls Tryz.prog 57 #[.slice (some ⟨b1, o1, none⟩) k cap] W fun e w' => ∃ A' cap', e = .returned (.slice A' k cap') ∧ Hp w.heap.size w w' (.row 31 7 A' k cap' (cellsC cs) :: L) from by
                have := clone_any cs b1 o1 cap W (hc.ext hW.ext) (by rw [← Hn.out]; omega)
                rw [← Hn.out] at this
                refine this.mono fun e w' ⟨A', cap', he, hp⟩ => ⟨A', cap', he, ?_⟩
                have := hW.join hp
                unfold cRow at this
                rw [← Hn.out] at this
                exact this)
              have HCH := Lib.hid (fun (W : World) (L : List Item) (hW : Hp w.heap.size w W L) => show Calls Tryz.prog 58 #[.slice (some ⟨b2, o2, none⟩) q cap2, .int .i64 6] W fun e w' => ∃ bs bn : Nat, e = .returned (.func (.func 87) #[] #[.pointer (some ⟨bs, 0, none⟩), .pointer (some ⟨bn, 0, none⟩)]) ∧ Hp w.heap.size w w' (.blk bn [.int .i64 6] 3 :: .blk bs [.slice (some ⟨b2, o2, none⟩) q cap2] 23 :: L) from
                (rchunk_any b2 o2 q cap2 W).mono fun e w' ⟨bs, bn, he, hp⟩ => ⟨bs, bn, he, hW.join hp⟩)
              ((try clear hF); (first | have hF := And.intro hS.facts (HRD.out _ (hS.sub (by first | simp | ((repeat (first | exact List.nil_sublist _ | exact List.Sublist.refl _ | with_reducible apply List.Sublist.cons₂ | apply List.Sublist.cons)))))) | have hF := And.intro hS.facts (hR.at hS.ext) | have hF := hS.facts); simp only [HFacts, cellFacts, RFacts, cellOnly, and_true, true_and, Nat.zero_add, Nat.reduceAdd] at hF)
              gi_wp2_with (first | ((with_reducible first | refine niLa ?_ | refine niLs ?_ | refine niLd ?_ | refine niCa ?_ | refine niCs ?_ | refine niCd ?_ | refine niPa ?_ | refine niPs ?_ | refine niPd ?_ | refine niKa ?_ | refine niKs ?_ | refine niKd ?_); ((try clear hF); clear hS; intro wk hS; (try simp only [List.set_cons_zero, List.set_cons_succ, heap_size, heap_set_size] at hS); ((try clear hF); (first | have hF := And.intro hS.facts (HRD.out _ (hS.sub (by first | simp | ((repeat (first | exact List.nil_sublist _ | exact List.Sublist.refl _ | with_reducible apply List.Sublist.cons₂ | apply List.Sublist.cons)))))) | have hF := And.intro hS.facts (hR.at hS.ext) | have hF := hS.facts); simp only [HFacts, cellFacts, RFacts, cellOnly, and_true, true_and, Nat.zero_add, Nat.reduceAdd] at hF))) | (refine ⟨trivial, ?_⟩; gi_at_call 57; (with_reducible refine CallsIn.mono (hO.calls (HCL.out _ _ hS)) ?_); clear hS; rintro e wk ⟨Af, cf, rfl, hS⟩; skip; (try simp only [List.eraseIdx_cons_zero, List.eraseIdx_cons_succ, List.set_cons_zero, List.set_cons_succ] at hS); ((try clear hF); (first | have hF := And.intro hS.facts (HRD.out _ (hS.sub (by first | simp | ((repeat (first | exact List.nil_sublist _ | exact List.Sublist.refl _ | with_reducible apply List.Sublist.cons₂ | apply List.Sublist.cons)))))) | have hF := And.intro hS.facts (hR.at hS.ext) | have hF := hS.facts); simp only [HFacts, cellFacts, RFacts, cellOnly, and_true, true_and, Nat.zero_add, Nat.reduceAdd] at hF)) | (refine ⟨trivial, ?_⟩; gi_at_call 58; (with_reducible refine CallsIn.mono (hO.calls (HCH.out _ _ hS)) ?_); clear hS; rintro e wk ⟨bs, bn, rfl, hS⟩; skip; (try simp only [List.eraseIdx_cons_zero, List.eraseIdx_cons_succ, List.set_cons_zero, List.set_cons_succ] at hS); ((try clear hF); (first | have hF := And.intro hS.facts (HRD.out _ (hS.sub (by first | simp | ((repeat (first | exact List.nil_sublist _ | exact List.Sublist.refl _ | with_reducible apply List.Sublist.cons₂ | apply List.Sublist.cons)))))) | have hF := And.intro hS.facts (hR.at hS.ext) | have hF := hS.facts); simp only [HFacts, cellFacts, RFacts, cellOnly, and_true, true_and, Nat.zero_add, Nat.reduceAdd] at hF)))
              obtain ⟨gf, hgf⟩ := (hS.front 2 rfl).named
              rw [← hgf] at hS hF ⊢
              clear hgf hF
              have hq60 : q ≤ 60 := by omega
              have hbs : wk.cell? ⟨bs, 0, none⟩ = some (.slice (some ⟨b2, o2, none⟩) q cap2) := (hS.facts).2.1.1.1
              have hbn : wk.cell? ⟨bn, 0, none⟩ = some (.int .i64 6) := (hS.facts).1.1.1
              have hwB : w.heap.size ≤ wk.heap.size := hS.base
              refine' wpIn_rangeFunc_ownG (F := Fence.wide) rfl (by decide) (gf := 87) (lb := #[.pointer (some ⟨bs, 0, none⟩), .pointer (some ⟨bn, 0, none⟩)]) rfl trivial (enters_of Tryz.func87 (by kernel_rfl) rfl)
                (rchunk_stops 2 (by decide) bs bn b2 o2 q cap2 (by omega) hcap2 hcap3 wk hbs hbn) ChKeep.trans (fun W l o o' _ h1 h2 _ => chkeep_put h1 h2) (Below.refl _ _) (fun _ => rfl)
                (fun pre W => ∃ (Ag : Option Addr) (cg : Nat) (xs : List Value) (K : List Item), Hid (GBuilt K xs (pre.map fun k => grpM cs (partM rs k))) ∧ Hid (∀ x ∈ K, CellI x) ∧
                  Hp w.heap.size w W (.row 113 3 Ag pre.length cg xs :: .blk bn [.int .i64 6] 3 :: .blk bs [.slice (some ⟨b2, o2, none⟩) q cap2] 23 :: .blk gf [.slice Af k cf, .slice Ag pre.length cg] 60 :: .row 31 7 Af k cf (cellsC cs) :: .blk g5 [.nilIface] 51 :: .blk g4 [.slice none 0 0, .slice none 0 0] 60 :: .blk w.heap.size [.slice (some ⟨b1, o1, none⟩) k cap] 22 :: K))
                (fun _ _ _ => False) ?hI (fun _ _ _ _ _ hs _ _ => hs) ?h0 _ ?assign ?body ?done ?stop
              case hI =>
                intro pre X Y row hs hg hrow
                obtain ⟨Ag, cg, xs, K, h1, h2, h3⟩ := hs
                refine ⟨Ag, cg, xs, K, h1, h2, h3.turnOther ?_ hg (fun r e => ⟨Nat.le_trans hwB (hrow r e).1, (hrow r e).2⟩)⟩
                intro x hx
                simp only [List.mem_cons] at hx
                rcases hx with rfl | rfl | rfl | rfl | rfl | rfl | rfl | rfl | hx
                all_goals first | trivial | exact h2.out x hx
              case h0 => exact ⟨none, 0, [], [], Lib.hid (GBuilt.nil _), Lib.hid (fun x hx => by cases hx), hS.nilRow 113 3⟩
              case assign =>
                intro l x W K hK
                gi_wp2
                exact hK
              case stop =>
                rintro D c pre W _ _ h _
                exact h.elim
              case done =>
                rintro D ys W hD rfl ⟨Ag, cg, xs, K, HGB, HKC, hS⟩ hKD
                have hL0 : ∀ x ∈ (.row 113 3 Ag (List.range ((q + 5) / 6)).length cg xs :: .blk bn [.int .i64 6] 3 :: .blk bs [.slice (some ⟨b2, o2, none⟩) q cap2] 23 :: .blk gf [.slice Af k cf, .slice Ag (List.range ((q + 5) / 6)).length cg] 60 :: .row 31 7 Af k cf (cellsC cs) :: .blk g5 [.nilIface] 51 :: .blk g4 [.slice none 0 0, .slice none 0 0] 60 :: .blk w.heap.size [.slice (some ⟨b1, o1, none⟩) k cap] 22 :: K), CellI x := by
                  intro x hx
                  simp only [List.mem_cons] at hx
                  rcases hx with rfl | rfl | rfl | rfl | rfl | rfl | rfl | rfl | hx
                  all_goals first | trivial | exact HKC.out x hx
                have hS0 := hS.obj hL0 (Nat.le_trans hwB hD) hKD rfl
                clear hS hL0
                obtain ⟨pn, hpn⟩ : ∃ p, p = (List.range ((q + 5) / 6)).length := ⟨_, rfl⟩
                rw [← hpn] at hS0
                have hS := (((((((((hS0.drop 2).drop 2).front 6 rfl).front 4 rfl).front 3 rfl).front 6 rfl).front 6 rfl).front 6 rfl).front 6 rfl)
                clear hS0
                simp only [List.eraseIdx_cons_zero, List.eraseIdx_cons_succ] at hS
                have HPN := Lib.hid hpn
                clear hpn hbs hbn
                ((try clear hF); (first | have hF := And.intro hS.facts (HRD.out _ (hS.sub (by first | simp | ((repeat (first | exact List.nil_sublist _ | exact List.Sublist.refl _ | with_reducible apply List.Sublist.cons₂ | apply List.Sublist.cons)))))) | have hF := And.intro hS.facts (hR.at hS.ext) | have hF := hS.facts); simp only [HFacts, cellFacts, RFacts, cellOnly, and_true, true_and, Nat.zero_add, Nat.reduceAdd] at hF)
                gi_wp2_with (first | ((with_reducible first | refine niLa ?_ | refine niLs ?_ | refine niLd ?_ | refine niCa ?_ | refine niCs ?_ | refine niCd ?_ | refine niPa ?_ | refine niPs ?_ | refine niPd ?_ | refine niKa ?_ | refine niKs ?_ | refine niKd ?_); ((try clear hF); clear hS; intro wk hS; (try simp only [List.set_cons_zero, List.set_cons_succ, heap_size, heap_set_size] at hS); ((try clear hF); (first | have hF := And.intro hS.facts (HRD.out _ (hS.sub (by first | simp | ((repeat (first | exact List.nil_sublist _ | exact List.Sublist.refl _ | with_reducible apply List.Sublist.cons₂ | apply List.Sublist.cons)))))) | have hF := And.intro hS.facts (hR.at hS.ext) | have hF := hS.facts); simp only [HFacts, cellFacts, RFacts, cellOnly, and_true, true_and, Nat.zero_add, Nat.reduceAdd] at hF))) | fail)
                have hS2 := (hS.drop 0).turnOther (w' := wk.putObj D (.deferred none)) (row := some D) (fun x hx => by
                  simp only [List.eraseIdx_cons_zero, List.mem_cons] at hx
                  rcases hx with rfl | rfl | rfl | rfl | rfl | rfl | hx
                  all_goals first | trivial | exact HKC.out x hx) (grownBy_putObj' _ D _) (fun r e => by cases e; exact ⟨Nat.le_trans hwB hD, _, hS.head.2, rfl⟩)
                refine ⟨by simp, .inl ⟨_, _, rfl, run_takeDeferred hS.head.2, ?_⟩⟩
                have hF2 := hS2.facts
                simp only [List.eraseIdx_cons_zero, HFacts, cellFacts, and_true, true_and, Nat.zero_add, Nat.reduceAdd] at hF2
                exact ⟨.tuple #[.agg #[.slice Af k cf, .slice Ag pn cg], .nilIface], by simp [results, Tryz.results20, go_sem, hF2], MkRes.good HMK.out hS2.ext ⟨Af, cf, Ag, cg, by rw [show (makeF cs rs).cols.length = k from Hn.out.symm, show (makeF cs rs).groups.length = pn by rw [HPN.out]; unfold makeF; rw [List.length_map, Hm.out]], by rw [show (makeF cs rs).cols.length = k from Hn.out.symm]; exact (hS2.rowLen 4 rfl).2, hS2.rc 4 rfl, by
                  have := hS2.rg 3 rfl (K := K) (fun x hx => by simp [hx]) HGB.out
                  unfold makeF
                  rw [← Hm.out]
                  exact this⟩⟩
              case body =>
                rintro l pre x W ⟨Ag, cg, xs, K, HGB, HKC, hS⟩ hlen
                obtain ⟨pl, hpl⟩ : ∃ p, p = min 6 (q - 6 * x) := ⟨_, rfl⟩
                rw [← hpl]
                obtain ⟨pn, hpn⟩ : ∃ p, p = pre.length := ⟨_, rfl⟩
                rw [← hpn] at hS hlen
                have hL0 : ∀ y ∈ (.row 113 3 Ag pn cg xs :: .blk bn [.int .i64 6] 3 :: .blk bs [.slice (some ⟨b2, o2, none⟩) q cap2] 23 :: .blk gf [.slice Af k cf, .slice Ag pn cg] 60 :: .row 31 7 Af k cf (cellsC cs) :: .blk g5 [.nilIface] 51 :: .blk g4 [.slice none 0 0, .slice none 0 0] 60 :: .blk w.heap.size [.slice (some ⟨b1, o1, none⟩) k cap] 22 :: K), CellI y := by
                  intro y hy
                  simp only [List.mem_cons] at hy
                  rcases hy with rfl | rfl | rfl | rfl | rfl | rfl | rfl | rfl | hy
                  all_goals first | trivial | exact HKC.out y hy
                obtain ⟨Ko, hS0, HKO⟩ := hS.others wk.heap.size hwB (hS.cellsOf hL0)
                simp only [List.cons_append] at hS0
                obtain ⟨K2, hK2⟩ : ∃ K2, K2 = K ++ Ko := ⟨_, rfl⟩
                rw [← hK2] at hS0
                have HPL := Lib.hid hpl
                have HPN := Lib.hid hpn
                have HK2 := Lib.hid hK2
                have hpl6 : pl ≤ 6 := by rw [hpl]; exact Nat.min_le_left _ _
                have hpn10 : pn ≤ 1000 := by omega
                have hWbs : W.cell? ⟨bs, 0, none⟩ = some (.slice (some ⟨b2, o2, none⟩) q cap2) := (hS.facts).2.1.1.1
                have hWbn : W.cell? ⟨bn, 0, none⟩ = some (.int .i64 6) := (hS.facts).1.1.1
                have HWBS := Lib.hid hWbs
                have HWBN := Lib.hid hWbn
                clear hS hL0 hpl hpn hK2 hbs hbn hWbs hWbn hO
                have hS := hS0
                clear hS0
                have hO := open_wide.inRound l
                ((try clear hF); (first | have hF := And.intro hS.facts (HRD.out _ (hS.sub (by first | simp | ((repeat (first | exact List.nil_sublist _ | exact List.Sublist.refl _ | with_reducible apply List.Sublist.cons₂ | apply List.Sublist.cons)))))) | have hF := And.intro hS.facts (hR.at hS.ext) | have hF := hS.facts); simp only [HFacts, cellFacts, RFacts, cellOnly, and_true, true_and, Nat.zero_add, Nat.reduceAdd] at hF)
                gi_wp2_with (first | ((with_reducible first | refine niLa ?_ | refine niLs ?_ | refine niLd ?_ | refine niCa ?_ | refine niCs ?_ | refine niCd ?_ | refine niPa ?_ | refine niPs ?_ | refine niPd ?_ | refine niKa ?_ | refine niKs ?_ | refine niKd ?_); ((try clear hF); clear hS; intro wk hS; (try simp only [List.set_cons_zero, List.set_cons_succ, heap_size, heap_set_size] at hS); ((try clear hF); (first | have hF := And.intro hS.facts (HRD.out _ (hS.sub (by first | simp | ((repeat (first | exact List.nil_sublist _ | exact List.Sublist.refl _ | with_reducible apply List.Sublist.cons₂ | apply List.Sublist.cons)))))) | have hF := And.intro hS.facts (hR.at hS.ext) | have hF := hS.facts); simp only [HFacts, cellFacts, RFacts, cellOnly, and_true, true_and, Nat.zero_add, Nat.reduceAdd] at hF))) | fail)
                obtain ⟨g14, hg14⟩ := hS.named
                rw [← hg14] at hS hF ⊢
                have HG14 := Lib.hid hg14
                clear hg14 hF
                replace hS := (hS.nilRow 9 1).nilRow 38 8
                gi_loopw [82] (fun i wr => ∃ (j : Nat) (As : Option Addr) (cas : Nat) (Ab : Option Addr) (cab : Nat) (ss : List ST) (bs0 : List ByteArray), i = .int .i64 j ∧ j ≤ k ∧ Hid (statsM (partM rs x) 0 (cs.take j) = ss) ∧ Hid (bytesM (partM rs x) 0 (cs.take j) = bs0) ∧
                  Hp w.heap.size w wr (.row 38 8 As j cas (cellsS ss) :: .row 9 1 Ab j cab (strsV bs0) :: .blk g14 [.int .i64 pl, .slice As j cas, .slice Ab j cab] 113 :: .row 113 3 Ag pn cg xs :: .blk gf [.slice Af k cf, .slice Ag pn cg] 60 :: .row 31 7 Af k cf (cellsC cs) :: .blk g5 [.nilIface] 51 :: .blk g4 [.slice none 0 0, .slice none 0 0] 60 :: .blk w.heap.size [.slice (some ⟨b1, o1, none⟩) k cap] 22 :: .blk bn [.int .i64 6] 3 :: .blk bs [.slice (some ⟨b2, o2, none⟩) q cap2] 23 :: K2)) (fun i _ => k - (intOf i).toNat)
                case atStart => exact ⟨0, none, 0, none, 0, [], [], rfl, Nat.zero_le _, Lib.hid rfl, Lib.hid rfl, (((((((((((hS.front 5 rfl).front 5 rfl).front 10 rfl).front 10 rfl).front 10 rfl).front 10 rfl).front 10 rfl).front 10 rfl).front 10 rfl).front 10 rfl).front 10 rfl)⟩
                case round =>
                  clear hS
                  obtain ⟨j, As, cas, Ab, cab, ss, bs0, rfl, hj, HSS, HBS, hS⟩ := hrel
                  by_cases hlj : j < k
                  · obtain ⟨c, hc'⟩ : ∃ y, cs[j]? = some y := ⟨cs[j]'(by rw [← Hn.out]; exact hlj), List.getElem?_eq_getElem _⟩
                    obtain ⟨b3, o3, e3, c0, c1, c2, c3, c4, c5, c6⟩ := hc j c hc'
                    cases e3
                    have hq60 : (partM rs x).length = pl := (partM_len rs x).trans (by rw [← Hm.out]; exact HPL.out.symm)
                    have hre : ∀ r ∈ partM rs x, rowE cs r = 0 := fun r h => mk_rows (mk_good HMK.out).2.2.2 r (partM_mem h)
                    have HTK := Lib.hid (takeC_succ hc')
                    obtain ⟨lv, hlv⟩ : ∃ l, l = colL (partM rs x) j := ⟨_, rfl⟩
                    have hlvl : lv.length = pl := by rw [hlv]; unfold colL; rw [List.length_map]; exact hq60
                    have hlvi : ∀ y ∈ lv, i64 y.num := by
                      intro y hy
                      rw [hlv] at hy
                      obtain ⟨r, h1, rfl⟩ := colL_mem hy
                      have h2 : j < r.length := by rw [row_len (hre r h1), ← Hn.out]; exact hlj
                      refine hv r (partM_mem h1) _ ?_
                      rw [List.getD_eq_getElem?_getD, List.getElem?_eq_getElem h2]
                      exact List.getElem_mem h2
                    obtain ⟨y, hy⟩ : ∃ y : ByteArray, y = ⟨(encOut c.kind lv).toArray⟩ := ⟨_, rfl⟩
                    obtain ⟨t, ht⟩ : ∃ t, t = ofS lv := ⟨_, rfl⟩
                    have henc : encRes c.kind lv = .tuple #[.string y, .nilIface] := by
                      unfold encRes
                      rw [if_pos (by rw [hlv]; exact col_enc hre hc' (mk_kind HMK.out (List.mem_of_getElem? hc')) (by omega)), hy]
                    have HY := Lib.hid (hlv ▸ hy)
                    have HT := Lib.hid (hlv ▸ ht)
                    have HCO := Lib.hid (fun (W : World) (L : List Item) (hW : Hp w.heap.size w W L) => show Calls Tryz.prog 59 #[.slice (some ⟨b2, o2 + 6 * x, none⟩) pl pl, .int .i64 j] W fun e w' => ∃ A' cap', e = .returned (.slice A' pl cap') ∧ Hp w.heap.size w w' (.row 29 3 A' pl cap' (cellsV lv) :: L) from
                      (fcolumn_any (partM rs x) j (some ⟨b2, o2 + 6 * x, none⟩) pl pl W hq60 (by omega) ((hr.ext hW.ext).part x) (fun r h => by rw [row_len (hre r h), ← Hn.out]; exact hlj)).mono fun e w' ⟨A', cap', he, hp⟩ => ⟨A', cap', he, by rw [hlv]; exact hW.join hp⟩)
                    have HEN := Lib.hid (fun (W : World) (A : Option Addr) (cap : Nat) (h : RV W A lv) => show Calls Tryz.prog 60 #[.int .i64 c.kind, .slice A pl cap] W fun e w' => e = .returned (.tuple #[.string y, .nilIface]) ∧ Ext W w' from by
                      have := encode_any c.kind lv A cap W h (by omega) hlvi
                      rw [hlvl, henc] at this
                      exact this)
                    have HOF := Lib.hid (fun (W : World) (A : Option Addr) (cap : Nat) (h : RV W A lv) => show Calls Tryz.prog 13 #[.slice A pl cap] W fun e w' => e = .returned (stV t) ∧ Ext W w' from by
                      have := of_any lv A cap W h (by omega)
                      rw [hlvl, ← ht] at this
                      exact this)
                    unfold stV at HOF
                    clear hlv hlvl hlvi hy ht henc hre hq60 hc'
                    clear hR
                    have hR := Reads.cell c0 (Reads.cell c1 (Reads.cell c2 (Reads.cell c3 (Reads.cell c4 (Reads.cell c5 (Reads.cell c6 (Reads.nil w)))))))
                    clear c0 c1 c2 c3 c4 c5 c6
                    ((try clear hF); (first | have hF := And.intro hS.facts (HRD.out _ (hS.sub (by first | simp | ((repeat (first | exact List.nil_sublist _ | exact List.Sublist.refl _ | with_reducible apply List.Sublist.cons₂ | apply List.Sublist.cons)))))) | have hF := And.intro hS.facts (hR.at hS.ext) | have hF := hS.facts); simp only [HFacts, cellFacts, RFacts, cellOnly, and_true, true_and, Nat.zero_add, Nat.reduceAdd] at hF)
                    gi_wp2_with (first | ((with_reducible first | refine niLa ?_ | refine niLs ?_ | refine niLd ?_ | refine niCa ?_ | refine niCs ?_ | refine niCd ?_ | refine niPa ?_ | refine niPs ?_ | refine niPd ?_ | refine niKa ?_ | refine niKs ?_ | refine niKd ?_); ((try clear hF); clear hS; intro wk hS; (try simp only [List.set_cons_zero, List.set_cons_succ, heap_size, heap_set_size] at hS); ((try clear hF); (first | have hF := And.intro hS.facts (HRD.out _ (hS.sub (by first | simp | ((repeat (first | exact List.nil_sublist _ | exact List.Sublist.refl _ | with_reducible apply List.Sublist.cons₂ | apply List.Sublist.cons)))))) | have hF := And.intro hS.facts (hR.at hS.ext) | have hF := hS.facts); simp only [HFacts, cellFacts, RFacts, cellOnly, and_true, true_and, Nat.zero_add, Nat.reduceAdd] at hF))) | (refine ⟨trivial, ?_⟩; gi_at_call 59; (with_reducible refine CallsIn.mono (hO.calls (HCO.out _ _ hS)) ?_); clear hS; rintro e wk ⟨Av, cv, rfl, hS⟩; skip; (try simp only [List.eraseIdx_cons_zero, List.eraseIdx_cons_succ, List.set_cons_zero, List.set_cons_succ] at hS); ((try clear hF); (first | have hF := And.intro hS.facts (HRD.out _ (hS.sub (by first | simp | ((repeat (first | exact List.nil_sublist _ | exact List.Sublist.refl _ | with_reducible apply List.Sublist.cons₂ | apply List.Sublist.cons)))))) | have hF := And.intro hS.facts (hR.at hS.ext) | have hF := hS.facts); simp only [HFacts, cellFacts, RFacts, cellOnly, and_true, true_and, Nat.zero_add, Nat.reduceAdd] at hF)) | (refine ⟨trivial, ?_⟩; gi_at_call 60; (with_reducible refine CallsIn.mono (hO.calls (HEN.out _ _ _ (hS.rv 0 rfl))) ?_); rintro e wk ⟨rfl, hX⟩; replace hS := hS.step hX; clear hX; ((try clear hF); (first | have hF := And.intro hS.facts (HRD.out _ (hS.sub (by first | simp | ((repeat (first | exact List.nil_sublist _ | exact List.Sublist.refl _ | with_reducible apply List.Sublist.cons₂ | apply List.Sublist.cons)))))) | have hF := And.intro hS.facts (hR.at hS.ext) | have hF := hS.facts); simp only [HFacts, cellFacts, RFacts, cellOnly, and_true, true_and, Nat.zero_add, Nat.reduceAdd] at hF)))
                    obtain ⟨g16, hg16⟩ := (hS.front 1 rfl).named
                    rw [← hg16] at hS hF ⊢
                    clear hg16 hF HCO HEN
                    ((with_reducible refine wpIn_region_braidz_hp hO [.q, .q, .q, .q, .t, .t, .q, .q, .q, .t, .t, .t, .t, .t, .t] 12 [.row 29 3 Av pl cv (cellsV lv), .blk g14 [.int .i64 pl, .slice As j cas, .slice Ab j cab] 113] (by kernel_rfl) (by kernel_rfl) rfl (by kernel_rfl) hS (fun w h => h.sub (by simp)) ?_); clear hS; (repeat ((with_reducible refine Walk.here ?_); (first | ((with_reducible apply Walk.skipQ); (first | rfl | exact wanted_false rfl rfl rfl (by assumption)); (try simp only [Mark.isQ, if_true, Bool.false_eq_true, if_false, Act.put, List.setIfInBounds_toArray, List.set_cons_zero, List.set_cons_succ])) | ((with_reducible apply Walk.val); (first | rfl | exact wanted_true rfl rfl rfl (by assumption)); (rintro w hS; ((try clear hF); (first | have hF := And.intro hS.facts (HRD.out _ (hS.sub (by first | simp | ((repeat (first | exact List.nil_sublist _ | exact List.Sublist.refl _ | with_reducible apply List.Sublist.cons₂ | apply List.Sublist.cons)))))) | have hF := And.intro hS.facts (hR.at hS.ext) | have hF := hS.facts); simp only [HFacts, cellFacts, RFacts, cellOnly, and_true, true_and, Nat.zero_add, Nat.reduceAdd] at hF); go_simp; first | with_reducible rfl | (rw [if_neg (by first | omega | (simp only [ByteArray.size_append]; omega) | (simp [ByteArray.size_append]; omega))]; try with_reducible rfl)); (try simp only [Mark.isQ, if_true, Bool.false_eq_true, if_false, Act.put, List.setIfInBounds_toArray, List.set_cons_zero, List.set_cons_succ])) | ((with_reducible apply Walk.call); (first | rfl | exact wanted_true rfl rfl rfl (by assumption)); (rintro w hS; ((try clear hF); (first | have hF := And.intro hS.facts (HRD.out _ (hS.sub (by first | simp | ((repeat (first | exact List.nil_sublist _ | exact List.Sublist.refl _ | with_reducible apply List.Sublist.cons₂ | apply List.Sublist.cons)))))) | have hF := And.intro hS.facts (hR.at hS.ext) | have hF := hS.facts); simp only [HFacts, cellFacts, RFacts, cellOnly, and_true, true_and, Nat.zero_add, Nat.reduceAdd] at hF); go_simp; exact ⟨rfl, rfl⟩); (rintro w hS; first | (with_reducible exact HOF.out _ _ _ (hS.rv 0 rfl))); (try simp only [Mark.isQ, if_true, Bool.false_eq_true, if_false, Act.put, List.setIfInBounds_toArray, List.set_cons_zero, List.set_cons_succ])) | ((with_reducible apply Walk.tail); (try simp only [Mark.isQ, if_true, Bool.false_eq_true, if_false, Act.put, List.setIfInBounds_toArray, List.set_cons_zero, List.set_cons_succ])) | ((with_reducible apply Walk.guardT); rfl; rfl; rfl; (all_goals intro hg)) | ((with_reducible apply Walk.guardF); rfl; rfl; rfl; (all_goals intro hg))))); refine Walk.done ?_; show BraidZ _ _ _ _ 12 8 [4, 5, 9, 10, 11, 12, 13, 14] _ _)
                    (refine BraidZ.next2 (i := 4) (j := 9) (by kernel_rfl) (by kernel_rfl) rfl rfl ?_ ?_ <;> (try simp only [List.getElem_toArray, List.getElem_cons_succ, List.getElem_cons_zero]))
                    · (refine ZStep.alloc (cs := [.int .i64 t.count, .int .i64 t.nulls, .int .i64 t.mn.kind, .int .i64 t.mn.num, .string t.mn.text, .int .i64 t.mx.kind, .int .i64 t.mx.num, .string t.mx.text]) (t := 38) (f := fun g => .slice (some ⟨g, 0, none⟩) 1 1) (by (first | rfl | exact wanted_true rfl rfl rfl (by assumption))) (fun w h => h.sub (by first | simp | ((try simp only [List.eraseIdx_cons_zero, List.eraseIdx_cons_succ]); (repeat (first | exact List.nil_sublist _ | exact List.Sublist.refl _ | with_reducible apply List.Sublist.cons₂ | apply List.Sublist.cons))))) (fun w hS => by ((try clear hF); (first | have hF := And.intro hS.facts (HRD.out _ (hS.sub (by first | simp | ((repeat (first | exact List.nil_sublist _ | exact List.Sublist.refl _ | with_reducible apply List.Sublist.cons₂ | apply List.Sublist.cons)))))) | have hF := And.intro hS.facts (hR.at hS.ext) | have hF := hS.facts); simp only [HFacts, cellFacts, RFacts, cellOnly, and_true, true_and, Nat.zero_add, Nat.reduceAdd] at hF); go_simp) (fun gq => ?_); try simp only [Act.put, List.setIfInBounds_toArray, List.set_cons_zero, List.set_cons_succ])
                      (refine BraidZ.next2 (i := 5) (j := 9) (by kernel_rfl) (by kernel_rfl) rfl rfl ?_ ?_ <;> (try simp only [List.getElem_toArray, List.getElem_cons_succ, List.getElem_cons_zero]))
                      · (refine ZStep.append Tryz.elem_stats (by (first | rfl | exact wanted_true rfl rfl rfl (by assumption))) (.tmp 102) (.tmp 105) rfl 3 rfl (by (try simp only [List.eraseIdx_cons_zero, List.eraseIdx_cons_succ]); rfl) rfl ⟨gq, 0, none⟩ rfl rfl (fun w hS jj u hu => World.news_of_block (hS.blkAt 0 rfl) jj u (by simpa using hu)) (by simp [Value.oneCell']) (by omega) (by omega) (fun w h => h.sub (by first | simp | ((try simp only [List.eraseIdx_cons_zero, List.eraseIdx_cons_succ]); (repeat (first | exact List.nil_sublist _ | exact List.Sublist.refl _ | with_reducible apply List.Sublist.cons₂ | apply List.Sublist.cons))))) (fun As2 cas2 => ?_); try simp only [Act.put, List.setIfInBounds_toArray, List.set_cons_zero, List.set_cons_succ])
                        (refine BraidZ.next2 (i := 9) (j := 11) (by kernel_rfl) (by kernel_rfl) rfl rfl ?_ ?_ <;> (try simp only [List.getElem_toArray, List.getElem_cons_succ, List.getElem_cons_zero]))
                        · (refine ZStep.alloc (cs := [.string y]) (t := 9) (f := fun g => .slice (some ⟨g, 0, none⟩) 1 1) (by (first | rfl | exact wanted_true rfl rfl rfl (by assumption))) (fun w h => h.sub (by first | simp | ((try simp only [List.eraseIdx_cons_zero, List.eraseIdx_cons_succ]); (repeat (first | exact List.nil_sublist _ | exact List.Sublist.refl _ | with_reducible apply List.Sublist.cons₂ | apply List.Sublist.cons))))) (fun w hS => by ((try clear hF); (first | have hF := And.intro hS.facts (HRD.out _ (hS.sub (by first | simp | ((repeat (first | exact List.nil_sublist _ | exact List.Sublist.refl _ | with_reducible apply List.Sublist.cons₂ | apply List.Sublist.cons)))))) | have hF := And.intro hS.facts (hR.at hS.ext) | have hF := hS.facts); simp only [HFacts, cellFacts, RFacts, cellOnly, and_true, true_and, Nat.zero_add, Nat.reduceAdd] at hF); go_simp) (fun ge => ?_); try simp only [Act.put, List.setIfInBounds_toArray, List.set_cons_zero, List.set_cons_succ])
                          (refine BraidZ.next2 (i := 10) (j := 11) (by kernel_rfl) (by kernel_rfl) rfl rfl ?_ ?_ <;> (try simp only [List.getElem_toArray, List.getElem_cons_succ, List.getElem_cons_zero]))
                          · (refine ZStep.append Tryz.elem_texts (by (first | rfl | exact wanted_true rfl rfl rfl (by assumption))) (.tmp 108) (.tmp 110) rfl 5 rfl (by (try simp only [List.eraseIdx_cons_zero, List.eraseIdx_cons_succ]); rfl) rfl ⟨ge, 0, none⟩ rfl rfl (fun w hS jj u hu => World.news_of_block (hS.blkAt 0 rfl) jj u (by simpa using hu)) (by simp [Value.oneCell']) (by omega) (by omega) (fun w h => h.sub (by first | simp | ((try simp only [List.eraseIdx_cons_zero, List.eraseIdx_cons_succ]); (repeat (first | exact List.nil_sublist _ | exact List.Sublist.refl _ | with_reducible apply List.Sublist.cons₂ | apply List.Sublist.cons))))) (fun Ab2 cab2 => ?_); try simp only [Act.put, List.setIfInBounds_toArray, List.set_cons_zero, List.set_cons_succ])
                            (refine BraidZ.next1 (i := 11) (by kernel_rfl) (by kernel_rfl) rfl ?_; (try simp only [List.getElem_toArray, List.getElem_cons_succ, List.getElem_cons_zero]))
                            (refine ZStep.val (by (first | rfl | exact wanted_true rfl rfl rfl (by assumption))) (fun w h => h.sub (by first | simp | ((try simp only [List.eraseIdx_cons_zero, List.eraseIdx_cons_succ]); (repeat (first | exact List.nil_sublist _ | exact List.Sublist.refl _ | with_reducible apply List.Sublist.cons₂ | apply List.Sublist.cons))))) (by rintro w hS; ((try clear hF); (first | have hF := And.intro hS.facts (HRD.out _ (hS.sub (by first | simp | ((repeat (first | exact List.nil_sublist _ | exact List.Sublist.refl _ | with_reducible apply List.Sublist.cons₂ | apply List.Sublist.cons)))))) | have hF := And.intro hS.facts (hR.at hS.ext) | have hF := hS.facts); simp only [HFacts, cellFacts, RFacts, cellOnly, and_true, true_and, Nat.zero_add, Nat.reduceAdd] at hF); go_simp; with_reducible rfl) ?_; try simp only [Act.put, List.setIfInBounds_toArray, List.set_cons_zero, List.set_cons_succ])
                            (refine BraidZ.next1 (i := 12) (by kernel_rfl) (by kernel_rfl) rfl ?_; (try simp only [List.getElem_toArray, List.getElem_cons_succ, List.getElem_cons_zero]))
                            (show ZStep _ _ _ true _ _ _ _; refine ZStep.turn (by (first | rfl | exact wanted_true rfl rfl rfl (by assumption))) (fun w hS => ⟨w.setCell ⟨g14, 1, none⟩ (.slice As2 (j + 1 : Nat) cas2), .inl (by ((try clear hF); (first | have hF := And.intro hS.facts (HRD.out _ (hS.sub (by first | simp | ((repeat (first | exact List.nil_sublist _ | exact List.Sublist.refl _ | with_reducible apply List.Sublist.cons₂ | apply List.Sublist.cons)))))) | have hF := And.intro hS.facts (hR.at hS.ext) | have hF := hS.facts); simp only [HFacts, cellFacts, RFacts, cellOnly, and_true, true_and, Nat.zero_add, Nat.reduceAdd] at hF); go_simp), hS.put (i := 6) rfl⟩) ?_; try simp only [Act.put, List.setIfInBounds_toArray, List.set_cons_zero, List.set_cons_succ])
                            (refine BraidZ.next1 (i := 13) (by kernel_rfl) (by kernel_rfl) rfl ?_; (try simp only [List.getElem_toArray, List.getElem_cons_succ, List.getElem_cons_zero]))
                            (show ZStep _ _ _ true _ _ _ _; refine ZStep.valz (by (first | rfl | exact wanted_true rfl rfl rfl (by assumption))) (by rintro w hS; ((try clear hF); (first | have hF := And.intro hS.facts (HRD.out _ (hS.sub (by first | simp | ((repeat (first | exact List.nil_sublist _ | exact List.Sublist.refl _ | with_reducible apply List.Sublist.cons₂ | apply List.Sublist.cons)))))) | have hF := And.intro hS.facts (hR.at hS.ext) | have hF := hS.facts); simp only [HFacts, cellFacts, RFacts, cellOnly, and_true, true_and, Nat.zero_add, Nat.reduceAdd] at hF); go_simp; with_reducible rfl) ?_; try simp only [Act.put, List.setIfInBounds_toArray, List.set_cons_zero, List.set_cons_succ])
                            (refine BraidZ.next1 (i := 14) (by kernel_rfl) (by kernel_rfl) rfl ?_; (try simp only [List.getElem_toArray, List.getElem_cons_succ, List.getElem_cons_zero]))
                            (show ZStep _ _ _ true _ _ _ _; refine ZStep.turn (by (first | rfl | exact wanted_true rfl rfl rfl (by assumption))) (fun w hS => ⟨w.setCell ⟨g14, 2, none⟩ (.slice Ab2 (j + 1 : Nat) cab2), .inl (by ((try clear hF); (first | have hF := And.intro hS.facts (HRD.out _ (hS.sub (by first | simp | ((repeat (first | exact List.nil_sublist _ | exact List.Sublist.refl _ | with_reducible apply List.Sublist.cons₂ | apply List.Sublist.cons)))))) | have hF := And.intro hS.facts (hR.at hS.ext) | have hF := hS.facts); simp only [HFacts, cellFacts, RFacts, cellOnly, and_true, true_and, Nat.zero_add, Nat.reduceAdd] at hF); go_simp), hS.put (i := 6) rfl⟩) ?_; try simp only [Act.put, List.setIfInBounds_toArray, List.set_cons_zero, List.set_cons_succ])
                            (refine BraidZ.last (by kernel_rfl) ?_; (try clear hF); intro wk hS; ((try clear hF); (first | have hF := And.intro hS.facts (HRD.out _ (hS.sub (by first | simp | ((repeat (first | exact List.nil_sublist _ | exact List.Sublist.refl _ | with_reducible apply List.Sublist.cons₂ | apply List.Sublist.cons)))))) | have hF := And.intro hS.facts (hR.at hS.ext) | have hF := hS.facts); simp only [HFacts, cellFacts, RFacts, cellOnly, and_true, true_and, Nat.zero_add, Nat.reduceAdd] at hF))
                            gi_wp2
                            go_roundw
                            case rel =>
                              refine ⟨j + 1, As2, cas2, Ab2, cab2, ss ++ [t], bs0 ++ [y], by go_num, by omega, Lib.hid ?_, Lib.hid ?_, ?_⟩
                              · rw [HTK.out, statsM_snoc, HSS.out, HT.out, List.length_take, Nat.zero_add, Nat.min_eq_left (by rw [← Hn.out]; omega)]
                              · rw [HTK.out, bytesM_snoc, HBS.out, HY.out, List.length_take, Nat.zero_add, Nat.min_eq_left (by rw [← Hn.out]; omega)]
                              rw [cellsS_append, show strsV (bs0 ++ [y]) = strsV bs0 ++ [.string y] by simp [strsV]]
                              exact (((((((((((((((hS.drop 1).drop 2).drop 2).drop 2).front 10 rfl).front 10 rfl).front 10 rfl).front 10 rfl).front 10 rfl).front 10 rfl).front 10 rfl).front 10 rfl).front 10 rfl).front 9 rfl).front 10 rfl)
                            case measure => simp [intOf]; omega
                          · (refine ZStep.val (by (first | rfl | exact wanted_true rfl rfl rfl (by assumption))) (fun w h => h.sub (by first | simp | ((try simp only [List.eraseIdx_cons_zero, List.eraseIdx_cons_succ]); (repeat (first | exact List.nil_sublist _ | exact List.Sublist.refl _ | with_reducible apply List.Sublist.cons₂ | apply List.Sublist.cons))))) (by rintro w hS; ((try clear hF); (first | have hF := And.intro hS.facts (HRD.out _ (hS.sub (by first | simp | ((repeat (first | exact List.nil_sublist _ | exact List.Sublist.refl _ | with_reducible apply List.Sublist.cons₂ | apply List.Sublist.cons)))))) | have hF := And.intro hS.facts (hR.at hS.ext) | have hF := hS.facts); simp only [HFacts, cellFacts, RFacts, cellOnly, and_true, true_and, Nat.zero_add, Nat.reduceAdd] at hF); go_simp; with_reducible rfl) ?_; try simp only [Act.put, List.setIfInBounds_toArray, List.set_cons_zero, List.set_cons_succ])
                            (refine BraidZ.next1 (i := 10) (by kernel_rfl) (by kernel_rfl) rfl ?_; (try simp only [List.getElem_toArray, List.getElem_cons_succ, List.getElem_cons_zero]))
                            (refine ZStep.append Tryz.elem_texts (by (first | rfl | exact wanted_true rfl rfl rfl (by assumption))) (.tmp 108) (.tmp 110) rfl 5 rfl (by (try simp only [List.eraseIdx_cons_zero, List.eraseIdx_cons_succ]); rfl) rfl ⟨ge, 0, none⟩ rfl rfl (fun w hS jj u hu => World.news_of_block (hS.blkAt 0 rfl) jj u (by simpa using hu)) (by simp [Value.oneCell']) (by omega) (by omega) (fun w h => h.sub (by first | simp | ((try simp only [List.eraseIdx_cons_zero, List.eraseIdx_cons_succ]); (repeat (first | exact List.nil_sublist _ | exact List.Sublist.refl _ | with_reducible apply List.Sublist.cons₂ | apply List.Sublist.cons))))) (fun Ab2 cab2 => ?_); try simp only [Act.put, List.setIfInBounds_toArray, List.set_cons_zero, List.set_cons_succ])
                            (refine BraidZ.next1 (i := 12) (by kernel_rfl) (by kernel_rfl) rfl ?_; (try simp only [List.getElem_toArray, List.getElem_cons_succ, List.getElem_cons_zero]))
                            (show ZStep _ _ _ true _ _ _ _; refine ZStep.turn (by (first | rfl | exact wanted_true rfl rfl rfl (by assumption))) (fun w hS => ⟨w.setCell ⟨g14, 1, none⟩ (.slice As2 (j + 1 : Nat) cas2), .inl (by ((try clear hF); (first | have hF := And.intro hS.facts (HRD.out _ (hS.sub (by first | simp | ((repeat (first | exact List.nil_sublist _ | exact List.Sublist.refl _ | with_reducible apply List.Sublist.cons₂ | apply List.Sublist.cons)))))) | have hF := And.intro hS.facts (hR.at hS.ext) | have hF := hS.facts); simp only [HFacts, cellFacts, RFacts, cellOnly, and_true, true_and, Nat.zero_add, Nat.reduceAdd] at hF); go_simp), hS.put (i := 6) rfl⟩) ?_; try simp only [Act.put, List.setIfInBounds_toArray, List.set_cons_zero, List.set_cons_succ])
                            (refine BraidZ.next1 (i := 13) (by kernel_rfl) (by kernel_rfl) rfl ?_; (try simp only [List.getElem_toArray, List.getElem_cons_succ, List.getElem_cons_zero]))
                            (show ZStep _ _ _ true _ _ _ _; refine ZStep.valz (by (first | rfl | exact wanted_true rfl rfl rfl (by assumption))) (by rintro w hS; ((try clear hF); (first | have hF := And.intro hS.facts (HRD.out _ (hS.sub (by first | simp | ((repeat (first | exact List.nil_sublist _ | exact List.Sublist.refl _ | with_reducible apply List.Sublist.cons₂ | apply List.Sublist.cons)))))) | have hF := And.intro hS.facts (hR.at hS.ext) | have hF := hS.facts); simp only [HFacts, cellFacts, RFacts, cellOnly, and_true, true_and, Nat.zero_add, Nat.reduceAdd] at hF); go_simp; with_reducible rfl) ?_; try simp only [Act.put, List.setIfInBounds_toArray, List.set_cons_zero, List.set_cons_succ])
                            (refine BraidZ.next1 (i := 14) (by kernel_rfl) (by kernel_rfl) rfl ?_; (try simp only [List.getElem_toArray, List.getElem_cons_succ, List.getElem_cons_zero]))
                            (show ZStep _ _ _ true _ _ _ _; refine ZStep.turn (by (first | rfl | exact wanted_true rfl rfl rfl (by assumption))) (fun w hS => ⟨w.setCell ⟨g14, 2, none⟩ (.slice Ab2 (j + 1 : Nat) cab2), .inl (by ((try clear hF); (first | have hF := And.intro hS.facts (HRD.out _ (hS.sub (by first | simp | ((repeat (first | exact List.nil_sublist _ | exact List.Sublist.refl _ | with_reducible apply List.Sublist.cons₂ | apply List.Sublist.cons)))))) | have hF := And.intro hS.facts (hR.at hS.ext) | have hF := hS.facts); simp only [HFacts, cellFacts, RFacts, cellOnly, and_true, true_and, Nat.zero_add, Nat.reduceAdd] at hF); go_simp), hS.put (i := 6) rfl⟩) ?_; try simp only [Act.put, List.setIfInBounds_toArray, List.set_cons_zero, List.set_cons_succ])
                            (refine BraidZ.last (by kernel_rfl) ?_; (try clear hF); intro wk hS; ((try clear hF); (first | have hF := And.intro hS.facts (HRD.out _ (hS.sub (by first | simp | ((repeat (first | exact List.nil_sublist _ | exact List.Sublist.refl _ | with_reducible apply List.Sublist.cons₂ | apply List.Sublist.cons)))))) | have hF := And.intro hS.facts (hR.at hS.ext) | have hF := hS.facts); simp only [HFacts, cellFacts, RFacts, cellOnly, and_true, true_and, Nat.zero_add, Nat.reduceAdd] at hF))
                            gi_wp2
                            go_roundw
                            case rel =>
                              refine ⟨j + 1, As2, cas2, Ab2, cab2, ss ++ [t], bs0 ++ [y], by go_num, by omega, Lib.hid ?_, Lib.hid ?_, ?_⟩
                              · rw [HTK.out, statsM_snoc, HSS.out, HT.out, List.length_take, Nat.zero_add, Nat.min_eq_left (by rw [← Hn.out]; omega)]
                              · rw [HTK.out, bytesM_snoc, HBS.out, HY.out, List.length_take, Nat.zero_add, Nat.min_eq_left (by rw [← Hn.out]; omega)]
                              rw [cellsS_append, show strsV (bs0 ++ [y]) = strsV bs0 ++ [.string y] by simp [strsV]]
                              exact (((((((((((((((hS.drop 1).drop 2).drop 2).drop 2).front 10 rfl).front 10 rfl).front 10 rfl).front 10 rfl).front 10 rfl).front 10 rfl).front 10 rfl).front 10 rfl).front 10 rfl).front 9 rfl).front 10 rfl)
                            case measure => simp [intOf]; omega
                        · (refine ZStep.val (by (first | rfl | exact wanted_true rfl rfl rfl (by assumption))) (fun w h => h.sub (by first | simp | ((try simp only [List.eraseIdx_cons_zero, List.eraseIdx_cons_succ]); (repeat (first | exact List.nil_sublist _ | exact List.Sublist.refl _ | with_reducible apply List.Sublist.cons₂ | apply List.Sublist.cons))))) (by rintro w hS; ((try clear hF); (first | have hF := And.intro hS.facts (HRD.out _ (hS.sub (by first | simp | ((repeat (first | exact List.nil_sublist _ | exact List.Sublist.refl _ | with_reducible apply List.Sublist.cons₂ | apply List.Sublist.cons)))))) | have hF := And.intro hS.facts (hR.at hS.ext) | have hF := hS.facts); simp only [HFacts, cellFacts, RFacts, cellOnly, and_true, true_and, Nat.zero_add, Nat.reduceAdd] at hF); go_simp; with_reducible rfl) ?_; try simp only [Act.put, List.setIfInBounds_toArray, List.set_cons_zero, List.set_cons_succ])
                          (refine BraidZ.next1 (i := 9) (by kernel_rfl) (by kernel_rfl) rfl ?_; (try simp only [List.getElem_toArray, List.getElem_cons_succ, List.getElem_cons_zero]))
                          (refine ZStep.alloc (cs := [.string y]) (t := 9) (f := fun g => .slice (some ⟨g, 0, none⟩) 1 1) (by (first | rfl | exact wanted_true rfl rfl rfl (by assumption))) (fun w h => h.sub (by first | simp | ((try simp only [List.eraseIdx_cons_zero, List.eraseIdx_cons_succ]); (repeat (first | exact List.nil_sublist _ | exact List.Sublist.refl _ | with_reducible apply List.Sublist.cons₂ | apply List.Sublist.cons))))) (fun w hS => by ((try clear hF); (first | have hF := And.intro hS.facts (HRD.out _ (hS.sub (by first | simp | ((repeat (first | exact List.nil_sublist _ | exact List.Sublist.refl _ | with_reducible apply List.Sublist.cons₂ | apply List.Sublist.cons)))))) | have hF := And.intro hS.facts (hR.at hS.ext) | have hF := hS.facts); simp only [HFacts, cellFacts, RFacts, cellOnly, and_true, true_and, Nat.zero_add, Nat.reduceAdd] at hF); go_simp) (fun ge => ?_); try simp only [Act.put, List.setIfInBounds_toArray, List.set_cons_zero, List.set_cons_succ])
                          (refine BraidZ.next1 (i := 10) (by kernel_rfl) (by kernel_rfl) rfl ?_; (try simp only [List.getElem_toArray, List.getElem_cons_succ, List.getElem_cons_zero]))
                          (refine ZStep.append Tryz.elem_texts (by (first | rfl | exact wanted_true rfl rfl rfl (by assumption))) (.tmp 108) (.tmp 110) rfl 5 rfl (by (try simp only [List.eraseIdx_cons_zero, List.eraseIdx_cons_succ]); rfl) rfl ⟨ge, 0, none⟩ rfl rfl (fun w hS jj u hu => World.news_of_block (hS.blkAt 0 rfl) jj u (by simpa using hu)) (by simp [Value.oneCell']) (by omega) (by omega) (fun w h => h.sub (by first | simp | ((try simp only [List.eraseIdx_cons_zero, List.eraseIdx_cons_succ]); (repeat (first | exact List.nil_sublist _ | exact List.Sublist.refl _ | with_reducible apply List.Sublist.cons₂ | apply List.Sublist.cons))))) (fun Ab2 cab2 => ?_); try simp only [Act.put, List.setIfInBounds_toArray, List.set_cons_zero, List.set_cons_succ])
                          (refine BraidZ.next1 (i := 12) (by kernel_rfl) (by kernel_rfl) rfl ?_; (try simp only [List.getElem_toArray, List.getElem_cons_succ, List.getElem_cons_zero]))
                          (show ZStep _ _ _ true _ _ _ _; refine ZStep.turn (by (first | rfl | exact wanted_true rfl rfl rfl (by assumption))) (fun w hS => ⟨w.setCell ⟨g14, 1, none⟩ (.slice As2 (j + 1 : Nat) cas2), .inl (by ((try clear hF); (first | have hF := And.intro hS.facts (HRD.out _ (hS.sub (by first | simp | ((repeat (first | exact List.nil_sublist _ | exact List.Sublist.refl _ | with_reducible apply List.Sublist.cons₂ | apply List.Sublist.cons)))))) | have hF := And.intro hS.facts (hR.at hS.ext) | have hF := hS.facts); simp only [HFacts, cellFacts, RFacts, cellOnly, and_true, true_and, Nat.zero_add, Nat.reduceAdd] at hF); go_simp), hS.put (i := 6) rfl⟩) ?_; try simp only [Act.put, List.setIfInBounds_toArray, List.set_cons_zero, List.set_cons_succ])
                          (refine BraidZ.next1 (i := 13) (by kernel_rfl) (by kernel_rfl) rfl ?_; (try simp only [List.getElem_toArray, List.getElem_cons_succ, List.getElem_cons_zero]))
                          (show ZStep _ _ _ true _ _ _ _; refine ZStep.valz (by (first | rfl | exact wanted_true rfl rfl rfl (by assumption))) (by rintro w hS; ((try clear hF); (first | have hF := And.intro hS.facts (HRD.out _ (hS.sub (by first | simp | ((repeat (first | exact List.nil_sublist _ | exact List.Sublist.refl _ | with_reducible apply List.Sublist.cons₂ | apply List.Sublist.cons)))))) | have hF := And.intro hS.facts (hR.at hS.ext) | have hF := hS.facts); simp only [HFacts, cellFacts, RFacts, cellOnly, and_true, true_and, Nat.zero_add, Nat.reduceAdd] at hF); go_simp; with_reducible rfl) ?_; try simp only [Act.put, List.setIfInBounds_toArray, List.set_cons_zero, List.set_cons_succ])
                          (refine BraidZ.next1 (i := 14) (by kernel_rfl) (by kernel_rfl) rfl ?_; (try simp only [List.getElem_toArray, List.getElem_cons_succ, List.getElem_cons_zero]))
                          (show ZStep _ _ _ true _ _ _ _; refine ZStep.turn (by (first | rfl | exact wanted_true rfl rfl rfl (by assumption))) (fun w hS => ⟨w.setCell ⟨g14, 2, none⟩ (.slice Ab2 (j + 1 : Nat) cab2), .inl (by ((try clear hF); (first | have hF := And.intro hS.facts (HRD.out _ (hS.sub (by first | simp | ((repeat (first | exact List.nil_sublist _ | exact List.Sublist.refl _ | with_reducible apply List.Sublist.cons₂ | apply List.Sublist.cons)))))) | have hF := And.intro hS.facts (hR.at hS.ext) | have hF := hS.facts); simp only [HFacts, cellFacts, RFacts, cellOnly, and_true, true_and, Nat.zero_add, Nat.reduceAdd] at hF); go_simp), hS.put (i := 6) rfl⟩) ?_; try simp only [Act.put, List.setIfInBounds_toArray, List.set_cons_zero, List.set_cons_succ])
                          (refine BraidZ.last (by kernel_rfl) ?_; (try clear hF); intro wk hS; ((try clear hF); (first | have hF := And.intro hS.facts (HRD.out _ (hS.sub (by first | simp | ((repeat (first | exact List.nil_sublist _ | exact List.Sublist.refl _ | with_reducible apply List.Sublist.cons₂ | apply List.Sublist.cons)))))) | have hF := And.intro hS.facts (hR.at hS.ext) | have hF := hS.facts); simp only [HFacts, cellFacts, RFacts, cellOnly, and_true, true_and, Nat.zero_add, Nat.reduceAdd] at hF))
                          gi_wp2
                          go_roundw
                          case rel =>
                            refine ⟨j + 1, As2, cas2, Ab2, cab2, ss ++ [t], bs0 ++ [y], by go_num, by omega, Lib.hid ?_, Lib.hid ?_, ?_⟩
                            · rw [HTK.out, statsM_snoc, HSS.out, HT.out, List.length_take, Nat.zero_add, Nat.min_eq_left (by rw [← Hn.out]; omega)]
                            · rw [HTK.out, bytesM_snoc, HBS.out, HY.out, List.length_take, Nat.zero_add, Nat.min_eq_left (by rw [← Hn.out]; omega)]
                            rw [cellsS_append, show strsV (bs0 ++ [y]) = strsV bs0 ++ [.string y] by simp [strsV]]
                            exact (((((((((((((((hS.drop 1).drop 2).drop 2).drop 2).front 10 rfl).front 10 rfl).front 10 rfl).front 10 rfl).front 10 rfl).front 10 rfl).front 10 rfl).front 10 rfl).front 10 rfl).front 9 rfl).front 10 rfl)
                          case measure => simp [intOf]; omega
                      · (refine ZStep.alloc (cs := [.string y]) (t := 9) (f := fun g => .slice (some ⟨g, 0, none⟩) 1 1) (by (first | rfl | exact wanted_true rfl rfl rfl (by assumption))) (fun w h => h.sub (by first | simp | ((try simp only [List.eraseIdx_cons_zero, List.eraseIdx_cons_succ]); (repeat (first | exact List.nil_sublist _ | exact List.Sublist.refl _ | with_reducible apply List.Sublist.cons₂ | apply List.Sublist.cons))))) (fun w hS => by ((try clear hF); (first | have hF := And.intro hS.facts (HRD.out _ (hS.sub (by first | simp | ((repeat (first | exact List.nil_sublist _ | exact List.Sublist.refl _ | with_reducible apply List.Sublist.cons₂ | apply List.Sublist.cons)))))) | have hF := And.intro hS.facts (hR.at hS.ext) | have hF := hS.facts); simp only [HFacts, cellFacts, RFacts, cellOnly, and_true, true_and, Nat.zero_add, Nat.reduceAdd] at hF); go_simp) (fun ge => ?_); try simp only [Act.put, List.setIfInBounds_toArray, List.set_cons_zero, List.set_cons_succ])
                        (refine BraidZ.next1 (i := 5) (by kernel_rfl) (by kernel_rfl) rfl ?_; (try simp only [List.getElem_toArray, List.getElem_cons_succ, List.getElem_cons_zero]))
                        (refine ZStep.append Tryz.elem_stats (by (first | rfl | exact wanted_true rfl rfl rfl (by assumption))) (.tmp 102) (.tmp 105) rfl 4 rfl (by (try simp only [List.eraseIdx_cons_zero, List.eraseIdx_cons_succ]); rfl) rfl ⟨gq, 0, none⟩ rfl rfl (fun w hS jj u hu => World.news_of_block (hS.blkAt 1 rfl) jj u (by simpa using hu)) (by simp [Value.oneCell']) (by omega) (by omega) (fun w h => h.sub (by first | simp | ((try simp only [List.eraseIdx_cons_zero, List.eraseIdx_cons_succ]); (repeat (first | exact List.nil_sublist _ | exact List.Sublist.refl _ | with_reducible apply List.Sublist.cons₂ | apply List.Sublist.cons))))) (fun As2 cas2 => ?_); try simp only [Act.put, List.setIfInBounds_toArray, List.set_cons_zero, List.set_cons_succ])
                        (refine BraidZ.next2 (i := 10) (j := 11) (by kernel_rfl) (by kernel_rfl) rfl rfl ?_ ?_ <;> (try simp only [List.getElem_toArray, List.getElem_cons_succ, List.getElem_cons_zero]))
                        · (refine ZStep.append Tryz.elem_texts (by (first | rfl | exact wanted_true rfl rfl rfl (by assumption))) (.tmp 108) (.tmp 110) rfl 5 rfl (by (try simp only [List.eraseIdx_cons_zero, List.eraseIdx_cons_succ]); rfl) rfl ⟨ge, 0, none⟩ rfl rfl (fun w hS jj u hu => World.news_of_block (hS.blkAt 1 rfl) jj u (by simpa using hu)) (by simp [Value.oneCell']) (by omega) (by omega) (fun w h => h.sub (by first | simp | ((try simp only [List.eraseIdx_cons_zero, List.eraseIdx_cons_succ]); (repeat (first | exact List.nil_sublist _ | exact List.Sublist.refl _ | with_reducible apply List.Sublist.cons₂ | apply List.Sublist.cons))))) (fun Ab2 cab2 => ?_); try simp only [Act.put, List.setIfInBounds_toArray, List.set_cons_zero, List.set_cons_succ])
                          (refine BraidZ.next1 (i := 11) (by kernel_rfl) (by kernel_rfl) rfl ?_; (try simp only [List.getElem_toArray, List.getElem_cons_succ, List.getElem_cons_zero]))
                          (refine ZStep.val (by (first | rfl | exact wanted_true rfl rfl rfl (by assumption))) (fun w h => h.sub (by first | simp | ((try simp only [List.eraseIdx_cons_zero, List.eraseIdx_cons_succ]); (repeat (first | exact List.nil_sublist _ | exact List.Sublist.refl _ | with_reducible apply List.Sublist.cons₂ | apply List.Sublist.cons))))) (by rintro w hS; ((try clear hF); (first | have hF := And.intro hS.facts (HRD.out _ (hS.sub (by first | simp | ((repeat (first | exact List.nil_sublist _ | exact List.Sublist.refl _ | with_reducible apply List.Sublist.cons₂ | apply List.Sublist.cons)))))) | have hF := And.intro hS.facts (hR.at hS.ext) | have hF := hS.facts); simp only [HFacts, cellFacts, RFacts, cellOnly, and_true, true_and, Nat.zero_add, Nat.reduceAdd] at hF); go_simp; with_reducible rfl) ?_; try simp only [Act.put, List.setIfInBounds_toArray, List.set_cons_zero, List.set_cons_succ])
                          (refine BraidZ.next1 (i := 12) (by kernel_rfl) (by kernel_rfl) rfl ?_; (try simp only [List.getElem_toArray, List.getElem_cons_succ, List.getElem_cons_zero]))
                          (show ZStep _ _ _ true _ _ _ _; refine ZStep.turn (by (first | rfl | exact wanted_true rfl rfl rfl (by assumption))) (fun w hS => ⟨w.setCell ⟨g14, 1, none⟩ (.slice As2 (j + 1 : Nat) cas2), .inl (by ((try clear hF); (first | have hF := And.intro hS.facts (HRD.out _ (hS.sub (by first | simp | ((repeat (first | exact List.nil_sublist _ | exact List.Sublist.refl _ | with_reducible apply List.Sublist.cons₂ | apply List.Sublist.cons)))))) | have hF := And.intro hS.facts (hR.at hS.ext) | have hF := hS.facts); simp only [HFacts, cellFacts, RFacts, cellOnly, and_true, true_and, Nat.zero_add, Nat.reduceAdd] at hF); go_simp), hS.put (i := 6) rfl⟩) ?_; try simp only [Act.put, List.setIfInBounds_toArray, List.set_cons_zero, List.set_cons_succ])
                          (refine BraidZ.next1 (i := 13) (by kernel_rfl) (by kernel_rfl) rfl ?_; (try simp only [List.getElem_toArray, List.getElem_cons_succ, List.getElem_cons_zero]))
                          (show ZStep _ _ _ true _ _ _ _; refine ZStep.valz (by (first | rfl | exact wanted_true rfl rfl rfl (by assumption))) (by rintro w hS; ((try clear hF); (first | have hF := And.intro hS.facts (HRD.out _ (hS.sub (by first | simp | ((repeat (first | exact List.nil_sublist _ | exact List.Sublist.refl _ | with_reducible apply List.Sublist.cons₂ | apply List.Sublist.cons)))))) | have hF := And.intro hS.facts (hR.at hS.ext) | have hF := hS.facts); simp only [HFacts, cellFacts, RFacts, cellOnly, and_true, true_and, Nat.zero_add, Nat.reduceAdd] at hF); go_simp; with_reducible rfl) ?_; try simp only [Act.put, List.setIfInBounds_toArray, List.set_cons_zero, List.set_cons_succ])
                          (refine BraidZ.next1 (i := 14) (by kernel_rfl) (by kernel_rfl) rfl ?_; (try simp only [List.getElem_toArray, List.getElem_cons_succ, List.getElem_cons_zero]))
                          (show ZStep _ _ _ true _ _ _ _; refine ZStep.turn (by (first | rfl | exact wanted_true rfl rfl rfl (by assumption))) (fun w hS => ⟨w.setCell ⟨g14, 2, none⟩ (.slice Ab2 (j + 1 : Nat) cab2), .inl (by ((try clear hF); (first | have hF := And.intro hS.facts (HRD.out _ (hS.sub (by first | simp | ((repeat (first | exact List.nil_sublist _ | exact List.Sublist.refl _ | with_reducible apply List.Sublist.cons₂ | apply List.Sublist.cons)))))) | have hF := And.intro hS.facts (hR.at hS.ext) | have hF := hS.facts); simp only [HFacts, cellFacts, RFacts, cellOnly, and_true, true_and, Nat.zero_add, Nat.reduceAdd] at hF); go_simp), hS.put (i := 6) rfl⟩) ?_; try simp only [Act.put, List.setIfInBounds_toArray, List.set_cons_zero, List.set_cons_succ])
                          (refine BraidZ.last (by kernel_rfl) ?_; (try clear hF); intro wk hS; ((try clear hF); (first | have hF := And.intro hS.facts (HRD.out _ (hS.sub (by first | simp | ((repeat (first | exact List.nil_sublist _ | exact List.Sublist.refl _ | with_reducible apply List.Sublist.cons₂ | apply List.Sublist.cons)))))) | have hF := And.intro hS.facts (hR.at hS.ext) | have hF := hS.facts); simp only [HFacts, cellFacts, RFacts, cellOnly, and_true, true_and, Nat.zero_add, Nat.reduceAdd] at hF))
                          gi_wp2
                          go_roundw
                          case rel =>
                            refine ⟨j + 1, As2, cas2, Ab2, cab2, ss ++ [t], bs0 ++ [y], by go_num, by omega, Lib.hid ?_, Lib.hid ?_, ?_⟩
                            · rw [HTK.out, statsM_snoc, HSS.out, HT.out, List.length_take, Nat.zero_add, Nat.min_eq_left (by rw [← Hn.out]; omega)]
                            · rw [HTK.out, bytesM_snoc, HBS.out, HY.out, List.length_take, Nat.zero_add, Nat.min_eq_left (by rw [← Hn.out]; omega)]
                            rw [cellsS_append, show strsV (bs0 ++ [y]) = strsV bs0 ++ [.string y] by simp [strsV]]
                            exact (((((((((((((((hS.drop 2).drop 2).drop 2).drop 2).front 10 rfl).front 10 rfl).front 10 rfl).front 10 rfl).front 10 rfl).front 10 rfl).front 10 rfl).front 10 rfl).front 10 rfl).front 9 rfl).front 10 rfl)
                          case measure => simp [intOf]; omega
                        · (refine ZStep.val (by (first | rfl | exact wanted_true rfl rfl rfl (by assumption))) (fun w h => h.sub (by first | simp | ((try simp only [List.eraseIdx_cons_zero, List.eraseIdx_cons_succ]); (repeat (first | exact List.nil_sublist _ | exact List.Sublist.refl _ | with_reducible apply List.Sublist.cons₂ | apply List.Sublist.cons))))) (by rintro w hS; ((try clear hF); (first | have hF := And.intro hS.facts (HRD.out _ (hS.sub (by first | simp | ((repeat (first | exact List.nil_sublist _ | exact List.Sublist.refl _ | with_reducible apply List.Sublist.cons₂ | apply List.Sublist.cons)))))) | have hF := And.intro hS.facts (hR.at hS.ext) | have hF := hS.facts); simp only [HFacts, cellFacts, RFacts, cellOnly, and_true, true_and, Nat.zero_add, Nat.reduceAdd] at hF); go_simp; with_reducible rfl) ?_; try simp only [Act.put, List.setIfInBounds_toArray, List.set_cons_zero, List.set_cons_succ])
                          (refine BraidZ.next1 (i := 10) (by kernel_rfl) (by kernel_rfl) rfl ?_; (try simp only [List.getElem_toArray, List.getElem_cons_succ, List.getElem_cons_zero]))
                          (refine ZStep.append Tryz.elem_texts (by (first | rfl | exact wanted_true rfl rfl rfl (by assumption))) (.tmp 108) (.tmp 110) rfl 5 rfl (by (try simp only [List.eraseIdx_cons_zero, List.eraseIdx_cons_succ]); rfl) rfl ⟨ge, 0, none⟩ rfl rfl (fun w hS jj u hu => World.news_of_block (hS.blkAt 1 rfl) jj u (by simpa using hu)) (by simp [Value.oneCell']) (by omega) (by omega) (fun w h => h.sub (by first | simp | ((try simp only [List.eraseIdx_cons_zero, List.eraseIdx_cons_succ]); (repeat (first | exact List.nil_sublist _ | exact List.Sublist.refl _ | with_reducible apply List.Sublist.cons₂ | apply List.Sublist.cons))))) (fun Ab2 cab2 => ?_); try simp only [Act.put, List.setIfInBounds_toArray, List.set_cons_zero, List.set_cons_succ])
                          (refine BraidZ.next1 (i := 12) (by kernel_rfl) (by kernel_rfl) rfl ?_; (try simp only [List.getElem_toArray, List.getElem_cons_succ, List.getElem_cons_zero]))
                          (show ZStep _ _ _ true _ _ _ _; refine ZStep.turn (by (first | rfl | exact wanted_true rfl rfl rfl (by assumption))) (fun w hS => ⟨w.setCell ⟨g14, 1, none⟩ (.slice As2 (j + 1 : Nat) cas2), .inl (by ((try clear hF); (first | have hF := And.intro hS.facts (HRD.out _ (hS.sub (by first | simp | ((repeat (first | exact List.nil_sublist _ | exact List.Sublist.refl _ | with_reducible apply List.Sublist.cons₂ | apply List.Sublist.cons)))))) | have hF := And.intro hS.facts (hR.at hS.ext) | have hF := hS.facts); simp only [HFacts, cellFacts, RFacts, cellOnly, and_true, true_and, Nat.zero_add, Nat.reduceAdd] at hF); go_simp), hS.put (i := 6) rfl⟩) ?_; try simp only [Act.put, List.setIfInBounds_toArray, List.set_cons_zero, List.set_cons_succ])
                          (refine BraidZ.next1 (i := 13) (by kernel_rfl) (by kernel_rfl) rfl ?_; (try simp only [List.getElem_toArray, List.getElem_cons_succ, List.getElem_cons_zero]))
                          (show ZStep _ _ _ true _ _ _ _; refine ZStep.valz (by (first | rfl | exact wanted_true rfl rfl rfl (by assumption))) (by rintro w hS; ((try clear hF); (first | have hF := And.intro hS.facts (HRD.out _ (hS.sub (by first | simp | ((repeat (first | exact List.nil_sublist _ | exact List.Sublist.refl _ | with_reducible apply List.Sublist.cons₂ | apply List.Sublist.cons)))))) | have hF := And.intro hS.facts (hR.at hS.ext) | have hF := hS.facts); simp only [HFacts, cellFacts, RFacts, cellOnly, and_true, true_and, Nat.zero_add, Nat.reduceAdd] at hF); go_simp; with_reducible rfl) ?_; try simp only [Act.put, List.setIfInBounds_toArray, List.set_cons_zero, List.set_cons_succ])
                          (refine BraidZ.next1 (i := 14) (by kernel_rfl) (by kernel_rfl) rfl ?_; (try simp only [List.getElem_toArray, List.getElem_cons_succ, List.getElem_cons_zero]))
                          (show ZStep _ _ _ true _ _ _ _; refine ZStep.turn (by (first | rfl | exact wanted_true rfl rfl rfl (by assumption))) (fun w hS => ⟨w.setCell ⟨g14, 2, none⟩ (.slice Ab2 (j + 1 : Nat) cab2), .inl (by ((try clear hF); (first | have hF := And.intro hS.facts (HRD.out _ (hS.sub (by first | simp | ((repeat (first | exact List.nil_sublist _ | exact List.Sublist.refl _ | with_reducible apply List.Sublist.cons₂ | apply List.Sublist.cons)))))) | have hF := And.intro hS.facts (hR.at hS.ext) | have hF := hS.facts); simp only [HFacts, cellFacts, RFacts, cellOnly, and_true, true_and, Nat.zero_add, Nat.reduceAdd] at hF); go_simp), hS.put (i := 6) rfl⟩) ?_; try simp only [Act.put, List.setIfInBounds_toArray, List.set_cons_zero, List.set_cons_succ])
                          (refine BraidZ.last (by kernel_rfl) ?_; (try clear hF); intro wk hS; ((try clear hF); (first | have hF := And.intro hS.facts (HRD.out _ (hS.sub (by first | simp | ((repeat (first | exact List.nil_sublist _ | exact List.Sublist.refl _ | with_reducible apply List.Sublist.cons₂ | apply List.Sublist.cons)))))) | have hF := And.intro hS.facts (hR.at hS.ext) | have hF := hS.facts); simp only [HFacts, cellFacts, RFacts, cellOnly, and_true, true_and, Nat.zero_add, Nat.reduceAdd] at hF))
                          gi_wp2
                          go_roundw
                          case rel =>
                            refine ⟨j + 1, As2, cas2, Ab2, cab2, ss ++ [t], bs0 ++ [y], by go_num, by omega, Lib.hid ?_, Lib.hid ?_, ?_⟩
                            · rw [HTK.out, statsM_snoc, HSS.out, HT.out, List.length_take, Nat.zero_add, Nat.min_eq_left (by rw [← Hn.out]; omega)]
                            · rw [HTK.out, bytesM_snoc, HBS.out, HY.out, List.length_take, Nat.zero_add, Nat.min_eq_left (by rw [← Hn.out]; omega)]
                            rw [cellsS_append, show strsV (bs0 ++ [y]) = strsV bs0 ++ [.string y] by simp [strsV]]
                            exact (((((((((((((((hS.drop 2).drop 2).drop 2).drop 2).front 10 rfl).front 10 rfl).front 10 rfl).front 10 rfl).front 10 rfl).front 10 rfl).front 10 rfl).front 10 rfl).front 10 rfl).front 9 rfl).front 10 rfl)
                          case measure => simp [intOf]; omega
                    · (refine ZStep.alloc (cs := [.string y]) (t := 9) (f := fun g => .slice (some ⟨g, 0, none⟩) 1 1) (by (first | rfl | exact wanted_true rfl rfl rfl (by assumption))) (fun w h => h.sub (by first | simp | ((try simp only [List.eraseIdx_cons_zero, List.eraseIdx_cons_succ]); (repeat (first | exact List.nil_sublist _ | exact List.Sublist.refl _ | with_reducible apply List.Sublist.cons₂ | apply List.Sublist.cons))))) (fun w hS => by ((try clear hF); (first | have hF := And.intro hS.facts (HRD.out _ (hS.sub (by first | simp | ((repeat (first | exact List.nil_sublist _ | exact List.Sublist.refl _ | with_reducible apply List.Sublist.cons₂ | apply List.Sublist.cons)))))) | have hF := And.intro hS.facts (hR.at hS.ext) | have hF := hS.facts); simp only [HFacts, cellFacts, RFacts, cellOnly, and_true, true_and, Nat.zero_add, Nat.reduceAdd] at hF); go_simp) (fun ge => ?_); try simp only [Act.put, List.setIfInBounds_toArray, List.set_cons_zero, List.set_cons_succ])
                      (refine BraidZ.next1 (i := 4) (by kernel_rfl) (by kernel_rfl) rfl ?_; (try simp only [List.getElem_toArray, List.getElem_cons_succ, List.getElem_cons_zero]))
                      (refine ZStep.alloc (cs := [.int .i64 t.count, .int .i64 t.nulls, .int .i64 t.mn.kind, .int .i64 t.mn.num, .string t.mn.text, .int .i64 t.mx.kind, .int .i64 t.mx.num, .string t.mx.text]) (t := 38) (f := fun g => .slice (some ⟨g, 0, none⟩) 1 1) (by (first | rfl | exact wanted_true rfl rfl rfl (by assumption))) (fun w h => h.sub (by first | simp | ((try simp only [List.eraseIdx_cons_zero, List.eraseIdx_cons_succ]); (repeat (first | exact List.nil_sublist _ | exact List.Sublist.refl _ | with_reducible apply List.Sublist.cons₂ | apply List.Sublist.cons))))) (fun w hS => by ((try clear hF); (first | have hF := And.intro hS.facts (HRD.out _ (hS.sub (by first | simp | ((repeat (first | exact List.nil_sublist _ | exact List.Sublist.refl _ | with_reducible apply List.Sublist.cons₂ | apply List.Sublist.cons)))))) | have hF := And.intro hS.facts (hR.at hS.ext) | have hF := hS.facts); simp only [HFacts, cellFacts, RFacts, cellOnly, and_true, true_and, Nat.zero_add, Nat.reduceAdd] at hF); go_simp) (fun gq => ?_); try simp only [Act.put, List.setIfInBounds_toArray, List.set_cons_zero, List.set_cons_succ])
                      (refine BraidZ.next1 (i := 5) (by kernel_rfl) (by kernel_rfl) rfl ?_; (try simp only [List.getElem_toArray, List.getElem_cons_succ, List.getElem_cons_zero]))
                      (refine ZStep.append Tryz.elem_stats (by (first | rfl | exact wanted_true rfl rfl rfl (by assumption))) (.tmp 102) (.tmp 105) rfl 4 rfl (by (try simp only [List.eraseIdx_cons_zero, List.eraseIdx_cons_succ]); rfl) rfl ⟨gq, 0, none⟩ rfl rfl (fun w hS jj u hu => World.news_of_block (hS.blkAt 0 rfl) jj u (by simpa using hu)) (by simp [Value.oneCell']) (by omega) (by omega) (fun w h => h.sub (by first | simp | ((try simp only [List.eraseIdx_cons_zero, List.eraseIdx_cons_succ]); (repeat (first | exact List.nil_sublist _ | exact List.Sublist.refl _ | with_reducible apply List.Sublist.cons₂ | apply List.Sublist.cons))))) (fun As2 cas2 => ?_); try simp only [Act.put, List.setIfInBounds_toArray, List.set_cons_zero, List.set_cons_succ])
                      (refine BraidZ.next2 (i := 10) (j := 11) (by kernel_rfl) (by kernel_rfl) rfl rfl ?_ ?_ <;> (try simp only [List.getElem_toArray, List.getElem_cons_succ, List.getElem_cons_zero]))
                      · (refine ZStep.append Tryz.elem_texts (by (first | rfl | exact wanted_true rfl rfl rfl (by assumption))) (.tmp 108) (.tmp 110) rfl 5 rfl (by (try simp only [List.eraseIdx_cons_zero, List.eraseIdx_cons_succ]); rfl) rfl ⟨ge, 0, none⟩ rfl rfl (fun w hS jj u hu => World.news_of_block (hS.blkAt 2 rfl) jj u (by simpa using hu)) (by simp [Value.oneCell']) (by omega) (by omega) (fun w h => h.sub (by first | simp | ((try simp only [List.eraseIdx_cons_zero, List.eraseIdx_cons_succ]); (repeat (first | exact List.nil_sublist _ | exact List.Sublist.refl _ | with_reducible apply List.Sublist.cons₂ | apply List.Sublist.cons))))) (fun Ab2 cab2 => ?_); try simp only [Act.put, List.setIfInBounds_toArray, List.set_cons_zero, List.set_cons_succ])
                        (refine BraidZ.next1 (i := 11) (by kernel_rfl) (by kernel_rfl) rfl ?_; (try simp only [List.getElem_toArray, List.getElem_cons_succ, List.getElem_cons_zero]))
                        (refine ZStep.val (by (first | rfl | exact wanted_true rfl rfl rfl (by assumption))) (fun w h => h.sub (by first | simp | ((try simp only [List.eraseIdx_cons_zero, List.eraseIdx_cons_succ]); (repeat (first | exact List.nil_sublist _ | exact List.Sublist.refl _ | with_reducible apply List.Sublist.cons₂ | apply List.Sublist.cons))))) (by rintro w hS; ((try clear hF); (first | have hF := And.intro hS.facts (HRD.out _ (hS.sub (by first | simp | ((repeat (first | exact List.nil_sublist _ | exact List.Sublist.refl _ | with_reducible apply List.Sublist.cons₂ | apply List.Sublist.cons)))))) | have hF := And.intro hS.facts (hR.at hS.ext) | have hF := hS.facts); simp only [HFacts, cellFacts, RFacts, cellOnly, and_true, true_and, Nat.zero_add, Nat.reduceAdd] at hF); go_simp; with_reducible rfl) ?_; try simp only [Act.put, List.setIfInBounds_toArray, List.set_cons_zero, List.set_cons_succ])
                        (refine BraidZ.next1 (i := 12) (by kernel_rfl) (by kernel_rfl) rfl ?_; (try simp only [List.getElem_toArray, List.getElem_cons_succ, List.getElem_cons_zero]))
                        (show ZStep _ _ _ true _ _ _ _; refine ZStep.turn (by (first | rfl | exact wanted_true rfl rfl rfl (by assumption))) (fun w hS => ⟨w.setCell ⟨g14, 1, none⟩ (.slice As2 (j + 1 : Nat) cas2), .inl (by ((try clear hF); (first | have hF := And.intro hS.facts (HRD.out _ (hS.sub (by first | simp | ((repeat (first | exact List.nil_sublist _ | exact List.Sublist.refl _ | with_reducible apply List.Sublist.cons₂ | apply List.Sublist.cons)))))) | have hF := And.intro hS.facts (hR.at hS.ext) | have hF := hS.facts); simp only [HFacts, cellFacts, RFacts, cellOnly, and_true, true_and, Nat.zero_add, Nat.reduceAdd] at hF); go_simp), hS.put (i := 6) rfl⟩) ?_; try simp only [Act.put, List.setIfInBounds_toArray, List.set_cons_zero, List.set_cons_succ])
                        (refine BraidZ.next1 (i := 13) (by kernel_rfl) (by kernel_rfl) rfl ?_; (try simp only [List.getElem_toArray, List.getElem_cons_succ, List.getElem_cons_zero]))
                        (show ZStep _ _ _ true _ _ _ _; refine ZStep.valz (by (first | rfl | exact wanted_true rfl rfl rfl (by assumption))) (by rintro w hS; ((try clear hF); (first | have hF := And.intro hS.facts (HRD.out _ (hS.sub (by first | simp | ((repeat (first | exact List.nil_sublist _ | exact List.Sublist.refl _ | with_reducible apply List.Sublist.cons₂ | apply List.Sublist.cons)))))) | have hF := And.intro hS.facts (hR.at hS.ext) | have hF := hS.facts); simp only [HFacts, cellFacts, RFacts, cellOnly, and_true, true_and, Nat.zero_add, Nat.reduceAdd] at hF); go_simp; with_reducible rfl) ?_; try simp only [Act.put, List.setIfInBounds_toArray, List.set_cons_zero, List.set_cons_succ])
                        (refine BraidZ.next1 (i := 14) (by kernel_rfl) (by kernel_rfl) rfl ?_; (try simp only [List.getElem_toArray, List.getElem_cons_succ, List.getElem_cons_zero]))
                        (show ZStep _ _ _ true _ _ _ _; refine ZStep.turn (by (first | rfl | exact wanted_true rfl rfl rfl (by assumption))) (fun w hS => ⟨w.setCell ⟨g14, 2, none⟩ (.slice Ab2 (j + 1 : Nat) cab2), .inl (by ((try clear hF); (first | have hF := And.intro hS.facts (HRD.out _ (hS.sub (by first | simp | ((repeat (first | exact List.nil_sublist _ | exact List.Sublist.refl _ | with_reducible apply List.Sublist.cons₂ | apply List.Sublist.cons)))))) | have hF := And.intro hS.facts (hR.at hS.ext) | have hF := hS.facts); simp only [HFacts, cellFacts, RFacts, cellOnly, and_true, true_and, Nat.zero_add, Nat.reduceAdd] at hF); go_simp), hS.put (i := 6) rfl⟩) ?_; try simp only [Act.put, List.setIfInBounds_toArray, List.set_cons_zero, List.set_cons_succ])
                        (refine BraidZ.last (by kernel_rfl) ?_; (try clear hF); intro wk hS; ((try clear hF); (first | have hF := And.intro hS.facts (HRD.out _ (hS.sub (by first | simp | ((repeat (first | exact List.nil_sublist _ | exact List.Sublist.refl _ | with_reducible apply List.Sublist.cons₂ | apply List.Sublist.cons)))))) | have hF := And.intro hS.facts (hR.at hS.ext) | have hF := hS.facts); simp only [HFacts, cellFacts, RFacts, cellOnly, and_true, true_and, Nat.zero_add, Nat.reduceAdd] at hF))
                        gi_wp2
                        go_roundw
                        case rel =>
                          refine ⟨j + 1, As2, cas2, Ab2, cab2, ss ++ [t], bs0 ++ [y], by go_num, by omega, Lib.hid ?_, Lib.hid ?_, ?_⟩
                          · rw [HTK.out, statsM_snoc, HSS.out, HT.out, List.length_take, Nat.zero_add, Nat.min_eq_left (by rw [← Hn.out]; omega)]
                          · rw [HTK.out, bytesM_snoc, HBS.out, HY.out, List.length_take, Nat.zero_add, Nat.min_eq_left (by rw [← Hn.out]; omega)]
                          rw [cellsS_append, show strsV (bs0 ++ [y]) = strsV bs0 ++ [.string y] by simp [strsV]]
                          exact (((((((((((((((hS.drop 2).drop 2).drop 2).drop 2).front 10 rfl).front 10 rfl).front 10 rfl).front 10 rfl).front 10 rfl).front 10 rfl).front 10 rfl).front 10 rfl).front 10 rfl).front 9 rfl).front 10 rfl)
                        case measure => simp [intOf]; omega
                      · (refine ZStep.val (by (first | rfl | exact wanted_true rfl rfl rfl (by assumption))) (fun w h => h.sub (by first | simp | ((try simp only [List.eraseIdx_cons_zero, List.eraseIdx_cons_succ]); (repeat (first | exact List.nil_sublist _ | exact List.Sublist.refl _ | with_reducible apply List.Sublist.cons₂ | apply List.Sublist.cons))))) (by rintro w hS; ((try clear hF); (first | have hF := And.intro hS.facts (HRD.out _ (hS.sub (by first | simp | ((repeat (first | exact List.nil_sublist _ | exact List.Sublist.refl _ | with_reducible apply List.Sublist.cons₂ | apply List.Sublist.cons)))))) | have hF := And.intro hS.facts (hR.at hS.ext) | have hF := hS.facts); simp only [HFacts, cellFacts, RFacts, cellOnly, and_true, true_and, Nat.zero_add, Nat.reduceAdd] at hF); go_simp; with_reducible rfl) ?_; try simp only [Act.put, List.setIfInBounds_toArray, List.set_cons_zero, List.set_cons_succ])
                        (refine BraidZ.next1 (i := 10) (by kernel_rfl) (by kernel_rfl) rfl ?_; (try simp only [List.getElem_toArray, List.getElem_cons_succ, List.getElem_cons_zero]))
                        (refine ZStep.append Tryz.elem_texts (by (first | rfl | exact wanted_true rfl rfl rfl (by assumption))) (.tmp 108) (.tmp 110) rfl 5 rfl (by (try simp only [List.eraseIdx_cons_zero, List.eraseIdx_cons_succ]); rfl) rfl ⟨ge, 0, none⟩ rfl rfl (fun w hS jj u hu => World.news_of_block (hS.blkAt 2 rfl) jj u (by simpa using hu)) (by simp [Value.oneCell']) (by omega) (by omega) (fun w h => h.sub (by first | simp | ((try simp only [List.eraseIdx_cons_zero, List.eraseIdx_cons_succ]); (repeat (first | exact List.nil_sublist _ | exact List.Sublist.refl _ | with_reducible apply List.Sublist.cons₂ | apply List.Sublist.cons))))) (fun Ab2 cab2 => ?_); try simp only [Act.put, List.setIfInBounds_toArray, List.set_cons_zero, List.set_cons_succ])
                        (refine BraidZ.next1 (i := 12) (by kernel_rfl) (by kernel_rfl) rfl ?_; (try simp only [List.getElem_toArray, List.getElem_cons_succ, List.getElem_cons_zero]))
                        (show ZStep _ _ _ true _ _ _ _; refine ZStep.turn (by (first | rfl | exact wanted_true rfl rfl rfl (by assumption))) (fun w hS => ⟨w.setCell ⟨g14, 1, none⟩ (.slice As2 (j + 1 : Nat) cas2), .inl (by ((try clear hF); (first | have hF := And.intro hS.facts (HRD.out _ (hS.sub (by first | simp | ((repeat (first | exact List.nil_sublist _ | exact List.Sublist.refl _ | with_reducible apply List.Sublist.cons₂ | apply List.Sublist.cons)))))) | have hF := And.intro hS.facts (hR.at hS.ext) | have hF := hS.facts); simp only [HFacts, cellFacts, RFacts, cellOnly, and_true, true_and, Nat.zero_add, Nat.reduceAdd] at hF); go_simp), hS.put (i := 6) rfl⟩) ?_; try simp only [Act.put, List.setIfInBounds_toArray, List.set_cons_zero, List.set_cons_succ])
                        (refine BraidZ.next1 (i := 13) (by kernel_rfl) (by kernel_rfl) rfl ?_; (try simp only [List.getElem_toArray, List.getElem_cons_succ, List.getElem_cons_zero]))
                        (show ZStep _ _ _ true _ _ _ _; refine ZStep.valz (by (first | rfl | exact wanted_true rfl rfl rfl (by assumption))) (by rintro w hS; ((try clear hF); (first | have hF := And.intro hS.facts (HRD.out _ (hS.sub (by first | simp | ((repeat (first | exact List.nil_sublist _ | exact List.Sublist.refl _ | with_reducible apply List.Sublist.cons₂ | apply List.Sublist.cons)))))) | have hF := And.intro hS.facts (hR.at hS.ext) | have hF := hS.facts); simp only [HFacts, cellFacts, RFacts, cellOnly, and_true, true_and, Nat.zero_add, Nat.reduceAdd] at hF); go_simp; with_reducible rfl) ?_; try simp only [Act.put, List.setIfInBounds_toArray, List.set_cons_zero, List.set_cons_succ])
                        (refine BraidZ.next1 (i := 14) (by kernel_rfl) (by kernel_rfl) rfl ?_; (try simp only [List.getElem_toArray, List.getElem_cons_succ, List.getElem_cons_zero]))
                        (show ZStep _ _ _ true _ _ _ _; refine ZStep.turn (by (first | rfl | exact wanted_true rfl rfl rfl (by assumption))) (fun w hS => ⟨w.setCell ⟨g14, 2, none⟩ (.slice Ab2 (j + 1 : Nat) cab2), .inl (by ((try clear hF); (first | have hF := And.intro hS.facts (HRD.out _ (hS.sub (by first | simp | ((repeat (first | exact List.nil_sublist _ | exact List.Sublist.refl _ | with_reducible apply List.Sublist.cons₂ | apply List.Sublist.cons)))))) | have hF := And.intro hS.facts (hR.at hS.ext) | have hF := hS.facts); simp only [HFacts, cellFacts, RFacts, cellOnly, and_true, true_and, Nat.zero_add, Nat.reduceAdd] at hF); go_simp), hS.put (i := 6) rfl⟩) ?_; try simp only [Act.put, List.setIfInBounds_toArray, List.set_cons_zero, List.set_cons_succ])
                        (refine BraidZ.last (by kernel_rfl) ?_; (try clear hF); intro wk hS; ((try clear hF); (first | have hF := And.intro hS.facts (HRD.out _ (hS.sub (by first | simp | ((repeat (first | exact List.nil_sublist _ | exact List.Sublist.refl _ | with_reducible apply List.Sublist.cons₂ | apply List.Sublist.cons)))))) | have hF := And.intro hS.facts (hR.at hS.ext) | have hF := hS.facts); simp only [HFacts, cellFacts, RFacts, cellOnly, and_true, true_and, Nat.zero_add, Nat.reduceAdd] at hF))
                        gi_wp2
                        go_roundw
                        case rel =>
                          refine ⟨j + 1, As2, cas2, Ab2, cab2, ss ++ [t], bs0 ++ [y], by go_num, by omega, Lib.hid ?_, Lib.hid ?_, ?_⟩
                          · rw [HTK.out, statsM_snoc, HSS.out, HT.out, List.length_take, Nat.zero_add, Nat.min_eq_left (by rw [← Hn.out]; omega)]
                          · rw [HTK.out, bytesM_snoc, HBS.out, HY.out, List.length_take, Nat.zero_add, Nat.min_eq_left (by rw [← Hn.out]; omega)]
                          rw [cellsS_append, show strsV (bs0 ++ [y]) = strsV bs0 ++ [.string y] by simp [strsV]]
                          exact (((((((((((((((hS.drop 2).drop 2).drop 2).drop 2).front 10 rfl).front 10 rfl).front 10 rfl).front 10 rfl).front 10 rfl).front 10 rfl).front 10 rfl).front 10 rfl).front 10 rfl).front 9 rfl).front 10 rfl)
                        case measure => simp [intOf]; omega
                  · obtain rfl : j = k := by omega
                    ((try clear hF); (first | have hF := And.intro hS.facts (HRD.out _ (hS.sub (by first | simp | ((repeat (first | exact List.nil_sublist _ | exact List.Sublist.refl _ | with_reducible apply List.Sublist.cons₂ | apply List.Sublist.cons)))))) | have hF := And.intro hS.facts (hR.at hS.ext) | have hF := hS.facts); simp only [HFacts, cellFacts, RFacts, cellOnly, and_true, true_and, Nat.zero_add, Nat.reduceAdd] at hF)
                    gi_wp2_with (first | ((with_reducible first | refine niLa ?_ | refine niLs ?_ | refine niLd ?_ | refine niCa ?_ | refine niCs ?_ | refine niCd ?_ | refine niPa ?_ | refine niPs ?_ | refine niPd ?_ | refine niKa ?_ | refine niKs ?_ | refine niKd ?_); ((try clear hF); clear hS; intro wk hS; (try simp only [List.set_cons_zero, List.set_cons_succ, heap_size, heap_set_size] at hS); ((try clear hF); (first | have hF := And.intro hS.facts (HRD.out _ (hS.sub (by first | simp | ((repeat (first | exact List.nil_sublist _ | exact List.Sublist.refl _ | with_reducible apply List.Sublist.cons₂ | apply List.Sublist.cons)))))) | have hF := And.intro hS.facts (hR.at hS.ext) | have hF := hS.facts); simp only [HFacts, cellFacts, RFacts, cellOnly, and_true, true_and, Nat.zero_add, Nat.reduceAdd] at hF))) | (gi_at_builtin; refine wpListIn_push_hp hO Tryz.elem_groups rfl (.tmp 116) (.tmp 118) rfl (hS.second 3 rfl) rfl rfl rfl (by simp [Value.oneCell']) (by omega) (by omega) ?_; clear hS; intro Ak capk wk hS; (try simp only [List.eraseIdx_cons_zero, List.eraseIdx_cons_succ, List.set_cons_zero, List.set_cons_succ] at hS); ((try clear hF); (first | have hF := And.intro hS.facts (HRD.out _ (hS.sub (by first | simp | ((repeat (first | exact List.nil_sublist _ | exact List.Sublist.refl _ | with_reducible apply List.Sublist.cons₂ | apply List.Sublist.cons)))))) | have hF := And.intro hS.facts (hR.at hS.ext) | have hF := hS.facts); simp only [HFacts, cellFacts, RFacts, cellOnly, and_true, true_and, Nat.zero_add, Nat.reduceAdd] at hF)))
                    have hS3 := (hS.front 4 rfl).put (i := 0) (j := 1) (u := .slice Ak (pn + 1 : Nat) capk) rfl
                    simp only [List.eraseIdx_cons_zero, List.eraseIdx_cons_succ, List.set_cons_zero, List.set_cons_succ] at hS3
                    clear hS hF
                    have hF := hS3.facts
                    simp only [HFacts, cellFacts, and_true, true_and, Nat.zero_add, Nat.reduceAdd] at hF
                    have hsz : W.heap.size ≤ (wk.setCell ⟨gf, 1, none⟩ (.slice Ak (pn + 1 : Nat) capk)).heap.size := by
                      have h := (Array.getElem?_eq_some_iff.1 (hS3.blkAt 4 rfl)).1
                      have h2 := HG14.out
                      omega
                    refine ⟨HKO _ _ hS3 hsz (fun y hy => by rw [HK2.out]; simp [hy]), ⟨fun v hv => ?_, fun v hv => ?_⟩, Ak, capk, xs ++ [.int .i64 pl, .slice As j cas, .slice Ab j cab], .row 38 8 As j cas (cellsS ss) :: .row 9 1 Ab j cab (strsV bs0) :: K, Lib.hid ?_, Lib.hid ?_, ?_⟩
                    · rw [HWBS.out] at hv
                      cases hv
                      simp [hF]
                    · rw [HWBN.out] at hv
                      cases hv
                      simp [hF]
                    · rw [List.map_append]
                      have h := (HGB.out.more (M := .row 38 8 As j cas (cellsS ss) :: .row 9 1 Ab j cab (strsV bs0) :: K) fun y hy => by simp [hy]).push (grpM cs (partM rs x)) As j cas Ab j cab ((statsM_len _ _ _).trans Hn.out.symm) ((bytesM_len _ _ _).trans Hn.out.symm) fun B W hK => by
                        have e1 := HSS.out
                        have e2 := HBS.out
                        rw [Hn.out, List.take_length] at e1 e2
                        rw [show (grpM cs (partM rs x)).stats = ss from e1, show (grpM cs (partM rs x)).bytes = bs0 from e2]
                        exact ⟨(hp_of_at (hK (.row 38 8 As j cas (cellsS ss)) (by simp))).rk 0 rfl, (hp_of_at (hK (.row 9 1 Ab j cab (strsV bs0)) (by simp))).rs 0 rfl⟩
                      rw [show (grpM cs (partM rs x)).rows = (pl : Int) by show ((partM rs x).length : Int) = pl; rw [partM_len, ← Hm.out, ← HPL.out]] at h
                      exact h
                    · intro y hy
                      simp only [List.mem_cons] at hy
                      rcases hy with rfl | rfl | hy
                      all_goals first | trivial | exact HKC.out y hy
                    · rw [List.length_append, List.length_singleton, ← HPN.out]
                      have h := (((((((((((hS3.drop 4).front 3 rfl).front 3 rfl).front 7 rfl).front 7 rfl).front 7 rfl).front 7 rfl).front 6 rfl).front 9 rfl).front 9 rfl).front 9 rfl)
                      simp only [List.eraseIdx_cons_zero, List.eraseIdx_cons_succ] at h
                      rw [HK2.out] at h
                      exact h.sub (by simp)
end Go.Proofs.YtlaldfkeaalnhaaGreatDoor
