/- the reader of encode: small. -/
import Derived.Test.YtieongfdleobpaaRd2
namespace Go.Proofs.Ytieongfdleobpaa
set_option linter.unusedSimpArgs false
set_option linter.unusedVariables false
open Go.RowKit
open Go.Lib (uvarint zigzag)
set_option maxRecDepth 100000 in
set_option maxHeartbeats 1000000 in
theorem rsmall_any {B : Nat} {w0 w : World} {L : List Item} (g : Nat) (s : ByteArray) (b : Bool) (most : Nat) (hl : s.size ≤ 100000) (hm : most ≤ 1000000) (hS : Hp B w0 w (.blk g [.string s, .bool b] 64 :: L)) :
    Calls Try.prog 30 #[.pointer (some ⟨g, 0, none⟩), .int .i64 most] w (RRes B w0 L g (.int .i64 (rSmall most (s.data.toList, b)).1) (rSmall most (s.data.toList, b)).2) := by
  have HN := Lib.hid (rnumber_any g s b hl hS)
  have hlt := rNumber_lt (s.data.toList, b)
  obtain ⟨u, hu⟩ : ∃ u, (rNumber (s.data.toList, b)).1 = u := ⟨_, rfl⟩
  obtain ⟨st, hst⟩ : ∃ st, (rNumber (s.data.toList, b)).2 = st := ⟨_, rfl⟩
  rw [hst] at HN
  rw [hu] at HN hlt
  clear hS
  have w1 : IntKind.u64.wrap (most : Int) = most := by rw [IntKind.wrap_u64]; omega
  by_cases h2 : most < u
  · have e : rSmall most (s.data.toList, b) = (0, (st.1, true)) := by unfold rSmall; rw [hu, if_pos h2, hst]
    rw [e]
    clear hu hst e
    show Calls _ _ _ _ (RRes B w0 L g (.int .i64 0) (st.1, true))
    go_enter Try.func30, Try.ntmps30
    go_wp2_with (go_at_call 43; (with_reducible refine Calls.mono HN.out ?_); rintro e wk ⟨s', rfl, hs', hS⟩; have hF := hS.facts; simp only [HFacts, cellFacts, RFacts, cellOnly, and_true, true_and, Nat.zero_add, Nat.reduceAdd] at hF)
    ((first | with_reducible refine abs_hlist_alloc (by (repeat (first | with_reducible exact hS | with_reducible apply Hp.drew | with_reducible apply Hp.alloc | with_reducible apply Hp.put | with_reducible apply atS | with_reducible exact at0 | with_reducible exact at1 | with_reducible exact at2 | with_reducible exact at3 | with_reducible exact at4 | with_reducible exact at5))) ?_ | with_reducible refine abs_hlist_set (by (repeat (first | with_reducible exact hS | with_reducible apply Hp.drew | with_reducible apply Hp.alloc | with_reducible apply Hp.put | with_reducible apply atS | with_reducible exact at0 | with_reducible exact at1 | with_reducible exact at2 | with_reducible exact at3 | with_reducible exact at4 | with_reducible exact at5))) ?_ | with_reducible refine abs_hlist_drew (by (repeat (first | with_reducible exact hS | with_reducible apply Hp.drew | with_reducible apply Hp.alloc | with_reducible apply Hp.put | with_reducible apply atS | with_reducible exact at0 | with_reducible exact at1 | with_reducible exact at2 | with_reducible exact at3 | with_reducible exact at4 | with_reducible exact at5))) ?_ | with_reducible refine abs_hcode_alloc (by (repeat (first | with_reducible exact hS | with_reducible apply Hp.drew | with_reducible apply Hp.alloc | with_reducible apply Hp.put | with_reducible apply atS | with_reducible exact at0 | with_reducible exact at1 | with_reducible exact at2 | with_reducible exact at3 | with_reducible exact at4 | with_reducible exact at5))) ?_ | with_reducible refine abs_hcode_set (by (repeat (first | with_reducible exact hS | with_reducible apply Hp.drew | with_reducible apply Hp.alloc | with_reducible apply Hp.put | with_reducible apply atS | with_reducible exact at0 | with_reducible exact at1 | with_reducible exact at2 | with_reducible exact at3 | with_reducible exact at4 | with_reducible exact at5))) ?_ | with_reducible refine abs_hcode_drew (by (repeat (first | with_reducible exact hS | with_reducible apply Hp.drew | with_reducible apply Hp.alloc | with_reducible apply Hp.put | with_reducible apply atS | with_reducible exact at0 | with_reducible exact at1 | with_reducible exact at2 | with_reducible exact at3 | with_reducible exact at4 | with_reducible exact at5))) ?_ | with_reducible refine abs_hpost_alloc (by (repeat (first | with_reducible exact hS | with_reducible apply Hp.drew | with_reducible apply Hp.alloc | with_reducible apply Hp.put | with_reducible apply atS | with_reducible exact at0 | with_reducible exact at1 | with_reducible exact at2 | with_reducible exact at3 | with_reducible exact at4 | with_reducible exact at5))) ?_ | with_reducible refine abs_hpost_set (by (repeat (first | with_reducible exact hS | with_reducible apply Hp.drew | with_reducible apply Hp.alloc | with_reducible apply Hp.put | with_reducible apply atS | with_reducible exact at0 | with_reducible exact at1 | with_reducible exact at2 | with_reducible exact at3 | with_reducible exact at4 | with_reducible exact at5))) ?_ | with_reducible refine abs_hpost_drew (by (repeat (first | with_reducible exact hS | with_reducible apply Hp.drew | with_reducible apply Hp.alloc | with_reducible apply Hp.put | with_reducible apply atS | with_reducible exact at0 | with_reducible exact at1 | with_reducible exact at2 | with_reducible exact at3 | with_reducible exact at4 | with_reducible exact at5))) ?_ | with_reducible refine abs_hcalls_alloc (by (repeat (first | with_reducible exact hS | with_reducible apply Hp.drew | with_reducible apply Hp.alloc | with_reducible apply Hp.put | with_reducible apply atS | with_reducible exact at0 | with_reducible exact at1 | with_reducible exact at2 | with_reducible exact at3 | with_reducible exact at4 | with_reducible exact at5))) ?_ | with_reducible refine abs_hcalls_set (by (repeat (first | with_reducible exact hS | with_reducible apply Hp.drew | with_reducible apply Hp.alloc | with_reducible apply Hp.put | with_reducible apply atS | with_reducible exact at0 | with_reducible exact at1 | with_reducible exact at2 | with_reducible exact at3 | with_reducible exact at4 | with_reducible exact at5))) ?_ | with_reducible refine abs_hcalls_drew (by (repeat (first | with_reducible exact hS | with_reducible apply Hp.drew | with_reducible apply Hp.alloc | with_reducible apply Hp.put | with_reducible apply atS | with_reducible exact at0 | with_reducible exact at1 | with_reducible exact at2 | with_reducible exact at3 | with_reducible exact at4 | with_reducible exact at5))) ?_); ((try clear hF); clear hS; intro wk hS; (try simp only [List.set_cons_zero, List.set_cons_succ, heap_size, heap_set_size] at hS); ((try clear hF); (first | have hF := And.intro hS.facts (hR.at hS.ext) | have hF := hS.facts); simp only [HFacts, cellFacts, RFacts, cellOnly, and_true, true_and, Nat.zero_add, Nat.reduceAdd] at hF)))
    go_ret
    exact ⟨s', rfl, hs', hS⟩
  · have e : rSmall most (s.data.toList, b) = (u, st) := by unfold rSmall; rw [hu, if_neg h2, ← hst, ← hu]
    rw [e]
    clear hu hst e
    show Calls _ _ _ _ (RRes B w0 L g (.int .i64 (u : Int)) st)
    have w2 : IntKind.i64.wrap (u : Int) = u := by rw [IntKind.wrap_i64]; omega
    go_enter Try.func30, Try.ntmps30
    go_wp2_with (go_at_call 43; (with_reducible refine Calls.mono HN.out ?_); rintro e wk ⟨s', rfl, hs', hS⟩; have hF := hS.facts; simp only [HFacts, cellFacts, RFacts, cellOnly, and_true, true_and, Nat.zero_add, Nat.reduceAdd] at hF)
    go_ret
    exact ⟨s', rfl, hs', hS⟩
end Go.Proofs.Ytieongfdleobpaa
