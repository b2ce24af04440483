/- api.Tell; shaped: a closed fact. -/
import Derived.Test.YthikjhdobnllhaaDoorAs
namespace Go.Proofs.YthikjhdobnllhaaDoor
set_option linter.unusedSimpArgs false
set_option linter.unusedVariables false
open Go.RowKit
/-- the type of errors, in the library's variable -/
def ErrAt (w : World) : Prop := w.cell? ⟨1, 0, none⟩ = some (.iface 83 (.agg #[.pointer (some ⟨5, 34, none⟩)]))
theorem ErrAt.ext {w w' : World} (h : ErrAt w) (hx : Ext w w') : ErrAt w' := hx.keeps h
theorem as_hp {B : Nat} {w0 w : World} {L : List Item} (e : Int) (g : Nat) (he : ErrAt w) (hS : Hp B w0 w (.blk g [.int .i64 0] 45 :: L)) :
    Calls Tryd.prog 21 #[.iface 45 (.int .i64 e), .iface 56 (.pointer (some ⟨g, 0, none⟩))] w fun ev w' => ev = .returned (.bool true) ∧ Hp B w0 w' (.blk g [.int .i64 e] 45 :: L) := by
  have hF := hS.facts
  simp only [HFacts, cellFacts, RFacts, cellOnly, and_true, true_and, Nat.zero_add, Nat.reduceAdd] at hF
  refine (as_hit e ⟨g, 0, none⟩ _ w he hF.1.1 hF.1.2).mono fun ev w' ⟨h1, h2⟩ => ⟨h1, ?_⟩
  rw [h2]
  exact ((((hS.old _).old _).old _).old _).put0 0 (.int .i64 e)
set_option maxRecDepth 100000 in
set_option maxHeartbeats 1000000 in
theorem tell_any (e : Int) (w : World) (he : ErrAt w) :
    Calls Tryd.prog 12 #[.iface 45 (.int .i64 e)] w fun ev w' => ev = .returned (.int .i64 e) ∧ Ext w w' := by
  have hS := Hp.init w
  have hR := Reads.nil w
  have HA := Lib.hid (fun (W : World) hx (L : List Item) g hS => as_hp (w0 := w) (w := W) (B := w.heap.size) (L := L) e g (he.ext (w' := W) hx) hS)
  go_enter Tryd.func12, Tryd.ntmps12
  go_wp2_with (first | ((first | with_reducible refine abs_hlist_alloc (by (repeat (first | with_reducible exact hS | with_reducible apply Hp.drew | with_reducible apply Hp.alloc | with_reducible apply Hp.put | with_reducible apply atS | with_reducible exact at0 | with_reducible exact at1 | with_reducible exact at2 | with_reducible exact at3 | with_reducible exact at4 | with_reducible exact at5))) ?_ | with_reducible refine abs_hlist_set (by (repeat (first | with_reducible exact hS | with_reducible apply Hp.drew | with_reducible apply Hp.alloc | with_reducible apply Hp.put | with_reducible apply atS | with_reducible exact at0 | with_reducible exact at1 | with_reducible exact at2 | with_reducible exact at3 | with_reducible exact at4 | with_reducible exact at5))) ?_ | with_reducible refine abs_hlist_drew (by (repeat (first | with_reducible exact hS | with_reducible apply Hp.drew | with_reducible apply Hp.alloc | with_reducible apply Hp.put | with_reducible apply atS | with_reducible exact at0 | with_reducible exact at1 | with_reducible exact at2 | with_reducible exact at3 | with_reducible exact at4 | with_reducible exact at5))) ?_ | with_reducible refine abs_hcode_alloc (by (repeat (first | with_reducible exact hS | with_reducible apply Hp.drew | with_reducible apply Hp.alloc | with_reducible apply Hp.put | with_reducible apply atS | with_reducible exact at0 | with_reducible exact at1 | with_reducible exact at2 | with_reducible exact at3 | with_reducible exact at4 | with_reducible exact at5))) ?_ | with_reducible refine abs_hcode_set (by (repeat (first | with_reducible exact hS | with_reducible apply Hp.drew | with_reducible apply Hp.alloc | with_reducible apply Hp.put | with_reducible apply atS | with_reducible exact at0 | with_reducible exact at1 | with_reducible exact at2 | with_reducible exact at3 | with_reducible exact at4 | with_reducible exact at5))) ?_ | with_reducible refine abs_hcode_drew (by (repeat (first | with_reducible exact hS | with_reducible apply Hp.drew | with_reducible apply Hp.alloc | with_reducible apply Hp.put | with_reducible apply atS | with_reducible exact at0 | with_reducible exact at1 | with_reducible exact at2 | with_reducible exact at3 | with_reducible exact at4 | with_reducible exact at5))) ?_ | with_reducible refine abs_hpost_alloc (by (repeat (first | with_reducible exact hS | with_reducible apply Hp.drew | with_reducible apply Hp.alloc | with_reducible apply Hp.put | with_reducible apply atS | with_reducible exact at0 | with_reducible exact at1 | with_reducible exact at2 | with_reducible exact at3 | with_reducible exact at4 | with_reducible exact at5))) ?_ | with_reducible refine abs_hpost_set (by (repeat (first | with_reducible exact hS | with_reducible apply Hp.drew | with_reducible apply Hp.alloc | with_reducible apply Hp.put | with_reducible apply atS | with_reducible exact at0 | with_reducible exact at1 | with_reducible exact at2 | with_reducible exact at3 | with_reducible exact at4 | with_reducible exact at5))) ?_ | with_reducible refine abs_hpost_drew (by (repeat (first | with_reducible exact hS | with_reducible apply Hp.drew | with_reducible apply Hp.alloc | with_reducible apply Hp.put | with_reducible apply atS | with_reducible exact at0 | with_reducible exact at1 | with_reducible exact at2 | with_reducible exact at3 | with_reducible exact at4 | with_reducible exact at5))) ?_ | with_reducible refine abs_hcalls_alloc (by (repeat (first | with_reducible exact hS | with_reducible apply Hp.drew | with_reducible apply Hp.alloc | with_reducible apply Hp.put | with_reducible apply atS | with_reducible exact at0 | with_reducible exact at1 | with_reducible exact at2 | with_reducible exact at3 | with_reducible exact at4 | with_reducible exact at5))) ?_ | with_reducible refine abs_hcalls_set (by (repeat (first | with_reducible exact hS | with_reducible apply Hp.drew | with_reducible apply Hp.alloc | with_reducible apply Hp.put | with_reducible apply atS | with_reducible exact at0 | with_reducible exact at1 | with_reducible exact at2 | with_reducible exact at3 | with_reducible exact at4 | with_reducible exact at5))) ?_ | with_reducible refine abs_hcalls_drew (by (repeat (first | with_reducible exact hS | with_reducible apply Hp.drew | with_reducible apply Hp.alloc | with_reducible apply Hp.put | with_reducible apply atS | with_reducible exact at0 | with_reducible exact at1 | with_reducible exact at2 | with_reducible exact at3 | with_reducible exact at4 | with_reducible exact at5))) ?_); ((try clear hF); clear hS; intro wk hS; (try simp only [List.set_cons_zero, List.set_cons_succ, heap_size, heap_set_size] at hS); ((try clear hF); (first | have hF := And.intro hS.facts (hR.at hS.ext) | have hF := hS.facts); simp only [HFacts, cellFacts, RFacts, cellOnly, and_true, true_and, Nat.zero_add, Nat.reduceAdd] at hF))) | (go_at_call 21; (with_reducible refine Calls.mono (HA.out _ hS.ext _ _ hS) ?_); clear hS; rintro ev wk ⟨rfl, hS⟩; ((try clear hF); (first | have hF := And.intro hS.facts (hR.at hS.ext) | have hF := hS.facts); simp only [HFacts, cellFacts, RFacts, cellOnly, and_true, true_and, Nat.zero_add, Nat.reduceAdd] at hF)))
  go_ret
  exact ⟨rfl, hS.ext⟩
abbrev vNil : GV := ⟨0, 0, ⟨#[]⟩⟩
abbrev colA : CG := ⟨1, ⟨#[97]⟩, 1, false, vNil⟩
abbrev colX : CG := ⟨0, ⟨#[98]⟩, 2, true, ⟨2, 0, ⟨#[120]⟩⟩⟩
abbrev colB2 : CG := ⟨2, ⟨#[98]⟩, 2, true, ⟨2, 0, ⟨#[120]⟩⟩⟩
theorem nameB_a : nameB ⟨#[97]⟩ = true := by kernel_rfl
theorem nameB_b : nameB ⟨#[98]⟩ = true := by kernel_rfl
theorem nameB_first : nameB ⟨#[102, 105, 114, 115, 116]⟩ = true := by kernel_rfl
theorem colB_A : colB colA = true := by kernel_rfl
theorem colB_B : colB colB2 = true := by kernel_rfl
theorem morE_A : morE [colA] 2 colX = 0 := by kernel_rfl
theorem right_A : rightC [colA, colB2] 3 = true := by kernel_rfl
theorem find_A : idxC (nmEq ⟨#[98]⟩) 0 [colA, colB2] = 1 := by kernel_rfl
theorem less_A : lessE [colA] ⟨#[97]⟩ = 6 := by kernel_rfl
end Go.Proofs.YthikjhdobnllhaaDoor
