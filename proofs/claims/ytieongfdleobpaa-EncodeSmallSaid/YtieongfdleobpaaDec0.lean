/- encode.Decode's look at a bit. -/
import Derived.Test.YtieongfdleobpaaEncLaw
namespace Go.Proofs.Ytieongfdleobpaa
set_option linter.unusedSimpArgs false
set_option linter.unusedVariables false
open Go.RowKit
set_option linter.all false
theorem nullB_at (s : ByteArray) (i : Nat) (h : i / 8 < s.size) : nullB s.data.toList i = s[i / 8].toNat.testBit (i % 8) := by
  unfold nullB
  rw [List.getD_eq_getElem?_getD, List.getElem?_eq_getElem (by exact h)]
  rfl
theorem bit_at (b : UInt8) (c : Nat) (h : c < 8) : (bits .and .u8 ((b.toNat : Int) / 2 ^ c) 1 == 1) = b.toNat.testBit c := by
  have hb := b.toNat_lt
  have e : (b.toNat : Int) / 2 ^ c = ((b.toNat / 2 ^ c : Nat) : Int) := by rw [Int.natCast_ediv, Int.natCast_pow]; rfl
  have hlt : b.toNat / 2 ^ c < 256 := Nat.lt_of_le_of_lt (Nat.div_le_self _ _) hb
  have h2 := (bits_nat .u8 8 (by decide) (fun n h₀ h₁ => by rw [IntKind.wrap_u8]; omega) (b.toNat / 2 ^ c) 1 hlt (by decide)).1
  rw [e, show (1 : Int) = ((1 : Nat) : Int) by rfl, h2, Nat.and_one_is_mod, Nat.testBit_eq_decide_div_mod_eq]
  rcases (by omega : b.toNat / 2 ^ c % 2 = 0 ∨ b.toNat / 2 ^ c % 2 = 1) with h | h <;> rw [h] <;> rfl
set_option maxRecDepth 100000 in
set_option maxHeartbeats 1000000 in
theorem dec1_any (s : ByteArray) (i bk : Nat) (hi : i / 8 < s.size) (hi2 : i ≤ 1000) (w : World) (h : w.cell? ⟨bk, 0, none⟩ = some (.string s)) :
    Calls Try.prog 32 #[.int .i64 i, .pointer (some ⟨bk, 0, none⟩)] w fun e w' => e = .returned (.bool (nullB s.data.toList i)) ∧ Ext w w' := by
  have hS := Hp.init w
  have hR := Reads.cell h (Reads.nil w)
  rw [nullB_at s i hi]
  have q0 : (0 : Int) ≤ (i : Int) / 8 := by omega
  have q1 : (i : Int) / 8 < (s.size : Int) := by omega
  have qw : IntKind.i64.wrap ((i : Int) / 8) = (i : Int) / 8 := IntWalk.i64_in _ (by omega)
  have qr : (i : Int).tmod 8 = (i : Int) % 8 := Int.tmod_eq_emod_of_nonneg (by omega)
  have qt : ((i : Int) / 8).toNat = i / 8 := by omega
  have q2 : (0 : Int) ≤ (i : Int) % 8 := by omega
  clear h
  ((try clear hF); (first | have hF := And.intro hS.facts (hR.at hS.ext) | have hF := hS.facts); simp only [HFacts, cellFacts, RFacts, cellOnly, and_true, true_and, Nat.zero_add, Nat.reduceAdd] at hF)
  go_enter Try.func32, Try.ntmps32
  go_wp2_with (first | ((first | with_reducible refine abs_hlist_alloc (by (repeat (first | with_reducible exact hS | with_reducible apply Hp.drew | with_reducible apply Hp.alloc | with_reducible apply Hp.put | with_reducible apply atS | with_reducible exact at0 | with_reducible exact at1 | with_reducible exact at2 | with_reducible exact at3 | with_reducible exact at4 | with_reducible exact at5))) ?_ | with_reducible refine abs_hlist_set (by (repeat (first | with_reducible exact hS | with_reducible apply Hp.drew | with_reducible apply Hp.alloc | with_reducible apply Hp.put | with_reducible apply atS | with_reducible exact at0 | with_reducible exact at1 | with_reducible exact at2 | with_reducible exact at3 | with_reducible exact at4 | with_reducible exact at5))) ?_ | with_reducible refine abs_hlist_drew (by (repeat (first | with_reducible exact hS | with_reducible apply Hp.drew | with_reducible apply Hp.alloc | with_reducible apply Hp.put | with_reducible apply atS | with_reducible exact at0 | with_reducible exact at1 | with_reducible exact at2 | with_reducible exact at3 | with_reducible exact at4 | with_reducible exact at5))) ?_ | with_reducible refine abs_hcode_alloc (by (repeat (first | with_reducible exact hS | with_reducible apply Hp.drew | with_reducible apply Hp.alloc | with_reducible apply Hp.put | with_reducible apply atS | with_reducible exact at0 | with_reducible exact at1 | with_reducible exact at2 | with_reducible exact at3 | with_reducible exact at4 | with_reducible exact at5))) ?_ | with_reducible refine abs_hcode_set (by (repeat (first | with_reducible exact hS | with_reducible apply Hp.drew | with_reducible apply Hp.alloc | with_reducible apply Hp.put | with_reducible apply atS | with_reducible exact at0 | with_reducible exact at1 | with_reducible exact at2 | with_reducible exact at3 | with_reducible exact at4 | with_reducible exact at5))) ?_ | with_reducible refine abs_hcode_drew (by (repeat (first | with_reducible exact hS | with_reducible apply Hp.drew | with_reducible apply Hp.alloc | with_reducible apply Hp.put | with_reducible apply atS | with_reducible exact at0 | with_reducible exact at1 | with_reducible exact at2 | with_reducible exact at3 | with_reducible exact at4 | with_reducible exact at5))) ?_ | with_reducible refine abs_hpost_alloc (by (repeat (first | with_reducible exact hS | with_reducible apply Hp.drew | with_reducible apply Hp.alloc | with_reducible apply Hp.put | with_reducible apply atS | with_reducible exact at0 | with_reducible exact at1 | with_reducible exact at2 | with_reducible exact at3 | with_reducible exact at4 | with_reducible exact at5))) ?_ | with_reducible refine abs_hpost_set (by (repeat (first | with_reducible exact hS | with_reducible apply Hp.drew | with_reducible apply Hp.alloc | with_reducible apply Hp.put | with_reducible apply atS | with_reducible exact at0 | with_reducible exact at1 | with_reducible exact at2 | with_reducible exact at3 | with_reducible exact at4 | with_reducible exact at5))) ?_ | with_reducible refine abs_hpost_drew (by (repeat (first | with_reducible exact hS | with_reducible apply Hp.drew | with_reducible apply Hp.alloc | with_reducible apply Hp.put | with_reducible apply atS | with_reducible exact at0 | with_reducible exact at1 | with_reducible exact at2 | with_reducible exact at3 | with_reducible exact at4 | with_reducible exact at5))) ?_ | with_reducible refine abs_hcalls_alloc (by (repeat (first | with_reducible exact hS | with_reducible apply Hp.drew | with_reducible apply Hp.alloc | with_reducible apply Hp.put | with_reducible apply atS | with_reducible exact at0 | with_reducible exact at1 | with_reducible exact at2 | with_reducible exact at3 | with_reducible exact at4 | with_reducible exact at5))) ?_ | with_reducible refine abs_hcalls_set (by (repeat (first | with_reducible exact hS | with_reducible apply Hp.drew | with_reducible apply Hp.alloc | with_reducible apply Hp.put | with_reducible apply atS | with_reducible exact at0 | with_reducible exact at1 | with_reducible exact at2 | with_reducible exact at3 | with_reducible exact at4 | with_reducible exact at5))) ?_ | with_reducible refine abs_hcalls_drew (by (repeat (first | with_reducible exact hS | with_reducible apply Hp.drew | with_reducible apply Hp.alloc | with_reducible apply Hp.put | with_reducible apply atS | with_reducible exact at0 | with_reducible exact at1 | with_reducible exact at2 | with_reducible exact at3 | with_reducible exact at4 | with_reducible exact at5))) ?_); ((try clear hF); clear hS; intro wk hS; (try simp only [List.set_cons_zero, List.set_cons_succ, heap_size, heap_set_size] at hS); ((try clear hF); (first | have hF := And.intro hS.facts (hR.at hS.ext) | have hF := hS.facts); simp only [HFacts, cellFacts, RFacts, cellOnly, and_true, true_and, Nat.zero_add, Nat.reduceAdd] at hF))) | fail)
  go_ret
  exact ⟨by rw [bit_at _ _ (by omega)]; rfl, hS.ext⟩
end Go.Proofs.Ytieongfdleobpaa
