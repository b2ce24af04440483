/- packed: a closed fact of encode. -/
import Derived.Test.YtieongfdleobpaaDec
namespace Go.Proofs.Ytieongfdleobpaa
set_option linter.unusedSimpArgs false
set_option linter.unusedVariables false
open Go.RowKit
set_option linter.all false
open Go.Lib (uvarint zigzag)
abbrev num7 : GV := ⟨1, 7, ⟨#[]⟩⟩
abbrev gv0 : GV := ⟨0, 0, ⟨#[]⟩⟩
theorem uv14 : uvarint 14 = [14] := by rw [Lib.uvarint_small (by decide)]; rfl
theorem encV7 : encV num7 = [14] := by
  unfold encV
  rw [if_pos rfl]
  exact uv14
theorem some7 : someS [num7, gv0, num7] = [num7, num7] := rfl
theorem bits7 : bitsS [num7, gv0, num7] = [2] := by decide
theorem steps_ge : ∀ (l : List GV) (s : Int), l.length ≤ (stepsS s l).length
  | [], _ => Nat.le_refl _
  | x :: l, s => by
    have := steps_ge l x.num
    have := Lib.uvarint_pos (zigzag (wrap64 (x.num - s)))
    rw [stepsS, List.length_append, List.length_cons]
    omega
theorem best7 : bestK 1 [num7, num7] 4 = (0, [14, 14]) := by
  have h0 : bestK 1 [num7, num7] 0 = (-1, []) := rfl
  have e0 : writeS 0 [num7, num7] = [14, 14] := by unfold writeS; rw [if_pos rfl]; simp [encV7]
  have h1 := bestK_yes h0 (by decide) (.inl (by decide))
  rw [e0] at h1
  have h2 := bestK_no (q := 1) h1 (by
    unfold writeS
    rw [if_neg (by decide), if_pos rfl, runsS]
    simp [encV7]
    have := Lib.uvarint_pos (1 + (List.takeWhile (fun y => eqG y num7) [num7]).length)
    omega)
  have h3 := bestK_no (q := 2) h2 (by
    unfold writeS wordsS
    rw [if_neg (by decide), if_neg (by decide), if_pos rfl]
    have h1 := Lib.uvarint_pos (dedup [num7, num7]).length
    have h2 := Lib.uvarint_pos (idxP (eqG num7) 0 (dedup [num7, num7])).toNat
    simp
    omega)
  have h4 := bestK_no (q := 3) h3 (by
    unfold writeS
    rw [if_neg (by decide), if_neg (by decide), if_neg (by decide), if_pos rfl]
    have := steps_ge [num7, num7] 0
    simp at this ⊢
    omega)
  exact h4
theorem out7 : encOut 1 [num7, gv0, num7] = [3, 2, 0, 14, 14] := by
  unfold encOut
  rw [some7, best7, bits7]
  have : uvarint [num7, gv0, num7].length = [3] := by rw [Lib.uvarint_small (by decide)]; rfl
  rw [this]
  rfl
theorem err7 : encErr 1 [num7, gv0, num7] = 0 := by decide
theorem i7 : ∀ x ∈ [num7, gv0, num7], i64 x.num := by
  intro x hx
  simp only [List.mem_cons, List.not_mem_nil, or_false] at hx
  rcases hx with rfl | rfl | rfl <;> exact ⟨by decide, by decide⟩
theorem dec7 : decO 1 [3, 2, 0, 14, 14] = some [num7, gv0, num7] := by
  rw [← out7]
  exact decO_enc err7 i7
theorem Hp.rv7 {B : Nat} {w0 w : World} {L : List Item} {g : Nat} {t : TypeId} (h : Hp B w0 w (.blk g [.int .i64 1, .int .i64 7, .string ⟨#[]⟩, .int .i64 0, .int .i64 0, .string ⟨#[]⟩, .int .i64 1, .int .i64 7, .string ⟨#[]⟩] t :: L)) : RV w (some ⟨g, 0, none⟩) [num7, gv0, num7] := RV.block h.head.2 rfl
theorem equal7 (W : World) (g A : Option Addr) (cap : Nat) (h1 : RV W A [num7, gv0, num7]) (h2 : RV W g [num7, gv0, num7]) : Calls Try.prog 21 #[.slice A 3 cap, .slice g 3 3] W fun e w' => e = .returned (.bool true) ∧ Ext W w' := by
  have := equal_any [num7, gv0, num7] [num7, gv0, num7] A g cap 3 W h1 h2 (by decide) (by decide)
  rw [(eqL_iff _ _).2 rfl] at this
  exact this
set_option maxRecDepth 100000 in
set_option maxHeartbeats 2000000 in
theorem packed_any (w : World) : Calls Try.prog 18 #[] w fun e w' => e = .returned (.bool true) ∧ Ext w w' := by
  have hS := Hp.init w
  have hR := Reads.nil w
  have HE := Lib.hid (fun (W : World) (A : Option Addr) (h : RV W A [num7, gv0, num7]) => show Calls Try.prog 20 #[.int .i64 1, .slice A 3 3] W fun e w' => e = .returned (.tuple #[.string ⟨#[3, 2, 0, 14, 14]⟩, .nilIface]) ∧ Ext W w' from by
    have := encode_any 1 [num7, gv0, num7] A 3 W h (by decide) i7
    unfold encRes at this
    rw [if_pos err7, out7] at this
    exact this)
  have HD := Lib.hid (fun (W : World) => show Calls Try.prog 19 #[.int .i64 1, .string ⟨#[3, 2, 0, 14, 14]⟩] W fun e w' => ∃ A cap, e = .returned (.tuple #[.slice A 3 cap, .nilIface]) ∧ Hp W.heap.size W w' [vRow A cap [num7, gv0, num7]] from by
    have := decode_any 1 ⟨#[3, 2, 0, 14, 14]⟩ (by decide) W
    rw [show (⟨#[3, 2, 0, 14, 14]⟩ : ByteArray).data.toList = [3, 2, 0, 14, 14] from rfl, dec7] at this
    exact this)
  go_enter Try.func18, Try.ntmps18
  go_wp2_with (first | ((first | with_reducible refine abs_hlist_alloc (by (repeat (first | with_reducible exact hS | with_reducible apply Hp.drew | with_reducible apply Hp.alloc | with_reducible apply Hp.put | with_reducible apply atS | with_reducible exact at0 | with_reducible exact at1 | with_reducible exact at2 | with_reducible exact at3 | with_reducible exact at4 | with_reducible exact at5))) ?_ | with_reducible refine abs_hlist_set (by (repeat (first | with_reducible exact hS | with_reducible apply Hp.drew | with_reducible apply Hp.alloc | with_reducible apply Hp.put | with_reducible apply atS | with_reducible exact at0 | with_reducible exact at1 | with_reducible exact at2 | with_reducible exact at3 | with_reducible exact at4 | with_reducible exact at5))) ?_ | with_reducible refine abs_hlist_drew (by (repeat (first | with_reducible exact hS | with_reducible apply Hp.drew | with_reducible apply Hp.alloc | with_reducible apply Hp.put | with_reducible apply atS | with_reducible exact at0 | with_reducible exact at1 | with_reducible exact at2 | with_reducible exact at3 | with_reducible exact at4 | with_reducible exact at5))) ?_ | with_reducible refine abs_hcode_alloc (by (repeat (first | with_reducible exact hS | with_reducible apply Hp.drew | with_reducible apply Hp.alloc | with_reducible apply Hp.put | with_reducible apply atS | with_reducible exact at0 | with_reducible exact at1 | with_reducible exact at2 | with_reducible exact at3 | with_reducible exact at4 | with_reducible exact at5))) ?_ | with_reducible refine abs_hcode_set (by (repeat (first | with_reducible exact hS | with_reducible apply Hp.drew | with_reducible apply Hp.alloc | with_reducible apply Hp.put | with_reducible apply atS | with_reducible exact at0 | with_reducible exact at1 | with_reducible exact at2 | with_reducible exact at3 | with_reducible exact at4 | with_reducible exact at5))) ?_ | with_reducible refine abs_hcode_drew (by (repeat (first | with_reducible exact hS | with_reducible apply Hp.drew | with_reducible apply Hp.alloc | with_reducible apply Hp.put | with_reducible apply atS | with_reducible exact at0 | with_reducible exact at1 | with_reducible exact at2 | with_reducible exact at3 | with_reducible exact at4 | with_reducible exact at5))) ?_ | with_reducible refine abs_hpost_alloc (by (repeat (first | with_reducible exact hS | with_reducible apply Hp.drew | with_reducible apply Hp.alloc | with_reducible apply Hp.put | with_reducible apply atS | with_reducible exact at0 | with_reducible exact at1 | with_reducible exact at2 | with_reducible exact at3 | with_reducible exact at4 | with_reducible exact at5))) ?_ | with_reducible refine abs_hpost_set (by (repeat (first | with_reducible exact hS | with_reducible apply Hp.drew | with_reducible apply Hp.alloc | with_reducible apply Hp.put | with_reducible apply atS | with_reducible exact at0 | with_reducible exact at1 | with_reducible exact at2 | with_reducible exact at3 | with_reducible exact at4 | with_reducible exact at5))) ?_ | with_reducible refine abs_hpost_drew (by (repeat (first | with_reducible exact hS | with_reducible apply Hp.drew | with_reducible apply Hp.alloc | with_reducible apply Hp.put | with_reducible apply atS | with_reducible exact at0 | with_reducible exact at1 | with_reducible exact at2 | with_reducible exact at3 | with_reducible exact at4 | with_reducible exact at5))) ?_ | with_reducible refine abs_hcalls_alloc (by (repeat (first | with_reducible exact hS | with_reducible apply Hp.drew | with_reducible apply Hp.alloc | with_reducible apply Hp.put | with_reducible apply atS | with_reducible exact at0 | with_reducible exact at1 | with_reducible exact at2 | with_reducible exact at3 | with_reducible exact at4 | with_reducible exact at5))) ?_ | with_reducible refine abs_hcalls_set (by (repeat (first | with_reducible exact hS | with_reducible apply Hp.drew | with_reducible apply Hp.alloc | with_reducible apply Hp.put | with_reducible apply atS | with_reducible exact at0 | with_reducible exact at1 | with_reducible exact at2 | with_reducible exact at3 | with_reducible exact at4 | with_reducible exact at5))) ?_ | with_reducible refine abs_hcalls_drew (by (repeat (first | with_reducible exact hS | with_reducible apply Hp.drew | with_reducible apply Hp.alloc | with_reducible apply Hp.put | with_reducible apply atS | with_reducible exact at0 | with_reducible exact at1 | with_reducible exact at2 | with_reducible exact at3 | with_reducible exact at4 | with_reducible exact at5))) ?_); ((try clear hF); clear hS; intro wk hS; (try simp only [List.set_cons_zero, List.set_cons_succ, heap_size, heap_set_size] at hS); ((try clear hF); (first | have hF := And.intro hS.facts (hR.at hS.ext) | have hF := hS.facts); simp only [HFacts, cellFacts, RFacts, cellOnly, and_true, true_and, Nat.zero_add, Nat.reduceAdd] at hF))) | (go_at_call 24; (with_reducible refine (num_any _ _).mono ?_); rintro e wk ⟨rfl, hX⟩; replace hS := hS.step hX; clear hX; ((try clear hF); (first | have hF := And.intro hS.facts (hR.at hS.ext) | have hF := hS.facts); simp only [HFacts, cellFacts, RFacts, cellOnly, and_true, true_and, Nat.zero_add, Nat.reduceAdd] at hF)) | (go_at_call 20; (with_reducible refine (HE.out _ _ hS.rv7).mono ?_); rintro e wk ⟨rfl, hX⟩; replace hS := hS.step hX; clear hX; ((try clear hF); (first | have hF := And.intro hS.facts (hR.at hS.ext) | have hF := hS.facts); simp only [HFacts, cellFacts, RFacts, cellOnly, and_true, true_and, Nat.zero_add, Nat.reduceAdd] at hF)) | (go_at_call 19; (with_reducible refine Calls.mono (HD.out _) ?_); rintro e wk ⟨A, cap, rfl, hW⟩; replace hS := hS.join hW; clear hW; simp only [List.cons_append, List.nil_append] at hS; ((try clear hF); (first | have hF := And.intro hS.facts (hR.at hS.ext) | have hF := hS.facts); simp only [HFacts, cellFacts, RFacts, cellOnly, and_true, true_and, Nat.zero_add, Nat.reduceAdd] at hF)) | (go_at_call 21; (with_reducible refine (equal7 _ _ _ _ (hS.rv 1 rfl) hS.rv7).mono ?_); rintro e wk ⟨rfl, hX⟩; replace hS := hS.step hX; clear hX; ((try clear hF); (first | have hF := And.intro hS.facts (hR.at hS.ext) | have hF := hS.facts); simp only [HFacts, cellFacts, RFacts, cellOnly, and_true, true_and, Nat.zero_add, Nat.reduceAdd] at hF)))
  go_ret
  exact ⟨rfl, hS.ext⟩
end Go.Proofs.Ytieongfdleobpaa
