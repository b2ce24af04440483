/- bucket.List. -/
import Derived.Test.YtbfccjjnnkomcaaDoorBkt
import Derived.Test.YtbfccjjnnkomcaaDoorLayg
import Derived.Test.YtbfccjjnnkomcaaDoorLib
namespace Go.Proofs.YtbfccjjnnkomcaaDoor
set_option linter.unusedSimpArgs false
set_option linter.unusedVariables false
open Go.RowKit
open Go.Maps (Keyed)
open Go.Sort
/-- the keys, in order -/
def bkeys (D : DataW Unit) : List ByteArray := ((strKeys D).mergeSort leB).map fun l => ⟨l.toArray⟩
theorem strsV_enc (l : List (List UInt8)) : l.map encStr = strsV (l.map fun l => ⟨l.toArray⟩) := by simp [strsV, encStr]
theorem maps_size_keys (D : DataW Unit) (h : Maps.IsMap D) : (bkeys D).length = Maps.size D := by
  obtain ⟨es, rfl⟩ := h
  simp [bkeys, strKeys, Maps.size]
/-- maps.Keys -/
theorem keys_any (mo : Option Nat) (W : World) : Calls Tryd.prog 21 #[.map mo] W fun e w' => e = .returned (.func (.func 35) #[] #[.pointer (some ⟨W.heap.size, 0, none⟩)]) ∧ w' = W.alloc (.cells #[.map mo] 25) :=
  callsIn_wide.1 (AnyZ.keys_in Tryd.keysL Fence.wide 5 trivial rfl mo W)
theorem sorts_any (m : Nat) : AnyZ.SortsIn Tryd.prog Tryd.sortedL_ren Fence.wide m :=
  ⟨fun blk off cap ss W hH hblk hsz => callsIn_wide.2 (AnyM.slices_Sort_string Tryd.sortL blk off cap ss W hH hblk hsz),
   fun p cap W => callsIn_wide.2 (AnyM.slices_Sort_string_none Tryd.sortL p cap W)⟩
set_option maxHeartbeats 1000000 in
/-- slices.Sorted, at what maps.Keys handed back -/
theorem sorted_any {B : Nat} {w0 w : World} {L : List Item} {r nD i j : Nat} {D : DataW Unit} {mo : Option Nat} {ob : Obj} {T : TypeId} (hM : MO Tryd.prog 9 9 nD D mo ob) (hn : nD ≤ 1000000000) (hS : Hp B w0 w L) (hr : L[j]? = some (.blk r [.map mo] T)) (hm : L[i]? = some (.mp mo ob)) :
    Calls Tryd.prog 20 #[.func (.func 35) #[] #[.pointer (some ⟨r, 0, none⟩)]] w fun e w' => ∃ A cap, e = .returned (.slice A (bkeys D).length cap) ∧ Hp w.heap.size w w' [.row 9 1 A (bkeys D).length cap (strsV (bkeys D))] := by
  have hb := hS.blkAt j hr
  have hlt : r < w.heap.size := heap_lt hb
  have hcell : w.cell? ⟨r, 0, none⟩ = some (.map mo) := by simp [World.cell?, hb]
  have key : ∀ (S : List (List UInt8) → Prop) (N : Nat), N ≤ 1000000000 → SeqGives Fence.wide (5 - 1 - 1 - 1) Tryd.prog 35 #[.pointer (some ⟨r, 0, none⟩)] encStr S N w → (∀ ss, S ss → ss.Perm (strKeys D)) →
      Calls Tryd.prog 20 #[.func (.func 35) #[] #[.pointer (some ⟨r, 0, none⟩)]] w fun e w' => ∃ A cap, e = .returned (.slice A (bkeys D).length cap) ∧ Hp w.heap.size w w' [.row 9 1 A (bkeys D).length cap (strsV (bkeys D))] := fun S N hN hseq hS2 => by
    refine (callsIn_wide.1 (AnyZ.sorted_in Tryd.sortedL Fence.wide 5 trivial trivial trivial trivial rfl (by omega) (sorts_any _) (enters_of Tryd.func34 (by kernel_rfl) rfl) 35 _ trivial (enters_of Tryd.func35 (by kernel_rfl) rfl) S N (by unfold maxLen; omega) (by omega) w hseq)).mono ?_
    rintro e w' ⟨v, ss, rfl, hss, hrow, hnil, hbel⟩
    have hp := hS2 ss hss
    have e1 : (ss.mergeSort fun x y => decide (x ≤ y)).map encStr = strsV (bkeys D) := by
      rw [strsV_enc]
      unfold bkeys
      rw [show (ss.mergeSort fun x y => decide (x ≤ y)) = ss.mergeSort leB from rfl, mergeSort_of_perm hp]
    have e2 : ss.length = (bkeys D).length := by
      simp [bkeys, hp.length_eq]
    rw [e1, e2] at hrow
    have hv : ∃ A cap, v = .slice A (bkeys D).length cap := by
      rcases hrow.2 with ⟨rfl, h0⟩ | ⟨g, cp, cur, rfl, _⟩
      · exact ⟨none, 0, by rw [h0]⟩
      · exact ⟨_, _, rfl⟩
    obtain ⟨A, cap, rfl⟩ := hv
    exact ⟨A, cap, rfl, (Hp.nil hbel hbel.size).cons (x := .row _ _ _ _ _ _) hrow (by simp)⟩
  rcases hM with ⟨rfl, rfl⟩ | ⟨g, rfl, hf⟩
  · exact key (fun ss => ss = []) 0 (by omega) (AnyZ.keys_gives_nil (ρ := Tryd.keysL_ren) { Tryd.keysL with } Fence.wide _ trivial rfl r w hlt hcell) (fun ss e => by subst e; exact List.Perm.nil)
  · have hown := hS.ownsMp hm hf
    refine key (fun ss => ss.Perm (strKeys D)) (Maps.size D) ?_ (AnyZ.keys_gives (ρ := Tryd.keysL_ren) { Tryd.keysL with } Fence.wide _ trivial rfl (by omega) r g nD D w hlt hcell hown) (fun ss h => h)
    have := hown.size_le
    omega
abbrev pfxB (pfx k : ByteArray) : Bool := Lib.hasPrefix k.data.toList pfx.data.toList
/-- List -/
def blist (D : DataW Unit) (pfx : ByteArray) : List ByteArray := (bkeys D).filter (pfxB pfx)
set_option maxRecDepth 100000 in
set_option maxHeartbeats 1000000 in
theorem blist1_any {B : Nat} {w0 w : World} {L : List Item} {g : Nat} {T : TypeId} (pfx k : ByteArray) (i : Nat) (hi : L[i]? = some (.blk g [.string pfx] T)) (hS : Hp B w0 w L) :
    Calls Tryd.prog 22 #[.string k, .pointer (some ⟨g, 0, none⟩)] w fun e w' => e = .returned (.bool (!pfxB pfx k)) ∧ Ext w w' := by
  have hb := hS.blkAt i hi
  have hcell : w.cell? ⟨g, 0, none⟩ = some (.string pfx) := by simp [World.cell?, hb]
  have hx0 := Ext.refl w
  clear hS hi hb
  go_enter Tryd.func22, Tryd.ntmps22
  go_wp2_with (go_at_call 23; refine (Tryd.strings_HasPrefix k pfx _).mono ?_; rintro e wk ⟨rfl, rfl⟩)
  go_ret
  exact ⟨rfl, hx0⟩
set_option maxRecDepth 100000 in
set_option maxHeartbeats 1000000 in
theorem blist_any {B : Nat} {w0 w : World} {M I : List Item} {gb nD : Nat} {D : DataW Unit} {F : List Int} (pfx : ByteArray) (hn : nD ≤ 1000000000) (hB : Bkt gb D nD F I) (hS : Hp B w0 w (M ++ I)) :
    Calls Tryd.prog 11 #[.pointer (some ⟨gb, 0, none⟩), .string pfx] w fun e w' => ∃ A n cap, e = .returned (.slice A n cap) ∧ Hid ((blist D pfx).length = n) ∧ Hp B w0 w' (.row 9 1 A n cap (strsV (blist D pfx)) :: (M ++ I)) := by
  obtain ⟨mo, ob, A, n, cap, fi, rfl, hM, hFS⟩ := hB
  replace hS := hS.flip
  simp only [List.cons_append, List.nil_append] at hS
  clear hFS
  obtain ⟨m, hm⟩ : ∃ m, m = (bkeys D).length := ⟨_, rfl⟩
  have Hm := Lib.hid hm
  have HS := Lib.hid (fun (W : World) (L : List Item) (r i j : Nat) (T : TypeId) (hW : Hp B w0 W L) (hr : L[j]? = some (.blk r [.map mo] T)) (hi : L[i]? = some (.mp mo ob)) => sorted_any hM hn hW hr hi)
  rw [← hm] at HS
  have hmb : m ≤ 140737488355328 := by
    rw [hm, maps_size_keys D hM.isMap]
    have := hM.size_le
    omega
  have HD := Lib.hid (fun (W : World) (L : List Item) (A : Option Addr) (cap g i : Nat) (T : TypeId) (hi : L[i]? = some (.blk g [.string pfx] T)) (hW : Hp B w0 W (.row 9 1 A m cap (strsV (bkeys D)) :: L)) => deleteFunc_any (bkeys D) A m cap (by rw [Hm.out]) hmb 22 #[.pointer (some ⟨g, 0, none⟩)] (fun k => !pfxB pfx k) (enters_of Tryd.func22 (by kernel_rfl) rfl) (fun W' hW' k => blist1_any pfx k i hi hW') hW)
  clear hm hM
  ((try clear hF); (first | have hF := And.intro hS.facts (hR.at hS.ext) | have hF := hS.facts); simp only [HFacts, cellFacts, RFacts, cellOnly, and_true, true_and, Nat.zero_add, Nat.reduceAdd] at hF)
  go_enter Tryd.func11, Tryd.ntmps11
  go_wp2_with (first | ((first | with_reducible refine abs_hlist_alloc (by (repeat (first | with_reducible exact hS | with_reducible apply Hp.drew | with_reducible apply Hp.alloc | with_reducible apply Hp.put | with_reducible apply atS | with_reducible exact at0 | with_reducible exact at1 | with_reducible exact at2 | with_reducible exact at3 | with_reducible exact at4 | with_reducible exact at5))) ?_ | with_reducible refine abs_hlist_set (by (repeat (first | with_reducible exact hS | with_reducible apply Hp.drew | with_reducible apply Hp.alloc | with_reducible apply Hp.put | with_reducible apply atS | with_reducible exact at0 | with_reducible exact at1 | with_reducible exact at2 | with_reducible exact at3 | with_reducible exact at4 | with_reducible exact at5))) ?_ | with_reducible refine abs_hlist_drew (by (repeat (first | with_reducible exact hS | with_reducible apply Hp.drew | with_reducible apply Hp.alloc | with_reducible apply Hp.put | with_reducible apply atS | with_reducible exact at0 | with_reducible exact at1 | with_reducible exact at2 | with_reducible exact at3 | with_reducible exact at4 | with_reducible exact at5))) ?_ | with_reducible refine abs_hcode_alloc (by (repeat (first | with_reducible exact hS | with_reducible apply Hp.drew | with_reducible apply Hp.alloc | with_reducible apply Hp.put | with_reducible apply atS | with_reducible exact at0 | with_reducible exact at1 | with_reducible exact at2 | with_reducible exact at3 | with_reducible exact at4 | with_reducible exact at5))) ?_ | with_reducible refine abs_hcode_set (by (repeat (first | with_reducible exact hS | with_reducible apply Hp.drew | with_reducible apply Hp.alloc | with_reducible apply Hp.put | with_reducible apply atS | with_reducible exact at0 | with_reducible exact at1 | with_reducible exact at2 | with_reducible exact at3 | with_reducible exact at4 | with_reducible exact at5))) ?_ | with_reducible refine abs_hcode_drew (by (repeat (first | with_reducible exact hS | with_reducible apply Hp.drew | with_reducible apply Hp.alloc | with_reducible apply Hp.put | with_reducible apply atS | with_reducible exact at0 | with_reducible exact at1 | with_reducible exact at2 | with_reducible exact at3 | with_reducible exact at4 | with_reducible exact at5))) ?_ | with_reducible refine abs_hpost_alloc (by (repeat (first | with_reducible exact hS | with_reducible apply Hp.drew | with_reducible apply Hp.alloc | with_reducible apply Hp.put | with_reducible apply atS | with_reducible exact at0 | with_reducible exact at1 | with_reducible exact at2 | with_reducible exact at3 | with_reducible exact at4 | with_reducible exact at5))) ?_ | with_reducible refine abs_hpost_set (by (repeat (first | with_reducible exact hS | with_reducible apply Hp.drew | with_reducible apply Hp.alloc | with_reducible apply Hp.put | with_reducible apply atS | with_reducible exact at0 | with_reducible exact at1 | with_reducible exact at2 | with_reducible exact at3 | with_reducible exact at4 | with_reducible exact at5))) ?_ | with_reducible refine abs_hpost_drew (by (repeat (first | with_reducible exact hS | with_reducible apply Hp.drew | with_reducible apply Hp.alloc | with_reducible apply Hp.put | with_reducible apply atS | with_reducible exact at0 | with_reducible exact at1 | with_reducible exact at2 | with_reducible exact at3 | with_reducible exact at4 | with_reducible exact at5))) ?_ | with_reducible refine abs_hcalls_alloc (by (repeat (first | with_reducible exact hS | with_reducible apply Hp.drew | with_reducible apply Hp.alloc | with_reducible apply Hp.put | with_reducible apply atS | with_reducible exact at0 | with_reducible exact at1 | with_reducible exact at2 | with_reducible exact at3 | with_reducible exact at4 | with_reducible exact at5))) ?_ | with_reducible refine abs_hcalls_set (by (repeat (first | with_reducible exact hS | with_reducible apply Hp.drew | with_reducible apply Hp.alloc | with_reducible apply Hp.put | with_reducible apply atS | with_reducible exact at0 | with_reducible exact at1 | with_reducible exact at2 | with_reducible exact at3 | with_reducible exact at4 | with_reducible exact at5))) ?_ | with_reducible refine abs_hcalls_drew (by (repeat (first | with_reducible exact hS | with_reducible apply Hp.drew | with_reducible apply Hp.alloc | with_reducible apply Hp.put | with_reducible apply atS | with_reducible exact at0 | with_reducible exact at1 | with_reducible exact at2 | with_reducible exact at3 | with_reducible exact at4 | with_reducible exact at5))) ?_); ((try clear hF); clear hS; intro wk hS; (try simp only [List.set_cons_zero, List.set_cons_succ, heap_size, heap_set_size] at hS); ((try clear hF); (first | have hF := And.intro hS.facts (hR.at hS.ext) | have hF := hS.facts); simp only [HFacts, cellFacts, RFacts, cellOnly, and_true, true_and, Nat.zero_add, Nat.reduceAdd] at hF))) | (go_at_call 21; (with_reducible refine Calls.mono (keys_any _ _) ?_); rintro e wk ⟨rfl, rfl⟩) | (go_at_call 20; (with_reducible refine Calls.mono (HS.out _ _ _ 3 0 _ hS rfl rfl) ?_); rintro e wk ⟨A2, cap2, rfl, hW⟩; replace hS := hS.join hW; clear hW; simp only [List.cons_append, List.nil_append] at hS; ((try clear hF); (first | have hF := And.intro hS.facts (hR.at hS.ext) | have hF := hS.facts); simp only [HFacts, cellFacts, RFacts, cellOnly, and_true, true_and, Nat.zero_add, Nat.reduceAdd] at hF)) | (go_at_call 19; (with_reducible refine Calls.mono (HD.out _ _ _ _ _ 1 _ rfl hS) ?_); clear hS; rintro e wk ⟨A3, m3, cap3, rfl, hm3, hS⟩; ((try clear hF); (first | have hF := And.intro hS.facts (hR.at hS.ext) | have hF := hS.facts); simp only [HFacts, cellFacts, RFacts, cellOnly, and_true, true_and, Nat.zero_add, Nat.reduceAdd] at hF)))
  go_ret
  simp only [Bool.not_not] at hm3 hS
  refine ⟨A3, m3, cap3, rfl, hm3, ?_⟩
  have h1 : Hp B w0 wk (.row 9 1 A3 m3 cap3 (strsV (blist D pfx)) :: .blk gb [.map mo, .slice A n cap] 27 :: .mp mo ob :: fi :: M) := hS.sub (by simp [blist])
  exact h1.perm (List.Perm.cons _ (List.perm_append_comm (l₁ := M)))
end Go.Proofs.YtbfccjjnnkomcaaDoor
