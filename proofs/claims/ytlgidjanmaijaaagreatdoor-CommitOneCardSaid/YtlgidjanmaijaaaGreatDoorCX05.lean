/- Texts joined: bucket: Faults, Put, Get, Delete. bucket: a new one. slices.Grow of nothing, slices.Concat of two slices of numbers; ContainsFunc. In a round of a range over a function, and in an iterator: regions and appends under Hp. For any program. A walk with things that are no cells (loops, what waits): what is made of cells lies as it lay. For any program. A range over an iterator that writes a box of its own between the rounds. For any program. strings.SplitSeq at a mark of one byte: what it hands back is a range over the pieces, in their order. Which texts a value may have: what the library's search for a letter finds. Plain. value.Right: what it answers; the world has at most new blocks. -/
import Derived.Test.YtlgidjanmaijaaaGreatDoorProg
import Derived.Test.YtlgidjanmaijaaaGreatDoorCX04
import Derived.Test.YtlgidjanmaijaaaGreatDoorCX01
import Derived.Test.YtlgidjanmaijaaaGreatDoorCX03
import Derived.RangeFuncNested
import Derived.RangeFuncBound
import Derived.RangeFuncCalls
import Derived.RangeFuncLeaves
import Derived.Shelf.Abstract
import Derived.Shelf.RegionOpen
import Derived.WalkKit
import Derived.OwnWalkIn
import Derived.TacticsInMore
import Derived.LoopNIn
import Derived.LoopIn
import Derived.Laws.Tables
import Derived.RangeFuncBox
import Derived.Test.YtlgidjanmaijaaaGreatDoorCX02
import Derived.Lib.IndexLaws
import Derived.Shelf.GgClosure.StringsIndexFunc
import Derived.Deep.QuietTactic
/- bucket: Faults, Put, Get, Delete. -/
namespace Go.Proofs.YtlgidjanmaijaaaGreatDoor
set_option linter.all false
set_option linter.unusedSimpArgs false
set_option linter.unusedVariables false
open Go.RowKit
open Go.Maps (Keyed)
/-- the slice reads as F; it lies in the row fi -/
def FSl (A : Option Addr) (n cap : Nat) (F : List Int) (fi : Item) : Prop :=
  n = F.length ∧ (F = [] ∨ ∃ (g k N C : Nat) (xs : List Value), A = some ⟨g, k, none⟩ ∧ fi = .row 3 1 (some ⟨g, 0, none⟩) N C xs ∧ n + k = N ∧ cap + k = C ∧ xs.drop k = intsV F)
/-- a bucket at gb that has D; F: what goes wrong next -/
def Bkt (gb : Nat) (D : DataW Unit) (nD : Nat) (F : List Int) (I : List Item) : Prop :=
  ∃ (mo : Option Nat) (ob : Obj) (A : Option Addr) (n cap : Nat) (fi : Item), I = [.blk gb [.map mo, .slice A n cap] 28, .mp mo ob, fi] ∧ MO Tryz.prog 9 9 nD D mo ob ∧ FSl A n cap F fi
def badK (key : ByteArray) : Bool := key.size = 0 || 60 < key.size
theorem Hp.flip {B : Nat} {w0 w : World} {L M : List Item} (h : Hp B w0 w (L ++ M)) : Hp B w0 w (M ++ L) := h.perm List.perm_append_comm
theorem MO.mono {P : Program} {k e : TypeId} {n m : Nat} {D : DataW Unit} {mo : Option Nat} {ob : Obj} (h : MO P k e n D mo ob) (hm : n ≤ m) : MO P k e m D mo ob := by
  rcases h with h | ⟨g, rfl, es, clock, h1, h2, h3, h4⟩
  · exact .inl h
  · exact .inr ⟨g, rfl, es, clock, h1, h2, by omega, h4⟩
set_option maxRecDepth 100000 in
set_option maxHeartbeats 8000000 in
theorem bget_any {B : Nat} {w0 w : World} {M I : List Item} {gb nD : Nat} {D : DataW Unit} {F : List Int} (key : ByteArray) (hk : key.size ≤ maxLen) (hB : Bkt gb D nD F I) (hS : Hp B w0 w (M ++ I)) :
    Calls Tryz.prog 10 #[.pointer (some ⟨gb, 0, none⟩), .string key] w fun e w' => e = .returned (.tuple #[.string (bget D key), errV (if bhas D key then 0 else 7)]) ∧ Ext w w' := by
  obtain ⟨mo, ob, A, n, cap, fi, rfl, hM, hFS⟩ := hB
  replace hS := hS.flip
  simp only [List.cons_append, List.nil_append] at hS
  clear hFS
  have hx0 := Ext.refl w
  have hkey := key_str hk
  ((try clear hF); refine hfI ?_; intro hF)
  cases hb : bhas D key with
  | true =>
    go_enter Tryz.func10, Tryz.ntmps10
    go_wp2_with (first | (refine hab ?_; (try clear hF); clear hS; intro wk hS; (try simp only [List.set_cons_zero, List.set_cons_succ, heap_size, heap_set_size] at hS); ((try clear hF); refine hfI ?_; intro hF)) | (refine wpList_lookup_mps rfl _ _ rfl Tryz.keyedStr Tryz.underlying26 Tryz.underlying9 (zeroS _) 1 hM hS rfl rfl key rfl hkey ?_; rw [hb]))
    go_ret2
    exact ⟨rfl, hx0⟩
  | false =>
    have hn := bget_none hb
    go_enter Tryz.func10, Tryz.ntmps10
    go_wp2_with (first | (refine hab ?_; (try clear hF); clear hS; intro wk hS; (try simp only [List.set_cons_zero, List.set_cons_succ, heap_size, heap_set_size] at hS); ((try clear hF); refine hfI ?_; intro hF)) | (refine wpList_lookup_mps rfl _ _ rfl Tryz.keyedStr Tryz.underlying26 Tryz.underlying9 (zeroS _) 1 hM hS rfl rfl key rfl hkey ?_; rw [hb]))
    go_ret2
    exact ⟨rfl, hx0⟩

theorem bfaults_any {B : Nat} {w0 w : World} {M I : List Item} {gb nD : Nat} {D : DataW Unit} {F0 : List Int} (F : List Int) (A1 : Option Addr) (n1 cap1 : Nat) (hn : F.length = n1) (h0 : A1 = none → cap1 = 0) (hr : RI w A1 F) (hl : n1 ≤ 1000000) (hB : Bkt gb D nD F0 I) (hS : Hp B w0 w (M ++ I)) :
    Calls Tryz.prog 5 #[.pointer (some ⟨gb, 0, none⟩), .slice A1 n1 cap1] w fun e w' => e = .returned (.tuple #[]) ∧ ∃ I', Bkt gb D nD F I' ∧ Hp B w0 w' (M ++ I') := by
  obtain ⟨mo, ob, A, n, cap, fi, rfl, hM, hFS⟩ := hB
  replace hS := hS.flip
  simp only [List.cons_append, List.nil_append] at hS
  clear hFS
  have HC := Lib.hid (iclone_any F A1 n1 cap1 hn h0 w hr hl)
  have Hn := Lib.hid hn
  clear hn h0 hr
  ((try clear hF); refine hfI ?_; intro hF)
  go_enter Tryz.func5, Tryz.ntmps5
  go_wp2_with (first | (refine hab ?_; (try clear hF); clear hS; intro wk hS; (try simp only [List.set_cons_zero, List.set_cons_succ, heap_size, heap_set_size] at hS); ((try clear hF); refine hfI ?_; intro hF)) | (go_at_call 16; (with_reducible refine Calls.mono HC.out ?_); rintro e wk ⟨A', cap', rfl, hW⟩; replace hS := hS.join hW; clear hW; simp only [List.cons_append, List.nil_append] at hS; ((try clear hF); refine hfI ?_; intro hF)))
  go_end0
  refine ⟨rfl, [.blk gb [.map mo, .slice A' n1 cap'] 28, .mp mo ob, .row 3 1 A' n1 cap' (intsV F)], ⟨mo, ob, A', n1, cap', _, rfl, hM, Hn.out.symm, ?_⟩, Hp.flip ?_⟩
  · cases F with
    | nil => exact .inl rfl
    | cons x l =>
      right
      obtain ⟨g, hg, _, _⟩ := hS.rowCell 0 rfl (j := 0) (u := .int .i64 x) rfl
      exact ⟨g, 0, n1, cap', intsV (x :: l), hg, by rw [hg], rfl, rfl, rfl⟩
  · have h1 : Hp B w0 wk (.row 3 1 A' n1 cap' (intsV F) :: .blk gb [.map mo, .slice A' n1 cap'] 28 :: .mp mo ob :: M) := hS.sub (by simp)
    exact h1.perm (((List.Perm.swap _ _ _).cons _).trans (List.Perm.swap _ _ _))
/-- the next of what goes wrong is taken -/
theorem FSl.pop {A : Option Addr} {n cap : Nat} {f : Int} {F : List Int} {fi : Item} {B : Nat} {w0 w : World} {L : List Item} (h : FSl A n cap (f :: F) fi) (hS : Hp B w0 w (fi :: L)) : ∃ (g k m c : Nat), A = some ⟨g, k, none⟩ ∧ w.cell? ⟨g, k, none⟩ = some (.int .i64 f) ∧ n = m + 1 ∧ cap = c + 1 ∧ m ≤ c ∧ FSl (some ⟨g, if c = 0 then k else k + 1, none⟩) m c F fi := by
  obtain ⟨h1, h2 | ⟨g, k, N, C, xs, rfl, rfl, h3, h4, h5⟩⟩ := h
  · cases h2
  · have hx : xs[k]? = some (.int .i64 f) := by
      have := congrArg List.head? h5
      rwa [List.head?_drop] at this
    obtain ⟨g', e, hc, _⟩ := hS.rowCell 0 rfl hx
    obtain rfl : g = g' := by simpa using e
    have hle := (hS.rowLen 0 rfl).2
    have hm : n = F.length + 1 := h1
    refine ⟨g, k, F.length, cap - 1, rfl, hc, hm, by omega, by omega, rfl, ?_⟩
    cases F with
    | nil => exact .inl rfl
    | cons y F =>
      simp only [List.length_cons] at hm
      have h0 : ¬ cap - 1 = 0 := by omega
      rw [if_neg h0]
      refine .inr ⟨g, k + 1, N, C, xs, rfl, rfl, by simp only [List.length_cons]; omega, by omega, ?_⟩
      have e : xs.drop (k + 1) = (xs.drop k).drop 1 := by rw [List.drop_drop]
      rw [e, h5]
      rfl
theorem empty_of (key : ByteArray) : key.toList = [] ↔ key.size = 0 := by
  rw [ByteArray.toList_eq]
  have : key.size = key.data.toList.length := by
    obtain ⟨⟨d⟩⟩ := key
    rfl
  rw [this, List.length_eq_zero_iff]
theorem good_key {key : ByteArray} (h : badK key = false) : ¬ key.toList = [] ∧ key.toList.isEmpty = false ∧ key.size ≤ 60 := by
  unfold badK at h
  simp only [Bool.or_eq_false_iff, decide_eq_false_iff_not] at h
  have hne : ¬ key.toList = [] := fun e => h.1 ((empty_of key).1 e)
  exact ⟨hne, by simpa using hne, by omega⟩
set_option maxRecDepth 100000 in
set_option maxHeartbeats 8000000 in
theorem bput_has {B : Nat} {w0 w : World} {M I : List Item} {gb nD : Nat} {D : DataW Unit} {F : List Int} (key s : ByteArray) (hk : badK key = false) (hb : bhas D key = true) (hB : Bkt gb D nD F I) (hS : Hp B w0 w (M ++ I)) :
    Calls Tryz.prog 21 #[.pointer (some ⟨gb, 0, none⟩), .string key, .string s] w fun e w' => e = .returned (errV 9) ∧ Ext w w' := by
  obtain ⟨mo, ob, A, n, cap, fi, rfl, hM, hFS⟩ := hB
  replace hS := hS.flip
  simp only [List.cons_append, List.nil_append] at hS
  clear hFS
  obtain ⟨hne, hke, h60⟩ := good_key hk
  have hkey := key_str (s := key) (by unfold maxLen; omega)
  have hx0 := Ext.refl w
  ((try clear hF); refine hfI ?_; intro hF)
  go_enter Tryz.func21, Tryz.ntmps21
  go_wp2_with (first | (refine hab ?_; (try clear hF); clear hS; intro wk hS; (try simp only [List.set_cons_zero, List.set_cons_succ, heap_size, heap_set_size] at hS); ((try clear hF); refine hfI ?_; intro hF)) | (refine wpList_lookup_mps rfl _ _ rfl Tryz.keyedStr Tryz.underlying26 Tryz.underlying9 (zeroS _) 1 hM hS rfl rfl key rfl hkey ?_; rw [hb]))
  go_ret
  exact ⟨rfl, hx0⟩
theorem MFit.mono {P : Program} {k e : TypeId} {n m : Nat} {D : DataW Unit} {ob : Obj} (h : MFit P k e n D ob) (hm : n ≤ m) : MFit P k e m D ob := by
  obtain ⟨es, clock, h1, h2, h3, h4⟩ := h
  exact ⟨es, clock, h1, h2, by omega, h4⟩
set_option maxRecDepth 100000 in
set_option maxHeartbeats 8000000 in
theorem bput_new0 {B : Nat} {w0 w : World} {M I : List Item} {gb nD : Nat} {D : DataW Unit} {F : List Int} (key s : ByteArray) (hs : s.size ≤ maxLen) (hnD : nD < maxLen) (hk : badK key = false) (hb : bhas D key = false) (hB : Bkt gb D nD ([]) I) (hS : Hp B w0 w (M ++ I)) :
    Calls Tryz.prog 21 #[.pointer (some ⟨gb, 0, none⟩), .string key, .string s] w fun e w' => e = .returned (errV 0) ∧ ∃ I', Bkt gb (D.put (sk key) (sv s)) (nD + 1) ([]) I' ∧ Hp B w0 w' (M ++ I') := by
  obtain ⟨mo, ob, A, n, cap, fi, rfl, hM, hFS⟩ := hB
  replace hS := hS.flip
  simp only [List.cons_append, List.nil_append] at hS
  obtain ⟨hne, hke, h60⟩ := good_key hk
  have hkey := key_str (s := key) (by unfold maxLen; omega)
  clear hk
  have hem0 : ∀ w : World, (binOp .eql 26 (.map none) (.map none)).run Tryz.prog w = .ok (.bool true) w := fun _ => rfl
  have hem1 : ∀ (g : Nat) (w : World), (binOp .eql 26 (.map (some g)) (.map none)).run Tryz.prog w = .ok (.bool false) w := fun _ _ => rfl
  have hz : n = 0 := hFS.1
  subst hz
  have HFS := Lib.hid hFS
  clear hFS
  rcases hM with ⟨rfl, rfl⟩ | ⟨gm, rfl, hf⟩
  · have hM : MO Tryz.prog 9 9 nD (.map []) none ob := .inl ⟨rfl, rfl⟩
    ((try clear hF); refine hfI ?_; intro hF)
    go_enter Tryz.func21, Tryz.ntmps21
    go_wp2_with (first | (refine hab ?_; (try clear hF); clear hS; intro wk hS; (try simp only [List.set_cons_zero, List.set_cons_succ, heap_size, heap_set_size] at hS); ((try clear hF); refine hfI ?_; intro hF)) | (refine wpList_lookup_mps rfl _ _ rfl Tryz.keyedStr Tryz.underlying26 Tryz.underlying9 (zeroS _) 1 hM hS rfl rfl key rfl hkey ?_; rw [hb]) | (refine wpList_makeMap_hp (k := 9) (e := 9) rfl rfl hS ?_; clear hS; intro gm ob0 wk hf hS; ((try clear hF); refine hfI ?_; intro hF)) | (refine wpList_mapPut_hp rfl _ _ _ (.inl rfl) Tryz.keyedStr Tryz.underlying26 0 hf hS rfl rfl _ _ (sk key) rfl rfl hkey (sv s) (plainElem_string Tryz.underlying9 hs) (by unfold maxLen at *; omega) ?_; clear hS hf; intro ob' wk hf hS; (try simp only [List.eraseIdx_cons_zero, List.eraseIdx_cons_succ, List.set_cons_zero, List.set_cons_succ] at hS); ((try clear hF); refine hfI ?_; intro hF)))
    go_ret
    refine ⟨rfl, [.blk gb [.map (some gm), .slice A 0 cap] 28, .mp (some gm) ob', fi], ⟨some gm, ob', A, 0, cap, fi, rfl, .inr ⟨gm, rfl, hf.mono (by omega)⟩, HFS.out⟩, Hp.flip ?_⟩
    have h1 : Hp B w0 wk (.ob gm ob' :: .blk gb [.map (some gm), .slice A 0 cap] 28 :: fi :: M) := hS.sub (by simp)
    exact h1.obMp.perm (List.Perm.swap _ _ _)
  · replace hS := (hS.front 1 rfl).mpOb
    simp only [List.eraseIdx_cons_zero, List.eraseIdx_cons_succ] at hS
    ((try clear hF); refine hfI ?_; intro hF)
    go_enter Tryz.func21, Tryz.ntmps21
    go_wp2_with (first | (refine hab ?_; (try clear hF); clear hS; intro wk hS; (try simp only [List.set_cons_zero, List.set_cons_succ, heap_size, heap_set_size] at hS); ((try clear hF); refine hfI ?_; intro hF)) | (refine wpList_lookup_obs rfl _ _ rfl Tryz.keyedStr Tryz.underlying26 Tryz.underlying9 (zeroS _) 0 hf hS rfl rfl key rfl hkey ?_; rw [hb]) | (refine wpList_mapPut_hp rfl _ _ _ (.inl rfl) Tryz.keyedStr Tryz.underlying26 0 hf hS rfl rfl _ _ (sk key) rfl rfl hkey (sv s) (plainElem_string Tryz.underlying9 hs) hnD ?_; clear hS hf; intro ob' wk hf hS; (try simp only [List.eraseIdx_cons_zero, List.eraseIdx_cons_succ, List.set_cons_zero, List.set_cons_succ] at hS); ((try clear hF); refine hfI ?_; intro hF)))
    go_ret
    exact ⟨rfl, [.blk gb [.map (some gm), .slice A 0 cap] 28, .mp (some gm) ob', fi], ⟨some gm, ob', A, 0, cap, fi, rfl, .inr ⟨gm, rfl, hf⟩, HFS.out⟩, Hp.flip (hS.obMp.perm (List.Perm.swap _ _ _))⟩
set_option maxRecDepth 100000 in
set_option maxHeartbeats 8000000 in
theorem bput_lost {B : Nat} {w0 w : World} {M I : List Item} {gb nD : Nat} {D : DataW Unit} {F : List Int} (key s : ByteArray) (hs : s.size ≤ maxLen) (hnD : nD < maxLen) (hk : badK key = false) (hb : bhas D key = false) (hB : Bkt gb D nD (1 :: F) I) (hS : Hp B w0 w (M ++ I)) :
    Calls Tryz.prog 21 #[.pointer (some ⟨gb, 0, none⟩), .string key, .string s] w fun e w' => e = .returned (errV 14) ∧ ∃ I', Bkt gb (D) (nD + 1) (F) I' ∧ Hp B w0 w' (M ++ I') := by
  obtain ⟨mo, ob, A, n, cap, fi, rfl, hM, hFS⟩ := hB
  replace hS := hS.flip
  simp only [List.cons_append, List.nil_append] at hS
  obtain ⟨hne, hke, h60⟩ := good_key hk
  have hkey := key_str (s := key) (by unfold maxLen; omega)
  clear hk
  obtain ⟨g0, k0, m0, c0, rfl, hc0, rfl, rfl, hmc, hF2⟩ := hFS.pop (hS.front 2 rfl)
  have HFS := Lib.hid hF2
  clear hF2 hFS
  have f1 : (1 : Int) ≤ (m0 : Int) + 1 := by omega
  have f2 : (m0 : Int) + 1 ≤ (c0 : Int) + 1 := by omega
  have hem0 : ∀ w : World, (binOp .eql 26 (.map none) (.map none)).run Tryz.prog w = .ok (.bool true) w := fun _ => rfl
  have hem1 : ∀ (g : Nat) (w : World), (binOp .eql 26 (.map (some g)) (.map none)).run Tryz.prog w = .ok (.bool false) w := fun _ _ => rfl
  by_cases hcz : c0 = 0
  · rw [if_pos hcz] at HFS
    subst hcz
    obtain rfl : m0 = 0 := by omega
    ((try clear hF); refine hfI ?_; intro hF)
    go_enter Tryz.func21, Tryz.ntmps21
    go_wp2_with (first | (refine hab ?_; (try clear hF); clear hS; intro wk hS; (try simp only [List.set_cons_zero, List.set_cons_succ, heap_size, heap_set_size] at hS); ((try clear hF); refine hfI ?_; intro hF)) | (refine wpList_lookup_mps rfl _ _ rfl Tryz.keyedStr Tryz.underlying26 Tryz.underlying9 (zeroS _) 1 hM hS rfl rfl key rfl hkey ?_; rw [hb]))
    go_ret
    exact ⟨rfl, [.blk gb [.map mo, .slice (some ⟨g0, k0, none⟩) 0 0] 28, .mp mo ob, fi], ⟨mo, ob, (some ⟨g0, k0, none⟩), 0, 0, fi, rfl, hM.mono (Nat.le_succ _), HFS.out⟩, Hp.flip hS⟩
  · rw [if_neg hcz] at HFS
    ((try clear hF); refine hfI ?_; intro hF)
    go_enter Tryz.func21, Tryz.ntmps21
    go_wp2_with (first | (refine hab ?_; (try clear hF); clear hS; intro wk hS; (try simp only [List.set_cons_zero, List.set_cons_succ, heap_size, heap_set_size] at hS); ((try clear hF); refine hfI ?_; intro hF)) | (refine wpList_lookup_mps rfl _ _ rfl Tryz.keyedStr Tryz.underlying26 Tryz.underlying9 (zeroS _) 1 hM hS rfl rfl key rfl hkey ?_; rw [hb]))
    go_ret
    exact ⟨rfl, [.blk gb [.map mo, .slice (some ⟨g0, k0 + 1, none⟩) m0 c0] 28, .mp mo ob, fi], ⟨mo, ob, (some ⟨g0, k0 + 1, none⟩), m0, c0, fi, rfl, hM.mono (Nat.le_succ _), HFS.out⟩, Hp.flip hS⟩
set_option maxRecDepth 100000 in
set_option maxHeartbeats 8000000 in
theorem bput_done {B : Nat} {w0 w : World} {M I : List Item} {gb nD : Nat} {D : DataW Unit} {F : List Int} (key s : ByteArray) (hs : s.size ≤ maxLen) (hnD : nD < maxLen) (hk : badK key = false) (hb : bhas D key = false) (hB : Bkt gb D nD (2 :: F) I) (hS : Hp B w0 w (M ++ I)) :
    Calls Tryz.prog 21 #[.pointer (some ⟨gb, 0, none⟩), .string key, .string s] w fun e w' => e = .returned (errV 14) ∧ ∃ I', Bkt gb (D.put (sk key) (sv s)) (nD + 1) (F) I' ∧ Hp B w0 w' (M ++ I') := by
  obtain ⟨mo, ob, A, n, cap, fi, rfl, hM, hFS⟩ := hB
  replace hS := hS.flip
  simp only [List.cons_append, List.nil_append] at hS
  obtain ⟨hne, hke, h60⟩ := good_key hk
  have hkey := key_str (s := key) (by unfold maxLen; omega)
  clear hk
  obtain ⟨g0, k0, m0, c0, rfl, hc0, rfl, rfl, hmc, hF2⟩ := hFS.pop (hS.front 2 rfl)
  have HFS := Lib.hid hF2
  clear hF2 hFS
  have f1 : (1 : Int) ≤ (m0 : Int) + 1 := by omega
  have f2 : (m0 : Int) + 1 ≤ (c0 : Int) + 1 := by omega
  have hem0 : ∀ w : World, (binOp .eql 26 (.map none) (.map none)).run Tryz.prog w = .ok (.bool true) w := fun _ => rfl
  have hem1 : ∀ (g : Nat) (w : World), (binOp .eql 26 (.map (some g)) (.map none)).run Tryz.prog w = .ok (.bool false) w := fun _ _ => rfl
  by_cases hcz : c0 = 0
  · rw [if_pos hcz] at HFS
    subst hcz
    obtain rfl : m0 = 0 := by omega
    rcases hM with ⟨rfl, rfl⟩ | ⟨gm, rfl, hf⟩
    · have hM : MO Tryz.prog 9 9 nD (.map []) none ob := .inl ⟨rfl, rfl⟩
      ((try clear hF); refine hfI ?_; intro hF)
      go_enter Tryz.func21, Tryz.ntmps21
      go_wp2_with (first | (refine hab ?_; (try clear hF); clear hS; intro wk hS; (try simp only [List.set_cons_zero, List.set_cons_succ, heap_size, heap_set_size] at hS); ((try clear hF); refine hfI ?_; intro hF)) | (refine wpList_lookup_mps rfl _ _ rfl Tryz.keyedStr Tryz.underlying26 Tryz.underlying9 (zeroS _) 1 hM hS rfl rfl key rfl hkey ?_; rw [hb]) | (refine wpList_makeMap_hp (k := 9) (e := 9) rfl rfl hS ?_; clear hS; intro gm ob0 wk hf hS; ((try clear hF); refine hfI ?_; intro hF)) | (refine wpList_mapPut_hp rfl _ _ _ (.inl rfl) Tryz.keyedStr Tryz.underlying26 0 hf hS rfl rfl _ _ (sk key) rfl rfl hkey (sv s) (plainElem_string Tryz.underlying9 hs) (by unfold maxLen at *; omega) ?_; clear hS hf; intro ob' wk hf hS; (try simp only [List.eraseIdx_cons_zero, List.eraseIdx_cons_succ, List.set_cons_zero, List.set_cons_succ] at hS); ((try clear hF); refine hfI ?_; intro hF)))
      go_ret
      refine ⟨rfl, [.blk gb [.map (some gm), .slice (some ⟨g0, k0, none⟩) 0 0] 28, .mp (some gm) ob', fi], ⟨some gm, ob', (some ⟨g0, k0, none⟩), 0, 0, fi, rfl, .inr ⟨gm, rfl, hf.mono (by omega)⟩, HFS.out⟩, Hp.flip ?_⟩
      have h1 : Hp B w0 wk (.ob gm ob' :: .blk gb [.map (some gm), .slice (some ⟨g0, k0, none⟩) 0 0] 28 :: fi :: M) := hS.sub (by simp)
      exact h1.obMp.perm (List.Perm.swap _ _ _)
    · replace hS := (hS.front 1 rfl).mpOb
      simp only [List.eraseIdx_cons_zero, List.eraseIdx_cons_succ] at hS
      ((try clear hF); refine hfI ?_; intro hF)
      go_enter Tryz.func21, Tryz.ntmps21
      go_wp2_with (first | (refine hab ?_; (try clear hF); clear hS; intro wk hS; (try simp only [List.set_cons_zero, List.set_cons_succ, heap_size, heap_set_size] at hS); ((try clear hF); refine hfI ?_; intro hF)) | (refine wpList_lookup_obs rfl _ _ rfl Tryz.keyedStr Tryz.underlying26 Tryz.underlying9 (zeroS _) 0 hf hS rfl rfl key rfl hkey ?_; rw [hb]) | (refine wpList_mapPut_hp rfl _ _ _ (.inl rfl) Tryz.keyedStr Tryz.underlying26 0 hf hS rfl rfl _ _ (sk key) rfl rfl hkey (sv s) (plainElem_string Tryz.underlying9 hs) hnD ?_; clear hS hf; intro ob' wk hf hS; (try simp only [List.eraseIdx_cons_zero, List.eraseIdx_cons_succ, List.set_cons_zero, List.set_cons_succ] at hS); ((try clear hF); refine hfI ?_; intro hF)))
      go_ret
      exact ⟨rfl, [.blk gb [.map (some gm), .slice (some ⟨g0, k0, none⟩) 0 0] 28, .mp (some gm) ob', fi], ⟨some gm, ob', (some ⟨g0, k0, none⟩), 0, 0, fi, rfl, .inr ⟨gm, rfl, hf⟩, HFS.out⟩, Hp.flip (hS.obMp.perm (List.Perm.swap _ _ _))⟩
  · rw [if_neg hcz] at HFS
    rcases hM with ⟨rfl, rfl⟩ | ⟨gm, rfl, hf⟩
    · have hM : MO Tryz.prog 9 9 nD (.map []) none ob := .inl ⟨rfl, rfl⟩
      ((try clear hF); refine hfI ?_; intro hF)
      go_enter Tryz.func21, Tryz.ntmps21
      go_wp2_with (first | (refine hab ?_; (try clear hF); clear hS; intro wk hS; (try simp only [List.set_cons_zero, List.set_cons_succ, heap_size, heap_set_size] at hS); ((try clear hF); refine hfI ?_; intro hF)) | (refine wpList_lookup_mps rfl _ _ rfl Tryz.keyedStr Tryz.underlying26 Tryz.underlying9 (zeroS _) 1 hM hS rfl rfl key rfl hkey ?_; rw [hb]) | (refine wpList_makeMap_hp (k := 9) (e := 9) rfl rfl hS ?_; clear hS; intro gm ob0 wk hf hS; ((try clear hF); refine hfI ?_; intro hF)) | (refine wpList_mapPut_hp rfl _ _ _ (.inl rfl) Tryz.keyedStr Tryz.underlying26 0 hf hS rfl rfl _ _ (sk key) rfl rfl hkey (sv s) (plainElem_string Tryz.underlying9 hs) (by unfold maxLen at *; omega) ?_; clear hS hf; intro ob' wk hf hS; (try simp only [List.eraseIdx_cons_zero, List.eraseIdx_cons_succ, List.set_cons_zero, List.set_cons_succ] at hS); ((try clear hF); refine hfI ?_; intro hF)))
      go_ret
      refine ⟨rfl, [.blk gb [.map (some gm), .slice (some ⟨g0, k0 + 1, none⟩) m0 c0] 28, .mp (some gm) ob', fi], ⟨some gm, ob', (some ⟨g0, k0 + 1, none⟩), m0, c0, fi, rfl, .inr ⟨gm, rfl, hf.mono (by omega)⟩, HFS.out⟩, Hp.flip ?_⟩
      have h1 : Hp B w0 wk (.ob gm ob' :: .blk gb [.map (some gm), .slice (some ⟨g0, k0 + 1, none⟩) m0 c0] 28 :: fi :: M) := hS.sub (by simp)
      exact h1.obMp.perm (List.Perm.swap _ _ _)
    · replace hS := (hS.front 1 rfl).mpOb
      simp only [List.eraseIdx_cons_zero, List.eraseIdx_cons_succ] at hS
      ((try clear hF); refine hfI ?_; intro hF)
      go_enter Tryz.func21, Tryz.ntmps21
      go_wp2_with (first | (refine hab ?_; (try clear hF); clear hS; intro wk hS; (try simp only [List.set_cons_zero, List.set_cons_succ, heap_size, heap_set_size] at hS); ((try clear hF); refine hfI ?_; intro hF)) | (refine wpList_lookup_obs rfl _ _ rfl Tryz.keyedStr Tryz.underlying26 Tryz.underlying9 (zeroS _) 0 hf hS rfl rfl key rfl hkey ?_; rw [hb]) | (refine wpList_mapPut_hp rfl _ _ _ (.inl rfl) Tryz.keyedStr Tryz.underlying26 0 hf hS rfl rfl _ _ (sk key) rfl rfl hkey (sv s) (plainElem_string Tryz.underlying9 hs) hnD ?_; clear hS hf; intro ob' wk hf hS; (try simp only [List.eraseIdx_cons_zero, List.eraseIdx_cons_succ, List.set_cons_zero, List.set_cons_succ] at hS); ((try clear hF); refine hfI ?_; intro hF)))
      go_ret
      exact ⟨rfl, [.blk gb [.map (some gm), .slice (some ⟨g0, k0 + 1, none⟩) m0 c0] 28, .mp (some gm) ob', fi], ⟨some gm, ob', (some ⟨g0, k0 + 1, none⟩), m0, c0, fi, rfl, .inr ⟨gm, rfl, hf⟩, HFS.out⟩, Hp.flip (hS.obMp.perm (List.Perm.swap _ _ _))⟩
set_option maxRecDepth 100000 in
set_option maxHeartbeats 8000000 in
theorem bput_fine {B : Nat} {w0 w : World} {M I : List Item} {gb nD : Nat} {D : DataW Unit} {F : List Int} {f : Int} (hf1 : (f == 1) = false) (hf2 : (f == 2) = false) (key s : ByteArray) (hs : s.size ≤ maxLen) (hnD : nD < maxLen) (hk : badK key = false) (hb : bhas D key = false) (hB : Bkt gb D nD (f :: F) I) (hS : Hp B w0 w (M ++ I)) :
    Calls Tryz.prog 21 #[.pointer (some ⟨gb, 0, none⟩), .string key, .string s] w fun e w' => e = .returned (errV 0) ∧ ∃ I', Bkt gb (D.put (sk key) (sv s)) (nD + 1) (F) I' ∧ Hp B w0 w' (M ++ I') := by
  obtain ⟨mo, ob, A, n, cap, fi, rfl, hM, hFS⟩ := hB
  replace hS := hS.flip
  simp only [List.cons_append, List.nil_append] at hS
  obtain ⟨hne, hke, h60⟩ := good_key hk
  have hkey := key_str (s := key) (by unfold maxLen; omega)
  clear hk
  obtain ⟨g0, k0, m0, c0, rfl, hc0, rfl, rfl, hmc, hF2⟩ := hFS.pop (hS.front 2 rfl)
  have HFS := Lib.hid hF2
  clear hF2 hFS
  have f1 : (1 : Int) ≤ (m0 : Int) + 1 := by omega
  have f2 : (m0 : Int) + 1 ≤ (c0 : Int) + 1 := by omega
  have hem0 : ∀ w : World, (binOp .eql 26 (.map none) (.map none)).run Tryz.prog w = .ok (.bool true) w := fun _ => rfl
  have hem1 : ∀ (g : Nat) (w : World), (binOp .eql 26 (.map (some g)) (.map none)).run Tryz.prog w = .ok (.bool false) w := fun _ _ => rfl
  by_cases hcz : c0 = 0
  · rw [if_pos hcz] at HFS
    subst hcz
    obtain rfl : m0 = 0 := by omega
    rcases hM with ⟨rfl, rfl⟩ | ⟨gm, rfl, hf⟩
    · have hM : MO Tryz.prog 9 9 nD (.map []) none ob := .inl ⟨rfl, rfl⟩
      ((try clear hF); refine hfI ?_; intro hF)
      go_enter Tryz.func21, Tryz.ntmps21
      go_wp2_with (first | (refine hab ?_; (try clear hF); clear hS; intro wk hS; (try simp only [List.set_cons_zero, List.set_cons_succ, heap_size, heap_set_size] at hS); ((try clear hF); refine hfI ?_; intro hF)) | (refine wpList_lookup_mps rfl _ _ rfl Tryz.keyedStr Tryz.underlying26 Tryz.underlying9 (zeroS _) 1 hM hS rfl rfl key rfl hkey ?_; rw [hb]) | (refine wpList_makeMap_hp (k := 9) (e := 9) rfl rfl hS ?_; clear hS; intro gm ob0 wk hf hS; ((try clear hF); refine hfI ?_; intro hF)) | (refine wpList_mapPut_hp rfl _ _ _ (.inl rfl) Tryz.keyedStr Tryz.underlying26 0 hf hS rfl rfl _ _ (sk key) rfl rfl hkey (sv s) (plainElem_string Tryz.underlying9 hs) (by unfold maxLen at *; omega) ?_; clear hS hf; intro ob' wk hf hS; (try simp only [List.eraseIdx_cons_zero, List.eraseIdx_cons_succ, List.set_cons_zero, List.set_cons_succ] at hS); ((try clear hF); refine hfI ?_; intro hF)))
      go_ret
      refine ⟨rfl, [.blk gb [.map (some gm), .slice (some ⟨g0, k0, none⟩) 0 0] 28, .mp (some gm) ob', fi], ⟨some gm, ob', (some ⟨g0, k0, none⟩), 0, 0, fi, rfl, .inr ⟨gm, rfl, hf.mono (by omega)⟩, HFS.out⟩, Hp.flip ?_⟩
      have h1 : Hp B w0 wk (.ob gm ob' :: .blk gb [.map (some gm), .slice (some ⟨g0, k0, none⟩) 0 0] 28 :: fi :: M) := hS.sub (by simp)
      exact h1.obMp.perm (List.Perm.swap _ _ _)
    · replace hS := (hS.front 1 rfl).mpOb
      simp only [List.eraseIdx_cons_zero, List.eraseIdx_cons_succ] at hS
      ((try clear hF); refine hfI ?_; intro hF)
      go_enter Tryz.func21, Tryz.ntmps21
      go_wp2_with (first | (refine hab ?_; (try clear hF); clear hS; intro wk hS; (try simp only [List.set_cons_zero, List.set_cons_succ, heap_size, heap_set_size] at hS); ((try clear hF); refine hfI ?_; intro hF)) | (refine wpList_lookup_obs rfl _ _ rfl Tryz.keyedStr Tryz.underlying26 Tryz.underlying9 (zeroS _) 0 hf hS rfl rfl key rfl hkey ?_; rw [hb]) | (refine wpList_mapPut_hp rfl _ _ _ (.inl rfl) Tryz.keyedStr Tryz.underlying26 0 hf hS rfl rfl _ _ (sk key) rfl rfl hkey (sv s) (plainElem_string Tryz.underlying9 hs) hnD ?_; clear hS hf; intro ob' wk hf hS; (try simp only [List.eraseIdx_cons_zero, List.eraseIdx_cons_succ, List.set_cons_zero, List.set_cons_succ] at hS); ((try clear hF); refine hfI ?_; intro hF)))
      go_ret
      exact ⟨rfl, [.blk gb [.map (some gm), .slice (some ⟨g0, k0, none⟩) 0 0] 28, .mp (some gm) ob', fi], ⟨some gm, ob', (some ⟨g0, k0, none⟩), 0, 0, fi, rfl, .inr ⟨gm, rfl, hf⟩, HFS.out⟩, Hp.flip (hS.obMp.perm (List.Perm.swap _ _ _))⟩
  · rw [if_neg hcz] at HFS
    rcases hM with ⟨rfl, rfl⟩ | ⟨gm, rfl, hf⟩
    · have hM : MO Tryz.prog 9 9 nD (.map []) none ob := .inl ⟨rfl, rfl⟩
      ((try clear hF); refine hfI ?_; intro hF)
      go_enter Tryz.func21, Tryz.ntmps21
      go_wp2_with (first | (refine hab ?_; (try clear hF); clear hS; intro wk hS; (try simp only [List.set_cons_zero, List.set_cons_succ, heap_size, heap_set_size] at hS); ((try clear hF); refine hfI ?_; intro hF)) | (refine wpList_lookup_mps rfl _ _ rfl Tryz.keyedStr Tryz.underlying26 Tryz.underlying9 (zeroS _) 1 hM hS rfl rfl key rfl hkey ?_; rw [hb]) | (refine wpList_makeMap_hp (k := 9) (e := 9) rfl rfl hS ?_; clear hS; intro gm ob0 wk hf hS; ((try clear hF); refine hfI ?_; intro hF)) | (refine wpList_mapPut_hp rfl _ _ _ (.inl rfl) Tryz.keyedStr Tryz.underlying26 0 hf hS rfl rfl _ _ (sk key) rfl rfl hkey (sv s) (plainElem_string Tryz.underlying9 hs) (by unfold maxLen at *; omega) ?_; clear hS hf; intro ob' wk hf hS; (try simp only [List.eraseIdx_cons_zero, List.eraseIdx_cons_succ, List.set_cons_zero, List.set_cons_succ] at hS); ((try clear hF); refine hfI ?_; intro hF)))
      go_ret
      refine ⟨rfl, [.blk gb [.map (some gm), .slice (some ⟨g0, k0 + 1, none⟩) m0 c0] 28, .mp (some gm) ob', fi], ⟨some gm, ob', (some ⟨g0, k0 + 1, none⟩), m0, c0, fi, rfl, .inr ⟨gm, rfl, hf.mono (by omega)⟩, HFS.out⟩, Hp.flip ?_⟩
      have h1 : Hp B w0 wk (.ob gm ob' :: .blk gb [.map (some gm), .slice (some ⟨g0, k0 + 1, none⟩) m0 c0] 28 :: fi :: M) := hS.sub (by simp)
      exact h1.obMp.perm (List.Perm.swap _ _ _)
    · replace hS := (hS.front 1 rfl).mpOb
      simp only [List.eraseIdx_cons_zero, List.eraseIdx_cons_succ] at hS
      ((try clear hF); refine hfI ?_; intro hF)
      go_enter Tryz.func21, Tryz.ntmps21
      go_wp2_with (first | (refine hab ?_; (try clear hF); clear hS; intro wk hS; (try simp only [List.set_cons_zero, List.set_cons_succ, heap_size, heap_set_size] at hS); ((try clear hF); refine hfI ?_; intro hF)) | (refine wpList_lookup_obs rfl _ _ rfl Tryz.keyedStr Tryz.underlying26 Tryz.underlying9 (zeroS _) 0 hf hS rfl rfl key rfl hkey ?_; rw [hb]) | (refine wpList_mapPut_hp rfl _ _ _ (.inl rfl) Tryz.keyedStr Tryz.underlying26 0 hf hS rfl rfl _ _ (sk key) rfl rfl hkey (sv s) (plainElem_string Tryz.underlying9 hs) hnD ?_; clear hS hf; intro ob' wk hf hS; (try simp only [List.eraseIdx_cons_zero, List.eraseIdx_cons_succ, List.set_cons_zero, List.set_cons_succ] at hS); ((try clear hF); refine hfI ?_; intro hF)))
      go_ret
      exact ⟨rfl, [.blk gb [.map (some gm), .slice (some ⟨g0, k0 + 1, none⟩) m0 c0] 28, .mp (some gm) ob', fi], ⟨some gm, ob', (some ⟨g0, k0 + 1, none⟩), m0, c0, fi, rfl, .inr ⟨gm, rfl, hf⟩, HFS.out⟩, Hp.flip (hS.obMp.perm (List.Perm.swap _ _ _))⟩
theorem Bkt.mono {gb nD m : Nat} {D : DataW Unit} {F : List Int} {I : List Item} (h : Bkt gb D nD F I) (hm : nD ≤ m) : Bkt gb D m F I := by
  obtain ⟨mo, ob, A, n, cap, fi, h1, h2, h3⟩ := h
  exact ⟨mo, ob, A, n, cap, fi, h1, h2.mono hm, h3⟩
end Go.Proofs.YtlgidjanmaijaaaGreatDoor

/- bucket: a new one. -/
namespace Go.Proofs.YtlgidjanmaijaaaGreatDoor
set_option linter.all false
set_option linter.unusedSimpArgs false
set_option linter.unusedVariables false
open Go.RowKit
theorem bkt_new {B : Nat} {w0 w : World} {L : List Item} {g : Nat} (h : Hp B w0 w (.blk g [.map none, .slice none 0 0] 28 :: L)) : ∃ I, Bkt g (.map []) 0 [] I ∧ Hp B w0 w (L ++ I) := by
  refine ⟨[.blk g [.map none, .slice none 0 0] 28, .mp none (.map #[] 0), .row 3 1 none 0 0 []], ⟨none, _, none, 0, 0, _, rfl, .inl ⟨rfl, rfl⟩, rfl, .inl rfl⟩, Hp.flip ?_⟩
  have h1 := (h.nilMp (.map #[] 0)).nilRow 3 1
  exact h1.perm (((List.Perm.swap _ _ _).trans ((List.Perm.swap _ _ _).cons _)).trans (List.Perm.swap _ _ _)).symm
end Go.Proofs.YtlgidjanmaijaaaGreatDoor

/- slices.Grow of nothing, slices.Concat of two slices of numbers; ContainsFunc. -/
namespace Go.Proofs.YtlgidjanmaijaaaGreatDoor
set_option linter.unusedSimpArgs false
set_option linter.unusedVariables false
open Go.RowKit
set_option linter.all false
set_option maxRecDepth 100000 in
set_option maxHeartbeats 8000000 in
theorem igrow_any (n : Nat) (h0 : 0 < n) (hn : n ≤ 1000000) (w : World) :
    Calls Tryz.prog 125 #[.slice none 0 0, .int .i64 n] w fun e w' => ∃ g cap, e = .returned (.slice (some ⟨g, 0, none⟩) 0 cap) ∧ Hp w.heap.size w w' [.row 3 1 (some ⟨g, 0, none⟩) 0 cap []] := by
  have hS := Hp.init w
  have hR := Reads.nil w
  have e1 : wrap64 ((n : Int) - 0) = (n : Int) := by unfold wrap64; omega
  have e2 : ¬ ((n : Int) < 0) := by omega
  have e3 : (0 : Int) < (n : Int) := by omega
  go_enter Tryz.func125, Tryz.ntmps125
  go_wp2_with (first | (refine hab ?_; (try clear hF); clear hS; intro wk hS; (try simp only [List.set_cons_zero, List.set_cons_succ, heap_size, heap_set_size] at hS); ((try clear hF); refine hfI ?_; intro hF)) | (at_builtin; refine wpList_zeros_hp Tryz.elem_ints Tryz.underlying3 rfl (.tmp 20) (.tmp 21) rfl hS rfl (by go_simp; rfl) h0 (by omega) (by omega) ?_; clear hS; intro g cap wk hc hS; ((try clear hF); refine hfI ?_; intro hF)))
  go_ret
  exact ⟨g, cap, rfl, hS⟩
theorem intsV_one (l : List Int) : ∀ u ∈ intsV l, u.oneCell' = true := fun u hu => by
  obtain ⟨x, _, rfl⟩ := List.mem_map.1 hu
  rfl
theorem RI.nil {w : World} {l : List Int} (h : RI w none l) : l = [] := by
  cases l with
  | nil => rfl
  | cons x l =>
    obtain ⟨b, o, e, _⟩ := h 0 x rfl
    cases e
/-- append of the numbers of another slice -/
theorem wpList_append_ri {B : Nat} {w0 w : World} {L : List Item} {n m c cap : Nat} {A A2 : Option Addr} {xs l : List Int} {ops : Array Oper} {rest : List Oper} {o : Oper} {a : Act} {Q : Exit → Act → World → Prop} (hgd : o.guard = none) (s x : Operand)
    (ho : o.op = .call { callee := .builtin .append, args := #[s, x], argTypes := #[23, 23] }) (h : Hp B w0 w (.row 3 1 A n cap (intsV xs) :: L)) (hs : a.eval s = .slice A n cap) (hr : RI w A2 l) (hl : l.length = m) (hz : A2 = none → c = 0) (hx : a.eval x = .slice A2 m c) (hm : n + m ≤ 1000000)
    (k : ∀ A' cap' w', Hp B w0 w' (.row 3 1 A' (n + m) cap' (intsV (xs ++ l)) :: L) → wpList Tryz.prog ops Q rest (a.put o.dst (.slice A' (n + m : Nat) cap')) w') : wpList Tryz.prog ops Q (o :: rest) a w := by
  cases A2 with
  | none =>
    have := hr.nil
    subst this
    obtain rfl : m = 0 := by simpa using hl.symm
    obtain rfl : c = 0 := hz rfl
    refine wpList_plain hgd fun K hK => ?_
    have hr := run_append_nilsrc (P := Tryz.prog) (t := 23) (ty := o.type) Tryz.elem_ints h
    unfold Oper.wp execOp
    simp only [ho, resolve, invoke, builtin, Sem.run_bind, Sem.run_pure, Result.andThen_ok, List.map_toArray, List.map_cons, List.map_nil, hs, hx, hr]
    exact hK _ _ (k A cap w (by rw [List.append_nil]; exact h))
  | some ad =>
    refine wpList_append_hp Tryz.elem_ints hgd s x ho h hs ad hx (news := intsV l) (by rw [List.length_map, hl, Nat.mul_one]) (fun j u hu => ?_) (intsV_one l) (by omega) (by omega) (fun A' cap' w' h' => k A' cap' w' (by rw [intsV, List.map_append]; exact h'))
    rw [intsV_get] at hu
    obtain ⟨y, hy, rfl⟩ := Option.map_eq_some_iff.1 hu
    obtain ⟨b, o, e, hc⟩ := hr j y hy
    obtain rfl := Option.some.inj e
    rw [addr_plus]
    exact hc
set_option maxRecDepth 100000 in
set_option maxHeartbeats 8000000 in
theorem iconcat_any (l m : List Int) (A A2 : Option Addr) (n k c c2 gs : Nat) (t : TypeId) (w : World) (hn : l.length = n) (hk : m.length = k) (h0 : 0 < n + k) (hs : n + k ≤ 1000) (hr : RI w A l) (hr2 : RI w A2 m) (hz : A = none → c = 0) (hz2 : A2 = none → c2 = 0)
    (hb : w.heap[gs]? = some (.cells #[.slice A n c, .slice A2 k c2] t (0, 0))) :
    Calls Tryz.prog 98 #[.slice (some ⟨gs, 0, none⟩) 2 2] w fun e w' => ∃ A' cap', e = .returned (.slice A' (n + k : Nat) cap') ∧ Hp w.heap.size w w' [.row 3 1 A' (n + k) cap' (intsV (l ++ m))] := by
  have HR := Lib.hid hr
  have HR2 := Lib.hid hr2
  have HG := Lib.hid (fun W : World => show Calls Tryz.prog 125 #[.slice none 0 0, .int .i64 ((n : Int) + (k : Int))] W (fun e w' => ∃ g cap, e = .returned (.slice (some ⟨g, 0, none⟩) 0 cap) ∧ Hp W.heap.size W w' [.row 3 1 (some ⟨g, 0, none⟩) 0 cap []]) from by
    have := igrow_any (n + k) h0 (by omega) W
    rw [Int.natCast_add] at this
    exact this)
  have hS := Hp.init w
  have hR := Reads.blk hb (Reads.nil w)
  clear hb hr hr2
  go_enter Tryz.func98, Tryz.ntmps98
  go_wp2_with (first | (refine hab ?_; (try clear hF); clear hS; intro wk hS; (try simp only [List.set_cons_zero, List.set_cons_succ, heap_size, heap_set_size] at hS); ((try clear hF); refine hfI ?_; intro hF)) | fail)
  go_loopw [11, 3] (fun i s wr => ∃ (j : Nat), i = .int .i64 j ∧ (j = 0 ∧ s = .int .i64 0 ∨ j = 1 ∧ s = .int .i64 n ∨ j = 2 ∧ s = .int .i64 ((n : Int) + (k : Int))) ∧ Hp w.heap.size w wr []) (fun i _ _ => 2 - (intOf i).toNat)
  case atStart => exact ⟨0, rfl, .inl ⟨rfl, rfl⟩, hS⟩
  case round =>
    clear hS
    obtain ⟨j, rfl, hj, hS⟩ := hrel
    rcases hj with ⟨rfl, rfl⟩ | ⟨rfl, rfl⟩ | ⟨rfl, rfl⟩
    · have e1 : wrap64 (0 + (n : Int)) = (n : Int) := by unfold wrap64; omega
      ((try clear hF); refine hfI ?_; intro hF)
      go_wp2_with (first | (refine hab ?_; (try clear hF); clear hS; intro wk hS; (try simp only [List.set_cons_zero, List.set_cons_succ, heap_size, heap_set_size] at hS); ((try clear hF); refine hfI ?_; intro hF)) | fail)
      go_roundw
      case rel => exact ⟨1, by go_num, .inr (.inl ⟨rfl, by go_simp⟩), hS⟩
      case measure => simp [intOf]
    · have e1 : IntKind.i64.wrap ((n : Int) + (k : Int)) = (n : Int) + (k : Int) := IntWalk.i64_in _ (by omega)
      have e2 : ¬ ((n : Int) + (k : Int) < 0) := by omega
      ((try clear hF); refine hfI ?_; intro hF)
      go_wp2_with (first | (refine hab ?_; (try clear hF); clear hS; intro wk hS; (try simp only [List.set_cons_zero, List.set_cons_succ, heap_size, heap_set_size] at hS); ((try clear hF); refine hfI ?_; intro hF)) | fail)
      go_roundw
      case rel => exact ⟨2, by go_num, .inr (.inr ⟨rfl, by go_simp⟩), hS⟩
      case measure => simp [intOf]
    · skip
      ((try clear hF); refine hfI ?_; intro hF)
      go_wp2_with (first | (refine hab ?_; (try clear hF); clear hS; intro wk hS; (try simp only [List.set_cons_zero, List.set_cons_succ, heap_size, heap_set_size] at hS); ((try clear hF); refine hfI ?_; intro hF)) | (go_at_call 125; (with_reducible refine Calls.mono (HG.out _) ?_); rintro e wk ⟨g, cap, rfl, hW⟩; replace hS := hS.join hW; clear hW; simp only [List.cons_append, List.nil_append] at hS; ((try clear hF); refine hfI ?_; intro hF)))
      go_loopw [27, 6] (fun i s wr => ∃ (j q : Nat) (B' : Option Addr) (cb : Nat) (xs : List Int), i = .int .i64 j ∧ s = .slice B' q cb ∧ (j = 0 ∧ q = 0 ∧ xs = [] ∨ j = 1 ∧ q = n ∧ xs = l ∨ j = 2 ∧ q = n + k ∧ xs = l ++ m) ∧ Hp w.heap.size w wr [.row 3 1 B' q cb (intsV xs)]) (fun i _ _ => 2 - (intOf i).toNat)
      case atStart => exact ⟨0, 0, _, cap, [], rfl, rfl, .inl ⟨rfl, rfl, rfl⟩, hS⟩
      case round =>
        clear hS
        obtain ⟨j, q, B', cb, xs, rfl, rfl, hj, hS⟩ := hrel
        rcases hj with ⟨rfl, rfl, rfl⟩ | ⟨rfl, rfl, rfl⟩ | ⟨rfl, rfl, rfl⟩
        · ((try clear hF); refine hfI ?_; intro hF)
          go_wp2_with (first | (refine hab ?_; (try clear hF); clear hS; intro wk hS; (try simp only [List.set_cons_zero, List.set_cons_succ, heap_size, heap_set_size] at hS); ((try clear hF); refine hfI ?_; intro hF)) | (at_builtin; refine wpList_append_ri rfl (.tmp 31) (.tmp 32) rfl hS rfl (HR.out.ext hS.ext) hn hz rfl (by omega) ?_; clear hS; intro Af capf wk hS; ((try clear hF); refine hfI ?_; intro hF)))
          go_roundw
          case rel => exact ⟨1, n, Af, capf, l, by go_num, rfl, .inr (.inl ⟨rfl, rfl, rfl⟩), by rw [Nat.zero_add] at hS; exact hS⟩
          case measure => simp [intOf]
        · ((try clear hF); refine hfI ?_; intro hF)
          go_wp2_with (first | (refine hab ?_; (try clear hF); clear hS; intro wk hS; (try simp only [List.set_cons_zero, List.set_cons_succ, heap_size, heap_set_size] at hS); ((try clear hF); refine hfI ?_; intro hF)) | (at_builtin; refine wpList_append_ri rfl (.tmp 31) (.tmp 32) rfl hS rfl (HR2.out.ext hS.ext) hk hz2 rfl (by omega) ?_; clear hS; intro Af capf wk hS; ((try clear hF); refine hfI ?_; intro hF)))
          go_roundw
          case rel => exact ⟨2, _, Af, capf, _, by go_num, rfl, .inr (.inr ⟨rfl, rfl, rfl⟩), hS⟩
          case measure => simp [intOf]
        · ((try clear hF); refine hfI ?_; intro hF)
          go_wp2_with (first | (refine hab ?_; (try clear hF); clear hS; intro wk hS; (try simp only [List.set_cons_zero, List.set_cons_succ, heap_size, heap_set_size] at hS); ((try clear hF); refine hfI ?_; intro hF)) | fail)
          go_ret
          exact ⟨B', cb, rfl, hS⟩
def PredI (w0 : World) (g : Nat) (lb : Array Value) (p : Int → Bool) : Prop :=
  ∀ W, Ext w0 W → ∀ x : Int, Calls Tryz.prog g (#[.int .i64 x] ++ lb) W fun e w' => e = .returned (.bool (p x)) ∧ Ext W w'
theorem PredI.at {w0 : World} {g : Nat} {lb : Array Value} {p : Int → Bool} (h : PredI w0 g lb p) (W : World) (hx : Ext w0 W) (x : Int) : Calls Tryz.prog g (#[.int .i64 x] ++ lb) W fun e w' => e = .returned (.bool (p x)) ∧ Ext W w' := h W hx x
set_option maxRecDepth 100000 in
set_option maxHeartbeats 8000000 in
theorem iindexFunc_any (l : List Int) (A : Option Addr) (n cap : Nat) (g : Nat) (lb : Array Value) (p : Int → Bool) (w : World) (hn : l.length = n) (hr : RI w A l) (hl : n ≤ 1000000) (eg : ∀ args w, (callFunc g args).run Tryz.prog w = .ok (.enter g args) w) (hp : PredI w g lb p) :
    Calls Tryz.prog 123 #[.slice A n cap, .func (.func g) #[] lb] w fun e w' => e = .returned (.int .i64 (idxI p 0 l)) ∧ Ext w w' := by
  have Hn := Lib.hid hn.symm
  clear hn
  have HP := Lib.hid hp
  clear hp
  have hS := Hp.init w
  have hR := Reads.nil w
  go_enter Tryz.func123, Tryz.ntmps123
  go_wp2_with (first | (refine hab ?_; (try clear hF); clear hS; intro wk hS; (try simp only [List.set_cons_zero, List.set_cons_succ, heap_size, heap_set_size] at hS); ((try clear hF); refine hfI ?_; intro hF)) | fail)
  go_loopw [8, 5] (fun i _ wr => ∃ k : Nat, i = .int .i64 k ∧ k ≤ n ∧ Hid (idxI p 0 l = idxI p k (l.drop k)) ∧ Hp w.heap.size w wr []) (fun i _ _ => n - (intOf i).toNat)
  case atStart => exact ⟨0, rfl, Nat.zero_le _, Lib.hid rfl, hS⟩
  case round =>
    clear hS
    obtain ⟨k, rfl, hk, hf, hS⟩ := hrel
    by_cases hlt : k < n
    · have hlt' : k < l.length := by rw [← Hn.out]; exact hlt
      obtain ⟨x, hx'⟩ : ∃ x, l[k]? = some x := ⟨l[k], List.getElem?_eq_getElem hlt'⟩
      obtain ⟨b, o, rfl, c0⟩ := hr k x hx'
      have hR := Reads.cell c0 (Reads.nil w)
      have HD := Lib.hid (dropI_cons hx')
      clear hx' hlt' c0 hr
      ((try clear hF); refine hfI ?_; intro hF)
      go_wp2_with (first | (refine hab ?_; (try clear hF); clear hS; intro wk hS; (try simp only [List.set_cons_zero, List.set_cons_succ, heap_size, heap_set_size] at hS); ((try clear hF); refine hfI ?_; intro hF)) | ((with_reducible refine (HP.out.at _ hS.ext x).mono ?_); rintro e wk ⟨rfl, hX⟩; replace hS := hS.step hX; clear hX; ((try clear hF); refine hfI ?_; intro hF)))
      · go_ret
        refine ⟨?_, hS.ext⟩
        have hc : p x = true := by assumption
        rw [hf.out, HD.out, idxI, if_pos hc]; first | done | rfl
      · go_roundw
        case rel =>
          have hc : p x = false := by assumption
          exact ⟨k + 1, by go_num, by omega, Lib.hid (by rw [hf.out, HD.out, idxI, if_neg (by rw [hc]; simp)]), hS⟩
        case measure => simp [intOf]; omega
    · obtain rfl : n = k := by omega
      ((try clear hF); refine hfI ?_; intro hF)
      go_wp2_with (first | (refine hab ?_; (try clear hF); clear hS; intro wk hS; (try simp only [List.set_cons_zero, List.set_cons_succ, heap_size, heap_set_size] at hS); ((try clear hF); refine hfI ?_; intro hF)) | fail)
      go_ret
      exact ⟨by rw [hf.out, Hn.out, List.drop_length]; rfl, hS.ext⟩
set_option maxRecDepth 100000 in
theorem icontainsFunc_any (l : List Int) (A : Option Addr) (n cap : Nat) (g : Nat) (lb : Array Value) (p : Int → Bool) (w : World) (hn : l.length = n) (hr : RI w A l) (hl : n ≤ 1000000) (eg : ∀ args w, (callFunc g args).run Tryz.prog w = .ok (.enter g args) w) (hp : PredI w g lb p) :
    Calls Tryz.prog 95 #[.slice A n cap, .func (.func g) #[] lb] w fun e w' => e = .returned (.bool (l.any p)) ∧ Ext w w' := by
  have hI := fun (W : World) (hx : Ext w W) => iindexFunc_any l A n cap g lb p W hn (hr.ext hx) hl eg (fun W' hx' => hp W' (hx.trans hx'))
  have HI := Lib.hid hI
  have HA := Lib.hid (idxI_any p l 0)
  clear hI hr hp
  have hS := Hp.init w
  have hR := Reads.nil w
  go_enter Tryz.func95, Tryz.ntmps95
  go_wp2_with (first | (refine hab ?_; (try clear hF); clear hS; intro wk hS; (try simp only [List.set_cons_zero, List.set_cons_succ, heap_size, heap_set_size] at hS); ((try clear hF); refine hfI ?_; intro hF)) | (go_at_call 123; (with_reducible refine (HI.out _ hS.ext).mono ?_); rintro e wk ⟨rfl, hX⟩; replace hS := hS.step hX; clear hX; ((try clear hF); refine hfI ?_; intro hF)))
  go_ret
  exact ⟨by rw [HA.out]; first | done | rfl, hS.ext⟩
end Go.Proofs.YtlgidjanmaijaaaGreatDoor

/- In a round of a range over a function, and in an iterator: regions and appends under Hp. For any program. -/
namespace Go.Proofs.YtlgidjanmaijaaaGreatDoor
set_option linter.all false
open Go.RowKit
attribute [local go_sem] Oper.semAt_some
/-- a fence that lets all through: calls go as everywhere -/
structure Open (F : Fence) : Prop where
  fn : ∀ f, F.fn f
  depth : F.depth = none
  calls : ∀ {n : Nat} {P : Program} {f : FuncId} {args : Array Value} {w : World} {R : Ending → World → Prop}, Calls P f args w R → CallsIn F n P f args w R
  rows : ∀ {n : Nat} {P : Program} {row : String} {args : Array Value} {w : World} {R : Value → World → Prop}, Rows P row args w R → RowsIn F n P row args w R
theorem open_wide : Open Fence.wide where
  fn := fun _ => trivial
  depth := rfl
  calls := fun h => callsIn_wide.2 h
  rows := fun h c cs _ => let ⟨v, w', r, s⟩ := h c cs; ⟨v, w', r, stepsIn_wide.2 s⟩
theorem Open.inRound {F : Fence} (h : Open F) (l : Nat) : Open (F.inRound l) where
  fn := h.fn
  depth := h.depth
  calls := fun k => CallsIn.inRound l (h.calls k)
  rows := fun k => h.rows (F := F) k
section
variable {F : Fence} {n : Nat} {P : Program} {ops : Array Oper} {B : Nat} {w0 : World} {L : List Item}
def noDefer (o : Oper) : Bool := match o.op with | .defer _ => false | _ => true
theorem operIn_of (hF : Open F) {o : Oper} (hnd : noDefer o = true) {a : Act} {w : World} {K K' : Act → World → Prop} {Q Q' : Exit → Act → World → Prop} (hK : ∀ a w, K a w → K' a w) (hQ : ∀ e a w, Q e a w → e = .normal) (h : o.wp P a w K Q) : o.wpIn F n P a w K' Q' := by
  have hs : o.semAt F.round a.eval = execOp a.eval o := by
    refine Oper.semAt_eq _ _ _ fun c e => ?_
    unfold noDefer at hnd
    rw [e] at hnd
    cases hnd
  refine ⟨fun f _ => hF.fn f, ?_⟩
  rw [hs]
  unfold Oper.wp at h
  generalize (execOp a.eval o).run P w = r at *
  cases r with
  | ok x w' =>
    cases x <;> simp only [Oper.upon, Oper.uponIn] at h ⊢
    case value => exact hK _ _ h
    case skip => exact hK _ _ h
    case defer => exact hK _ _ h
    case enter => exact ⟨fun hd => (by rw [hF.depth] at hd; cases hd), hF.calls (h.mono fun e w'' he => by
      cases e with
      | returned v => exact hK _ _ he
      | panicked chain => exact absurd (hQ _ _ _ he) (by simp)
      | outgrown => obtain ⟨a2, w2, h2⟩ := he; exact absurd (hQ _ _ _ h2) (by simp))⟩
    case row => exact ⟨fun hd => (by rw [hF.depth] at hd; cases hd), hF.rows (fun c cs => let ⟨v, w2, r, s⟩ := h c cs; ⟨v, w2, hK _ _ r, s⟩)⟩
  | halt x w' =>
    cases x <;> simp only [Oper.upon, Oper.uponIn] at h ⊢
    case panic => exact absurd (hQ _ _ _ h) (by simp)
theorem anyIn_of (hF : Open F) {Q : Exit → Act → World → Prop} (hnd : ops.all noDefer = true) : ∀ (fuel : Nat) (listed : Array Bool) (a : Act) (w : World), wpAny P .any ops (fun e a w => e = .normal ∧ Q e a w) fuel listed a w → wpAnyIn F n P .any ops Q fuel listed a w
  | 0, listed, a, w, h => ⟨h.1, h.2.2⟩
  | fuel + 1, listed, a, w, h => by
    refine ⟨fun hr => (h.1 hr).2, fun i hi => ?_⟩
    have hw := h.2 i hi
    unfold wpOp at hw
    unfold wpOpIn
    cases ho : ops[i]? with
    | none => rw [ho] at hw; exact anyIn_of hF hnd fuel _ _ _ hw
    | some o =>
      rw [ho] at hw
      simp only at hw ⊢
      have hd : noDefer o = true := by
        have := Array.all_eq_true_iff_forall_mem.1 hnd o (Array.mem_of_getElem? ho)
        exact this
      split
      · rename_i hwt
        rw [if_pos hwt] at hw
        rcases hw with hw | hw
        · exact operIn_of hF hd (fun a w h => anyIn_of hF hnd fuel _ a w h) (fun e a w h => h.1) hw
        · obtain ⟨_, a2, w2, h2, _⟩ := hw
          cases h2
      · rename_i hwt
        rw [if_neg hwt] at hw
        exact ⟨fun f _ => hF.fn f, anyIn_of hF hnd fuel _ _ _ hw⟩
theorem wpIn_region_braidz_hp (hF : Open F) {a : Act} {w : World} {Q : Exit → Act → World → Prop} {id : Nat} {l : List Oper} (ms : List Mark) (z : Nat) (LF : List Item) (hm : P.follows .mixedOrders = true) (hnd : l.toArray.all noDefer = true) (hlen : l.length = ms.length) (hok : braidZ l.toArray (mkOf ms) z = true)
    (hS : Hp B w0 w L) (hLF : ∀ w, Hp B w0 w L → Hp B w0 w LF)
    (h : Walk P l.toArray (fun W => Hp B w0 W LF) (fun a' => BraidZ P l.toArray (fun W => Hp B w0 W LF) (fun a w => Q .normal a w) z (braidsOf ms).length (braidsOf ms) a' (fun W => Hp B w0 W L)) ms l a) : (Code.region id l.toArray true).wpIn F n P Q a w :=
  wpIn_region_any hm (anyIn_of hF hnd _ _ _ _ (any_region_braidz (Q := fun e a w => e = .normal ∧ Q e a w) ms z (fun W => Hp B w0 W LF) (fun _ _ h => ⟨rfl, h⟩) hlen hok hS (fun _ _ h hx => h.step hx) hLF h))

theorem niLa {W : World} {o : Obj} {Q : Exit → Act → World → Prop} {l : List Oper} {a : Act} (k : ∀ w, Hp B w0 w L → wpListIn F n P ops Q l a w) (h : Hp B w0 (W.alloc o) L := by (repeat (first | with_reducible exact hS | with_reducible apply Hp.drew | with_reducible apply Hp.alloc | with_reducible apply Hp.put | with_reducible apply atS | with_reducible exact at0 | with_reducible exact at1 | with_reducible exact at2 | with_reducible exact at3 | with_reducible exact at4 | with_reducible exact at5))) : wpListIn F n P ops Q l a (W.alloc o) := k _ h
theorem niLs {W : World} {p : Addr} {u : Value} {Q : Exit → Act → World → Prop} {l : List Oper} {a : Act} (k : ∀ w, Hp B w0 w L → wpListIn F n P ops Q l a w) (h : Hp B w0 (W.setCell p u) L := by (repeat (first | with_reducible exact hS | with_reducible apply Hp.drew | with_reducible apply Hp.alloc | with_reducible apply Hp.put | with_reducible apply atS | with_reducible exact at0 | with_reducible exact at1 | with_reducible exact at2 | with_reducible exact at3 | with_reducible exact at4 | with_reducible exact at5))) : wpListIn F n P ops Q l a (W.setCell p u) := k _ h
theorem niLd {W : World} {Q : Exit → Act → World → Prop} {l : List Oper} {a : Act} (k : ∀ w, Hp B w0 w L → wpListIn F n P ops Q l a w) (h : Hp B w0 W.drew L := by (repeat (first | with_reducible exact hS | with_reducible apply Hp.drew | with_reducible apply Hp.alloc | with_reducible apply Hp.put | with_reducible apply atS | with_reducible exact at0 | with_reducible exact at1 | with_reducible exact at2 | with_reducible exact at3 | with_reducible exact at4 | with_reducible exact at5))) : wpListIn F n P ops Q l a W.drew := k _ h
theorem niCa {W : World} {o : Obj} {c : Code} {Q : Exit → Act → World → Prop} {a : Act} (k : ∀ w, Hp B w0 w L → Code.wpIn F n P c Q a w) (h : Hp B w0 (W.alloc o) L := by (repeat (first | with_reducible exact hS | with_reducible apply Hp.drew | with_reducible apply Hp.alloc | with_reducible apply Hp.put | with_reducible apply atS | with_reducible exact at0 | with_reducible exact at1 | with_reducible exact at2 | with_reducible exact at3 | with_reducible exact at4 | with_reducible exact at5))) : Code.wpIn F n P c Q a (W.alloc o) := k _ h
theorem niCs {W : World} {p : Addr} {u : Value} {c : Code} {Q : Exit → Act → World → Prop} {a : Act} (k : ∀ w, Hp B w0 w L → Code.wpIn F n P c Q a w) (h : Hp B w0 (W.setCell p u) L := by (repeat (first | with_reducible exact hS | with_reducible apply Hp.drew | with_reducible apply Hp.alloc | with_reducible apply Hp.put | with_reducible apply atS | with_reducible exact at0 | with_reducible exact at1 | with_reducible exact at2 | with_reducible exact at3 | with_reducible exact at4 | with_reducible exact at5))) : Code.wpIn F n P c Q a (W.setCell p u) := k _ h
theorem niCd {W : World} {c : Code} {Q : Exit → Act → World → Prop} {a : Act} (k : ∀ w, Hp B w0 w L → Code.wpIn F n P c Q a w) (h : Hp B w0 W.drew L := by (repeat (first | with_reducible exact hS | with_reducible apply Hp.drew | with_reducible apply Hp.alloc | with_reducible apply Hp.put | with_reducible apply atS | with_reducible exact at0 | with_reducible exact at1 | with_reducible exact at2 | with_reducible exact at3 | with_reducible exact at4 | with_reducible exact at5))) : Code.wpIn F n P c Q a W.drew := k _ h
theorem niPa {W : World} {o : Obj} {fn : Func} {R : Ending → World → Prop} {x : Exit} {a : Act} (k : ∀ w, Hp B w0 w L → bodyPostM F n P fn R x a w) (h : Hp B w0 (W.alloc o) L := by (repeat (first | with_reducible exact hS | with_reducible apply Hp.drew | with_reducible apply Hp.alloc | with_reducible apply Hp.put | with_reducible apply atS | with_reducible exact at0 | with_reducible exact at1 | with_reducible exact at2 | with_reducible exact at3 | with_reducible exact at4 | with_reducible exact at5))) : bodyPostM F n P fn R x a (W.alloc o) := k _ h
theorem niPs {W : World} {p : Addr} {u : Value} {fn : Func} {R : Ending → World → Prop} {x : Exit} {a : Act} (k : ∀ w, Hp B w0 w L → bodyPostM F n P fn R x a w) (h : Hp B w0 (W.setCell p u) L := by (repeat (first | with_reducible exact hS | with_reducible apply Hp.drew | with_reducible apply Hp.alloc | with_reducible apply Hp.put | with_reducible apply atS | with_reducible exact at0 | with_reducible exact at1 | with_reducible exact at2 | with_reducible exact at3 | with_reducible exact at4 | with_reducible exact at5))) : bodyPostM F n P fn R x a (W.setCell p u) := k _ h
theorem niPd {W : World} {fn : Func} {R : Ending → World → Prop} {x : Exit} {a : Act} (k : ∀ w, Hp B w0 w L → bodyPostM F n P fn R x a w) (h : Hp B w0 W.drew L := by (repeat (first | with_reducible exact hS | with_reducible apply Hp.drew | with_reducible apply Hp.alloc | with_reducible apply Hp.put | with_reducible apply atS | with_reducible exact at0 | with_reducible exact at1 | with_reducible exact at2 | with_reducible exact at3 | with_reducible exact at4 | with_reducible exact at5))) : bodyPostM F n P fn R x a W.drew := k _ h
theorem niKa {W : World} {o : Obj} {f : FuncId} {R : Ending → World → Prop} {args : Array Value} (k : ∀ w, Hp B w0 w L → CallsIn F n P f args w R) (h : Hp B w0 (W.alloc o) L := by (repeat (first | with_reducible exact hS | with_reducible apply Hp.drew | with_reducible apply Hp.alloc | with_reducible apply Hp.put | with_reducible apply atS | with_reducible exact at0 | with_reducible exact at1 | with_reducible exact at2 | with_reducible exact at3 | with_reducible exact at4 | with_reducible exact at5))) : CallsIn F n P f args (W.alloc o) R := k _ h
theorem niKs {W : World} {p : Addr} {u : Value} {f : FuncId} {R : Ending → World → Prop} {args : Array Value} (k : ∀ w, Hp B w0 w L → CallsIn F n P f args w R) (h : Hp B w0 (W.setCell p u) L := by (repeat (first | with_reducible exact hS | with_reducible apply Hp.drew | with_reducible apply Hp.alloc | with_reducible apply Hp.put | with_reducible apply atS | with_reducible exact at0 | with_reducible exact at1 | with_reducible exact at2 | with_reducible exact at3 | with_reducible exact at4 | with_reducible exact at5))) : CallsIn F n P f args (W.setCell p u) R := k _ h
theorem niKd {W : World} {f : FuncId} {R : Ending → World → Prop} {args : Array Value} (k : ∀ w, Hp B w0 w L → CallsIn F n P f args w R) (h : Hp B w0 W.drew L := by (repeat (first | with_reducible exact hS | with_reducible apply Hp.drew | with_reducible apply Hp.alloc | with_reducible apply Hp.put | with_reducible apply atS | with_reducible exact at0 | with_reducible exact at1 | with_reducible exact at2 | with_reducible exact at3 | with_reducible exact at4 | with_reducible exact at5))) : CallsIn F n P f args W.drew R := k _ h
/-- what is no cells, from B1 on, as things -/
theorem Hp.others {w : World} (B1 : Nat) (hB : B ≤ B1) (h : Hp B w0 w L) (hL : ∀ x ∈ L, ∀ g, x.block = some g → ∃ o, w.heap[g]? = some o ∧ o.isCells = true) :
    ∃ K : List Item, Hp B w0 w (L ++ K) ∧ ∀ (w' : World) (M : List Item), Hp B w0 w' M → w.heap.size ≤ w'.heap.size → (∀ x ∈ K, x ∈ M) → KeepsFrom B1 w w' := by
  let K : List Item := (List.range w.heap.size).filterMap fun k => if B1 ≤ k then (match w.heap[k]? with | some o => if o.isCells then none else some (.ob k o) | none => none) else none
  have hmem : ∀ x ∈ K, ∃ k o, x = .ob k o ∧ B1 ≤ k ∧ w.heap[k]? = some o ∧ o.isCells = false := fun x hx => by
    obtain ⟨k, _, hk⟩ := List.mem_filterMap.1 hx
    split at hk
    · rename_i hb
      split at hk
      · rename_i o ho
        split at hk
        · cases hk
        · rename_i hc
          exact ⟨k, o, (Option.some.inj hk).symm, hb, ho, by simpa using hc⟩
      · cases hk
    · cases hk
  refine ⟨K, ⟨h.below, h.base, List.pairwise_append.2 ⟨h.apart, ?_, ?_⟩, ?_⟩, ?_⟩
  · refine List.Pairwise.filterMap _ (R := fun a b => a ≠ b) ?_ (List.nodup_range)
    intro a b hab x hx y hy
    right
    have e1 : x.block = some a := by
      split at hx
      · split at hx
        · split at hx
          · cases hx
          · cases hx; rfl
        · cases hx
      · cases hx
    have e2 : y.block = some b := by
      split at hy
      · split at hy
        · split at hy
          · cases hy
          · cases hy; rfl
        · cases hy
      · cases hy
    rw [e1, e2]
    simpa using hab
  · intro x hx y hy
    obtain ⟨k, o, rfl, _, ho, hc⟩ := hmem y hy
    cases hb : x.block with
    | none => exact .inl hb
    | some g =>
      right
      rw [hb]
      intro e
      obtain ⟨o2, ho2, hc2⟩ := hL x hx g hb
      have : g = k := by simpa [Item.block] using e
      subst this
      rw [ho] at ho2
      cases ho2
      rw [hc] at hc2
      cases hc2
  · intro x hx
    rcases List.mem_append.1 hx with hx | hx
    · exact h.own x hx
    · obtain ⟨k, o, rfl, hk, ho, _⟩ := hmem x hx
      exact ⟨Nat.le_trans hB hk, ho⟩
  · intro w' M hM hsz hK
    refine ⟨hsz, fun k o hk ho hc => ?_⟩
    have hx : Item.ob k o ∈ K := by
      refine List.mem_filterMap.2 ⟨k, by simpa using (Array.getElem?_eq_some_iff.1 ho).1, ?_⟩
      simp only [if_pos hk, ho, hc]
      rfl
    exact (hM.own _ (hK _ hx)).2
end
end Go.Proofs.YtlgidjanmaijaaaGreatDoor

/- A walk with things that are no cells (loops, what waits): what is made of cells lies as it lay. For any program. -/
namespace Go.Proofs.YtlgidjanmaijaaaGreatDoor
set_option linter.all false
open Go.RowKit
/-- a thing that is made of cells -/
def CellI : Item → Prop
  | .blk .. => True
  | .row .. => True
  | _ => False
theorem Hp.cellsOf {B : Nat} {w0 w : World} {L : List Item} (h : Hp B w0 w L) (hL : ∀ x ∈ L, CellI x) : ∀ x ∈ L, ∀ g, x.block = some g → ∃ o, w.heap[g]? = some o ∧ o.isCells = true := fun x hx g hg => by
  have ho := h.own x hx
  have hc := hL x hx
  cases x with
  | blk g' cs t =>
    obtain rfl : g' = g := by simpa [Item.block] using hg
    exact ⟨_, ho.2, rfl⟩
  | row e size A n cap xs =>
    rcases (show w.ownsRow B e size (.slice A n cap) n xs from ho).2 with ⟨hv, _⟩ | ⟨g', cp, cur, hv, _, hh, _⟩
    · obtain ⟨rfl, _⟩ : A = none ∧ _ := by simpa using hv
      simp [Item.block] at hg
    · obtain ⟨rfl, _⟩ : A = some ⟨g', 0, none⟩ ∧ _ := by simpa using hv
      obtain rfl : g' = g := by simpa [Item.block] using hg
      exact ⟨_, hh, rfl⟩
  | ob g' o => exact hc.elim
  | mp m o => exact hc.elim
theorem Hp.turnOther {B : Nat} {w0 w w' : World} {L : List Item} {row : Option Nat} (h : Hp B w0 w L) (hL : ∀ x ∈ L, CellI x) (hg : w.grownBy w' row) (hrow : ∀ r, row = some r → B ≤ r ∧ ∃ o : Obj, w.heap[r]? = some o ∧ o.isCells = false) : Hp B w0 w' L :=
  ⟨h.below.grown hg h.base (fun k hk => (hrow k hk).1), Nat.le_trans h.base hg.size, h.apart, fun x hx => (h.own x hx).kept hg (by
    cases hb : x.block with
    | none => exact .inl rfl
    | some g =>
      right
      intro e
      obtain ⟨_, o, ho, hc⟩ := hrow g e.symm
      obtain ⟨o2, ho2, hc2⟩ := h.cellsOf hL x hx g hb
      rw [ho] at ho2
      cases ho2
      rw [hc] at hc2
      cases hc2)⟩
theorem Hp.obj {B : Nat} {w0 w : World} {L : List Item} {D : Nat} {o : Obj} (h : Hp B w0 w L) (hL : ∀ x ∈ L, CellI x) (hB : B ≤ D) (hD : w.heap[D]? = some o) (ho : o.isCells = false) : Hp B w0 w (.ob D o :: L) :=
  h.cons ⟨hB, hD⟩ fun y hy => by
    right
    intro e
    obtain ⟨o2, h2, hc⟩ := h.cellsOf hL y hy D e.symm
    rw [hD] at h2
    cases h2
    rw [ho] at hc
    cases hc
/-- all cells of a block are written, one by one -/
def setCells (w : World) (g : Nat) : Nat → List Value → World
  | _, [] => w
  | j, u :: us => setCells (w.setCell ⟨g, j, none⟩ u) g (j + 1) us
theorem grownBy_row (w : World) (g : Nat) (cs : Array Value) : w.grownBy (w.setRow g cs) (some g) :=
  ⟨rfl, rfl, rfl, by simp, fun k _ hk => setRow_other w g k cs (by simpa using hk)⟩
theorem Hp.putAll {B : Nat} {w0 w : World} {L : List Item} {g : Nat} {cs : List Value} {t : TypeId} {i : Nat} (us : List Value) (h : Hp B w0 w L) (hi : L[i]? = some (.blk g cs t)) : Hp B w0 (w.setRow g us.toArray) (L.set i (.blk g us t)) :=
  ((h.front i hi).turn (y := .blk g us t) (grownBy_row w g us.toArray) (.inr rfl) ⟨(h.front i hi).head.1, setRow_heap w g cs.toArray us.toArray t (0, 0) (h.front i hi).head.2⟩ (.inl rfl)).perm (set_perm L i _ _ hi)
/-- a store of all cells of a block -/
theorem ZStep.storeRow {P : Program} {ops : Array Oper} {F : World → Prop} {zc : Bool} {K : Act → (World → Prop) → Prop} {o : Oper} {a : Act} {B : Nat} {w0 : World} {L : List Item} {i g : Nat} {ty t : TypeId} {x y : Operand} {cs us : List Value}
    (hz : zc = true ∨ ∀ w, Hp B w0 w (L.set i (.blk g us t)) → F w) (hw : Region.wanted o (yielded ops a.tmps) = true) (ho : o.op = .store ty x y) (hx : a.eval x = .pointer (some ⟨g, 0, none⟩)) (hy : a.eval y = .agg us.toArray) (hi : L[i]? = some (.blk g cs t))
    (hsz : (P.info? ty).map (·.size) = some us.toArray.size) (hl : cs.toArray.size = us.toArray.size) (h1 : us.toArray.all (·.oneCell') = true) (h : K (a.put o.dst undef) (fun W => Hp B w0 W (L.set i (.blk g us t)))) : ZStep P ops F zc K o a (fun W => Hp B w0 W L) := by
  refine .inl ⟨hw, fun w hS => ?_⟩
  refine wp_store_row ty x y ho g us.toArray hx hy t cs.toArray (hS.blkAt i hi) hsz hl h1 ?_
  exact ⟨_, hS.putAll us hi, fun _ _ h hx => h.step hx, hz, h⟩
end Go.Proofs.YtlgidjanmaijaaaGreatDoor

/- A range over an iterator that writes a box of its own between the rounds. For any program. -/
namespace Go.Proofs.YtlgidjanmaijaaaGreatDoor
set_option linter.all false
open Go.RowKit
/-- the boxes of an iterator lie as they lay -/
def BoxKeep (bs : List Nat) (W W' : World) : Prop := ∀ b ∈ bs, ∀ t v, Boxed W b t v → Boxed W' b t v
theorem BoxKeep.trans {bs : List Nat} {A B C : World} (h : BoxKeep bs A B) (k : BoxKeep bs B C) : BoxKeep bs A C := fun b hb t v hv => k b hb t v (h b hb t v hv)
theorem BoxKeep.put {bs : List Nat} {W : World} {l : Nat} {o : Obj} (o' : Obj) (hl : W.heap[l]? = some o) (hc : o.isCells = false) : BoxKeep bs W (W.putObj l o') := fun b _ t v hv => by
  have hne : b ≠ l := by
    rintro rfl
    unfold Boxed at hv
    rw [hl] at hv
    cases hv
    cases hc
  exact (World.putObj_heap_other hne).trans hv
/-- an iterator that hands back a row of values, one by one, and writes the box b alone -/
def SeqBox {α : Type} (F : Fence) (n : Nat) (P : Program) (g : Nat) (lb : Array Value) (b : Nat) (bs : List Nat) (enc : α → Value) (xs : List α) (w0 : World) : Prop :=
  ∀ (l : Nat) (J : Nat → World → Prop) (W : World), Below w0.heap.size w0 W → (∀ k A v, J k A → J k (A.setCell ⟨b, 0, none⟩ v)) →
    (∀ k x W1, J k W1 → xs[k]? = some x → YieldAt F (n - 1) P l #[enc x] W1 fun e W' => e = .returned (.bool true) ∧ J (k + 1) W' ∧ BoxKeep bs W1 W') → J 0 W →
    CallsIn F n P g (#[.func (.yield l) #[] #[]] ++ lb) W fun e W' => (∃ v, e = .returned v) ∧ J xs.length W'
theorem setCell_other {W : World} {b k : Nat} {v : Value} (h : k ≠ b) : (W.setCell ⟨b, 0, none⟩ v).heap[k]? = W.heap[k]? := by
  by_cases hk : k < W.heap.size
  · exact (grownBy_setCell' W b v).block k hk (by simpa using h)
  · have h1 : W.heap[k]? = none := by simp; omega
    have h2 : (W.setCell ⟨b, 0, none⟩ v).heap.size = W.heap.size := by unfold World.setCell; split <;> (try split) <;> simp
    rw [h1]; simp; omega
section
variable {F : Fence} {n : Nat} {P : Program}
theorem wpIn_rangeFunc_box {α : Type} {g : Operand} {ps : Array Tmp} {assign body : Code} {Q : Exit → Act → World → Prop} {a : Act} {w : World}
    (hro : F.round = none) (h1 : 1 ≤ n) {gf : Nat} {lb : Array Value} (hg : a.eval g = .func (.func gf) #[] lb) (hFg : F.fn gf) (eg : ∀ args w, (callFunc gf args).run P w = .ok (.enter gf args) w)
    {enc : α → Value} {b : Nat} {bs : List Nat} {xs : List α} {w0 : World} (hseq : SeqBox F (n - 1) P gf lb b bs enc xs w0) (hb0 : Below w0.heap.size w0 w) (hps : ps.size = 1) (hbl : b < w.heap.size)
    (I : Nat → World → Prop) (hIp : ∀ k A l o o', I k A → w.heap.size ≤ l → A.heap[l]? = some o → o.isCells = false → I k (A.putObj l o')) (hIa : ∀ k A o, I k A → I k (A.alloc o)) (hIs : ∀ k A v, I k A → I k (A.setCell ⟨b, 0, none⟩ v)) (h0 : I 0 w) (a₁ : α → Act)
    (hassign : ∀ (l : Nat) (x : α) (W : World) (K : Act → World → Prop), K (a₁ x) W →
      assign.wpIn (F.inRound l) (n - 1 - 1) P (Exit.then K (fun _ _ _ => False)) { tmps := (ps.zip #[enc x]).foldl (fun t (p, v) => t.setIfInBounds p v) a.tmps, defers := [] } W)
    (hbody : ∀ (l k : Nat) (x : α) (W : World), I k W → xs[k]? = some x → body.wpIn (F.inRound l) (n - 1 - 1) P (fun e _ W' => e = .normal ∧ KeepsFrom w.heap.size W W' ∧ BoxKeep bs W W' ∧ I (k + 1) W') (a₁ x) W)
    (hdone : ∀ (D : Nat) (W : World), w.heap.size ≤ D → I xs.length W → W.heap[D]? = some (.deferred (some [])) → Q .normal { a with defers := { target := .collected D, args := #[] } :: a.defers } W) :
    (Code.rangeFunc g ps assign body).wpIn F n P Q a w := by
  refine wpIn_rangeFunc fun fn hfn => ?_
  rw [hro]
  obtain ⟨rec, hrec⟩ : ∃ rec : LoopState → Option Code → Loop, rec = fun st pe => { state := st, pending := pe, fn, tmps := a.tmps, params := ps, assign, body, defers := w.heap.size } := ⟨_, rfl⟩
  obtain ⟨W1, hW1⟩ : ∃ W1, (w.alloc (.deferred (some []))).alloc (.loop (rec .ready none)) = W1 := ⟨_, rfl⟩
  have hL1 : W1.heap[w.heap.size + 1]? = some (.loop (rec .ready none)) := by
    have := World.alloc_heap_new (w.alloc (.deferred (some []))) (.loop (rec .ready none))
    rw [World.size_alloc, hW1] at this
    exact this
  have hD1 : W1.heap[w.heap.size]? = some (.deferred (some [])) := by
    rw [← hW1]
    exact (Below.heap_alloc _ _ _ (by simp)).trans (World.alloc_heap_new w _)
  have hB1 : Below w0.heap.size w0 W1 := by
    rw [← hW1]
    exact hb0.trans ((((Below.refl _ w).alloc (Nat.le_refl _) _).alloc (by simp) _).mono hb0.size)
  refine ⟨w.heap.size + 1, [{ target := .collected w.heap.size, args := #[] }], W1, { target := .fn (.func gf) lb, args := #[.func (.yield (w.heap.size + 1)) #[] #[]] }, W1, gf, #[.func (.yield (w.heap.size + 1)) #[] #[]] ++ lb, W1,
    by rw [← hW1, hrec]; exact run_enterLoop_outer _ _ _ _ _, by simp only [resolve, hg]; simp [go_sem], fun f' hf' => by simp [Target.leads] at hf'; subst hf'; exact hFg, by simp [invoke, go_sem, eg], fun _ => h1, ?_⟩
  refine (hseq (w.heap.size + 1) (fun k W => I k W ∧ W.heap[w.heap.size + 1]? = some (.loop (rec .ready none)) ∧ W.heap[w.heap.size]? = some (.deferred (some []))) W1 hB1
    (fun k A v h => ⟨hIs k A v h.1, (setCell_other (by omega)).trans h.2.1, (setCell_other (by omega)).trans h.2.2⟩) ?_ ⟨by rw [← hW1]; exact hIa _ _ _ (hIa _ _ _ h0), hL1, hD1⟩).mono ?_
  · rintro k x W ⟨hi, hl, hd⟩ hx
    have hlt : w.heap.size + 1 < W.heap.size := (Array.getElem?_eq_some_iff.1 hl).1
    have hy := run_yield (P := P) (args := #[enc x]) hl (by rw [hrec]; simpa using hps.symm)
    rw [hrec] at hy
    refine ⟨fn, _, assign, body, hy, roundIn_of_wpIn hfn (hassign _ x W _ ⟨_, run_beginRound hl (by rw [hrec]), ?_⟩)⟩
    have hl2 : (W.putObj (w.heap.size + 1) (.loop { rec .ready none with state := .busy })).heap[w.heap.size + 1]? = some (.loop { rec .ready none with state := .busy }) := World.putObj_heap_same hlt
    have hd2 : (W.putObj (w.heap.size + 1) (.loop { rec .ready none with state := .busy })).heap[w.heap.size]? = some (.deferred (some [])) := (World.putObj_heap_other (by omega)).trans hd
    refine wpIn_mono (hbody _ k x _ (hIp _ _ _ _ _ hi (by omega) hl rfl) hx) ?_
    rintro e a3 W3 ⟨rfl, hk3, hb3, hi3⟩
    have hl3 := hk3.same _ _ (by omega) hl2 rfl
    have hr := run_endRound (P := P) none hl3
    rw [hrec] at hr
    refine ⟨_, _, hr, rfl, ⟨hIp _ _ _ _ _ hi3 (by omega) hl3 rfl, ?_, (World.putObj_heap_other (by omega)).trans (hk3.same _ _ (Nat.le_refl _) hd2 rfl)⟩, (BoxKeep.put _ hl rfl).trans (hb3.trans (BoxKeep.put _ hl3 rfl))⟩
    rw [hrec]
    exact World.putObj_heap_same (Array.getElem?_eq_some_iff.1 hl3).1
  · rintro e W2 ⟨⟨v, rfl⟩, hi, hl, hd⟩
    refine ⟨none, _, by have := run_endLoop (P := P) hl (by rw [hrec]; simp); rw [hrec] at this; exact this, hdone _ _ (Nat.le_refl _) (hIp _ _ _ _ _ hi (by omega) hl rfl) ((World.putObj_heap_other (by omega)).trans hd)⟩
end
end Go.Proofs.YtlgidjanmaijaaaGreatDoor

/- strings.SplitSeq at a mark of one byte: what it hands back is a range over the pieces, in their order. -/
namespace Go.Proofs.YtlgidjanmaijaaaGreatDoor
set_option linter.unusedSimpArgs false
set_option linter.unusedVariables false
open Go.RowKit
set_option linter.all false
attribute [local go_sem] Oper.semAt_some
def cutS (mk : UInt8) : Nat → ByteArray → List ByteArray
  | 0, s => [s]
  | n + 1, s => if Lib.indexByte s.data.toList mk < 0 then [s] else s.extract 0 (Lib.indexByte s.data.toList mk).toNat :: cutS mk n (s.extract ((Lib.indexByte s.data.toList mk).toNat + 1) s.size)
theorem idx_lt {s : ByteArray} {mk : UInt8} (h : ¬ Lib.indexByte s.data.toList mk < 0) : (Lib.indexByte s.data.toList mk).toNat < s.size := by
  obtain ⟨m, hm⟩ := Int.eq_ofNat_of_zero_le (Int.not_lt.1 h)
  have := (List.getElem?_eq_some_iff.1 (Lib.indexByte_some hm).1).1
  rw [hm]
  simpa using this
theorem cutS_fuel (mk : UInt8) : ∀ (n m : Nat) (s : ByteArray), s.size ≤ n → s.size ≤ m → cutS mk n s = cutS mk m s
  | 0, 0, s, _, _ => rfl
  | 0, m + 1, s, h, _ => by
    by_cases h0 : Lib.indexByte s.data.toList mk < 0
    · rw [cutS, cutS, if_pos h0]
    · have := idx_lt h0; omega
  | n + 1, 0, s, _, h => by
    by_cases h0 : Lib.indexByte s.data.toList mk < 0
    · rw [cutS, cutS, if_pos h0]
    · have := idx_lt h0; omega
  | n + 1, m + 1, s, h, k => by
    by_cases h0 : Lib.indexByte s.data.toList mk < 0
    · rw [cutS, cutS, if_pos h0, if_pos h0]
    · rw [cutS, cutS, if_neg h0, if_neg h0, cutS_fuel mk n m _ (by rw [ByteArray.size_extract]; omega) (by rw [ByteArray.size_extract]; omega)]
/-- a text, cut at each mark -/
def piecesS (mk : UInt8) (s : ByteArray) : List ByteArray := cutS mk s.size s
theorem piecesS_step (mk : UInt8) (s : ByteArray) : piecesS mk s = if Lib.indexByte s.data.toList mk < 0 then [s] else s.extract 0 (Lib.indexByte s.data.toList mk).toNat :: piecesS mk (s.extract ((Lib.indexByte s.data.toList mk).toNat + 1) s.size) := by
  by_cases h0 : Lib.indexByte s.data.toList mk < 0
  · rw [if_pos h0]
    unfold piecesS
    cases hz : s.size with
    | zero => rfl
    | succ n => rw [cutS, if_pos h0]
  · rw [if_neg h0]
    have hl := idx_lt h0
    have e := cutS_fuel mk s.size (s.size - 1 + 1) s (Nat.le_refl _) (by omega)
    unfold piecesS
    rw [e, cutS, if_neg h0, cutS_fuel mk (s.size - 1) _ _ (by rw [ByteArray.size_extract]; omega) (Nat.le_refl _)]
theorem boxed_below {w W : World} {b : Nat} {t : TypeId} {v : Value} (hW : Below w.heap.size w W) (h : Boxed w b t v) : Boxed W b t v := (hW.block b h.lt).trans h
theorem boxed_other {W : World} {b k : Nat} {t : TypeId} {v u : Value} (h : Boxed W k t v) (hne : k ≠ b) : Boxed (W.setCell ⟨b, 0, none⟩ u) k t v := (setCell_other hne).trans h
set_option maxRecDepth 100000 in
set_option maxHeartbeats 8000000 in
theorem split_any (s sep : ByteArray) (w : World) :
    Calls Tryz.prog 51 #[.string s, .string sep] w fun e w' => ∃ bs bp bz : Nat, e = .returned (.func (.func 115) #[] #[.pointer (some ⟨bp, 0, none⟩), .pointer (some ⟨bs, 0, none⟩), .pointer (some ⟨bz, 0, none⟩)]) ∧ Hp w.heap.size w w' [.blk bz [.int .i64 0] 3, .blk bp [.string sep] 9, .blk bs [.string s] 9] := by
  have H2 : ∀ (W : World), Calls Tryz.prog 80 #[.string s, .string sep, .int .i64 0] W fun e w' => ∃ bs bp bz : Nat, e = .returned (.func (.func 115) #[] #[.pointer (some ⟨bp, 0, none⟩), .pointer (some ⟨bs, 0, none⟩), .pointer (some ⟨bz, 0, none⟩)]) ∧ Hp W.heap.size W w' [.blk bz [.int .i64 0] 3, .blk bp [.string sep] 9, .blk bs [.string s] 9] := by
    intro W
    have hS := Hp.init W
    have hR := Reads.nil W
    go_enter Tryz.func80, Tryz.ntmps80
    go_wp2_with (first | ((with_reducible first | refine nhLa ?_ | refine nhLs ?_ | refine nhLd ?_ | refine nhCa ?_ | refine nhCs ?_ | refine nhCd ?_ | refine nhPa ?_ | refine nhPs ?_ | refine nhPd ?_ | refine nhKa ?_ | refine nhKs ?_ | refine nhKd ?_); ((try clear hF); clear hS; intro wk hS; (try simp only [List.set_cons_zero, List.set_cons_succ, heap_size, heap_set_size] at hS); ((try clear hF); (first | have hF := And.intro hS.facts (HRD.out _ (hS.sub (by first | simp | ((repeat (first | exact List.nil_sublist _ | exact List.Sublist.refl _ | with_reducible apply List.Sublist.cons₂ | apply List.Sublist.cons)))))) | have hF := And.intro hS.facts (hR.at hS.ext) | have hF := hS.facts); simp only [HFacts, cellFacts, RFacts, cellOnly, and_true, true_and, Nat.zero_add, Nat.reduceAdd] at hF))) | fail)
    go_ret
    exact ⟨_, _, _, rfl, hS⟩
  have hS := Hp.init w
  have hR := Reads.nil w
  go_enter Tryz.func51, Tryz.ntmps51
  go_wp2_with (first | ((with_reducible first | refine nhLa ?_ | refine nhLs ?_ | refine nhLd ?_ | refine nhCa ?_ | refine nhCs ?_ | refine nhCd ?_ | refine nhPa ?_ | refine nhPs ?_ | refine nhPd ?_ | refine nhKa ?_ | refine nhKs ?_ | refine nhKd ?_); ((try clear hF); clear hS; intro wk hS; (try simp only [List.set_cons_zero, List.set_cons_succ, heap_size, heap_set_size] at hS); ((try clear hF); (first | have hF := And.intro hS.facts (HRD.out _ (hS.sub (by first | simp | ((repeat (first | exact List.nil_sublist _ | exact List.Sublist.refl _ | with_reducible apply List.Sublist.cons₂ | apply List.Sublist.cons)))))) | have hF := And.intro hS.facts (hR.at hS.ext) | have hF := hS.facts); simp only [HFacts, cellFacts, RFacts, cellOnly, and_true, true_and, Nat.zero_add, Nat.reduceAdd] at hF))) | (go_at_call 80; (with_reducible refine Calls.mono (H2 _) ?_); rintro e wk ⟨bs, bp, bz, rfl, hS2⟩; replace hS := hS.join hS2; clear hS2; ((try clear hF); (first | have hF := And.intro hS.facts (HRD.out _ (hS.sub (by first | simp | ((repeat (first | exact List.nil_sublist _ | exact List.Sublist.refl _ | with_reducible apply List.Sublist.cons₂ | apply List.Sublist.cons)))))) | have hF := And.intro hS.facts (hR.at hS.ext) | have hF := hS.facts); simp only [HFacts, cellFacts, RFacts, cellOnly, and_true, true_and, Nat.zero_add, Nat.reduceAdd] at hF)))
  go_ret
  exact ⟨_, _, _, rfl, hS⟩
set_option maxRecDepth 100000 in
set_option maxHeartbeats 8000000 in
theorem split1_box (n : Nat) (hn : 1 ≤ n) (bs bp bz : Nat) (hp : bp ≠ bs) (hz : bz ≠ bs) (c : UInt8) (s : ByteArray) (hs : s.size ≤ 1000000) (w : World)
    (h1 : Boxed w bp 9 (.string ⟨#[c]⟩)) (h2 : Boxed w bs 9 (.string s)) (h3 : Boxed w bz 3 (.int .i64 0)) :
    SeqBox Fence.wide n Tryz.prog 115 #[.pointer (some ⟨bp, 0, none⟩), .pointer (some ⟨bs, 0, none⟩), .pointer (some ⟨bz, 0, none⟩)] bs [bp, bs, bz] Value.string (piecesS c s) w := by
  intro l J W hW hJs hY h0
  replace h1 := boxed_below hW h1
  replace h2 := boxed_below hW h2
  replace h3 := boxed_below hW h3
  have hc1 : (⟨#[c]⟩ : ByteArray).size = 1 := rfl
  refine callsIn_of_wp Tryz.func115 rfl trivial ?_ rfl
  simp only [Tryz.ntmps115, List.size_toArray, List.length_cons, List.length_nil, Nat.reduceAdd, Nat.reduceSub, Array.replicate_succ, Array.replicate_zero, List.push_toArray, List.append_toArray, List.nil_append, List.cons_append]
  have a1 := h1.cell
  have a2 := h2.cell
  have a3 := h3.cell
  gi_wp2
  gi_loopw [7] (fun _ wr => ∃ (k : Nat) (s' : ByteArray), Hid (k + (piecesS c s').length = (piecesS c s).length ∧ ∀ j x, (piecesS c s')[j]? = some x → (piecesS c s)[k + j]? = some x) ∧ s'.size ≤ 1000000 ∧ J k wr ∧ Boxed wr bp 9 (.string ⟨#[c]⟩) ∧ Boxed wr bs 9 (.string s') ∧ Boxed wr bz 3 (.int .i64 0))
    (fun _ wr => match wr.cell? ⟨bs, 0, none⟩ with | some (.string t) => t.size | _ => 0)
  case atStart => exact ⟨0, s, Lib.hid ⟨by omega, fun j x h => by rwa [Nat.zero_add]⟩, hs, h0, h1, h2, h3⟩
  case round =>
    clear h0 h1 h2 h3 a1 a2 a3 hW
    obtain ⟨k, s', HP, hs', hJ, h1, h2, h3⟩ := hrel
    have a1 := h1.cell
    have a2 := h2.cell
    have a3 := h3.cell
    have HST := Lib.hid (piecesS_step c s')
    obtain ⟨i, hi⟩ : ∃ i, Lib.indexByte s'.data.toList c = i := ⟨_, rfl⟩
    have HI := Lib.hid (fun (X : World) => show Calls Tryz.prog 78 #[.string s', .string ⟨#[c]⟩] X fun e w' => e = .returned (.int .i64 i) ∧ w' = X from by rw [← hi]; exact Tryz.strings_Index_one s' c X)
    by_cases hneg : i < 0
    · have hx := HP.out.2 0 s' (by rw [HST.out, if_pos (by rw [hi]; exact hneg)]; rfl)
      have hl : k + 1 = (piecesS c s).length := by rw [← HP.out.1, HST.out, if_pos (by rw [hi]; exact hneg)]; rfl
      obtain ⟨fn, tmps, assign, body, hy, hR⟩ := hY k s' _ hJ hx
      clear hY hi HST HP hx
      gi_wp2_with (refine ⟨trivial, ?_⟩; gi_at_call 78; refine CallsIn.mono (open_wide.calls (HI.out _)) ?_; rintro e wk ⟨rfl, rfl⟩)
      refine hR.mono ?_
      rintro e W3 ⟨rfl, hJ3, hk3⟩
      gi_wp2
      go_end0
      exact ⟨⟨_, rfl⟩, by rw [← hl]; exact hJ3⟩
    · obtain ⟨m, rfl⟩ := Int.eq_ofNat_of_zero_le (Int.not_lt.1 hneg)
      have hm : m < s'.size := by have := idx_lt (s := s') (mk := c) (by rw [hi]; exact hneg); rw [hi] at this; simpa using this
      have HS2 := Lib.hid (show piecesS c s' = s'.extract 0 m :: piecesS c (s'.extract (m + 1) s'.size) by rw [HST.out, if_neg (by rw [hi]; exact hneg), hi]; simp)
      have hx := HP.out.2 0 (s'.extract 0 m) (by rw [HS2.out]; rfl)
      have HP2 := Lib.hid (show (k + 1) + (piecesS c (s'.extract (m + 1) s'.size)).length = (piecesS c s).length ∧ ∀ j x, (piecesS c (s'.extract (m + 1) s'.size))[j]? = some x → (piecesS c s)[k + 1 + j]? = some x by
        refine ⟨by have := HP.out.1; rw [HS2.out, List.length_cons] at this; omega, fun j x h => ?_⟩
        rw [show k + 1 + j = k + (j + 1) by omega]
        exact HP.out.2 (j + 1) x (by rw [HS2.out]; simpa using h))
      obtain ⟨fn, tmps, assign, body, hy, hR⟩ := hY k _ _ hJ hx
      have hz2 : (s'.extract (m + 1) s'.size).size = s'.size - (m + 1) := by rw [ByteArray.size_extract]; omega
      have hw0 : IntKind.i64.wrap (m : Int) = (m : Int) := IntWalk.i64_in _ (by omega)
      have hw1 : IntKind.i64.wrap ((m : Int) + 1) = ((m + 1 : Nat) : Int) := by rw [IntWalk.i64_in _ (by omega)]; omega
      clear hY hi HST HP hx HS2
      gi_wp2_with (refine ⟨trivial, ?_⟩; gi_at_call 78; refine CallsIn.mono (open_wide.calls (HI.out _)) ?_; rintro e wk ⟨rfl, rfl⟩)
      refine hR.mono ?_
      rintro e W3 ⟨rfl, hJ3, hk3⟩
      have A2 := Lib.hid h2.cell
      replace h1 := hk3 bp (by simp) _ _ h1
      replace h2 := hk3 bs (by simp) _ _ h2
      replace h3 := hk3 bz (by simp) _ _ h3
      clear a1 a2 a3
      have a1 := h1.cell
      have a2 := h2.cell
      have a3 := h3.cell
      have f2 := h2.frozen
      gi_wp2
      go_roundw
      case rel => exact ⟨k + 1, _, HP2, by omega, hJs _ _ _ hJ3, boxed_other h1 hp, h2.set _, boxed_other h3 hz⟩
      case measure =>
        rw [(Boxed.set (.string (s'.extract (m + 1) s'.size)) h2).cell, A2.out]
        show (s'.extract (m + 1) s'.size).size < s'.size
        omega
end Go.Proofs.YtlgidjanmaijaaaGreatDoor

/- Which texts a value may have: what the library's search for a letter finds. Plain. -/
namespace Go.Proofs.YtlgidjanmaijaaaGreatDoor
set_option linter.all false

/-- a letter that may not be -/
def badL (r : Nat) : Bool := decide (r < 32) || decide (126 < r) || decide (r = 39)
/-- all letters of a text may be -/
def okText (s : ByteArray) : Bool := s.data.toList.all fun c => !badL c.toNat

theorem idx_from (s : ByteArray) : ∀ (f pos : Nat), s.size ≤ pos + f →
    (Lib.idxFuncFrom badL true s f pos < 0 ↔ ∀ j (h : j < s.size), pos ≤ j → badL (s[j]'h).toNat = false) := by
  intro f
  induction f with
  | zero =>
    intro pos hp
    simp only [Lib.idxFuncFrom]
    constructor
    · intro _ j h hj; omega
    · intro _; omega
  | succ f ih =>
    intro pos hp
    unfold Lib.idxFuncFrom
    by_cases hps : pos < s.size
    · rw [if_pos hps]
      by_cases ha : (s[pos]'hps).toNat < 128
      · rw [decode_ascii s pos hps ha]
        cases hb : badL (s[pos]'hps).toNat with
        | true =>
          simp only [if_true]
          constructor
          · intro h; omega
          · intro h; have := h pos hps (Nat.le_refl _); rw [hb] at this; cases this
        | false =>
          simp only [Bool.false_eq_true, if_false]
          rw [ih (pos + 1) (by omega)]
          constructor
          · intro h j hj hpj
            rcases Nat.eq_or_lt_of_le hpj with rfl | hlt
            · exact hb
            · exact h j hj hlt
          · intro h j hj hpj; exact h j hj (by omega)
      · have hd := decode_high s pos hps (by omega)
        have h1 : badL (Utf8.decode s pos).1 = true := by
          have := hd.1
          simp [badL]; omega
        have h2 : badL (s[pos]'hps).toNat = true := by simp [badL]; omega
        rw [if_pos h1]
        constructor
        · intro h; omega
        · intro h; have := h pos hps (Nat.le_refl _); rw [h2] at this; cases this
    · rw [if_neg hps]
      constructor
      · intro _ j h hj; omega
      · intro _; omega
theorem idx_ok (s : ByteArray) : decide (Lib.idxFunc badL true s < 0) = okText s := by
  rw [Bool.eq_iff_iff]
  rw [decide_eq_true_eq, Lib.idxFunc, idx_from s s.size 0 (by omega)]
  unfold okText
  rw [List.all_eq_true]
  constructor
  · intro h c hc
    obtain ⟨j, hj, rfl⟩ := List.getElem_of_mem hc
    have hb := h j (by simpa using hj) (Nat.zero_le _)
    have e : s.data.toList[j] = s[j]'(by simpa using hj) := by simp; rfl
    rw [e, hb]; rfl
  · intro h j hj _
    have := h (s[j]) (by
      have : s[j] = s.data.toList[j]'(by simpa using hj) := by simp; rfl
      rw [this]; exact List.getElem_mem _)
    simpa using this
end Go.Proofs.YtlgidjanmaijaaaGreatDoor

/- value.Right: what it answers; the world has at most new blocks. -/
namespace Go.Proofs.YtlgidjanmaijaaaGreatDoor
set_option linter.all false
set_option linter.unusedSimpArgs false
set_option linter.unusedVariables false
open Go.RowKit
/-- what value.Right answers -/
def rightB (k n : Int) (s : ByteArray) : Bool :=
  if k = 0 then decide (n = 0) && decide (s = ⟨#[]⟩) else if k = 1 then decide (s = ⟨#[]⟩) else if k = 2 then decide (n = 0) && decide (s.size ≤ 40) && okText s else false

set_option maxHeartbeats 8000000 in
theorem right1_any (r : Nat) (w : World) : Calls Tryz.prog 118 #[.int .i32 (r : Int)] w fun e w' => e = .returned (.bool (badL r)) ∧ ∃ q, w' = w.drewN q := by
  unfold badL
  by_cases h1 : r < 32
  · have f : (decide (r < 32) || decide (126 < r) || decide (r = 39)) = true := by simp [h1]
    rw [f]
    go_enter Tryz.func118, Tryz.ntmps118
    go_wp2
    go_ret
    exact ⟨rfl, 0, rfl⟩
  · by_cases h2 : 126 < r
    · have f : (decide (r < 32) || decide (126 < r) || decide (r = 39)) = true := by simp [h2]
      rw [f]
      go_enter Tryz.func118, Tryz.ntmps118
      go_wp2
      go_ret
      exact ⟨rfl, 0, rfl⟩
    · by_cases h3 : r = 39
      · subst h3
        go_enter Tryz.func118, Tryz.ntmps118
        go_wp2
        go_ret
        exact ⟨rfl, 0, rfl⟩
      · have f : (decide (r < 32) || decide (126 < r) || decide (r = 39)) = false := by simp [h1, h2, h3]
        have b3 : ((r : Int) == 39) = false := by simp; omega
        rw [f]
        have c1 : (decide ((r : Int) < 32)) = false := by simp; omega
        have c2 : (decide ((126 : Int) < r)) = false := by simp; omega
        go_enter Tryz.func118, Tryz.ntmps118
        go_wp2
        go_ret
        exact ⟨rfl, 0, rfl⟩
theorem nil_iff (s : ByteArray) : s.toList = [] ↔ s = ⟨#[]⟩ := by
  rw [ByteArray.toList_eq]
  constructor
  · intro h; apply ByteArray.ext; apply Array.toList_inj.1; simpa using h
  · intro h; rw [h]
theorem right1_at (w : World) : PredAt Tryz.prog 118 #[] encR badL w := fun W x _ => right1_any x W
theorem enters_right1 : ∀ (args : Array Value) (w : World), (callFunc 118 args).run Tryz.prog w = .ok (.enter 118 args) w := by
  exact Go.Proofs.enters_of Tryz.func118 (by kernel_rfl) rfl

set_option maxHeartbeats 8000000 in
theorem right_any (k n : Int) (s : ByteArray) (w : World) :
    Calls Tryz.prog 83 #[.agg #[.int .i64 k, .int .i64 n, .string s]] w fun e w' => e = .returned (.bool (rightB k n s)) ∧ Ext w w' := by
  by_cases k0 : k = 0
  · subst k0
    by_cases hn : n = 0
    · subst hn
      by_cases hs : s = ⟨#[]⟩
      · subst hs
        have f : rightB 0 0 ⟨#[]⟩ = true := by simp [rightB]
        rw [f]; clear f
        go_enter Tryz.func83, Tryz.ntmps83
        go_wp2
        go_ret
        refine ⟨rfl, ?_⟩
        (repeat (first | with_reducible exact Ext.refl _ | with_reducible assumption | with_reducible refine Ext.drew ?_ | with_reducible refine Ext.alloc ?_ _ | with_reducible refine Ext.drewN ?_ _ | refine Ext.trans ?_ (by with_reducible assumption)))
      · have f : rightB 0 0 s = false := by simp [rightB, hs]
        have hs' : ¬ s.toList = [] := by rw [nil_iff]; exact hs
        rw [f]; clear f hs
        go_enter Tryz.func83, Tryz.ntmps83
        go_wp2
        go_ret
        refine ⟨rfl, ?_⟩
        (repeat (first | with_reducible exact Ext.refl _ | with_reducible assumption | with_reducible refine Ext.drew ?_ | with_reducible refine Ext.alloc ?_ _ | with_reducible refine Ext.drewN ?_ _ | refine Ext.trans ?_ (by with_reducible assumption)))
    · have f : rightB 0 n s = false := by simp [rightB, hn]
      rw [f]; clear f
      go_enter Tryz.func83, Tryz.ntmps83
      go_wp2
      go_ret
      refine ⟨rfl, ?_⟩
      (repeat (first | with_reducible exact Ext.refl _ | with_reducible assumption | with_reducible refine Ext.drew ?_ | with_reducible refine Ext.alloc ?_ _ | with_reducible refine Ext.drewN ?_ _ | refine Ext.trans ?_ (by with_reducible assumption)))
  · have b0 : (k == 0) = false := by simp [k0]
    by_cases k1 : k = 1
    · subst k1
      by_cases hs : s = ⟨#[]⟩
      · subst hs
        have f : rightB 1 n ⟨#[]⟩ = true := by simp [rightB]
        rw [f]; clear f
        go_enter Tryz.func83, Tryz.ntmps83
        go_wp2
        go_ret
        refine ⟨rfl, ?_⟩
        (repeat (first | with_reducible exact Ext.refl _ | with_reducible assumption | with_reducible refine Ext.drew ?_ | with_reducible refine Ext.alloc ?_ _ | with_reducible refine Ext.drewN ?_ _ | refine Ext.trans ?_ (by with_reducible assumption)))
      · have f : rightB 1 n s = false := by simp [rightB, hs]
        have hs' : s.toList.isEmpty = false := by simpa [nil_iff] using hs
        rw [f]; clear f hs
        go_enter Tryz.func83, Tryz.ntmps83
        go_wp2
        go_ret
        refine ⟨?_, ?_⟩
        · simp [hs']
        · (repeat (first | with_reducible exact Ext.refl _ | with_reducible assumption | with_reducible refine Ext.drew ?_ | with_reducible refine Ext.alloc ?_ _ | with_reducible refine Ext.drewN ?_ _ | refine Ext.trans ?_ (by with_reducible assumption)))
    · have b1 : (k == 1) = false := by simp [k1]
      by_cases k2 : k = 2
      · subst k2
        clear k0 k1 b0 b1
        by_cases hn : n = 0
        · subst hn
          by_cases hz : s.size ≤ 40
          · have f : rightB 2 0 s = decide (Lib.idxFunc badL true s < 0) := by rw [idx_ok]; simp [rightB, hz]
            rw [f]; clear f
            go_enter Tryz.func83, Tryz.ntmps83
            go_wp2_with (go_at_call 117; refine (Tryz.strings_IndexFunc 118 #[] enters_right1 badL _ _ (right1_at _)).mono ?_; rintro e w1 ⟨rfl, hb1⟩; have hx1 := Ext.mk hb1; clear hb1)

            go_ret
            refine ⟨rfl, ?_⟩
            (repeat (first | with_reducible exact Ext.refl _ | with_reducible assumption | with_reducible refine Ext.drew ?_ | with_reducible refine Ext.alloc ?_ _ | with_reducible refine Ext.drewN ?_ _ | refine Ext.trans ?_ (by with_reducible assumption)))
          · have f : rightB 2 0 s = false := by simp [rightB, hz]
            rw [f]; clear f
            go_enter Tryz.func83, Tryz.ntmps83
            go_wp2_with fail
            go_ret
            refine ⟨rfl, ?_⟩
            (repeat (first | with_reducible exact Ext.refl _ | with_reducible assumption | with_reducible refine Ext.drew ?_ | with_reducible refine Ext.alloc ?_ _ | with_reducible refine Ext.drewN ?_ _ | refine Ext.trans ?_ (by with_reducible assumption)))
        · have f : rightB 2 n s = false := by simp [rightB, hn]
          have bn : (n == 0) = false := by simp [hn]
          rw [f]; clear f hn
          go_enter Tryz.func83, Tryz.ntmps83
          go_wp2_with fail
          go_ret
          refine ⟨rfl, ?_⟩
          (repeat (first | with_reducible exact Ext.refl _ | with_reducible assumption | with_reducible refine Ext.drew ?_ | with_reducible refine Ext.alloc ?_ _ | with_reducible refine Ext.drewN ?_ _ | refine Ext.trans ?_ (by with_reducible assumption)))
      · have b2 : (k == 2) = false := by simp [k2]
        have f : rightB k n s = false := by simp [rightB, k0, k1, k2]
        rw [f]
        clear f k0 k1 k2
        go_enter Tryz.func83, Tryz.ntmps83
        go_wp2
        go_ret
        refine ⟨rfl, ?_⟩
        (repeat (first | with_reducible exact Ext.refl _ | with_reducible assumption | with_reducible refine Ext.drew ?_ | with_reducible refine Ext.alloc ?_ _ | with_reducible refine Ext.drewN ?_ _ | refine Ext.trans ?_ (by with_reducible assumption)))
end Go.Proofs.YtlgidjanmaijaaaGreatDoor
