/- sort.Strings at a row of the call's own; what is sorted of a filtered permutation. -/
import Derived.Test.YtbfccjjnnkomcaaDoorBktL
import Derived.Sort.OwnSorted
import Derived.Sort.KeysCollected
namespace Go.Proofs.YtbfccjjnnkomcaaDoor
set_option linter.unusedSimpArgs false
set_option linter.unusedVariables false
open Go.RowKit
open Go.Sort
abbrev mkB (l : List UInt8) : ByteArray := ⟨l.toArray⟩
abbrev unB (s : ByteArray) : List UInt8 := s.data.toList
theorem unB_mkB (l : List UInt8) : unB (mkB l) = l := rfl
theorem mkB_unB (s : ByteArray) : mkB (unB s) = s := by
  obtain ⟨⟨d⟩⟩ := s
  rfl
/-- strings, in order -/
def sortS (l : List ByteArray) : List ByteArray := ((l.map unB).mergeSort leB).map mkB
theorem sortS_len (l : List ByteArray) : (sortS l).length = l.length := by simp [sortS]
theorem leB_trans : ∀ a b c : List UInt8, leB a b = true → leB b c = true → leB a c = true := fun a b c h1 h2 => by simp only [leB, decide_eq_true_eq] at *; exact List.le_trans h1 h2
theorem leB_total : ∀ a b : List UInt8, (leB a b || leB b a) = true := fun a b => by simp only [leB, Bool.or_eq_true, decide_eq_true_eq]; exact List.le_total a b
theorem sort_filter {l m : List (List UInt8)} (p : List UInt8 → Bool) (h : l.Perm m) : (l.filter p).mergeSort leB = (m.mergeSort leB).filter p := by
  refine List.Perm.eq_of_pairwise (le := fun a b => leB a b = true) (fun a b _ _ h1 h2 => ?_) (List.pairwise_mergeSort leB_trans leB_total _) ((List.pairwise_mergeSort leB_trans leB_total m).filter _) ?_
  · simp only [leB, decide_eq_true_eq] at h1 h2
    exact List.le_antisymm h1 h2
  · exact (List.mergeSort_perm _ _).trans ((h.filter p).trans ((List.mergeSort_perm m leB).symm.filter p))
theorem sort_keys {D : DataW Unit} {ss : List (List UInt8)} (pfx : ByteArray) (h : ss.Perm (strKeys D)) : sortS ((ss.map mkB).filter (pfxB pfx)) = blist D pfx := by
  have e1 : ((ss.map mkB).filter (pfxB pfx)).map unB = ss.filter (fun l => pfxB pfx (mkB l)) := by
    rw [List.filter_map, List.map_map]
    have : (unB ∘ mkB) = id := rfl
    rw [this, List.map_id]
    rfl
  unfold sortS blist bkeys
  rw [e1, sort_filter _ h, List.filter_map]
  rfl
set_option maxHeartbeats 1000000 in
/-- sort.Strings -/
theorem sortStrings_any {B : Nat} {w0 w : World} {L : List Item} {A : Option Addr} {m cap : Nat} (l : List ByteArray) (hm : l.length = m) (hl : m ≤ 1000000000) (hS : Hp B w0 w (.row 9 1 A m cap (strsV l) :: L)) :
    Calls Tryd.prog 27 #[.slice A m cap] w fun e w' => e = .returned (.tuple #[]) ∧ Hp B w0 w' (.row 9 1 A m cap (strsV (sortS l)) :: L) := by
  have hown : w.ownsRow B 9 1 (.slice A m cap) m (strsV l) := hS.head
  have e0 : strsV l = (l.map unB).map encStr := by
    simp only [strsV, List.map_map]
    exact List.map_congr_left fun x _ => congrArg Value.string (mkB_unB x).symm
  have e1 : strsV (sortS l) = ((l.map unB).mergeSort fun x y => decide (x ≤ y)).map encStr := by
    simp only [strsV, sortS, List.map_map]
    rfl
  have elen : (l.map unB).length = m := by rw [List.length_map, hm]
  rcases hown.2 with ⟨hv, h0⟩ | ⟨g, cp, cur, hv, hbase, hgb, r1, r2, r3, r4⟩
  · obtain ⟨rfl, rfl, rfl⟩ : A = none ∧ m = 0 ∧ cap = 0 := by simpa using hv
    have hn : l = [] := List.eq_nil_of_length_eq_zero hm
    subst hn
    refine (Tryd.sort_Strings_none none 0 w).mono ?_
    rintro e w' ⟨rfl, rfl⟩
    refine ⟨rfl, ?_⟩
    rw [show sortS [] = [] from by simp [sortS]]
    exact hS
  · obtain ⟨rfl, _, rfl⟩ : A = some ⟨g, 0, none⟩ ∧ m = m ∧ cap = cp := by simpa using hv
    have hH : Holds encStr w g 0 (l.map unB).toArray := holds_of_block hgb (by rw [elen, ← e0]; simpa using r4)
    have hgl : g < w.heap.size := (Array.getElem?_eq_some_iff.1 hgb).1
    have cS := Tryd.sort_Strings g 0 cap (l.map unB) w hH hgl (by rw [elen]; omega)
    rw [elen] at cS
    refine cS.mono ?_
    rintro e w' ⟨rfl, nn, os, rfl⟩
    refine ⟨rfl, hS.turn (row := some g) (grownBy_sorted _) (.inr rfl) ?_ (.inl rfl)⟩
    rw [e1]
    have := ownsRow_sorted (n := nn) (os := os) (ss := l.map unB) (ts := (l.map unB).mergeSort fun x y => decide (x ≤ y)) (by simp) hbase hgb (by rw [elen]; exact r1) r2 r3
    rw [elen] at this
    exact this
end Go.Proofs.YtbfccjjnnkomcaaDoor
