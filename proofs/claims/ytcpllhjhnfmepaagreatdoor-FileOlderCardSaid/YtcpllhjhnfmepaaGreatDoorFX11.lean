/- millpondkeep.cond: what parts come to: a condition that lies in memory as a tree. -/
import Derived.Test.YtcpllhjhnfmepaaGreatDoorFX06
import Derived.Test.YtcpllhjhnfmepaaGreatDoorFX01
namespace Go.Proofs.YtcpllhjhnfmepaaGreatDoor
set_option linter.all false
set_option linter.unusedSimpArgs false
set_option linter.unusedVariables false
open Go.RowKit

/-- a part of a condition -/
structure PG where
  code : Int
  col : ByteArray
  v : GV
/-- the slice at A reads as the parts l -/
def RP (w : World) (A : Option Addr) (l : List PG) : Prop :=
  ∀ (i : Nat) (x : PG), l[i]? = some x → ∃ b o : Nat, A = some ⟨b, o, none⟩ ∧ w.cell? ⟨b, o + i * 5, none⟩ = some (.int .i64 x.code) ∧ w.cell? ⟨b, o + i * 5 + 1, none⟩ = some (.string x.col) ∧
    w.cell? ⟨b, o + i * 5 + 2, none⟩ = some (.int .i64 x.v.kind) ∧ w.cell? ⟨b, o + i * 5 + 3, none⟩ = some (.int .i64 x.v.num) ∧ w.cell? ⟨b, o + i * 5 + 4, none⟩ = some (.string x.v.text)
theorem RP.ext {w w' : World} {A : Option Addr} {l : List PG} (h : RP w A l) (hx : Ext w w') : RP w' A l := fun i x hi => by
  obtain ⟨b, o, hA, h0, h1, h2, h3, h4⟩ := h i x hi
  exact ⟨b, o, hA, hx.keeps h0, hx.keeps h1, hx.keeps h2, hx.keeps h3, hx.keeps h4⟩

def zeroV : GV := ⟨0, 0, ⟨#[]⟩⟩
theorem CondAt.pointer {w : World} {v : Value} {t : CT} (h : CondAt w v t) : ∃ p, v = .pointer p := by
  cases t with
  | nil => exact ⟨_, h⟩
  | node => obtain ⟨b, _, _, h, _⟩ := h; exact ⟨_, h⟩
def CondsAt (w : World) (ps : List Value) (ts : List CT) : Prop := ps.length = ts.length ∧ ∀ (i : Nat) (p : Value) (t : CT), ps[i]? = some p → ts[i]? = some t → CondAt w p t
theorem CondsAt.ext {w w' : World} {ps : List Value} {ts : List CT} (h : CondsAt w ps ts) (hx : Ext w w') : CondsAt w' ps ts := ⟨h.1, fun i p t hp ht => (h.2 i p t hp ht).ext hx⟩
theorem CondAt.grown {w w' : World} {row : Option Nat} (hg : w.grownBy w' row) (hrow : ∀ g, row = some g → ∃ cs fr, w.heap[g]? = some (.cells cs 60 fr)) : ∀ {t : CT} {v : Value}, CondAt w v t → CondAt w' v t
  | .nil, v, h => h
  | .node c col x l r, v, h => by
    obtain ⟨b, lv, rv, rfl, hb, hl, hr⟩ := h
    have hlt : b < w.heap.size := by
      rcases Nat.lt_or_ge b w.heap.size with h | h
      · exact h
      · rw [Array.getElem?_eq_none h] at hb; cases hb
    refine ⟨b, lv, rv, rfl, (hg.block b hlt fun e => ?_).trans hb, hl.grown hg hrow, hr.grown hg hrow⟩
    obtain ⟨cs, fr, h⟩ := hrow b e.symm
    rw [h] at hb
    cases hb
theorem CondsAt.grown {w w' : World} {row : Option Nat} (hg : w.grownBy w' row) (hrow : ∀ g, row = some g → ∃ cs fr, w.heap[g]? = some (.cells cs 60 fr)) {ps : List Value} {ts : List CT} (h : CondsAt w ps ts) : CondsAt w' ps ts :=
  ⟨h.1, fun i p t hp ht => (h.2 i p t hp ht).grown hg hrow⟩
theorem CondsAt.push {w : World} {ps : List Value} {ts : List CT} (h : CondsAt w ps ts) {p : Value} {t : CT} (hc : CondAt w p t) : CondsAt w (ps ++ [p]) (ts ++ [t]) :=
  ⟨by simp [h.1], fun i p' t' hp ht => by
    rcases Nat.lt_trichotomy i ps.length with hl | hl | hl
    · rw [List.getElem?_append_left hl] at hp
      rw [List.getElem?_append_left (by rw [← h.1]; exact hl)] at ht
      exact h.2 i p' t' hp ht
    · subst hl
      rw [List.getElem?_append_right (Nat.le_refl _)] at hp
      rw [List.getElem?_append_right (by rw [h.1]; exact Nat.le_refl _)] at ht
      simp [h.1] at hp ht
      subst hp ht
      exact hc
    · rw [List.getElem?_eq_none (by simp; omega)] at hp; cases hp⟩
theorem CondsAt.take {w : World} {ps : List Value} {ts : List CT} (h : CondsAt w ps ts) (n : Nat) : CondsAt w (ps.take n) (ts.take n) :=
  ⟨by simp [h.1], fun i p t hp ht => by
    rw [List.getElem?_take] at hp ht
    split at hp
    · rename_i hi; rw [if_pos hi] at ht; exact h.2 i p t hp ht
    · cases hp⟩

end Go.Proofs.YtcpllhjhnfmepaaGreatDoor
