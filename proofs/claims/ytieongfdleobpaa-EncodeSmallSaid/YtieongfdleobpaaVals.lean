/- Slices of values: what their cells hold; millpondkeep.right. -/
import Derived.Test.YtieongfdleobpaaRight
import Derived.Test.YtieongfdleobpaaGV
namespace Go.Proofs.Ytieongfdleobpaa
set_option linter.unusedSimpArgs false
set_option linter.unusedVariables false
open Go.RowKit

/-- the slice at A reads as the values l -/
def RV (w : World) (A : Option Addr) (l : List GV) : Prop :=
  ∀ (i : Nat) (x : GV), l[i]? = some x → ∃ b o : Nat, A = some ⟨b, o, none⟩ ∧ w.cell? ⟨b, o + i * 3, none⟩ = some (.int .i64 x.kind) ∧ w.cell? ⟨b, o + i * 3 + 1, none⟩ = some (.int .i64 x.num) ∧ w.cell? ⟨b, o + i * 3 + 2, none⟩ = some (.string x.text)
theorem RV.ext {w w' : World} {A : Option Addr} {l : List GV} (h : RV w A l) (hx : Ext w w') : RV w' A l := fun i x hi => by
  obtain ⟨b, o, hA, h0, h1, h2⟩ := h i x hi
  exact ⟨b, o, hA, hx.keeps h0, hx.keeps h1, hx.keeps h2⟩

/-- the cells of values -/
def cellsV : List GV → List Value
  | [] => []
  | x :: l => .int .i64 x.kind :: .int .i64 x.num :: .string x.text :: cellsV l
theorem cellsV_len : ∀ l : List GV, (cellsV l).length = l.length * 3
  | [] => rfl
  | x :: l => by simp [cellsV, cellsV_len l]; omega
theorem cellsV_append : ∀ l m : List GV, cellsV (l ++ m) = cellsV l ++ cellsV m
  | [], m => rfl
  | x :: l, m => by simp [cellsV, cellsV_append l m]
theorem cellsV_at : ∀ (l : List GV) (i : Nat) (x : GV), l[i]? = some x → (cellsV l)[i * 3]? = some (.int .i64 x.kind) ∧ (cellsV l)[i * 3 + 1]? = some (.int .i64 x.num) ∧ (cellsV l)[i * 3 + 2]? = some (.string x.text)
  | [], i, x, h => by simp at h
  | y :: l, 0, x, h => by simp at h; subst h; simp [cellsV]
  | y :: l, i + 1, x, h => by
    have := cellsV_at l i x (by simpa using h)
    rw [show (i + 1) * 3 = i * 3 + 3 by omega]
    simpa [cellsV] using this
theorem RV.block {w : World} {l : List GV} {g : Nat} {cs : Array Value} {t : TypeId} {fr : Nat × Nat} (h : w.heap[g]? = some (.cells cs t fr)) (hcs : cs = (cellsV l).toArray) : RV w (some ⟨g, 0, none⟩) l := fun i x hi => by
  subst hcs
  obtain ⟨h0, h1, h2⟩ := cellsV_at l i x hi
  refine ⟨g, 0, rfl, ?_, ?_, ?_⟩ <;> simp [World.cell?, h, *]
theorem RV.own {w : World} {B : Nat} {e : TypeId} {g cap n : Nat} {l : List GV} (h : w.ownsRow B e 3 (.slice (some ⟨g, 0, none⟩) n cap) n (cellsV l)) : RV w (some ⟨g, 0, none⟩) l := fun i x hi => by
  obtain ⟨h0, h1, h2⟩ := cellsV_at l i x hi
  have hn : l.length = n := by have := h.1; rw [cellsV_len] at this; omega
  have hi' : i < n := by rw [← hn]; exact (List.getElem?_eq_some_iff.1 hi).1
  refine ⟨g, 0, rfl, ?_, ?_, ?_⟩
  · rw [Nat.zero_add, h.cellAt _ (by omega), h0]
  · rw [Nat.zero_add, h.cellAt _ (by omega), h1]
  · rw [Nat.zero_add, h.cellAt _ (by omega), h2]

/-- what millpondkeep.right asks of a value -/
def okV (x : GV) : Bool := decide (x.text.size ≤ 100) && rightB x.kind x.num x.text

set_option maxHeartbeats 1000000 in
theorem right_list (l : List GV) (A : Option Addr) (cap : Nat) (w : World) (hr : RV w A l) (hl : l.length ≤ 140737488355328) :
    Calls Try.prog 8 #[.slice A l.length cap] w fun e w' => e = .returned (.bool (decide (l.length ≤ 70) && l.all okV)) ∧ Ext w w' := by
  by_cases h70 : l.length ≤ 70
  · rw [show decide (l.length ≤ 70) = true by simp [h70], Bool.true_and]
    obtain ⟨n, hn⟩ : ∃ n, n = l.length := ⟨_, rfl⟩
    rw [← hn]
    have Hn := Lib.hid hn
    rw [← hn] at h70 hl
    clear hn
    go_enter Try.func8, Try.ntmps8
    go_wp2
    go_loopw [3] (fun i wr => ∃ k : Nat, i = .int .i64 k ∧ k ≤ n ∧ Ext w wr ∧ (l.take k).all okV = true) (fun i _ => n - (intOf i).toNat)
    case atStart => exact ⟨0, rfl, Nat.zero_le _, Ext.refl _, by simp⟩
    case round =>
      obtain ⟨k, rfl, hk, hx, hall⟩ := hrel
      by_cases hlt : k < n
      · have hlt' : k < l.length := by rw [← Hn.out]; exact hlt
        obtain ⟨x, hx'⟩ : ∃ x, l[k]? = some x := ⟨l[k], List.getElem?_eq_getElem hlt'⟩
        obtain ⟨b, o, rfl, c0, c1, c2⟩ := hr.ext hx k x hx'
        have HX := Lib.hid hx'; clear hx' hlt'
        have HA := Lib.hid hall; clear hall hr
        by_cases h100 : x.text.size ≤ 100
        · cases hb : rightB x.kind x.num x.text with
          | true =>
            go_wp2_with (go_at_call 23; refine (right_any _ _ _ _).mono ?_; rintro e w1 ⟨rfl, hw1⟩)
            go_roundw
            case rel =>
              refine ⟨k + 1, by simp, by omega, hx.trans hw1, ?_⟩
              rw [List.take_add_one, HX.out, List.all_append, HA.out]
              simp [okV, h100, hb]
            case measure => simp [intOf]; omega
          | false =>
            have fin : l.all okV = false := by
              rw [List.all_eq_false]
              exact ⟨x, List.mem_of_getElem? HX.out, by simp [okV, hb]⟩
            have FIN := Lib.hid fin; clear fin
            go_wp2_with (go_at_call 23; refine (right_any _ _ _ _).mono ?_; rintro e w1 ⟨rfl, hw1⟩)
            go_ret
            exact ⟨by rw [FIN.out]; rfl, hx.trans hw1⟩
        · have fin : l.all okV = false := by
            rw [List.all_eq_false]
            exact ⟨x, List.mem_of_getElem? HX.out, by simp [okV, h100]⟩
          have FIN := Lib.hid fin; clear fin
          go_wp2
          go_ret
          exact ⟨by rw [FIN.out]; rfl, hx⟩
      · obtain rfl : k = n := by omega
        have fin : l.all okV = true := by rw [← hall, Hn.out, List.take_length]
        have FIN := Lib.hid fin; clear fin
        go_wp2
        go_ret
        exact ⟨by rw [FIN.out]; rfl, hx⟩
  · rw [show decide (l.length ≤ 70) = false by simp [h70], Bool.false_and]
    go_enter Try.func8, Try.ntmps8
    go_wp2
    go_ret
    exact ⟨rfl, Ext.refl _⟩
end Go.Proofs.Ytieongfdleobpaa
