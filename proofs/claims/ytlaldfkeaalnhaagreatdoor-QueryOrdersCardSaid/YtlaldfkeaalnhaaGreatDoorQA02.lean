/- Texts joined: value.Right: what it answers; the world has at most new blocks. slices.SortStableFunc: what it makes of a list stands in order: plain. What a call owns: the blocks that it made, and the cells that it reads; kept over allocations, stores, calls. For any program. A region under St, whether its order is drawn or not: walked once in the order of the text; guards may be open. For any program. What a call owns, in general: blocks whose cells are known, slices that it builds; each apart from the others; kept over allocations, stores, appends, calls. For any program. pick: a number below another one. -/
import Derived.Test.YtlaldfkeaalnhaaGreatDoorQA01
import Derived.Deep.QuietTactic
import Derived.Shelf.Abstract
import Derived.Lib.AppendStr
import Derived.Laws.MakeOwn
import Derived.Test.YtlaldfkeaalnhaaGreatDoorProg
/- value.Right: what it answers; the world has at most new blocks. -/
namespace Go.Proofs.YtlaldfkeaalnhaaGreatDoor
set_option linter.all false
set_option linter.unusedSimpArgs false
set_option linter.unusedVariables false
open Go.RowKit
/-- what value.Right answers -/
def rightB (k n : Int) (s : ByteArray) : Bool :=
  if k = 0 then decide (n = 0) && decide (s = ⟨#[]⟩) else if k = 1 then decide (s = ⟨#[]⟩) else if k = 2 then decide (n = 0) && decide (s.size ≤ 40) && okText s else false

set_option maxHeartbeats 8000000 in
theorem right1_any (r : Nat) (w : World) : Calls Tryz.prog 113 #[.int .i32 (r : Int)] w fun e w' => e = .returned (.bool (badL r)) ∧ ∃ q, w' = w.drewN q := by
  unfold badL
  by_cases h1 : r < 32
  · have f : (decide (r < 32) || decide (126 < r) || decide (r = 39)) = true := by simp [h1]
    rw [f]
    go_enter Tryz.func113, Tryz.ntmps113
    go_wp2
    go_ret
    exact ⟨rfl, 0, rfl⟩
  · by_cases h2 : 126 < r
    · have f : (decide (r < 32) || decide (126 < r) || decide (r = 39)) = true := by simp [h2]
      rw [f]
      go_enter Tryz.func113, Tryz.ntmps113
      go_wp2
      go_ret
      exact ⟨rfl, 0, rfl⟩
    · by_cases h3 : r = 39
      · subst h3
        go_enter Tryz.func113, Tryz.ntmps113
        go_wp2
        go_ret
        exact ⟨rfl, 0, rfl⟩
      · have f : (decide (r < 32) || decide (126 < r) || decide (r = 39)) = false := by simp [h1, h2, h3]
        have b3 : ((r : Int) == 39) = false := by simp; omega
        rw [f]
        have c1 : (decide ((r : Int) < 32)) = false := by simp; omega
        have c2 : (decide ((126 : Int) < r)) = false := by simp; omega
        go_enter Tryz.func113, Tryz.ntmps113
        go_wp2
        go_ret
        exact ⟨rfl, 0, rfl⟩
theorem nil_iff (s : ByteArray) : s.toList = [] ↔ s = ⟨#[]⟩ := by
  rw [ByteArray.toList_eq]
  constructor
  · intro h; apply ByteArray.ext; apply Array.toList_inj.1; simpa using h
  · intro h; rw [h]
theorem right1_at (w : World) : PredAt Tryz.prog 113 #[] encR badL w := fun W x _ => right1_any x W
theorem enters_right1 : ∀ (args : Array Value) (w : World), (callFunc 113 args).run Tryz.prog w = .ok (.enter 113 args) w := by
  exact Go.Proofs.enters_of Tryz.func113 (by kernel_rfl) rfl

set_option maxHeartbeats 8000000 in
theorem right_any (k n : Int) (s : ByteArray) (w : World) :
    Calls Tryz.prog 85 #[.agg #[.int .i64 k, .int .i64 n, .string s]] w fun e w' => e = .returned (.bool (rightB k n s)) ∧ Ext w w' := by
  by_cases k0 : k = 0
  · subst k0
    by_cases hn : n = 0
    · subst hn
      by_cases hs : s = ⟨#[]⟩
      · subst hs
        have f : rightB 0 0 ⟨#[]⟩ = true := by simp [rightB]
        rw [f]; clear f
        go_enter Tryz.func85, Tryz.ntmps85
        go_wp2
        go_ret
        refine ⟨rfl, ?_⟩
        (repeat (first | with_reducible exact Ext.refl _ | with_reducible assumption | with_reducible refine Ext.drew ?_ | with_reducible refine Ext.alloc ?_ _ | with_reducible refine Ext.drewN ?_ _ | refine Ext.trans ?_ (by with_reducible assumption)))
      · have f : rightB 0 0 s = false := by simp [rightB, hs]
        have hs' : ¬ s.toList = [] := by rw [nil_iff]; exact hs
        rw [f]; clear f hs
        go_enter Tryz.func85, Tryz.ntmps85
        go_wp2
        go_ret
        refine ⟨rfl, ?_⟩
        (repeat (first | with_reducible exact Ext.refl _ | with_reducible assumption | with_reducible refine Ext.drew ?_ | with_reducible refine Ext.alloc ?_ _ | with_reducible refine Ext.drewN ?_ _ | refine Ext.trans ?_ (by with_reducible assumption)))
    · have f : rightB 0 n s = false := by simp [rightB, hn]
      rw [f]; clear f
      go_enter Tryz.func85, Tryz.ntmps85
      go_wp2
      go_ret
      refine ⟨rfl, ?_⟩
      (repeat (first | with_reducible exact Ext.refl _ | with_reducible assumption | with_reducible refine Ext.drew ?_ | with_reducible refine Ext.alloc ?_ _ | with_reducible refine Ext.drewN ?_ _ | refine Ext.trans ?_ (by with_reducible assumption)))
  · have b0 : (k == 0) = false := by simp [k0]
    by_cases k1 : k = 1
    · subst k1
      by_cases hs : s = ⟨#[]⟩
      · subst hs
        have f : rightB 1 n ⟨#[]⟩ = true := by simp [rightB]
        rw [f]; clear f
        go_enter Tryz.func85, Tryz.ntmps85
        go_wp2
        go_ret
        refine ⟨rfl, ?_⟩
        (repeat (first | with_reducible exact Ext.refl _ | with_reducible assumption | with_reducible refine Ext.drew ?_ | with_reducible refine Ext.alloc ?_ _ | with_reducible refine Ext.drewN ?_ _ | refine Ext.trans ?_ (by with_reducible assumption)))
      · have f : rightB 1 n s = false := by simp [rightB, hs]
        have hs' : s.toList.isEmpty = false := by simpa [nil_iff] using hs
        rw [f]; clear f hs
        go_enter Tryz.func85, Tryz.ntmps85
        go_wp2
        go_ret
        refine ⟨?_, ?_⟩
        · simp [hs']
        · (repeat (first | with_reducible exact Ext.refl _ | with_reducible assumption | with_reducible refine Ext.drew ?_ | with_reducible refine Ext.alloc ?_ _ | with_reducible refine Ext.drewN ?_ _ | refine Ext.trans ?_ (by with_reducible assumption)))
    · have b1 : (k == 1) = false := by simp [k1]
      by_cases k2 : k = 2
      · subst k2
        clear k0 k1 b0 b1
        by_cases hn : n = 0
        · subst hn
          by_cases hz : s.size ≤ 40
          · have f : rightB 2 0 s = decide (Lib.idxFunc badL true s < 0) := by rw [idx_ok]; simp [rightB, hz]
            rw [f]; clear f
            go_enter Tryz.func85, Tryz.ntmps85
            go_wp2_with (go_at_call 112; refine (Tryz.strings_IndexFunc 113 #[] enters_right1 badL _ _ (right1_at _)).mono ?_; rintro e w1 ⟨rfl, hb1⟩; have hx1 := Ext.mk hb1; clear hb1)

            go_ret
            refine ⟨rfl, ?_⟩
            (repeat (first | with_reducible exact Ext.refl _ | with_reducible assumption | with_reducible refine Ext.drew ?_ | with_reducible refine Ext.alloc ?_ _ | with_reducible refine Ext.drewN ?_ _ | refine Ext.trans ?_ (by with_reducible assumption)))
          · have f : rightB 2 0 s = false := by simp [rightB, hz]
            rw [f]; clear f
            go_enter Tryz.func85, Tryz.ntmps85
            go_wp2_with fail
            go_ret
            refine ⟨rfl, ?_⟩
            (repeat (first | with_reducible exact Ext.refl _ | with_reducible assumption | with_reducible refine Ext.drew ?_ | with_reducible refine Ext.alloc ?_ _ | with_reducible refine Ext.drewN ?_ _ | refine Ext.trans ?_ (by with_reducible assumption)))
        · have f : rightB 2 n s = false := by simp [rightB, hn]
          have bn : (n == 0) = false := by simp [hn]
          rw [f]; clear f hn
          go_enter Tryz.func85, Tryz.ntmps85
          go_wp2_with fail
          go_ret
          refine ⟨rfl, ?_⟩
          (repeat (first | with_reducible exact Ext.refl _ | with_reducible assumption | with_reducible refine Ext.drew ?_ | with_reducible refine Ext.alloc ?_ _ | with_reducible refine Ext.drewN ?_ _ | refine Ext.trans ?_ (by with_reducible assumption)))
      · have b2 : (k == 2) = false := by simp [k2]
        have f : rightB k n s = false := by simp [rightB, k0, k1, k2]
        rw [f]
        clear f k0 k1 k2
        go_enter Tryz.func85, Tryz.ntmps85
        go_wp2
        go_ret
        refine ⟨rfl, ?_⟩
        (repeat (first | with_reducible exact Ext.refl _ | with_reducible assumption | with_reducible refine Ext.drew ?_ | with_reducible refine Ext.alloc ?_ _ | with_reducible refine Ext.drewN ?_ _ | refine Ext.trans ?_ (by with_reducible assumption)))
end Go.Proofs.YtlaldfkeaalnhaaGreatDoor

/- slices.SortStableFunc: what it makes of a list stands in order: plain. -/
namespace Go.Proofs.YtlaldfkeaalnhaaGreatDoor
set_option linter.unusedSimpArgs false
set_option linter.unusedVariables false
open Go.RowKit
set_option linter.all false
section
variable {α : Type} (d : α)
theorem swpL_get {xs : List α} {i j : Nat} (hi : i < xs.length) (hj : j < xs.length) (k : Nat) : (swpL d xs i j).getD k d = if k = j then xs.getD i d else if k = i then xs.getD j d else xs.getD k d := by
  unfold swpL
  simp only [List.getD_eq_getElem?_getD, List.getElem?_set, List.length_set]
  by_cases h1 : k = j
  · subst h1; simp [hj]
  · by_cases h2 : k = i
    · subst h2; simp [hi, h1, Ne.symm h1]
    · simp [h1, h2, Ne.symm h1, Ne.symm h2]
theorem swR_get {xs : List α} {a b : Nat} : ∀ n, a + n ≤ b → b + n ≤ xs.length → ∀ k, (swR d xs a b n).getD k d = if a ≤ k ∧ k < a + n then xs.getD (k - a + b) d else if b ≤ k ∧ k < b + n then xs.getD (k - b + a) d else xs.getD k d
  | 0, _, _, k => by rw [swR, if_neg (by omega), if_neg (by omega)]
  | n + 1, h1, h2, k => by
    rw [swR, swpL_get d (by rw [swR_len]; omega) (by rw [swR_len]; omega), swR_get n (by omega) (by omega), swR_get n (by omega) (by omega), swR_get n (by omega) (by omega)]
    rw [if_neg (show ¬ (a ≤ a + n ∧ a + n < a + n) by omega), if_neg (show ¬ (b ≤ a + n ∧ a + n < b + n) by omega), if_neg (show ¬ (a ≤ b + n ∧ b + n < a + n) by omega), if_neg (show ¬ (b ≤ b + n ∧ b + n < b + n) by omega)]
    by_cases c1 : k = b + n
    · rw [if_pos c1, if_neg (by omega), if_pos (by omega)]; congr 1; omega
    · rw [if_neg c1]
      by_cases c2 : k = a + n
      · rw [if_pos c2, if_pos (by omega)]; congr 1; omega
      · rw [if_neg c2]
        by_cases c3 : a ≤ k ∧ k < a + n
        · rw [if_pos c3, if_pos (by omega)]
        · rw [if_neg c3, if_neg (show ¬ (a ≤ k ∧ k < a + (n + 1)) by omega)]
          by_cases c4 : b ≤ k ∧ k < b + n
          · rw [if_pos c4, if_pos (by omega)]
          · rw [if_neg c4, if_neg (by omega)]
theorem rotL_get : ∀ (f : Nat) (xs : List α) (m i j : Nat), i + j < f → 1 ≤ i → 1 ≤ j → i ≤ m → m + j ≤ xs.length → ∀ k, (rotL d f xs m i j).getD k d = if m - i ≤ k ∧ k < m + j then (if k < m - i + j then xs.getD (k + i) d else xs.getD (k - j) d) else xs.getD k d
  | 0, xs, m, i, j, h, _, _, _, _, k => by omega
  | f + 1, xs, m, i, j, hf, hi, hj, him, hm, k => by
    rw [rotL]
    by_cases c : i = j
    · subst c
      rw [if_pos rfl, swR_get d _ (by omega) (by omega)]
      by_cases c1 : m - i ≤ k ∧ k < m - i + i
      · rw [if_pos c1, if_pos (by omega), if_pos (by omega)]; congr 1; omega
      · rw [if_neg c1]
        by_cases c2 : m ≤ k ∧ k < m + i
        · rw [if_pos c2, if_pos (by omega), if_neg (by omega)]; congr 1; omega
        · rw [if_neg c2, if_neg (by omega)]
    · rw [if_neg c]
      by_cases c0 : j < i
      · rw [if_pos c0, rotL_get f _ m (i - j) j (by omega) (by omega) hj (by omega) (by rw [swR_len]; exact hm)]
        have e := fun k => swR_get d (xs := xs) (a := m - i) (b := m) j (by omega) (by omega) k
        by_cases c1 : m - i ≤ k ∧ k < m + j
        · rw [if_pos c1]
          by_cases c2 : k < m - i + j
          · rw [if_pos c2, if_neg (by omega), e, if_pos (by omega)]; congr 1; omega
          · rw [if_neg c2, if_pos (by omega)]
            by_cases c3 : k < m - (i - j) + j
            · rw [if_pos c3, e, if_neg (by omega), if_pos (by omega)]; congr 1; omega
            · rw [if_neg c3, e, if_neg (by omega), if_neg (by omega)]
        · rw [if_neg c1, if_neg (by omega), e, if_neg (by omega), if_neg (by omega)]
      · rw [if_neg c0, rotL_get f _ m i (j - i) (by omega) hi (by omega) him (by rw [swR_len]; omega)]
        have e := fun k => swR_get d (xs := xs) (a := m - i) (b := m + j - i) i (by omega) (by omega) k
        by_cases c1 : m - i ≤ k ∧ k < m + j
        · rw [if_pos c1]
          by_cases c2 : k < m + (j - i)
          · rw [if_pos (by omega)]
            by_cases c3 : k < m - i + (j - i)
            · rw [if_pos c3, if_pos (by omega), e, if_neg (by omega), if_neg (by omega)]
            · rw [if_neg c3, e]
              by_cases c4 : m - i ≤ k - (j - i) ∧ k - (j - i) < m - i + i
              · rw [if_pos c4]
                by_cases c5 : k < m - i + j
                · rw [if_pos c5]; congr 1; omega
                · omega
              · omega
          · rw [if_neg (by omega), e, if_neg (by omega), if_pos (by omega)]
            rw [if_neg (by omega)]; congr 1; omega
        · rw [if_neg c1, if_neg (by omega), e, if_neg (by omega), if_neg (by omega)]
theorem upL_get {xs : List α} {a : Nat} : ∀ n, a + n < xs.length → ∀ k, (upL d xs a n).getD k d = if a ≤ k ∧ k < a + n then xs.getD (k + 1) d else if k = a + n then xs.getD a d else xs.getD k d
  | 0, _, k => by
    rw [upL, if_neg (by omega)]
    split
    · rename_i h; rw [h]; rfl
    · rfl
  | n + 1, h, k => by
    rw [upL, swpL_get d (by rw [upL_len]; omega) (by rw [upL_len]; omega), upL_get n (by omega), upL_get n (by omega), upL_get n (by omega)]
    rw [if_neg (show ¬ (a ≤ a + n ∧ a + n < a + n) by omega), if_pos rfl, if_neg (show ¬ (a ≤ a + n + 1 ∧ a + n + 1 < a + n) by omega), if_neg (show ¬ a + n + 1 = a + n by omega)]
    by_cases c1 : k = a + n + 1
    · rw [if_pos c1, if_neg (by omega), if_pos (by omega)]
    · rw [if_neg c1]
      by_cases c2 : k = a + n
      · rw [if_pos c2, if_pos (by omega), c2]
      · rw [if_neg c2, if_neg c2]
        by_cases c3 : a ≤ k ∧ k < a + n
        · rw [if_pos c3, if_pos (by omega)]
        · rw [if_neg c3, if_neg (by omega), if_neg (by omega)]
theorem dnL_get {xs : List α} {m : Nat} (hm : m < xs.length) : ∀ n, n ≤ m → ∀ k, (dnL d xs m n).getD k d = if m - n < k ∧ k ≤ m then xs.getD (k - 1) d else if k = m - n then xs.getD m d else xs.getD k d
  | 0, _, k => by
    rw [dnL, if_neg (by omega)]
    split
    · rename_i h; rw [h]; rfl
    · rfl
  | n + 1, h, k => by
    rw [dnL, swpL_get d (by rw [dnL_len]; omega) (by rw [dnL_len]; omega), dnL_get hm n (by omega), dnL_get hm n (by omega), dnL_get hm n (by omega)]
    rw [if_neg (show ¬ (m - n < m - n ∧ m - n ≤ m) by omega), if_pos rfl, if_neg (show ¬ (m - n < m - n - 1 ∧ m - n - 1 ≤ m) by omega), if_neg (show ¬ m - n - 1 = m - n by omega)]
    by_cases c1 : k = m - n - 1
    · rw [if_pos c1, if_neg (by omega), if_pos (by omega)]
    · rw [if_neg c1]
      by_cases c2 : k = m - n
      · rw [if_pos c2, if_pos (by omega), c2]
      · rw [if_neg c2, if_neg c2]
        by_cases c3 : m - n < k ∧ k ≤ m
        · rw [if_pos c3, if_pos (by omega)]
        · rw [if_neg c3, if_neg (by omega), if_neg (by omega)]
/-- the binary search finds where p ends -/
theorem bsL_ok (p : Nat → Bool) : ∀ (f i j : Nat), i ≤ j → j < f + i → (∀ c c', i ≤ c → c ≤ c' → c' < j → p c' = true → p c = true) → (∀ c, i ≤ c → c < bsL p f i j → p c = true) ∧ (∀ c, bsL p f i j ≤ c → c < j → p c = false)
  | 0, i, j, h, hf, _ => by omega
  | f + 1, i, j, h, hf, hp => by
    rw [bsL]
    by_cases c : i < j
    · rw [if_pos c]
      cases hq : p ((i + j) / 2) with
      | true =>
        rw [if_pos rfl]
        obtain ⟨h1, h2⟩ := bsL_ok p f ((i + j) / 2 + 1) j (by omega) (by omega) (fun c c' h1 h2 h3 h4 => hp c c' (by omega) h2 h3 h4)
        refine ⟨fun c h3 h4 => ?_, h2⟩
        by_cases h5 : c ≤ (i + j) / 2
        · exact hp c _ h3 h5 (by omega) hq
        · exact h1 c (by omega) h4
      | false =>
        rw [if_neg (by simp)]
        have hin := bsL_in p f i ((i + j) / 2) (by omega)
        obtain ⟨h1, h2⟩ := bsL_ok p f i ((i + j) / 2) (by omega) (by omega) (fun c c' h1 h2 h3 h4 => hp c c' h1 h2 (by omega) h4)
        refine ⟨h1, fun c h3 h4 => ?_⟩
        by_cases h5 : c < (i + j) / 2
        · exact h2 c h3 h5
        · cases hc : p c with
          | false => rfl
          | true => rw [hp _ c (by omega) (by omega) h4 hc] at hq; cases hq
    · rw [if_neg c]
      exact ⟨fun c h1 h2 => by omega, fun c h1 h2 => by omega⟩
variable (lt : α → α → Bool)
/-- from a to b all stand in order -/
def Srt (xs : List α) (a b : Nat) : Prop := ∀ i j, a ≤ i → i ≤ j → j < b → lt (xs.getD j d) (xs.getD i d) = false
/-- from a to b places are turned; all others are as they were -/
def Mov (xs ys : List α) (a b : Nat) : Prop := ys.length = xs.length ∧ (∀ k, ¬ (a ≤ k ∧ k < b) → ys.getD k d = xs.getD k d) ∧ ∀ k, a ≤ k → k < b → ∃ j, a ≤ j ∧ j < b ∧ ys.getD k d = xs.getD j d
/-- an order -/
structure Ordl : Prop where
  asym : ∀ x y, lt x y = true → lt y x = false
  trans : ∀ x y z, lt y x = false → lt z y = false → lt z x = false
variable {lt}
theorem Ordl.irr (h : Ordl lt) (x : α) : lt x x = false := by
  cases hx : lt x x with
  | false => rfl
  | true => rw [h.asym x x hx] at hx; cases hx
variable {d}
theorem Mov.refl (xs : List α) (a b : Nat) : Mov d xs xs a b := ⟨rfl, fun _ _ => rfl, fun k h1 h2 => ⟨k, h1, h2, rfl⟩⟩
theorem Mov.trans {xs ys zs : List α} {a b : Nat} (h : Mov d xs ys a b) (h2 : Mov d ys zs a b) : Mov d xs zs a b := by
  refine ⟨by rw [h2.1, h.1], fun k hk => by rw [h2.2.1 k hk, h.2.1 k hk], fun k k1 k2 => ?_⟩
  obtain ⟨j, j1, j2, e⟩ := h2.2.2 k k1 k2
  obtain ⟨i, i1, i2, e2⟩ := h.2.2 j j1 j2
  exact ⟨i, i1, i2, by rw [e, e2]⟩
theorem Mov.wide {xs ys : List α} {a b a' b' : Nat} (h : Mov d xs ys a b) (ha : a' ≤ a) (hb : b ≤ b') : Mov d xs ys a' b' := by
  refine ⟨h.1, fun k hk => h.2.1 k (by omega), fun k k1 k2 => ?_⟩
  by_cases hk : a ≤ k ∧ k < b
  · obtain ⟨j, j1, j2, e⟩ := h.2.2 k hk.1 hk.2
    exact ⟨j, by omega, by omega, e⟩
  · exact ⟨k, k1, k2, h.2.1 k hk⟩
theorem Srt.out {xs ys : List α} {a b a' b' : Nat} (h : Srt d lt xs a' b') (hm : Mov d xs ys a b) (ho : b' ≤ a ∨ b ≤ a') : Srt d lt ys a' b' := fun i j h1 h2 h3 => by
  rw [hm.2.1 i (by omega), hm.2.1 j (by omega)]
  exact h i j h1 h2 h3
theorem swpL_mov {xs : List α} {i j a b : Nat} (hi : a ≤ i ∧ i < b) (hj : a ≤ j ∧ j < b) (hb : b ≤ xs.length) : Mov d xs (swpL d xs i j) a b := by
  refine ⟨swpL_len d _ _ _, fun k hk => ?_, fun k k1 k2 => ?_⟩
  · rw [swpL_get d (by omega) (by omega), if_neg (by omega), if_neg (by omega)]
  · rw [swpL_get d (by omega) (by omega)]
    split
    · exact ⟨i, hi.1, hi.2, rfl⟩
    · split
      · exact ⟨j, hj.1, hj.2, rfl⟩
      · exact ⟨k, k1, k2, rfl⟩
theorem insIn_mov (lt : α → α → Bool) (a : Nat) : ∀ (j : Nat) (xs : List α) (b : Nat), j < b → b ≤ xs.length → Mov d xs (insIn d lt a j xs) a b
  | 0, xs, b, _, _ => Mov.refl _ _ _
  | j + 1, xs, b, h, hb => by
    rw [insIn]
    split
    · rename_i hc
      exact (swpL_mov (by omega) (by omega) hb).trans (insIn_mov lt a j _ b (by omega) (by rw [swpL_len]; exact hb))
    · exact Mov.refl _ _ _
theorem insIn_srt (ho : Ordl lt) (a : Nat) : ∀ (j : Nat) (xs : List α) (hi : Nat), j ≤ hi → hi < xs.length → (∀ i k, a ≤ i → i ≤ k → k ≤ hi → i ≠ j → k ≠ j → lt (xs.getD k d) (xs.getD i d) = false) → (∀ k, j < k → k ≤ hi → lt (xs.getD k d) (xs.getD j d) = false) → Srt d lt (insIn d lt a j xs) a (hi + 1)
  | 0, xs, hi, h1, h2, h3, h4 => by
    intro i k k1 k2 k3
    rw [insIn]
    by_cases c : i = 0
    · subst c
      by_cases c2 : k = 0
      · subst c2; exact ho.irr _
      · exact h4 k (by omega) (by omega)
    · exact h3 i k k1 k2 (by omega) c (by omega)
  | j + 1, xs, hi, h1, h2, h3, h4 => by
    rw [insIn]
    split
    · rename_i hc
      have e := fun k => swpL_get d (xs := xs) (i := j + 1) (j := j) (by omega) (by omega) k
      refine insIn_srt ho a j _ hi (by omega) (by rw [swpL_len]; exact h2) (fun i k k1 k2 k3 k4 k5 => ?_) (fun k k1 k2 => ?_)
      · rw [e, e, if_neg k4, if_neg k5]
        by_cases c1 : i = j + 1
        · rw [if_pos c1]
          by_cases c2 : k = j + 1
          · rw [if_pos c2]; exact ho.irr _
          · rw [if_neg c2]; exact h3 j k (by omega) (by omega) k3 (by omega) c2
        · rw [if_neg c1]
          by_cases c2 : k = j + 1
          · rw [if_pos c2]; exact h3 i j k1 (by omega) (by omega) c1 (by omega)
          · rw [if_neg c2]; exact h3 i k k1 k2 k3 c1 c2
      · rw [e, e, if_neg (show k ≠ j by omega), if_pos rfl]
        by_cases c2 : k = j + 1
        · rw [if_pos c2]; exact ho.asym _ _ hc.2
        · rw [if_neg c2]; exact h4 k (by omega) k2
    · rename_i hc
      intro i k k1 k2 k3
      by_cases c1 : k = j + 1
      · by_cases c2 : i = j + 1
        · rw [c1, c2]; exact ho.irr _
        · have hl : lt (xs.getD (j + 1) d) (xs.getD j d) = false := by
            cases hq : lt (xs.getD (j + 1) d) (xs.getD j d) with
            | false => rfl
            | true => exact absurd ⟨by omega, hq⟩ hc
          rw [c1]
          exact ho.trans _ _ _ (h3 i j k1 (by omega) (by omega) c2 (by omega)) hl
      · by_cases c2 : i = j + 1
        · rw [c2]; exact h4 k (by omega) (by omega)
        · exact h3 i k k1 k2 (by omega) c2 c1
theorem insOut_mov (lt : α → α → Bool) (a b : Nat) : ∀ (k i : Nat) (xs : List α), i + k ≤ b → b ≤ xs.length → Mov d xs (insOut d lt a k i xs) a b
  | 0, i, xs, _, _ => Mov.refl _ _ _
  | k + 1, i, xs, h, hb => by
    rw [insOut]
    exact (insIn_mov lt a i xs b (by omega) hb).trans (insOut_mov lt a b k (i + 1) _ (by omega) (by rw [insIn_len]; exact hb))
theorem insOut_srt (ho : Ordl lt) (a : Nat) : ∀ (k i : Nat) (xs : List α), i + k ≤ xs.length → Srt d lt xs a i → Srt d lt (insOut d lt a k i xs) a (i + k)
  | 0, i, xs, _, h => h
  | k + 1, i, xs, h, hs => by
    rw [insOut, show i + (k + 1) = i + 1 + k by omega]
    refine insOut_srt ho a k (i + 1) _ (by rw [insIn_len]; omega) (insIn_srt ho a i xs i (Nat.le_refl _) (by omega) (fun p q h1 h2 h3 h4 h5 => hs p q h1 h2 (by omega)) (fun q h1 h2 => by omega))
theorem symL_mov (lt : α → α → Bool) : ∀ (f : Nat) (xs : List α) (a m b : Nat), a < m → m < b → b ≤ xs.length → Mov d xs (symL d lt f xs a m b) a b
  | 0, xs, a, m, b, _, _, _ => Mov.refl _ _ _
  | f + 1, xs, a, m, b, h1, h2, h3 => by
    rw [symL]
    split
    · have hb := bsL_in (fun h => lt (xs.getD h d) (xs.getD a d)) (b + 1) m b (by omega)
      refine ⟨upL_len d _ _ _, fun k hk => ?_, fun k k1 k2 => ?_⟩
      · rw [upL_get d _ (by omega), if_neg (by omega), if_neg (by omega)]
      · rw [upL_get d _ (by omega)]
        split
        · exact ⟨k + 1, by omega, by omega, rfl⟩
        · split
          · exact ⟨a, by omega, by omega, rfl⟩
          · exact ⟨k, k1, k2, rfl⟩
    · split
      · have hb := bsL_in (fun h => !lt (xs.getD m d) (xs.getD h d)) (m + 1) a m (by omega)
        refine ⟨dnL_len d _ _ _, fun k hk => ?_, fun k k1 k2 => ?_⟩
        · rw [dnL_get d (by omega) _ (by omega), if_neg (by omega), if_neg (by omega)]
        · rw [dnL_get d (by omega) _ (by omega)]
          split
          · exact ⟨k - 1, by omega, by omega, rfl⟩
          · split
            · exact ⟨m, by omega, by omega, rfl⟩
            · exact ⟨k, k1, k2, rfl⟩
      · simp only []
        have hs := symS_in d lt xs h1 h2
        generalize symS d lt xs a m b = s at hs ⊢
        obtain ⟨e, he⟩ : ∃ e, e = (a + b) / 2 + m - s := ⟨_, rfl⟩
        rw [← he] at hs ⊢
        obtain ⟨x1, hx1⟩ : ∃ x1, x1 = (if s < m ∧ m < e then rotL d (b + 1) xs m (m - s) (e - m) else xs) := ⟨_, rfl⟩
        rw [← hx1]
        have p1 : Mov d xs x1 a b := by
          rw [hx1]; split
          · rename_i hc
            have e1 := fun k => rotL_get d (b + 1) xs m (m - s) (e - m) (by omega) (by omega) (by omega) (by omega) (by omega) k
            refine ⟨rotL_len d _ _ _ _ _, fun k hk => ?_, fun k k1 k2 => ?_⟩
            · rw [e1, if_neg (by omega)]
            · rw [e1]
              split
              · split
                · exact ⟨k + (m - s), by omega, by omega, rfl⟩
                · exact ⟨k - (e - m), by omega, by omega, rfl⟩
              · exact ⟨k, k1, k2, rfl⟩
          · exact Mov.refl _ _ _
        have l1 := p1.1
        obtain ⟨x2, hx2⟩ : ∃ x2, x2 = (if a < s ∧ s < (a + b) / 2 then symL d lt f x1 a s ((a + b) / 2) else x1) := ⟨_, rfl⟩
        rw [← hx2]
        have p2 : Mov d x1 x2 a b := by
          rw [hx2]; split
          · rename_i hh; exact (symL_mov lt f x1 a s _ hh.1 hh.2 (by omega)).wide (Nat.le_refl _) (by omega)
          · exact Mov.refl _ _ _
        have l2 := p2.1
        split
        · rename_i hh
          exact (p1.trans p2).trans ((symL_mov lt f x2 _ e b hh.1 hh.2 (by omega)).wide (by omega) (Nat.le_refl _))
        · exact p1.trans p2
theorem symL_srt (ho : Ordl lt) : ∀ (f : Nat) (xs : List α) (a m b : Nat), a < m → m < b → b ≤ xs.length → b - a ≤ f → Srt d lt xs a m → Srt d lt xs m b → Srt d lt (symL d lt f xs a m b) a b
  | 0, xs, a, m, b, h1, h2, h3, hf, _, _ => by omega
  | f + 1, xs, a, m, b, h1, h2, h3, hf, hl, hr => by
    rw [symL]
    split
    · rename_i c
      have hb := bsL_in (fun h => lt (xs.getD h d) (xs.getD a d)) (b + 1) m b (by omega)
      obtain ⟨g1, g2⟩ := bsL_ok (fun h => lt (xs.getD h d) (xs.getD a d)) (b + 1) m b (by omega) (by omega) (fun c c' k1 k2 k3 k4 => by
        cases hq : lt (xs.getD c d) (xs.getD a d) with
        | true => rfl
        | false =>
          have := ho.trans _ _ _ hq (hr c c' k1 k2 k3)
          try simp only [] at k4
          rw [this] at k4; cases k4)
      generalize bsL (fun h => lt (xs.getD h d) (xs.getD a d)) (b + 1) m b = r at hb g1 g2 ⊢
      intro i k k1 k2 k3
      have e := fun k => upL_get d (xs := xs) (a := a) (r - 1 - a) (by omega) k
      rw [e, e]
      by_cases c1 : k < a + (r - 1 - a)
      · rw [if_pos (by omega), if_pos (by omega)]
        exact hr _ _ (by omega) (by omega) (by omega)
      · rw [if_neg (by omega)]
        by_cases c2 : k = a + (r - 1 - a)
        · rw [if_pos c2]
          by_cases c3 : i < a + (r - 1 - a)
          · rw [if_pos (by omega)]
            exact ho.asym _ _ (g1 (i + 1) (by omega) (by omega))
          · rw [if_neg (by omega), if_pos (by omega)]; exact ho.irr _
        · rw [if_neg c2]
          have g3 : lt (xs.getD k d) (xs.getD a d) = false := g2 k (by omega) k3
          by_cases c3 : i < a + (r - 1 - a)
          · rw [if_pos (by omega)]
            exact hr _ _ (by omega) (by omega) (by omega)
          · rw [if_neg (by omega)]
            by_cases c4 : i = a + (r - 1 - a)
            · rw [if_pos c4]; exact g3
            · rw [if_neg c4]; exact hr _ _ (by omega) (by omega) (by omega)
    · split
      · rename_i c0 c
        have hb := bsL_in (fun h => !lt (xs.getD m d) (xs.getD h d)) (m + 1) a m (by omega)
        obtain ⟨g1, g2⟩ := bsL_ok (fun h => !lt (xs.getD m d) (xs.getD h d)) (m + 1) a m (by omega) (by omega) (fun c c' k1 k2 k3 k4 => by
          have k5 : lt (xs.getD m d) (xs.getD c' d) = false := by simpa using k4
          have := ho.trans _ _ _ (hl c c' k1 k2 k3) k5
          try simp only []
          rw [this]; rfl)
        generalize bsL (fun h => !lt (xs.getD m d) (xs.getD h d)) (m + 1) a m = r at hb g1 g2 ⊢
        intro i k k1 k2 k3
        have e := fun k => dnL_get d (xs := xs) (m := m) (by omega) (m - r) (by omega) k
        rw [e, e]
        by_cases c1 : i < r
        · rw [if_neg (show ¬ (m - (m - r) < i ∧ i ≤ m) by omega), if_neg (show ¬ i = m - (m - r) by omega)]
          by_cases c2 : k < r
          · rw [if_neg (by omega), if_neg (by omega)]; exact hl _ _ (by omega) (by omega) (by omega)
          · by_cases c3 : k = r
            · rw [if_neg (by omega), if_pos (by omega)]
              have := g1 i (by omega) c1
              simpa using this
            · rw [if_pos (by omega)]; exact hl _ _ (by omega) (by omega) (by omega)
        · by_cases c2 : i = r
          · rw [if_neg (show ¬ (m - (m - r) < i ∧ i ≤ m) by omega), if_pos (show i = m - (m - r) by omega)]
            by_cases c3 : k = r
            · rw [if_neg (by omega), if_pos (by omega)]; exact ho.irr _
            · rw [if_pos (by omega)]
              have := g2 (k - 1) (by omega) (by omega)
              exact ho.asym _ _ (by simpa using this)
          · rw [if_pos (by omega), if_pos (by omega)]; exact hl _ _ (by omega) (by omega) (by omega)
      · rename_i c0 c
        simp only []
        have hs := symS_in d lt xs h1 h2
        have hok : (∀ c, (if (a + b) / 2 < m then (a + b) / 2 + m - b else a) ≤ c → c < symS d lt xs a m b → lt (xs.getD ((a + b) / 2 + m - 1 - c) d) (xs.getD c d) = false) ∧ (∀ c, symS d lt xs a m b ≤ c → c < (if (a + b) / 2 < m then (a + b) / 2 else m) → lt (xs.getD ((a + b) / 2 + m - 1 - c) d) (xs.getD c d) = true) := by
          have := bsL_ok (fun c => !lt (xs.getD ((a + b) / 2 + m - 1 - c) d) (xs.getD c d)) (b + 1) (if (a + b) / 2 < m then (a + b) / 2 + m - b else a) (if (a + b) / 2 < m then (a + b) / 2 else m) (by split <;> omega) (by split <;> omega) (fun c c' k1 k2 k3 k4 => by
            have k5 : lt (xs.getD ((a + b) / 2 + m - 1 - c') d) (xs.getD c' d) = false := by simpa using k4
            have e1 := hl c c' (by split at k1 <;> omega) k2 (by split at k3 <;> omega)
            have e2 := hr ((a + b) / 2 + m - 1 - c') ((a + b) / 2 + m - 1 - c) (by split at k3 <;> omega) (by omega) (by split at k1 <;> omega)
            have := ho.trans _ _ _ (ho.trans _ _ _ e1 k5) e2
            try simp only []
            rw [this]; rfl)
          refine ⟨fun c k1 k2 => ?_, fun c k1 k2 => ?_⟩
          · have := this.1 c k1 k2
            simpa using this
          · have := this.2 c k1 k2
            simpa using this
        generalize symS d lt xs a m b = s at hs hok ⊢
        obtain ⟨o1, o2⟩ := hok
        obtain ⟨mid, hmid⟩ : ∃ mid, mid = (a + b) / 2 := ⟨_, rfl⟩
        rw [← hmid] at hs o1 o2 ⊢
        obtain ⟨e, he⟩ : ∃ e, e = mid + m - s := ⟨_, rfl⟩
        rw [← he] at hs ⊢
        obtain ⟨x1, hx1⟩ : ∃ x1, x1 = (if s < m ∧ m < e then rotL d (b + 1) xs m (m - s) (e - m) else xs) := ⟨_, rfl⟩
        rw [← hx1]
        have l1 : x1.length = xs.length := by
          rw [hx1]; split
          · exact rotL_len d _ _ _ _ _
          · rfl
        have p1 : ∀ k, x1.getD k d = if s ≤ k ∧ k < e then (if k < mid then xs.getD (k + (m - s)) d else xs.getD (k - (e - m)) d) else xs.getD k d := by
          intro k
          rw [hx1]; split
          · rw [rotL_get d (b + 1) xs m (m - s) (e - m) (by omega) (by omega) (by omega) (by omega) (by omega) k]
            by_cases c1 : s ≤ k ∧ k < e
            · rw [if_pos (by omega), if_pos c1]
              by_cases c2 : k < mid
              · rw [if_pos (by omega), if_pos c2]
              · rw [if_neg (by omega), if_neg c2]
            · rw [if_neg (by omega), if_neg c1]
          · rename_i hc
            split
            · split
              · rw [show m - s = 0 by omega]; rfl
              · rw [show e - m = 0 by omega]; rfl
            · rfl
        have hse : s ≤ mid ∧ mid ≤ e ∧ e ≤ b ∧ a ≤ s ∧ s ≤ m ∧ m ≤ e := by omega
        clear hx1
        have s1 : Srt d lt x1 a s := fun i k k1 k2 k3 => by
          rw [p1, p1, if_neg (by omega), if_neg (by omega)]; exact hl _ _ k1 k2 (by omega)
        have s2 : Srt d lt x1 s mid := fun i k k1 k2 k3 => by
          rw [p1, p1, if_pos (by omega), if_pos (by omega), if_pos (by omega), if_pos (by omega)]; exact hr _ _ (by omega) (by omega) (by omega)
        have s3 : Srt d lt x1 mid e := fun i k k1 k2 k3 => by
          rw [p1, p1, if_pos (by omega), if_neg (by omega), if_pos (by omega), if_neg (by omega)]; exact hl _ _ (by omega) (by omega) (by omega)
        have s4 : Srt d lt x1 e b := fun i k k1 k2 k3 => by
          rw [p1, p1, if_neg (by omega), if_neg (by omega)]; exact hr _ _ (by omega) (by omega) (by omega)
        have cr : ∀ i k, a ≤ i → i < mid → mid ≤ k → k < b → lt (x1.getD k d) (x1.getD i d) = false := by
          intro i k k1 k2 k3 k4
          rw [p1, p1]
          by_cases c1 : i < s
          · rw [if_neg (show ¬ (s ≤ i ∧ i < e) by omega)]
            by_cases c2 : k < e
            · rw [if_pos (by omega), if_neg (by omega)]; exact hl _ _ k1 (by omega) (by omega)
            · rw [if_neg (by omega)]
              have t1 := hl i (s - 1) k1 (by omega) (by omega)
              have t2 := o1 (s - 1) (by split <;> omega) (by omega)
              rw [show mid + m - 1 - (s - 1) = e by omega] at t2
              exact ho.trans _ _ _ (ho.trans _ _ _ t1 t2) (hr e k (by omega) (by omega) k4)
          · rw [if_pos (show s ≤ i ∧ i < e by omega), if_pos k2]
            by_cases c2 : k < e
            · rw [if_pos (by omega), if_neg (by omega)]
              have t2 := o2 s (Nat.le_refl _) (by split <;> omega)
              rw [show mid + m - 1 - s = e - 1 by omega] at t2
              have t1 := hr (i + (m - s)) (e - 1) (by omega) (by omega) (by omega)
              exact ho.trans _ _ _ (ho.trans _ _ _ t1 (ho.asym _ _ t2)) (hl s (k - (e - m)) (by omega) (by omega) (by omega))
            · rw [if_neg (by omega)]; exact hr _ _ (by omega) (by omega) k4
        obtain ⟨x2, hx2⟩ : ∃ x2, x2 = (if a < s ∧ s < mid then symL d lt f x1 a s mid else x1) := ⟨_, rfl⟩
        rw [← hx2]
        have q2 : Mov d x1 x2 a mid ∧ Srt d lt x2 a mid := by
          rw [hx2]; split
          · rename_i hh
            exact ⟨symL_mov lt f x1 a s _ hh.1 hh.2 (by omega), symL_srt ho f x1 a s mid hh.1 hh.2 (by omega) (by omega) s1 s2⟩
          · rename_i hh
            refine ⟨Mov.refl _ _ _, ?_⟩
            by_cases hc : a < s
            · rw [show mid = s by omega]; exact s1
            · rw [show a = s by omega]; exact s2
        have l2 := q2.1.1
        obtain ⟨x3, hx3⟩ : ∃ x3, x3 = (if mid < e ∧ e < b then symL d lt f x2 mid e b else x2) := ⟨_, rfl⟩
        rw [← hx3]
        have q3 : Mov d x2 x3 mid b ∧ Srt d lt x3 mid b := by
          have s3' := s3.out q2.1 (.inr (Nat.le_refl _))
          have s4' := s4.out q2.1 (.inr (by omega))
          rw [hx3]; split
          · rename_i hh
            exact ⟨symL_mov lt f x2 mid e _ hh.1 hh.2 (by omega), symL_srt ho f x2 mid e b hh.1 hh.2 (by omega) (by omega) s3' s4'⟩
          · rename_i hh
            refine ⟨Mov.refl _ _ _, ?_⟩
            by_cases hc : mid < e
            · rw [show b = e by omega]; exact s3'
            · rw [show mid = e by omega]; exact s4'
        intro i k k1 k2 k3
        by_cases c1 : k < mid
        · exact (q2.2.out q3.1 (.inl (Nat.le_refl _))) i k k1 k2 c1
        · by_cases c2 : mid ≤ i
          · exact q3.2 i k c2 k2 k3
          · obtain ⟨k', t1, t2, t3⟩ := q3.1.2.2 k (by omega) k3
            rw [t3, q3.1.2.1 i (by omega), q2.1.2.1 k' (by omega)]
            obtain ⟨i', u1, u2, u3⟩ := q2.1.2.2 i k1 (by omega)
            rw [u3]
            exact cr i' k' u1 u2 t1 t2
theorem blkL_ok (ho : Ordl lt) (n : Nat) : ∀ (f a : Nat) (xs : List α), n = xs.length → a ≤ n → n < a + f → (∀ c, Srt d lt (blkL d lt n f a xs) (a + c * 20) (min (a + c * 20 + 20) n)) ∧ ∀ k, k < a → (blkL d lt n f a xs).getD k d = xs.getD k d
  | 0, a, xs, h, ha, hf => by omega
  | f + 1, a, xs, h, ha, hf => by
    rw [blkL]
    split
    · rename_i hc
      have q1 : Srt d lt (insOut d lt a (20 - 1) (a + 1) xs) a (a + 20) := by
        have := insOut_srt (d := d) ho a (20 - 1) (a + 1) xs (by omega) (fun i j h1 h2 h3 => by rw [show i = a by omega, show j = a by omega]; exact ho.irr _)
        rwa [show a + 1 + (20 - 1) = a + 20 by omega] at this
      have q2 := insOut_mov (d := d) lt a (a + 20) (20 - 1) (a + 1) xs (by omega) (by omega)
      obtain ⟨r1, r2⟩ := blkL_ok ho n f (a + 20) (insOut d lt a (20 - 1) (a + 1) xs) (by rw [insOut_len]; exact h) hc (by omega)
      refine ⟨fun c => ?_, fun k hk => by rw [r2 k (by omega), q2.2.1 k (by omega)]⟩
      cases c with
      | zero =>
        intro i j h1 h2 h3
        rw [r2 i (by omega), r2 j (by omega)]
        exact q1 i j (by omega) h2 (by omega)
      | succ c =>
        have := r1 c
        rwa [show a + 20 + c * 20 = a + (c + 1) * 20 by omega] at this
    · rename_i hc
      have q2 := insOut_mov (d := d) lt a (max n a) (n - a - 1) (a + 1) xs
      refine ⟨fun c => ?_, fun k hk => ?_⟩
      · intro i j h1 h2 h3
        have hn : a < n := by omega
        have q1 := insOut_srt (d := d) ho a (n - a - 1) (a + 1) xs (by omega) (fun i j h1 h2 h3 => by rw [show i = a by omega, show j = a by omega]; exact ho.irr _)
        exact q1 i j (by omega) h2 (by omega)
      · by_cases hn : a < n
        · exact (q2 (by omega) (by omega)).2.1 k (by omega)
        · rw [show n - a - 1 = 0 by omega]; rfl
theorem mrgL_ok (ho : Ordl lt) (n z : Nat) (hz : 0 < z) : ∀ (f a : Nat) (xs : List α), n = xs.length → n < a + f → (∀ c, Srt d lt xs (a + c * z) (min (a + c * z + z) n)) → (∀ c, Srt d lt (mrgL d lt n z f a xs) (a + c * (2 * z)) (min (a + c * (2 * z) + 2 * z) n)) ∧ ∀ k, k < a → (mrgL d lt n z f a xs).getD k d = xs.getD k d
  | 0, a, xs, h, hf, hs => ⟨fun c i j h1 h2 h3 => by omega, fun k hk => rfl⟩
  | f + 1, a, xs, h, hf, hs => by
    have s0 := hs 0
    have s1 := hs 1
    rw [Nat.zero_mul, Nat.add_zero] at s0
    rw [Nat.one_mul] at s1
    rw [mrgL]
    split
    · rename_i hc
      have q1 : Srt d lt (symL d lt n xs a (a + z) (a + 2 * z)) a (a + 2 * z) := symL_srt ho n xs a (a + z) (a + 2 * z) (by omega) (by omega) (by omega) (by omega) (by rwa [Nat.min_eq_left (by omega)] at s0) (by rw [Nat.min_eq_left (by omega)] at s1; rwa [show a + z + z = a + 2 * z by omega] at s1)
      have q2 := symL_mov (d := d) lt n xs a (a + z) (a + 2 * z) (by omega) (by omega) (by omega)
      obtain ⟨r1, r2⟩ := mrgL_ok ho n z hz f (a + 2 * z) (symL d lt n xs a (a + z) (a + 2 * z)) (by rw [symL_len]; exact h) (by omega) (fun c => by
        have := (hs (c + 2)).out q2 (.inr (by rw [Nat.add_mul]; omega))
        rwa [show a + (c + 2) * z = a + 2 * z + c * z by rw [Nat.add_mul]; omega] at this)
      refine ⟨fun c => ?_, fun k hk => by rw [r2 k (by omega), q2.2.1 k (by omega)]⟩
      cases c with
      | zero =>
        intro i j h1 h2 h3
        rw [r2 i (by omega), r2 j (by omega)]
        exact q1 i j (by omega) h2 (by omega)
      | succ c =>
        have := r1 c
        rwa [show a + 2 * z + c * (2 * z) = a + (c + 1) * (2 * z) by rw [Nat.add_mul]; omega] at this
    · rename_i hc
      have far : ∀ c i, a + (c + 1) * (2 * z) ≤ i → ¬ i < n := fun c i hi => by
        rw [Nat.add_mul] at hi
        omega
      split
      · rename_i hc2
        have q1 : Srt d lt (symL d lt n xs a (a + z) n) a n := symL_srt ho n xs a (a + z) n (by omega) (by omega) (by omega) (by omega) (by rwa [Nat.min_eq_left (by omega)] at s0) (by rwa [Nat.min_eq_right (by omega)] at s1)
        have q2 := symL_mov (d := d) lt n xs a (a + z) n (by omega) (by omega) (by omega)
        refine ⟨fun c => ?_, fun k hk => q2.2.1 k (by omega)⟩
        cases c with
        | zero => exact fun i j h1 h2 h3 => q1 i j (by omega) h2 (by omega)
        | succ c => exact fun i j h1 h2 h3 => absurd (show i < n by omega) (far c i h1)
      · rename_i hc2
        refine ⟨fun c => ?_, fun k hk => rfl⟩
        cases c with
        | zero => exact fun i j h1 h2 h3 => s0 i j (by omega) h2 (by omega)
        | succ c => exact fun i j h1 h2 h3 => absurd (show i < n by omega) (far c i h1)
theorem stbL_ok (ho : Ordl lt) (n : Nat) : ∀ (f z : Nat) (xs : List α), n = xs.length → 0 < z → n < f + z → (∀ c, Srt d lt xs (0 + c * z) (min (0 + c * z + z) n)) → Srt d lt (stbL d lt n f z xs) 0 n
  | 0, z, xs, h, hz, hf, hs => by
    have := hs 0
    rw [Nat.zero_mul, Nat.min_eq_right (by omega)] at this
    exact this
  | f + 1, z, xs, h, hz, hf, hs => by
    rw [stbL]
    split
    · exact stbL_ok ho n f (2 * z) _ (by rw [mrgL_len]; exact h) (by omega) (by omega) (mrgL_ok ho n z hz (n + 1) 0 xs h (by omega) hs).1
    · have := hs 0
      rw [Nat.zero_mul, Nat.min_eq_right (by omega)] at this
      exact this
theorem stableL_srt (ho : Ordl lt) (xs : List α) : Srt d lt (stableL d lt xs) 0 xs.length := by
  unfold stableL
  exact stbL_ok ho _ _ _ _ (by rw [blkL_len]) (by omega) (by omega) (blkL_ok ho _ _ 0 xs rfl (by omega) (by omega)).1
end
end Go.Proofs.YtlaldfkeaalnhaaGreatDoor

/- What a call owns: the blocks that it made, and the cells that it reads; kept over allocations, stores, calls. For any program. -/
namespace Go.Proofs.YtlaldfkeaalnhaaGreatDoor
set_option linter.all false
open Go.RowKit

theorem heap_keeps {a w : World} (h : Ext a w) {g : Nat} {o : Obj} (hg : a.heap[g]? = some o) : w.heap[g]? = some o := by
  have hlt : g < a.heap.size := by
    rcases Nat.lt_or_ge g a.heap.size with h | h
    · exact h
    · rw [Array.getElem?_eq_none h] at hg; cases hg
  exact (h.block g hlt).trans hg
theorem heap_lt {w : World} {g : Nat} {o : Obj} (hg : w.heap[g]? = some o) : g < w.heap.size := by
  rcases Nat.lt_or_ge g w.heap.size with h | h
  · exact h
  · rw [Array.getElem?_eq_none h] at hg; cases hg
theorem heap_set {w : World} {b j : Nat} {cs : Array Value} {u : Value} {t : TypeId} {fr : Nat × Nat} (h : w.heap[b]? = some (.cells cs t fr)) : (w.setCell ⟨b, j, none⟩ u).heap[b]? = some (.cells (cs.setIfInBounds j u) t fr) := by
  unfold World.setCell
  simp [h, Array.getElem?_modify]
theorem heap_size {w : World} {o : Obj} : (w.alloc o).heap.size = w.heap.size + 1 := by simp
theorem heap_set_size {w : World} {p : Addr} {u : Value} : (w.setCell p u).heap.size = w.heap.size := by simp [World.setCell]
theorem heap_set_other {w : World} {b j k : Nat} {u : Value} (h : k ≠ b) : (w.setCell ⟨b, j, none⟩ u).heap[k]? = w.heap[k]? := by
  unfold World.setCell
  simp [Array.getElem?_modify, Ne.symm h]

/-- a block of the call's own: its number, its cells, its type -/
abbrev Blk := Nat × List Value × TypeId

/-- since w0: all that was there is as it was; the blocks L are the call's own, apart from each other, with these cells -/
structure St (w0 w : World) (L : List Blk) : Prop where
  ext : Ext w0 w
  apart : L.Pairwise fun a b => a.1 ≠ b.1
  own : ∀ x ∈ L, w0.heap.size ≤ x.1 ∧ w.heap[x.1]? = some (.cells x.2.1.toArray x.2.2 (0, 0))

def cellFacts (w : World) (g : Nat) : Nat → List Value → Prop
  | _, [] => True
  | j, v :: l => (w.cell? ⟨g, j, none⟩ = some v ∧ w.frozen? ⟨g, j, none⟩ = false) ∧ cellFacts w g (j + 1) l
def Facts (w : World) : List Blk → Prop
  | [] => True
  | x :: l => cellFacts w x.1 0 x.2.1 ∧ Facts w l

section
variable {w0 w w' : World} {L : List Blk}
theorem St.init (w : World) : St w w [] := ⟨Ext.refl w, List.Pairwise.nil, fun _ h => by cases h⟩
theorem St.step (h : St w0 w L) (hx : Ext w w') : St w0 w' L := ⟨h.ext.trans hx, h.apart, fun x hx' => ⟨(h.own x hx').1, heap_keeps hx (h.own x hx').2⟩⟩
theorem St.drew (h : St w0 w L) : St w0 w.drew L := h.step (Ext.refl w).drew
theorem St.alloc (h : St w0 w L) (cs : List Value) (t : TypeId) : St w0 (w.alloc (.cells cs.toArray t)) ((w.heap.size, cs, t) :: L) := by
  refine ⟨h.ext.alloc _, List.Pairwise.cons (fun x hx e => ?_) h.apart, fun x hx => ?_⟩
  · have := heap_lt (h.own x hx).2
    simp only at e
    omega
  · rcases List.mem_cons.1 hx with rfl | hx
    · exact ⟨h.ext.size, heap_alloc_new w _⟩
    · exact ⟨(h.own x hx).1, heap_keeps ((Ext.refl w).alloc _) (h.own x hx).2⟩
theorem St.old (h : St w0 w L) (o : Obj) : St w0 (w.alloc o) L := h.step ((Ext.refl w).alloc o)
theorem pairwise_set : ∀ (L : List Blk) (i : Nat) (g : Nat) (cs ds : List Value) (t : TypeId), L[i]? = some (g, cs, t) → L.Pairwise (fun a b => a.1 ≠ b.1) → (L.set i (g, ds, t)).Pairwise fun a b => a.1 ≠ b.1
  | [], i, g, cs, ds, t, h, _ => by simp at h
  | x :: L, 0, g, cs, ds, t, h, hp => by
    simp at h; subst h
    exact List.Pairwise.cons (fun y hy => (List.pairwise_cons.1 hp).1 y hy) (List.pairwise_cons.1 hp).2
  | x :: L, i + 1, g, cs, ds, t, h, hp => by
    rw [List.set_cons_succ]
    refine List.Pairwise.cons (fun y hy => ?_) (pairwise_set L i g cs ds t (by simpa using h) (List.pairwise_cons.1 hp).2)
    rcases List.mem_or_eq_of_mem_set hy with hy | rfl
    · exact (List.pairwise_cons.1 hp).1 y hy
    · exact (List.pairwise_cons.1 hp).1 (g, cs, t) (List.mem_of_getElem? (by simpa using h))
theorem pairwise_ne {L : List Blk} (hp : L.Pairwise fun a b => a.1 ≠ b.1) {i j : Nat} {x y : Blk} (hi : L[i]? = some x) (hj : L[j]? = some y) (hij : i ≠ j) : x.1 ≠ y.1 := by
  obtain ⟨li, rfl⟩ := List.getElem?_eq_some_iff.1 hi
  obtain ⟨lj, rfl⟩ := List.getElem?_eq_some_iff.1 hj
  rw [List.pairwise_iff_getElem] at hp
  rcases Nat.lt_or_gt_of_ne hij with h | h
  · exact hp i j li lj h
  · exact (hp j i lj li h).symm
theorem St.setAt (i : Nat) {g : Nat} {cs : List Value} {t : TypeId} (hi : L[i]? = some (g, cs, t)) (h : St w0 w L) (j : Nat) (u : Value) : St w0 (w.setCell ⟨g, j, none⟩ u) (L.set i (g, cs.set j u, t)) := by
  have ho := h.own _ (List.mem_of_getElem? hi)
  refine ⟨h.ext.setCell ho.1 u, pairwise_set L i g cs _ t hi h.apart, fun x hx => ?_⟩
  obtain ⟨k, hk⟩ := List.mem_iff_getElem?.1 hx
  rw [List.getElem?_set] at hk
  split at hk
  · rename_i hik
    split at hk
    · simp at hk; subst hk
      refine ⟨ho.1, ?_⟩
      rw [heap_set ho.2]
      simp
    · cases hk
  · rename_i hik
    have hx' := h.own x (List.mem_of_getElem? hk)
    exact ⟨hx'.1, by rw [heap_set_other (fun e => pairwise_ne h.apart hi hk hik e.symm)]; exact hx'.2⟩
theorem St.put {g : Nat} {cs : List Value} {t : TypeId} {i j : Nat} {u : Value} (h : St w0 w L) (hi : L[i]? = some (g, cs, t)) : St w0 (w.setCell ⟨g, j, none⟩ u) (L.set i (g, cs.set j u, t)) := h.setAt i hi j u
theorem St.drop (i : Nat) (h : St w0 w L) : St w0 w (L.eraseIdx i) := ⟨h.ext, h.apart.sublist (List.eraseIdx_sublist L i), fun x hx => h.own x (List.mem_of_mem_eraseIdx hx)⟩

theorem cellFacts_of {g : Nat} {t : TypeId} {all : List Value} (h : w.heap[g]? = some (.cells all.toArray t (0, 0))) : ∀ (l : List Value) (j : Nat), (∀ k, l[k]? = all[j + k]?) → cellFacts w g j l
  | [], _, _ => trivial
  | v :: l, j, hl => by
    have h0 := hl 0
    simp at h0
    refine ⟨⟨?_, ?_⟩, cellFacts_of h l (j + 1) fun k => ?_⟩
    · simp [World.cell?, h, ← h0]
    · simp [World.frozen?, h]
    · have := hl (k + 1)
      rw [show j + 1 + k = j + (k + 1) by omega]
      simpa using this
theorem facts_of : ∀ L : List Blk, (∀ x ∈ L, w.heap[x.1]? = some (.cells x.2.1.toArray x.2.2 (0, 0))) → Facts w L
  | [], _ => trivial
  | x :: L, h => ⟨cellFacts_of (h x (by simp)) x.2.1 0 (fun k => by simp), facts_of L fun y hy => h y (by simp [hy])⟩
theorem St.facts (h : St w0 w L) : Facts w L := facts_of L fun x hx => (h.own x hx).2
theorem abs_list_alloc {P : Program} {W : World} {o : Obj} {ops : Array Oper} {Q : Exit → Act → World → Prop} {l : List Oper} {a : Act} (h : St w0 (W.alloc o) L) (k : ∀ w, St w0 w L → wpList P ops Q l a w) : wpList P ops Q l a (W.alloc o) := k _ h
theorem abs_list_set {P : Program} {W : World} {p : Addr} {u : Value} {ops : Array Oper} {Q : Exit → Act → World → Prop} {l : List Oper} {a : Act} (h : St w0 (W.setCell p u) L) (k : ∀ w, St w0 w L → wpList P ops Q l a w) : wpList P ops Q l a (W.setCell p u) := k _ h
theorem abs_list_drew {P : Program} {W : World}  {ops : Array Oper} {Q : Exit → Act → World → Prop} {l : List Oper} {a : Act} (h : St w0 (W.drew) L) (k : ∀ w, St w0 w L → wpList P ops Q l a w) : wpList P ops Q l a (W.drew) := k _ h
theorem abs_code_alloc {P : Program} {W : World} {o : Obj} {c : Code} {Q : Exit → Act → World → Prop} {a : Act} (h : St w0 (W.alloc o) L) (k : ∀ w, St w0 w L → Code.wp P c Q a w) : Code.wp P c Q a (W.alloc o) := k _ h
theorem abs_code_set {P : Program} {W : World} {p : Addr} {u : Value} {c : Code} {Q : Exit → Act → World → Prop} {a : Act} (h : St w0 (W.setCell p u) L) (k : ∀ w, St w0 w L → Code.wp P c Q a w) : Code.wp P c Q a (W.setCell p u) := k _ h
theorem abs_code_drew {P : Program} {W : World}  {c : Code} {Q : Exit → Act → World → Prop} {a : Act} (h : St w0 (W.drew) L) (k : ∀ w, St w0 w L → Code.wp P c Q a w) : Code.wp P c Q a (W.drew) := k _ h
theorem abs_post_alloc {P : Program} {W : World} {o : Obj} {fn : Func} {R : Ending → World → Prop} {x : Exit} {a : Act} (h : St w0 (W.alloc o) L) (k : ∀ w, St w0 w L → bodyPost P fn R x a w) : bodyPost P fn R x a (W.alloc o) := k _ h
theorem abs_post_set {P : Program} {W : World} {p : Addr} {u : Value} {fn : Func} {R : Ending → World → Prop} {x : Exit} {a : Act} (h : St w0 (W.setCell p u) L) (k : ∀ w, St w0 w L → bodyPost P fn R x a w) : bodyPost P fn R x a (W.setCell p u) := k _ h
theorem abs_post_drew {P : Program} {W : World}  {fn : Func} {R : Ending → World → Prop} {x : Exit} {a : Act} (h : St w0 (W.drew) L) (k : ∀ w, St w0 w L → bodyPost P fn R x a w) : bodyPost P fn R x a (W.drew) := k _ h
theorem abs_calls_alloc {P : Program} {W : World} {o : Obj} {f : FuncId} {R : Ending → World → Prop} {args : Array Value} (h : St w0 (W.alloc o) L) (k : ∀ w, St w0 w L → Calls P f args w R) : Calls P f args (W.alloc o) R := k _ h
theorem abs_calls_set {P : Program} {W : World} {p : Addr} {u : Value} {f : FuncId} {R : Ending → World → Prop} {args : Array Value} (h : St w0 (W.setCell p u) L) (k : ∀ w, St w0 w L → Calls P f args w R) : Calls P f args (W.setCell p u) R := k _ h
theorem abs_calls_drew {P : Program} {W : World}  {f : FuncId} {R : Ending → World → Prop} {args : Array Value} (h : St w0 (W.drew) L) (k : ∀ w, St w0 w L → Calls P f args w R) : Calls P f args (W.drew) R := k _ h
theorem at0 {α : Type} {x : α} {l : List α} : (x :: l)[0]? = some x := rfl
theorem at1 {α : Type} {a x : α} {l : List α} : (a :: x :: l)[1]? = some x := rfl
theorem at2 {α : Type} {a b x : α} {l : List α} : (a :: b :: x :: l)[2]? = some x := rfl
theorem at3 {α : Type} {a b c x : α} {l : List α} : (a :: b :: c :: x :: l)[3]? = some x := rfl
theorem at4 {α : Type} {a b c d x : α} {l : List α} : (a :: b :: c :: d :: x :: l)[4]? = some x := rfl
theorem at5 {α : Type} {a b c d e x : α} {l : List α} : (a :: b :: c :: d :: e :: x :: l)[5]? = some x := rfl
theorem atS {α : Type} {x y : α} {l : List α} {i : Nat} (h : l[i]? = some y) : (l.set i x)[i]? = some x := by
  obtain ⟨hl, _⟩ := List.getElem?_eq_some_iff.1 h
  simp [hl]
/-- what was there when the call began, and is read: cells, blocks -/
inductive Rd where
  | cell (p : Addr) (v : Value)
  | blk (g : Nat) (cs : List Value) (t : TypeId) (fr : Nat × Nat)
def Rd.holds (w : World) : Rd → Prop
  | .cell p v => w.cell? p = some v
  | .blk g cs t fr => w.heap[g]? = some (.cells cs.toArray t fr)
def Reads (w : World) (R : List Rd) : Prop := ∀ x ∈ R, x.holds w
def cellOnly (w : World) (g : Nat) : Nat → List Value → Prop
  | _, [] => True
  | j, v :: l => w.cell? ⟨g, j, none⟩ = some v ∧ cellOnly w g (j + 1) l
def RFacts (w : World) : List Rd → Prop
  | [] => True
  | .cell p v :: l => w.cell? p = some v ∧ RFacts w l
  | .blk g cs _ _ :: l => cellOnly w g 0 cs ∧ RFacts w l
theorem Reads.nil (w : World) : Reads w [] := fun _ h => by cases h
theorem Reads.cell {R : List Rd} {p : Addr} {v : Value} (hc : w.cell? p = some v) (h : Reads w R) : Reads w (.cell p v :: R) := fun x hx => by
  rcases List.mem_cons.1 hx with rfl | hx
  · exact hc
  · exact h x hx
theorem Reads.blk {R : List Rd} {g : Nat} {cs : Array Value} {t : TypeId} {fr : Nat × Nat} (hc : w.heap[g]? = some (.cells cs t fr)) (h : Reads w R) : Reads w (.blk g cs.toList t fr :: R) := fun x hx => by
  rcases List.mem_cons.1 hx with rfl | hx
  · simpa [Rd.holds] using hc
  · exact h x hx
theorem Reads.ext {R : List Rd} (h : Reads w R) (hx : Ext w w') : Reads w' R := fun x hx' => by
  have := h x hx'
  cases x with
  | cell p v => exact hx.keeps this
  | blk g cs t fr => exact heap_keeps hx this
theorem cellOnly_of {g : Nat} {t : TypeId} {fr : Nat × Nat} {all : List Value} (h : w.heap[g]? = some (.cells all.toArray t fr)) : ∀ (l : List Value) (j : Nat), (∀ k, l[k]? = all[j + k]?) → cellOnly w g j l
  | [], _, _ => trivial
  | v :: l, j, hl => by
    have h0 := hl 0
    simp at h0
    refine ⟨by simp [World.cell?, h, ← h0], cellOnly_of h l (j + 1) fun k => ?_⟩
    have := hl (k + 1)
    rw [show j + 1 + k = j + (k + 1) by omega]
    simpa using this
theorem rfacts_of : ∀ R : List Rd, Reads w R → RFacts w R
  | [], _ => trivial
  | .cell p v :: R, h => ⟨h (.cell p v) (by simp), rfacts_of R fun y hy => h y (by simp [hy])⟩
  | .blk g cs t fr :: R, h => ⟨cellOnly_of (h (.blk g cs t fr) (by simp)) cs 0 (fun k => by simp), rfacts_of R fun y hy => h y (by simp [hy])⟩
theorem Reads.at {R : List Rd} (h : Reads w R) (hx : Ext w w') : RFacts w' R := rfacts_of R (h.ext hx)
end
end Go.Proofs.YtlaldfkeaalnhaaGreatDoor

/- A region under St, whether its order is drawn or not: walked once in the order of the text; guards may be open. For any program. -/
namespace Go.Proofs.YtlaldfkeaalnhaaGreatDoor
set_option linter.all false
open Go.RowKit
section
variable {P : Program} {ops : Array Oper} {F : World → Prop} {K : Act → Prop} {o : Oper} {rest : List Oper} {a : Act} {j : Nat} {p b : Bool} {d : Tmp}
theorem wanted_eq (hg : o.guard = some (j, p)) (hd : (ops[j]?).bind (·.dst) = some d) (ht : a.tmps[d]? = some (.bool b)) : Region.wanted o (yielded ops a.tmps) = (b == p) := by
  have hy : yielded ops a.tmps j = some b := by unfold yielded; rw [hd]; simp [ht]
  cases b <;> cases p <;> simp [Region.wanted, hg, hy]
theorem wanted_true (hg : o.guard = some (j, p)) (hd : (ops[j]?).bind (·.dst) = some d) (ht : a.tmps[d]? = some (.bool b)) (hb : b = p) : Region.wanted o (yielded ops a.tmps) = true := by
  rw [wanted_eq hg hd ht]; simp [hb]
theorem wanted_false (hg : o.guard = some (j, p)) (hd : (ops[j]?).bind (·.dst) = some d) (ht : a.tmps[d]? = some (.bool b)) (hb : b = !p) : Region.wanted o (yielded ops a.tmps) = false := by
  rw [wanted_eq hg hd ht]; subst hb; cases p <;> rfl
theorem Fixed.here {l : List Oper} (h : Fixed P ops F K l a) : Fixed P ops F K l a := h
/-- the guard is open: both ways -/
theorem Fixed.guardT (_ : o.guard = some (j, true)) (_ : (ops[j]?).bind (·.dst) = some d) (_ : a.tmps[d]? = some (.bool b)) (h1 : b = true → Fixed P ops F K (o :: rest) a) (h2 : b = false → Fixed P ops F K (o :: rest) a) : Fixed P ops F K (o :: rest) a := by
  cases hb : b
  · exact h2 hb
  · exact h1 hb
theorem Fixed.guardF (_ : o.guard = some (j, false)) (_ : (ops[j]?).bind (·.dst) = some d) (_ : a.tmps[d]? = some (.bool b)) (h1 : b = false → Fixed P ops F K (o :: rest) a) (h2 : b = true → Fixed P ops F K (o :: rest) a) : Fixed P ops F K (o :: rest) a := by
  cases hb : b
  · exact h1 hb
  · exact h2 hb
theorem Fixed.imp {K' : Act → Prop} (hK : ∀ a, K a → K' a) : ∀ (l : List Oper) (a : Act), Fixed P ops F K l a → Fixed P ops F K' l a
  | [], a, h => hK a h
  | _ :: l, _, .inl ⟨hw, v, hs, h⟩ => .inl ⟨hw, v, hs, Fixed.imp hK l _ h⟩
  | _ :: l, _, .inr ⟨hw, h⟩ => .inr ⟨hw, Fixed.imp hK l _ h⟩
end
end Go.Proofs.YtlaldfkeaalnhaaGreatDoor

/- What a call owns, in general: blocks whose cells are known, slices that it builds; each apart from the others; kept over allocations, stores, appends, calls. For any program. -/
namespace Go.Proofs.YtlaldfkeaalnhaaGreatDoor
set_option linter.all false
open Go.RowKit

/-- a thing that the call owns: a block with its cells; a slice of n elements with its cells -/
inductive Item where
  | blk (g : Nat) (cs : List Value) (t : TypeId)
  | row (e : TypeId) (size : Nat) (A : Option Addr) (n cap : Nat) (xs : List Value)
  | ob (g : Nat) (o : Obj)
  | mp (m : Option Nat) (o : Obj)
def Item.block : Item → Option Nat
  | .blk g _ _ => some g
  | .row _ _ A _ _ _ => A.map (·.block)
  | .ob g _ => some g
  | .mp m _ => m
def Item.at (B : Nat) (w : World) : Item → Prop
  | .blk g cs t => B ≤ g ∧ w.heap[g]? = some (.cells cs.toArray t (0, 0))
  | .row e size A n cap xs => w.ownsRow B e size (.slice A n cap) n xs
  | .ob g o => B ≤ g ∧ w.heap[g]? = some o
  | .mp m o => ∀ g, m = some g → B ≤ g ∧ w.heap[g]? = some o
def clash (a b : Item) : Prop := a.block = none ∨ a.block ≠ b.block
theorem clash.symm {a b : Item} (h : clash a b) : clash b a := by
  unfold clash at *
  cases hb : b.block with
  | none => exact .inl rfl
  | some g => rcases h with h | h
              · right; rw [h]; simp
              · right; rw [hb] at h; exact fun e => h e.symm
/-- since w0: below B all is as it was; the things of L are the call's own, from B on, apart -/
structure Hp (B : Nat) (w0 w : World) (L : List Item) : Prop where
  below : Below B w0 w
  base : B ≤ w.heap.size
  apart : L.Pairwise clash
  own : ∀ x ∈ L, x.at B w
theorem own_none {A : Option Addr} {n cap : Nat} : (Value.slice A n cap).ownBlock = A.map (·.block) := by cases A <;> rfl
/-- the facts on the blocks' cells -/
def HFacts (w : World) : List Item → Prop
  | [] => True
  | .blk g cs _ :: l => cellFacts w g 0 cs ∧ HFacts w l
  | .row .. :: l => HFacts w l
  | .ob .. :: l => HFacts w l
  | .mp .. :: l => HFacts w l

section
variable {P : Program} {B : Nat} {w0 w w' : World} {L : List Item} {x : Item} {row : Option Nat}
theorem Item.at.lt (h : x.at B w) : ∀ k, x.block = some k → B ≤ k ∧ k < w.heap.size := by
  intro k hk
  cases x with
  | blk g cs t =>
    simp [Item.block] at hk; subst hk
    exact ⟨h.1, heap_lt h.2⟩
  | row e size A n cap xs => exact World.ownsRow.lt h k (by rw [own_none]; exact hk)
  | ob g o =>
    simp [Item.block] at hk; subst hk
    exact ⟨h.1, (Array.getElem?_eq_some_iff.1 h.2).1⟩
  | mp m o => exact ⟨(h k hk).1, (Array.getElem?_eq_some_iff.1 (h k hk).2).1⟩
theorem Item.at.kept (h : x.at B w) (hg : w.grownBy w' row) (hne : x.block = none ∨ x.block ≠ row) : x.at B w' := by
  cases x with
  | blk g cs t =>
    refine ⟨h.1, ?_⟩
    rw [hg.block g (heap_lt h.2) (by simpa [Item.block] using hne)]
    exact h.2
  | row e size A n cap xs => exact World.ownsRow.kept h hg (by rw [own_none]; exact hne)
  | ob g o =>
    refine ⟨h.1, ?_⟩
    rw [hg.block g (Array.getElem?_eq_some_iff.1 h.2).1 (by simpa [Item.block] using hne)]
    exact h.2
  | mp m o =>
    intro g hm
    refine ⟨(h g hm).1, ?_⟩
    rw [hg.block g (Array.getElem?_eq_some_iff.1 (h g hm).2).1 (by subst hm; simpa [Item.block] using hne)]
    exact (h g hm).2
theorem Hp.nil (h : Below B w0 w) (hB : B ≤ w.heap.size) : Hp B w0 w [] := ⟨h, hB, List.Pairwise.nil, fun _ h => by cases h⟩
theorem Hp.init (w : World) : Hp w.heap.size w w [] := Hp.nil (Below.refl _ _) (Nat.le_refl _)
theorem Hp.ext (h : Hp w0.heap.size w0 w L) : Ext w0 w := h.below
theorem Hp.grown (h : Hp B w0 w L) (hg : w.grownBy w' none) : Hp B w0 w' L :=
  ⟨h.below.grown hg h.base (fun k hk => by cases hk), Nat.le_trans h.base hg.size, h.apart, fun x hx => (h.own x hx).kept hg (by cases hb : x.block <;> simp)⟩
theorem Hp.step (h : Hp B w0 w L) (hx : Ext w w') : Hp B w0 w' L := h.grown (hx.grownBy none)
theorem Hp.drew (h : Hp B w0 w L) : Hp B w0 w.drew L := h.step (Ext.refl w).drew
theorem Hp.old (h : Hp B w0 w L) (o : Obj) : Hp B w0 (w.alloc o) L := h.step ((Ext.refl w).alloc o)
theorem Hp.cons (h : Hp B w0 w L) (hx : x.at B w) (hc : ∀ y ∈ L, clash x y) : Hp B w0 w (x :: L) :=
  ⟨h.below, h.base, List.Pairwise.cons hc h.apart, fun y hy => (List.mem_cons.1 hy).elim (fun e => e ▸ hx) (h.own y)⟩
theorem Hp.fresh (h : Hp B w0 w L) {g : Nat} (hx : x.block = some g) (hg : w.heap.size ≤ g) : ∀ y ∈ L, clash x y := fun y hy => by
  right
  rw [hx]
  intro e
  have := (h.own y hy).lt g e.symm
  omega
theorem Hp.alloc (h : Hp B w0 w L) (cs : List Value) (t : TypeId) : Hp B w0 (w.alloc (.cells cs.toArray t)) (.blk w.heap.size cs t :: L) :=
  (h.old _).cons ⟨h.base, heap_alloc_new w _⟩ (h.fresh rfl (Nat.le_refl _))
theorem Hp.nilRow (h : Hp B w0 w L) (e : TypeId) (size : Nat) : Hp B w0 w (.row e size none 0 0 [] :: L) := h.cons (World.ownsRow_nil _ _ _ _) fun _ _ => .inl rfl
theorem Hp.sub {M : List Item} (h : Hp B w0 w L) (hs : M.Sublist L) : Hp B w0 w M := ⟨h.below, h.base, h.apart.sublist hs, fun x hx => h.own x (hs.subset hx)⟩
theorem Hp.drop (i : Nat) (h : Hp B w0 w L) : Hp B w0 w (L.eraseIdx i) := h.sub (List.eraseIdx_sublist L i)
theorem Hp.perm {M : List Item} (h : Hp B w0 w L) (hp : M.Perm L) : Hp B w0 w M := ⟨h.below, h.base, (hp.pairwise_iff (fun h => clash.symm h)).2 h.apart, fun x hx => h.own x (hp.subset hx)⟩
theorem perm_front : ∀ (L : List Item) (i : Nat) (x : Item), L[i]? = some x → (x :: L.eraseIdx i).Perm L
  | [], i, x, h => by simp at h
  | y :: L, 0, x, h => by simp at h; subst h; simp
  | y :: L, i + 1, x, h => by
    rw [List.eraseIdx_cons_succ]
    exact (List.Perm.swap y x _).trans ((perm_front L i x (by simpa using h)).cons y)
/-- the thing at i comes to the head -/
theorem Hp.front (i : Nat) (h : Hp B w0 w L) (hi : L[i]? = some x) : Hp B w0 w (x :: L.eraseIdx i) := h.perm (perm_front L i x hi)
/-- the thing behind the head at i comes to the second place -/
theorem Hp.second (i : Nat) {y : Item} (h : Hp B w0 w (y :: L)) (hi : L[i]? = some x) : Hp B w0 w (y :: x :: L.eraseIdx i) := h.perm ((perm_front L i x hi).cons y)
theorem Hp.tail (h : Hp B w0 w (x :: L)) : Hp B w0 w L := h.sub (List.sublist_cons_self x L)
theorem Hp.head (h : Hp B w0 w (x :: L)) : x.at B w := h.own x (by simp)

/-- the head has been written: a block, a row -/
theorem Hp.turn {y : Item} (h : Hp B w0 w (x :: L)) (hg : w.grownBy w' row) (hr : row = none ∨ row = x.block) (hy : y.at B w') (hb : y.block = x.block ∨ y.block = none ∨ ∃ g, y.block = some g ∧ w.heap.size ≤ g) : Hp B w0 w' (y :: L) := by
  obtain ⟨hc, ha⟩ := List.pairwise_cons.1 h.apart
  refine ⟨h.below.grown hg h.base (fun k hk => ?_), Nat.le_trans h.base hg.size, List.Pairwise.cons (fun z hz => ?_) ha, fun z hz => ?_⟩
  · rcases hr with hr | hr
    · rw [hr] at hk; cases hk
    · exact (h.head.lt k (by rw [← hr]; exact hk)).1
  · rcases hb with hb | hb | ⟨g, hb, hlt⟩
    · have := hc z hz
      unfold clash at *
      rwa [hb]
    · exact .inl hb
    · exact h.fresh hb hlt z (by simp [hz])
  · rcases List.mem_cons.1 hz with rfl | hz
    · exact hy
    · refine (h.own z (by simp [hz])).kept hg ?_
      rcases hr with hr | hr
      · rw [hr]; cases hb : z.block <;> simp
      · rw [hr]; exact (hc z hz).symm
theorem grownBy_set (w : World) (g j : Nat) (u : Value) : w.grownBy (w.setCell ⟨g, j, none⟩ u) (some g) :=
  ⟨rfl, rfl, rfl, by simp [World.setCell], fun k _ hk => heap_set_other (by simpa using hk)⟩
theorem Hp.put0 {g : Nat} {cs : List Value} {t : TypeId} (h : Hp B w0 w (.blk g cs t :: L)) (j : Nat) (u : Value) : Hp B w0 (w.setCell ⟨g, j, none⟩ u) (.blk g (cs.set j u) t :: L) :=
  h.turn (grownBy_set w g j u) (.inr rfl) ⟨h.head.1, by rw [heap_set h.head.2]; simp⟩ (.inl rfl)
theorem set_perm : ∀ (L : List Item) (i : Nat) (x y : Item), L[i]? = some x → (L.set i y).Perm (y :: L.eraseIdx i)
  | [], i, x, y, h => by simp at h
  | z :: L, 0, x, y, h => by simp
  | z :: L, i + 1, x, y, h => by
    rw [List.eraseIdx_cons_succ, List.set_cons_succ]
    exact ((set_perm L i x y (by simpa using h)).cons z).trans (List.Perm.swap y z _)
theorem Hp.put {g : Nat} {cs : List Value} {t : TypeId} {i j : Nat} {u : Value} (h : Hp B w0 w L) (hi : L[i]? = some (.blk g cs t)) : Hp B w0 (w.setCell ⟨g, j, none⟩ u) (L.set i (.blk g (cs.set j u) t)) :=
  ((h.front i hi).put0 j u).perm (set_perm L i _ _ hi)
theorem Hp.putRow {e : TypeId} {size g n cap : Nat} {xs : List Value} (h : Hp B w0 w (.row e size (some ⟨g, 0, none⟩) n cap xs :: L)) (j : Nat) (u : Value) : Hp B w0 (w.setCell ⟨g, j, none⟩ u) (.row e size (some ⟨g, 0, none⟩) n cap (xs.set j u) :: L) :=
  h.turn (grownBy_set w g j u) (.inr rfl) (World.ownsRow.stored h.head j u).1 (.inl rfl)
theorem Hp.blkAt {g : Nat} {cs : List Value} {t : TypeId} (h : Hp B w0 w L) (i : Nat) (hi : L[i]? = some (.blk g cs t)) : w.heap[g]? = some (.cells cs.toArray t (0, 0)) := (h.own _ (List.mem_of_getElem? hi)).2

theorem Item.at.mono {B2 : Nat} (h : x.at B w) (hb : B2 ≤ B) : x.at B2 w := by
  cases x with
  | blk g cs t => exact ⟨Nat.le_trans hb h.1, h.2⟩
  | ob g o => exact ⟨Nat.le_trans hb h.1, h.2⟩
  | mp m o => exact fun g hm => ⟨Nat.le_trans hb (h g hm).1, (h g hm).2⟩
  | row e size A n cap xs =>
    refine ⟨(show w.ownsRow B e size (.slice A n cap) n xs from h).1, ?_⟩
    rcases (show w.ownsRow B e size (.slice A n cap) n xs from h).2 with h | ⟨g, cp, cur, h1, h2, h3⟩
    · exact .inl h
    · exact .inr ⟨g, cp, cur, h1, Nat.le_trans hb h2, h3⟩
/-- what a call that owns nothing of ours hands back is ours from then on -/
theorem Hp.join {M : List Item} (h : Hp B w0 w L) (k : Hp w.heap.size w w' M) : Hp B w0 w' (M ++ L) := by
  have h' := h.step k.ext
  refine ⟨h'.below, h'.base, List.pairwise_append.2 ⟨k.apart, h'.apart, fun a ha b hb => ?_⟩, fun z hz => ?_⟩
  · cases hab : a.block with
    | none => exact .inl hab
    | some g =>
      right
      rw [hab]
      intro e
      have h1 := ((k.own a ha).lt g hab).1
      have h2 := ((h.own b hb).lt g e.symm).2
      omega
  · rcases List.mem_append.1 hz with hz | hz
    · exact (k.own z hz).mono h.base
    · exact h'.own z hz
theorem hfacts_of : ∀ L : List Item, (∀ x ∈ L, x.at B w) → HFacts w L
  | [], _ => trivial
  | .blk g cs t :: L, h => ⟨cellFacts_of (h (.blk g cs t) (by simp)).2 cs 0 (fun k => by simp), hfacts_of L fun y hy => h y (by simp [hy])⟩
  | .row .. :: L, h => hfacts_of L fun y hy => h y (by simp [hy])
  | .ob .. :: L, h => hfacts_of L fun y hy => h y (by simp [hy])
  | .mp .. :: L, h => hfacts_of L fun y hy => h y (by simp [hy])
theorem Hp.facts (h : Hp B w0 w L) : HFacts w L := hfacts_of L h.own

/-- append of m elements that lie at ad -/
theorem run_append_hp {t ty e : TypeId} {size bytes n m c cap : Nat} {A : Option Addr} {xs news : List Value} (hE : Elem P t e size bytes) (h : Hp B w0 w (.row e size A n cap xs :: L)) (ad : Addr) (hl : news.length = m * size)
    (hnews : ∀ j u, news[j]? = some u → w.cell? (ad.add j) = some u) (h1 : ∀ u ∈ news, u.oneCell' = true) (hn : (n + m) * bytes ≤ 140737488355328) (hm : n + m ≤ 140737488355328) :
    ∃ A' cap' w', (Builtin.append_ #[t, t] ty #[.slice A n cap, .slice (some ad) m c]).run P w = .ok (.slice A' (n + m : Nat) cap') w' ∧ Hp B w0 w' (.row e size A' (n + m) cap' (xs ++ news) :: L) := by
  obtain ⟨i, z, hi, hz, hsz, hby, hzs⟩ := hE.info
  have hown : w.ownsRow B e size (.slice A n cap) n xs := h.head
  obtain ⟨v', w', hr, hown', hg, hnil, hat⟩ := run_append_own_at (P := P) w B t ty e i z size bytes hE.under hi hz hsz hby hzs hE.pos _ n xs hown ad m c news hl hnews h1 (by unfold maxLen; omega) hn h.base
  have hv : ∃ A' cap', v' = .slice A' (n + m : Nat) cap' := by
    rcases hown'.2 with ⟨rfl, h0⟩ | ⟨g, cp, cur, rfl, _⟩
    · exact ⟨none, 0, by rw [h0]⟩
    · exact ⟨_, _, rfl⟩
  obtain ⟨A', cap', rfl⟩ := hv
  refine ⟨A', cap', w', hr, h.turn hg (.inr own_none) hown' ?_⟩
  rw [own_none, own_none] at hat
  rcases hat with hat | hat
  · exact .inl hat
  · exact .inr (.inr ⟨_, hat, Nat.le_refl _⟩)
theorem wpList_append_hp {t e : TypeId} {size bytes n m c cap : Nat} {A : Option Addr} {xs news : List Value} (hE : Elem P t e size bytes) {ops : Array Oper} {rest : List Oper} {o : Oper} {a : Act} {Q : Exit → Act → World → Prop} (hgd : o.guard = none) (s x : Operand)
    (ho : o.op = .call { callee := .builtin .append, args := #[s, x], argTypes := #[t, t] }) (h : Hp B w0 w (.row e size A n cap xs :: L)) (hs : a.eval s = .slice A n cap) (ad : Addr) (hx : a.eval x = .slice (some ad) m c) (hl : news.length = m * size)
    (hnews : ∀ j u, news[j]? = some u → w.cell? (ad.add j) = some u) (h1 : ∀ u ∈ news, u.oneCell' = true) (hn : (n + m) * bytes ≤ 140737488355328) (hm : n + m ≤ 140737488355328)
    (k : ∀ A' cap' w', Hp B w0 w' (.row e size A' (n + m) cap' (xs ++ news) :: L) → wpList P ops Q rest (a.put o.dst (.slice A' (n + m : Nat) cap')) w') : wpList P ops Q (o :: rest) a w := by
  refine wpList_plain hgd fun K hK => ?_
  obtain ⟨A', cap', w', hr, h2⟩ := run_append_hp (P := P) (c := c) (ty := o.type) hE h ad hl hnews h1 hn hm
  unfold Oper.wp execOp
  simp only [ho, resolve, invoke, builtin, Sem.run_bind, Sem.run_pure, Result.andThen_ok, List.map_toArray, List.map_cons, List.map_nil, hs, hx, hr]
  exact hK _ _ (k A' cap' w' h2)
/-- append of the one element that lies in the block at the head -/
theorem wpList_push_hp {t e : TypeId} {size bytes n c cap S : Nat} {A : Option Addr} {xs news : List Value} (hE : Elem P t e size bytes) {ops : Array Oper} {rest : List Oper} {o : Oper} {a : Act} {Q : Exit → Act → World → Prop} (hgd : o.guard = none) (s x : Operand)
    (ho : o.op = .call { callee := .builtin .append, args := #[s, x], argTypes := #[t, t] }) (h : Hp B w0 w (.blk S news e :: .row e size A n cap xs :: L)) (hs : a.eval s = .slice A n cap) (hx : a.eval x = .slice (some ⟨S, 0, none⟩) 1 c) (hl : news.length = size)
    (h1 : ∀ u ∈ news, u.oneCell' = true) (hn : (n + 1) * bytes ≤ 140737488355328) (hm : n + 1 ≤ 140737488355328)
    (k : ∀ A' cap' w', Hp B w0 w' (.row e size A' (n + 1) cap' (xs ++ news) :: L) → wpList P ops Q rest (a.put o.dst (.slice A' (n + 1 : Nat) cap')) w') : wpList P ops Q (o :: rest) a w := by
  refine wpList_append_hp hE hgd s x ho h.tail hs ⟨S, 0, none⟩ hx (by simpa using hl) (fun j u hu => ?_) h1 hn hm k
  exact World.news_of_block h.head.2 j u (by simpa using hu)
/-- append of a string's bytes -/
theorem run_append_str_hp {t u ty e : TypeId} {n cap : Nat} {A : Option Addr} {xs : List Value} (hE : Elem P t e 1 1) (hz : (P.info? e).bind (·.zero) = some (.int .u8 0)) (hu : P.underlying u = some .string) (h : Hp B w0 w (.row e 1 A n cap xs :: L)) (s : ByteArray) (hm : n + s.size ≤ 140737488355328) :
    ∃ A' cap' w', (Builtin.append_ #[t, u] ty #[.slice A n cap, .string s]).run P w = .ok (.slice A' (n + s.size : Nat) cap') w' ∧ Hp B w0 w' (.row e 1 A' (n + s.size) cap' (xs ++ Lib.strCells s) :: L) := by
  obtain ⟨i, z, hi, hz', hsz, hby, hzs⟩ := hE.info
  have hz0 : i.zero = some (.int .u8 0) := by rw [hi] at hz; simpa using hz
  have hown : w.ownsRow B e 1 (.slice A n cap) n xs := h.head
  obtain ⟨v', w', hr, hown', hg, hnil⟩ := Lib.run_append_own_string (P := P) w B t u ty e i hE.under hu hi hz0 hsz hby _ n xs hown s (by unfold maxLen; omega) hm h.base
  have hv : ∃ A' cap', v' = .slice A' (n + s.size : Nat) cap' := by
    rcases hown'.2 with ⟨rfl, h0⟩ | ⟨g, cp, cur, rfl, _⟩
    · exact ⟨none, 0, by rw [h0]⟩
    · exact ⟨_, _, rfl⟩
  obtain ⟨A', cap', rfl⟩ := hv
  refine ⟨A', cap', w', hr, h.turn hg (.inr own_none) hown' ?_⟩
  show (A'.map (·.block)) = A.map (·.block) ∨ _
  rcases hown.2 with ⟨hv, h0⟩ | ⟨g, cp, cur, hv, hbg, hgg, hnc, hcm, hcs, htake⟩
  · obtain ⟨rfl, rfl, rfl⟩ : A = none ∧ n = 0 ∧ cap = 0 := by simpa using hv
    have hx : xs = [] := List.eq_nil_of_length_eq_zero (by simpa using hown.1)
    subst hx
    obtain ⟨v2, w2, hr2, hown2, _⟩ := Lib.run_append_own_string (P := P) w w.heap.size t u ty e i hE.under hu hi hz0 hsz hby (.slice none 0 0) 0 [] (World.ownsRow_nil _ _ _ _) s (by unfold maxLen; omega) hm (Nat.le_refl _)
    rw [hr] at hr2
    simp only [Result.ok.injEq] at hr2
    obtain ⟨rfl, rfl⟩ := hr2
    cases A' with
    | none => exact .inl rfl
    | some a => exact .inr (.inr ⟨a.block, rfl, (hown2.lt a.block rfl).1⟩)
  · obtain ⟨rfl, _, rfl⟩ : A = some ⟨g, 0, none⟩ ∧ n = n ∧ cap = cp := by simpa using hv
    by_cases hroom : n + s.size ≤ cap
    · have hr2 := Lib.run_append_room_string (P := P) w t u ty e i hE.under hu hi hsz g n cap cur hgg s hroom (by omega)
      rw [hr] at hr2
      simp only [Result.ok.injEq, Value.slice.injEq] at hr2
      rw [hr2.1.1]
      exact .inl rfl
    · have hr2 := Lib.run_append_grow_string (P := P) w t u ty e i (.int .u8 0) hE.under hu hi hz0 ⟨g, 0, none⟩ n cap xs (by rw [hsz]; exact hown.1) (hown.cells (g := g) rfl) s (by omega) (by omega) (by rw [hby]; exact growslice_fits (by omega) (by omega))
      rw [hr] at hr2
      simp only [Result.ok.injEq, Value.slice.injEq] at hr2
      rw [hr2.1.1]
      exact .inr (.inr ⟨_, rfl, Nat.le_refl _⟩)
/-- append of nothing -/
theorem run_append_nilsrc {t ty e : TypeId} {size bytes n cap : Nat} {A : Option Addr} {xs : List Value} (hE : Elem P t e size bytes) (h : Hp B w0 w (.row e size A n cap xs :: L)) :
    (Builtin.append_ #[t, t] ty #[.slice A n cap, .slice none 0 0]).run P w = .ok (.slice A n cap) w := by
  obtain ⟨i, z, hi, hz, hsz, hby, hzs⟩ := hE.info
  have hc : n ≤ cap := by
    rcases (show w.ownsRow B e size (.slice A n cap) n xs from h.head).2 with ⟨hv, h0⟩ | ⟨g, cp, cur, hv, _, _, hc, _⟩
    · omega
    · obtain ⟨rfl, _, rfl⟩ : A = some ⟨g, 0, none⟩ ∧ n = n ∧ cap = cp := by simpa using hv
      exact hc
  cases A <;> simp [Builtin.append_, run_underlying hE.under, sizeOf, typeInfo, hi, Builtin.lenOf, Builtin.firstCells, loadCells, loadCellsFrom, hc, storeCells]
/-- the cells of a row -/
theorem Hp.rowCell {e : TypeId} {size n cap : Nat} {A : Option Addr} {xs : List Value} (h : Hp B w0 w L) (i : Nat) (hi : L[i]? = some (.row e size A n cap xs)) {j : Nat} {u : Value} (hj : xs[j]? = some u) :
    ∃ g, A = some ⟨g, 0, none⟩ ∧ w.cell? ⟨g, j, none⟩ = some u ∧ w.frozen? ⟨g, j, none⟩ = false := by
  have ho : w.ownsRow B e size (.slice A n cap) n xs := h.own _ (List.mem_of_getElem? hi)
  rcases ho.2 with ⟨hv, h0⟩ | ⟨g, cp, cur, hv, _⟩
  · have := ho.1
    rw [h0, Nat.zero_mul] at this
    rw [List.eq_nil_of_length_eq_zero this] at hj
    simp at hj
  · obtain ⟨rfl, _, rfl⟩ : A = some ⟨g, 0, none⟩ ∧ n = n ∧ cap = cp := by simpa using hv
    refine ⟨g, rfl, ?_, ho.frozenAt j⟩
    have e : (⟨g, 0, none⟩ : Addr).add j = ⟨g, j, none⟩ := by unfold Addr.add; split <;> simp_all
    rw [← e]
    exact ho.cells (g := g) rfl j u hj
theorem Hp.rowNil {e : TypeId} {size n cap : Nat} {xs : List Value} (h : Hp B w0 w L) (i : Nat) (hi : L[i]? = some (.row e size none n cap xs)) : n = 0 ∧ cap = 0 ∧ xs = [] := by
  have ho : w.ownsRow B e size (.slice none n cap) n xs := h.own _ (List.mem_of_getElem? hi)
  rcases ho.2 with ⟨hv, h0⟩ | ⟨g, cp, cur, hv, _⟩
  · obtain ⟨_, rfl⟩ : n = 0 ∧ cap = 0 := by simpa using hv
    exact ⟨h0, rfl, List.eq_nil_of_length_eq_zero (by have := ho.1; rw [h0] at this; simpa using this)⟩
  · simp at hv
theorem Hp.rowLen {e : TypeId} {size n cap : Nat} {A : Option Addr} {xs : List Value} (h : Hp B w0 w L) (i : Nat) (hi : L[i]? = some (.row e size A n cap xs)) : xs.length = n * size ∧ n ≤ cap := by
  have ho : w.ownsRow B e size (.slice A n cap) n xs := h.own _ (List.mem_of_getElem? hi)
  refine ⟨ho.1, ?_⟩
  rcases ho.2 with ⟨hv, h0⟩ | ⟨g, cp, cur, hv, _, _, hc, _⟩
  · omega
  · obtain ⟨rfl, _, rfl⟩ : A = some ⟨g, 0, none⟩ ∧ n = n ∧ cap = cp := by simpa using hv
    exact hc

/-- append of all elements of another slice of the call's own -/
theorem run_append_row {t ty e : TypeId} {size bytes n cap n2 cap2 : Nat} {A A2 : Option Addr} {xs xs2 : List Value} (hE : Elem P t e size bytes) (h : Hp B w0 w (.row e size A n cap xs :: L)) (i : Nat) (hi : L[i]? = some (.row e size A2 n2 cap2 xs2))
    (h1 : ∀ u ∈ xs2, u.oneCell' = true) (hn : (n + n2) * bytes ≤ 140737488355328) (hm : n + n2 ≤ 140737488355328) :
    ∃ A' cap' w', (Builtin.append_ #[t, t] ty #[.slice A n cap, .slice A2 n2 cap2]).run P w = .ok (.slice A' (n + n2 : Nat) cap') w' ∧ Hp B w0 w' (.row e size A' (n + n2) cap' (xs ++ xs2) :: L) := by
  cases A2 with
  | none =>
    obtain ⟨rfl, rfl, rfl⟩ := h.tail.rowNil i hi
    refine ⟨A, cap, w, run_append_nilsrc hE h, ?_⟩
    rw [List.append_nil]
    exact h
  | some ad => exact run_append_hp (c := cap2) hE h ad (h.tail.rowLen i hi).1 (fun j u hu => by
      obtain ⟨g, e1, c1, _⟩ := h.tail.rowCell i hi hu
      obtain rfl := Option.some.inj e1
      have e : (⟨g, 0, none⟩ : Addr).add j = ⟨g, j, none⟩ := by unfold Addr.add; split <;> simp_all
      rw [e]; exact c1) h1 hn hm
theorem wpList_append_row {t e : TypeId} {size bytes n cap n2 cap2 : Nat} {A A2 : Option Addr} {xs xs2 : List Value} (hE : Elem P t e size bytes) {ops : Array Oper} {rest : List Oper} {o : Oper} {a : Act} {Q : Exit → Act → World → Prop} (hgd : o.guard = none) (s x : Operand)
    (ho : o.op = .call { callee := .builtin .append, args := #[s, x], argTypes := #[t, t] }) (h : Hp B w0 w (.row e size A n cap xs :: L)) (i : Nat) (hi : L[i]? = some (.row e size A2 n2 cap2 xs2)) (hs : a.eval s = .slice A n cap) (hx : a.eval x = .slice A2 n2 cap2)
    (h1 : ∀ u ∈ xs2, u.oneCell' = true) (hn : (n + n2) * bytes ≤ 140737488355328) (hm : n + n2 ≤ 140737488355328)
    (k : ∀ A' cap' w', Hp B w0 w' (.row e size A' (n + n2) cap' (xs ++ xs2) :: L) → wpList P ops Q rest (a.put o.dst (.slice A' (n + n2 : Nat) cap')) w') : wpList P ops Q (o :: rest) a w := by
  refine wpList_plain hgd fun K hK => ?_
  obtain ⟨A', cap', w', hr, h2⟩ := run_append_row (P := P) (ty := o.type) hE h i hi h1 hn hm
  unfold Oper.wp execOp
  simp only [ho, resolve, invoke, builtin, Sem.run_bind, Sem.run_pure, Result.andThen_ok, List.map_toArray, List.map_cons, List.map_nil, hs, hx, hr]
  exact hK _ _ (k A' cap' w' h2)

theorem madeCells_rep (z : Value) (n : Nat) : (madeCells #[z] n).toList = List.replicate n z := by
  apply List.ext_getElem?
  intro j
  simp only [madeCells, List.getElem?_replicate]
  by_cases hj : j < n
  · simp [hj, Nat.mod_one]
  · simp [hj]
/-- make of m elements of one cell -/
theorem wpList_make_hp {t e : TypeId} {bytes m : Nat} {z : Value} (hE : Elem P t e 1 bytes) (hz : (P.info? e).bind (·.zero) = some z) (hzc : z.cells = #[z]) {ops : Array Oper} {rest : List Oper} {o : Oper} {a : Act} {Q : Exit → Act → World → Prop} (hgd : o.guard = none) (x y : Operand)
    (ho : o.op = .makeSlice t x y) (h : Hp B w0 w L) (kl kc : IntKind) (X Y : Int) (hx : a.eval x = .int kl X) (hy : a.eval y = .int kc Y) (hX : X = (m : Int)) (hY : Y = (m : Int)) (hb : bytes * m ≤ 281474976710656) (hm : m ≤ 140737488355328)
    (k : ∀ g w', Hp B w0 w' (.row e 1 (some ⟨g, 0, none⟩) m m (List.replicate m z) :: L) → wpList P ops Q rest (a.put o.dst (.slice (some ⟨g, 0, none⟩) m m)) w') : wpList P ops Q (o :: rest) a w := by
  obtain ⟨i, z', hi, hz', hsz, hby, hzs⟩ := hE.info
  have : z' = z := by rw [hi] at hz; simpa [hz'] using hz
  subst this
  refine wpList_make_full w hgd x y t ho B e i z' 1 hE.under hi hz' hsz kl kc X Y m hx hy hX hY (by rw [hby]; exact hb) (by unfold maxLen; omega) h.base fun w' hown hg => ?_
  refine k _ _ ((h.grown hg).cons ?_ (h.fresh rfl (Nat.le_refl _)))
  rw [Nat.mul_one, hzc, madeCells_rep] at hown
  exact hown

theorem abs_hlist_alloc {W : World} {o : Obj} {ops : Array Oper} {Q : Exit → Act → World → Prop} {l : List Oper} {a : Act} (h : Hp B w0 (W.alloc o) L) (k : ∀ w, Hp B w0 w L → wpList P ops Q l a w) : wpList P ops Q l a (W.alloc o) := k _ h
theorem abs_hlist_set {W : World} {p : Addr} {u : Value} {ops : Array Oper} {Q : Exit → Act → World → Prop} {l : List Oper} {a : Act} (h : Hp B w0 (W.setCell p u) L) (k : ∀ w, Hp B w0 w L → wpList P ops Q l a w) : wpList P ops Q l a (W.setCell p u) := k _ h
theorem abs_hlist_drew {W : World}  {ops : Array Oper} {Q : Exit → Act → World → Prop} {l : List Oper} {a : Act} (h : Hp B w0 (W.drew) L) (k : ∀ w, Hp B w0 w L → wpList P ops Q l a w) : wpList P ops Q l a (W.drew) := k _ h
theorem abs_hcode_alloc {W : World} {o : Obj} {c : Code} {Q : Exit → Act → World → Prop} {a : Act} (h : Hp B w0 (W.alloc o) L) (k : ∀ w, Hp B w0 w L → Code.wp P c Q a w) : Code.wp P c Q a (W.alloc o) := k _ h
theorem abs_hcode_set {W : World} {p : Addr} {u : Value} {c : Code} {Q : Exit → Act → World → Prop} {a : Act} (h : Hp B w0 (W.setCell p u) L) (k : ∀ w, Hp B w0 w L → Code.wp P c Q a w) : Code.wp P c Q a (W.setCell p u) := k _ h
theorem abs_hcode_drew {W : World}  {c : Code} {Q : Exit → Act → World → Prop} {a : Act} (h : Hp B w0 (W.drew) L) (k : ∀ w, Hp B w0 w L → Code.wp P c Q a w) : Code.wp P c Q a (W.drew) := k _ h
theorem abs_hpost_alloc {W : World} {o : Obj} {fn : Func} {R : Ending → World → Prop} {x : Exit} {a : Act} (h : Hp B w0 (W.alloc o) L) (k : ∀ w, Hp B w0 w L → bodyPost P fn R x a w) : bodyPost P fn R x a (W.alloc o) := k _ h
theorem abs_hpost_set {W : World} {p : Addr} {u : Value} {fn : Func} {R : Ending → World → Prop} {x : Exit} {a : Act} (h : Hp B w0 (W.setCell p u) L) (k : ∀ w, Hp B w0 w L → bodyPost P fn R x a w) : bodyPost P fn R x a (W.setCell p u) := k _ h
theorem abs_hpost_drew {W : World}  {fn : Func} {R : Ending → World → Prop} {x : Exit} {a : Act} (h : Hp B w0 (W.drew) L) (k : ∀ w, Hp B w0 w L → bodyPost P fn R x a w) : bodyPost P fn R x a (W.drew) := k _ h
theorem abs_hcalls_alloc {W : World} {o : Obj} {f : FuncId} {R : Ending → World → Prop} {args : Array Value} (h : Hp B w0 (W.alloc o) L) (k : ∀ w, Hp B w0 w L → Calls P f args w R) : Calls P f args (W.alloc o) R := k _ h
theorem abs_hcalls_set {W : World} {p : Addr} {u : Value} {f : FuncId} {R : Ending → World → Prop} {args : Array Value} (h : Hp B w0 (W.setCell p u) L) (k : ∀ w, Hp B w0 w L → Calls P f args w R) : Calls P f args (W.setCell p u) R := k _ h
theorem abs_hcalls_drew {W : World}  {f : FuncId} {R : Ending → World → Prop} {args : Array Value} (h : Hp B w0 (W.drew) L) (k : ∀ w, Hp B w0 w L → Calls P f args w R) : Calls P f args (W.drew) R := k _ h

/-- a region of quiet operations under Hp -/
theorem wp_region_hp {Q : Exit → Act → World → Prop} {id : Nat} {l : List Oper} {draw : Bool} {a : Act} (hm : P.follows .mixedOrders = true) (hok : fixedOk l.toArray = true)
    (hS : Hp B w0 w L) (h : Fixed P l.toArray (fun W => Hp B w0 W L) (fun a' => ∀ w', Hp B w0 w' L → Q .normal a' w') l a) : (Code.region id l.toArray draw).wp P Q a w :=
  wp_region_fixed (F := fun W => Hp B w0 W L) hm hok (fun _ _ h hx => Hp.step h hx) hS (Fixed.imp (fun _ hk w' _ hs => hk w' hs) l a h)
end
-- the world that has just been turned is forgotten (the tactic finds what is owned of it)
section
variable {P : Program} {B : Nat} {w0 : World} {L : List Item}
theorem nhLa {W : World} {o : Obj} {ops : Array Oper} {Q : Exit → Act → World → Prop} {l : List Oper} {a : Act} (k : ∀ w, Hp B w0 w L → wpList P ops Q l a w) (h : Hp B w0 (W.alloc o) L := by (repeat (first | with_reducible exact hS | with_reducible apply Hp.drew | with_reducible apply Hp.alloc | with_reducible apply Hp.put | with_reducible apply atS | with_reducible exact at0 | with_reducible exact at1 | with_reducible exact at2 | with_reducible exact at3 | with_reducible exact at4 | with_reducible exact at5))) : wpList P ops Q l a (W.alloc o) := k _ h
theorem nhLd {W : World} {ops : Array Oper} {Q : Exit → Act → World → Prop} {l : List Oper} {a : Act} (k : ∀ w, Hp B w0 w L → wpList P ops Q l a w) (h : Hp B w0 W.drew L := by (repeat (first | with_reducible exact hS | with_reducible apply Hp.drew | with_reducible apply Hp.alloc | with_reducible apply Hp.put | with_reducible apply atS | with_reducible exact at0 | with_reducible exact at1 | with_reducible exact at2 | with_reducible exact at3 | with_reducible exact at4 | with_reducible exact at5))) : wpList P ops Q l a W.drew := k _ h
theorem nhCa {W : World} {o : Obj} {c : Code} {Q : Exit → Act → World → Prop} {a : Act} (k : ∀ w, Hp B w0 w L → Code.wp P c Q a w) (h : Hp B w0 (W.alloc o) L := by (repeat (first | with_reducible exact hS | with_reducible apply Hp.drew | with_reducible apply Hp.alloc | with_reducible apply Hp.put | with_reducible apply atS | with_reducible exact at0 | with_reducible exact at1 | with_reducible exact at2 | with_reducible exact at3 | with_reducible exact at4 | with_reducible exact at5))) : Code.wp P c Q a (W.alloc o) := k _ h
theorem nhCd {W : World} {c : Code} {Q : Exit → Act → World → Prop} {a : Act} (k : ∀ w, Hp B w0 w L → Code.wp P c Q a w) (h : Hp B w0 W.drew L := by (repeat (first | with_reducible exact hS | with_reducible apply Hp.drew | with_reducible apply Hp.alloc | with_reducible apply Hp.put | with_reducible apply atS | with_reducible exact at0 | with_reducible exact at1 | with_reducible exact at2 | with_reducible exact at3 | with_reducible exact at4 | with_reducible exact at5))) : Code.wp P c Q a W.drew := k _ h
theorem nhPa {W : World} {o : Obj} {fn : Func} {R : Ending → World → Prop} {x : Exit} {a : Act} (k : ∀ w, Hp B w0 w L → bodyPost P fn R x a w) (h : Hp B w0 (W.alloc o) L := by (repeat (first | with_reducible exact hS | with_reducible apply Hp.drew | with_reducible apply Hp.alloc | with_reducible apply Hp.put | with_reducible apply atS | with_reducible exact at0 | with_reducible exact at1 | with_reducible exact at2 | with_reducible exact at3 | with_reducible exact at4 | with_reducible exact at5))) : bodyPost P fn R x a (W.alloc o) := k _ h
theorem nhPd {W : World} {fn : Func} {R : Ending → World → Prop} {x : Exit} {a : Act} (k : ∀ w, Hp B w0 w L → bodyPost P fn R x a w) (h : Hp B w0 W.drew L := by (repeat (first | with_reducible exact hS | with_reducible apply Hp.drew | with_reducible apply Hp.alloc | with_reducible apply Hp.put | with_reducible apply atS | with_reducible exact at0 | with_reducible exact at1 | with_reducible exact at2 | with_reducible exact at3 | with_reducible exact at4 | with_reducible exact at5))) : bodyPost P fn R x a W.drew := k _ h
theorem nhKa {W : World} {o : Obj} {f : FuncId} {R : Ending → World → Prop} {args : Array Value} (k : ∀ w, Hp B w0 w L → Calls P f args w R) (h : Hp B w0 (W.alloc o) L := by (repeat (first | with_reducible exact hS | with_reducible apply Hp.drew | with_reducible apply Hp.alloc | with_reducible apply Hp.put | with_reducible apply atS | with_reducible exact at0 | with_reducible exact at1 | with_reducible exact at2 | with_reducible exact at3 | with_reducible exact at4 | with_reducible exact at5))) : Calls P f args (W.alloc o) R := k _ h
theorem nhKd {W : World} {f : FuncId} {R : Ending → World → Prop} {args : Array Value} (k : ∀ w, Hp B w0 w L → Calls P f args w R) (h : Hp B w0 W.drew L := by (repeat (first | with_reducible exact hS | with_reducible apply Hp.drew | with_reducible apply Hp.alloc | with_reducible apply Hp.put | with_reducible apply atS | with_reducible exact at0 | with_reducible exact at1 | with_reducible exact at2 | with_reducible exact at3 | with_reducible exact at4 | with_reducible exact at5))) : Calls P f args W.drew R := k _ h
end
-- the short words (merge.py puts them): hF's facts; the world that was turned, forgotten
theorem hfI {Q G : Prop} (g : Q → G) (h : Q := by ((first | have hF := And.intro hS.facts (HRD.out _ (hS.sub (by first | simp | ((repeat (first | exact List.nil_sublist _ | exact List.Sublist.refl _ | with_reducible apply List.Sublist.cons₂ | apply List.Sublist.cons)))))) | have hF := And.intro hS.facts (hR.at hS.ext) | have hF := hS.facts); simp only [HFacts, cellFacts, RFacts, cellOnly, and_true, true_and, Nat.zero_add, Nat.reduceAdd] at hF; first | exact hF | exact trivial)) : G := g h
theorem hpn {B : Nat} {w0 W : World} {L : List Item} (h : Hp B w0 W L := by (repeat (first | with_reducible exact hS | with_reducible apply Hp.drew | with_reducible apply Hp.alloc | with_reducible apply Hp.put | with_reducible apply atS | with_reducible exact at0 | with_reducible exact at1 | with_reducible exact at2 | with_reducible exact at3 | with_reducible exact at4 | with_reducible exact at5))) : Hp B w0 W L := h
theorem hab {Q G : Prop} (k : Q) (h : Q → G := by with_reducible first | exact abs_hlist_alloc hpn | exact abs_hlist_set hpn | exact abs_hlist_drew hpn | exact abs_hcode_alloc hpn | exact abs_hcode_set hpn | exact abs_hcode_drew hpn | exact abs_hpost_alloc hpn | exact abs_hpost_set hpn | exact abs_hpost_drew hpn | exact abs_hcalls_alloc hpn | exact abs_hcalls_set hpn | exact abs_hcalls_drew hpn) : G := h k
end Go.Proofs.YtlaldfkeaalnhaaGreatDoor

/- pick: a number below another one. -/
namespace Go.Proofs.YtlaldfkeaalnhaaGreatDoor
set_option linter.all false
set_option linter.unusedSimpArgs false
set_option linter.unusedVariables false
open Go.RowKit
theorem pick_any (a n : Int) (w : World) (h0 : 0 < n) (h1 : n ≤ 9223372036854775807) :
    Calls Tryz.prog 10 #[.int .i64 a, .int .i64 n] w fun e w' => (∃ m : Int, e = .returned (.int .i64 m) ∧ 0 ≤ m ∧ m < n) ∧ Ext w w' := by
  have hS := Hp.init w
  have hR := Reads.nil w
  go_enter Tryz.func10, Tryz.ntmps10
  go_wp2_with (first | (refine hab ?_; (try clear hF); clear hS; intro wk hS; (try simp only [List.set_cons_zero, List.set_cons_succ, heap_size, heap_set_size] at hS); ((try clear hF); refine hfI ?_; intro hF)) | fail)
  have u0 : 0 ≤ IntKind.u64.wrap a := by rw [IntKind.wrap_u64]; omega
  have t0 := Int.tmod_nonneg n u0
  have t1 := Int.tmod_lt_of_pos (IntKind.u64.wrap a) h0
  have e : wrap64 ((IntKind.u64.wrap a).tmod n) = (IntKind.u64.wrap a).tmod n := by unfold wrap64; omega
  go_ret
  exact ⟨⟨_, rfl, by rw [e]; exact t0, by rw [e]; exact t1⟩, hS.ext⟩
end Go.Proofs.YtlaldfkeaalnhaaGreatDoor
