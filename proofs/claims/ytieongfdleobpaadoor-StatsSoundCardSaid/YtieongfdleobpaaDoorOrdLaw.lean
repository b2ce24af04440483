/- The order of values, plainly: it is an order, and what is written tells the value. No program. -/
import Derived.Test.YtieongfdleobpaaDoorVals
namespace Go.Proofs.YtieongfdleobpaaDoor

def cmpG (a b : GV) : Int := cmpV a.kind a.num a.text b.kind b.num b.text

theorem cb_range (a b : List UInt8) : Lib.compareBytes a b = -1 ∨ Lib.compareBytes a b = 0 ∨ Lib.compareBytes a b = 1 := by
  induction a generalizing b with
  | nil => cases b <;> simp [Lib.compareBytes]
  | cons x xs ih =>
    cases b with
    | nil => simp [Lib.compareBytes]
    | cons y ys =>
      simp only [Lib.compareBytes]
      split
      · simp
      · split
        · simp
        · exact ih ys
theorem cb_anti (a b : List UInt8) : Lib.compareBytes b a = - Lib.compareBytes a b := by
  induction a generalizing b with
  | nil => cases b <;> simp [Lib.compareBytes]
  | cons x xs ih =>
    cases b with
    | nil => simp [Lib.compareBytes]
    | cons y ys =>
      simp only [Lib.compareBytes]
      by_cases h1 : x < y
      · have h2 : ¬ y < x := fun h => absurd (UInt8.lt_trans h1 h) (UInt8.lt_irrefl _)
        simp [h1, h2]
      · by_cases h2 : y < x
        · simp [h1, h2]
        · simp only [h1, h2, if_false]; exact ih ys
theorem cb_zero (a b : List UInt8) : Lib.compareBytes a b = 0 ↔ a = b := by
  induction a generalizing b with
  | nil => cases b <;> simp [Lib.compareBytes]
  | cons x xs ih =>
    cases b with
    | nil => simp [Lib.compareBytes]
    | cons y ys =>
      simp only [Lib.compareBytes]
      by_cases h1 : x < y
      · have : x ≠ y := fun e => by subst e; exact UInt8.lt_irrefl _ h1
        simp [h1, this]
      · by_cases h2 : y < x
        · have : x ≠ y := fun e => by subst e; exact UInt8.lt_irrefl _ h2
          simp [h1, h2, this]
        · have : x = y := UInt8.le_antisymm (UInt8.not_lt.1 h2) (UInt8.not_lt.1 h1)
          simp [this, ih]
theorem cb_trans (a b c : List UInt8) (n : Int) (h1 : Lib.compareBytes a b = n) (h2 : Lib.compareBytes b c = n) : Lib.compareBytes a c = n := by
  induction a generalizing b c with
  | nil =>
    cases b <;> cases c <;> simp only [Lib.compareBytes] at * <;> omega
  | cons x xs ih =>
    cases b with
    | nil => cases c <;> simp only [Lib.compareBytes] at * <;> omega
    | cons y ys =>
      cases c with
      | nil => simp only [Lib.compareBytes] at *; omega
      | cons z zs =>
        simp only [Lib.compareBytes] at h1 h2 ⊢
        by_cases p1 : x < y
        · rw [if_pos p1] at h1
          by_cases p2 : y < z
          · rw [if_pos (UInt8.lt_trans p1 p2)]; exact h1
          · rw [if_neg p2] at h2
            by_cases p3 : z < y
            · rw [if_pos p3] at h2; omega
            · obtain rfl : y = z := UInt8.le_antisymm (UInt8.not_lt.1 p3) (UInt8.not_lt.1 p2)
              rw [if_pos p1]; exact h1
        · rw [if_neg p1] at h1
          by_cases p2 : y < x
          · rw [if_pos p2] at h1
            by_cases p3 : y < z
            · rw [if_pos p3] at h2; omega
            · rw [if_neg p3] at h2
              by_cases p4 : z < y
              · have q : z < x := UInt8.lt_trans p4 p2
                have q' : ¬ x < z := fun h => absurd (UInt8.lt_trans q h) (UInt8.lt_irrefl _)
                rw [if_neg q', if_pos q]; exact h1
              · obtain rfl : y = z := UInt8.le_antisymm (UInt8.not_lt.1 p4) (UInt8.not_lt.1 p3)
                rw [if_neg p1, if_pos p2]; exact h1
          · rw [if_neg p2] at h1
            obtain rfl : x = y := UInt8.le_antisymm (UInt8.not_lt.1 p2) (UInt8.not_lt.1 p1)
            by_cases p3 : x < z
            · rw [if_pos p3] at h2 ⊢; exact h2
            · rw [if_neg p3] at h2 ⊢
              by_cases p4 : z < x
              · rw [if_pos p4] at h2 ⊢; exact h2
              · rw [if_neg p4] at h2 ⊢
                exact ih ys zs h1 h2

theorem cmpI_range (x y : Int) : cmpI x y = -1 ∨ cmpI x y = 0 ∨ cmpI x y = 1 := by
  unfold cmpI
  repeat' split
  all_goals omega
theorem cmpG_range (a b : GV) : cmpG a b = -1 ∨ cmpG a b = 0 ∨ cmpG a b = 1 := by
  have h1 := cmpI_range a.kind b.kind
  have h2 := cmpI_range a.num b.num
  have h3 := cb_range a.text.data.toList b.text.data.toList
  unfold cmpG cmpV orI
  repeat' split
  all_goals omega
theorem cmpI_anti (x y : Int) : cmpI y x = - cmpI x y := by
  unfold cmpI
  repeat' split
  all_goals omega
theorem cmpG_anti (a b : GV) : cmpG b a = - cmpG a b := by
  have h1 := cmpI_anti a.kind b.kind
  have h2 := cmpI_anti a.num b.num
  have h3 := cb_anti a.text.data.toList b.text.data.toList
  unfold cmpG cmpV orI
  rw [h1, h2, h3]
  generalize cmpI a.kind b.kind = p
  generalize cmpI a.num b.num = q
  repeat' split
  all_goals omega
theorem cmpI_zero (x y : Int) : cmpI x y = 0 ↔ x = y := by
  unfold cmpI
  repeat' split
  all_goals omega
theorem text_eq (s t : ByteArray) : s.data.toList = t.data.toList ↔ s = t :=
  ⟨fun h => ByteArray.ext (Array.toList_inj.1 h), fun h => by rw [h]⟩
theorem gv_eq (a b : GV) : a = b ↔ a.kind = b.kind ∧ a.num = b.num ∧ a.text = b.text := by
  cases a; cases b; simp
theorem cmpG_zero (a b : GV) : cmpG a b = 0 ↔ a = b := by
  rw [gv_eq, ← text_eq, ← cmpI_zero a.kind, ← cmpI_zero a.num, ← cb_zero]
  unfold cmpG cmpV orI
  repeat' split
  all_goals simp_all
theorem cmpI_trans (x y z n : Int) (h1 : cmpI x y = n) (h2 : cmpI y z = n) : cmpI x z = n := by
  unfold cmpI at *
  repeat' split at h1
  all_goals repeat' split at h2
  all_goals repeat' split
  all_goals omega
theorem orI_trans (p1 p2 p3 q1 q2 q3 r1 r2 r3 : Int) (hp : p1 = p2 → p3 = p1) (hp1 : p1 = 0 → p3 = p2) (hp2 : p2 = 0 → p3 = p1) (hq : q1 = q2 → q3 = q1) (hq1 : q1 = 0 → q3 = q2) (hq2 : q2 = 0 → q3 = q1)
    (hr : r1 = r2 → r3 = r1) (h : orI p1 q1 r1 = orI p2 q2 r2) : orI p3 q3 r3 = orI p1 q1 r1 := by
  unfold orI at *
  by_cases a1 : p1 = 0
  · by_cases a2 : p2 = 0
    · have a3 : p3 = 0 := by omega
      simp only [a1, a2, a3, if_true] at h ⊢
      by_cases b1 : q1 = 0
      · by_cases b2 : q2 = 0
        · have b3 : q3 = 0 := by omega
          simp only [b1, b2, b3, if_true] at h ⊢
          exact hr h
        · have b3 : ¬ q3 = 0 := by omega
          simp only [b1, b2, b3, if_true, if_false] at h ⊢
          omega
      · by_cases b2 : q2 = 0
        · have b3 : ¬ q3 = 0 := by omega
          simp only [b1, b3, if_false] at h ⊢
          omega
        · simp only [b1, b2, if_false] at h
          have b3 : ¬ q3 = 0 := by omega
          simp only [b1, b3, if_false]
          omega
    · have a3 : ¬ p3 = 0 := by omega
      simp only [a1, a2, a3, if_true, if_false] at h ⊢
      omega
  · by_cases a2 : p2 = 0
    · have a3 : ¬ p3 = 0 := by omega
      simp only [a1, a3, if_false] at h ⊢
      omega
    · simp only [a1, a2, if_false] at h
      have a3 : ¬ p3 = 0 := by omega
      simp only [a1, a3, if_false]
      omega
theorem cmpI_left (x y z : Int) (h : cmpI x y = 0) : cmpI x z = cmpI y z := by rw [(cmpI_zero x y).1 h]
theorem cmpI_right (x y z : Int) (h : cmpI y z = 0) : cmpI x z = cmpI x y := by rw [(cmpI_zero y z).1 h]
theorem cmpG_trans (a b c : GV) (h : cmpG a b = cmpG b c) : cmpG a c = cmpG a b :=
  orI_trans _ _ _ _ _ _ _ _ _ (fun h => cmpI_trans _ _ _ _ rfl h.symm) (cmpI_left _ _ _) (cmpI_right _ _ _) (fun h => cmpI_trans _ _ _ _ rfl h.symm) (cmpI_left _ _ _) (cmpI_right _ _ _)
    (fun h => cb_trans _ _ _ _ rfl h.symm) h
theorem cmpG_left (a b c : GV) (h : cmpG a b = 0) : cmpG a c = cmpG b c := by rw [(cmpG_zero a b).1 h]
end Go.Proofs.YtieongfdleobpaaDoor
