/- Which texts a value may have: what the library's search for a letter finds. Plain. -/
import Derived.Shelf.GgClosure.StringsIndexFunc
import Derived.Test.YthikjhdobnllhaaDoorBase
namespace Go.Proofs.YthikjhdobnllhaaDoor

/-- a letter that may not be -/
def badL (r : Nat) : Bool := decide (r < 32) || decide (126 < r) || decide (r = 39)
/-- all letters of a text may be -/
def okText (s : ByteArray) : Bool := s.data.toList.all fun c => !badL c.toNat

theorem idx_from (s : ByteArray) : ∀ (f pos : Nat), s.size ≤ pos + f →
    (Lib.idxFuncFrom badL true s f pos < 0 ↔ ∀ j (h : j < s.size), pos ≤ j → badL (s[j]'h).toNat = false) := by
  intro f
  induction f with
  | zero =>
    intro pos hp
    simp only [Lib.idxFuncFrom]
    constructor
    · intro _ j h hj; omega
    · intro _; omega
  | succ f ih =>
    intro pos hp
    unfold Lib.idxFuncFrom
    by_cases hps : pos < s.size
    · rw [if_pos hps]
      by_cases ha : (s[pos]'hps).toNat < 128
      · rw [decode_ascii s pos hps ha]
        cases hb : badL (s[pos]'hps).toNat with
        | true =>
          simp only [if_true]
          constructor
          · intro h; omega
          · intro h; have := h pos hps (Nat.le_refl _); rw [hb] at this; cases this
        | false =>
          simp only [Bool.false_eq_true, if_false]
          rw [ih (pos + 1) (by omega)]
          constructor
          · intro h j hj hpj
            rcases Nat.eq_or_lt_of_le hpj with rfl | hlt
            · exact hb
            · exact h j hj hlt
          · intro h j hj hpj; exact h j hj (by omega)
      · have hd := decode_high s pos hps (by omega)
        have h1 : badL (Utf8.decode s pos).1 = true := by
          have := hd.1
          simp [badL]; omega
        have h2 : badL (s[pos]'hps).toNat = true := by simp [badL]; omega
        rw [if_pos h1]
        constructor
        · intro h; omega
        · intro h; have := h pos hps (Nat.le_refl _); rw [h2] at this; cases this
    · rw [if_neg hps]
      constructor
      · intro _ j h hj; omega
      · intro _; omega
theorem idx_ok (s : ByteArray) : decide (Lib.idxFunc badL true s < 0) = okText s := by
  rw [Bool.eq_iff_iff]
  rw [decide_eq_true_eq, Lib.idxFunc, idx_from s s.size 0 (by omega)]
  unfold okText
  rw [List.all_eq_true]
  constructor
  · intro h c hc
    obtain ⟨j, hj, rfl⟩ := List.getElem_of_mem hc
    have hb := h j (by simpa using hj) (Nat.zero_le _)
    have e : s.data.toList[j] = s[j]'(by simpa using hj) := by simp; rfl
    rw [e, hb]; rfl
  · intro h j hj _
    have := h (s[j]) (by
      have : s[j] = s.data.toList[j]'(by simpa using hj) := by simp; rfl
      rw [this]; exact List.getElem_mem _)
    simpa using this
end Go.Proofs.YthikjhdobnllhaaDoor
