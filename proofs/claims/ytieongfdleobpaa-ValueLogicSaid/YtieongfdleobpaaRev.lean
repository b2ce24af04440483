/- A list turned round by exchanging its ends, step by step. Plain. -/
import Derived.Test.YtieongfdleobpaaBase
namespace Go.Proofs.Ytieongfdleobpaa

def swp {α : Type} (xs : List α) : Nat → List α
  | 0 => xs
  | k + 1 => match xs[k]?, xs[xs.length - 1 - k]? with
    | some x, some y => ((swp xs k).set k y).set (xs.length - 1 - k) x
    | _, _ => swp xs k
theorem swp_len {α : Type} (xs : List α) : ∀ k, (swp xs k).length = xs.length
  | 0 => rfl
  | k + 1 => by
    rw [swp]
    split <;> simp [swp_len xs k]
theorem swp_at {α : Type} (xs : List α) : ∀ k, k ≤ xs.length / 2 → ∀ j, j < xs.length →
    (swp xs k)[j]? = if j < k ∨ xs.length - 1 - j < k then xs[xs.length - 1 - j]? else xs[j]?
  | 0, _, j, hj => by simp [swp]
  | k + 1, hk, j, hj => by
    have ih := swp_at xs k (by omega) j hj
    have h1 : xs[k]? = some xs[k] := List.getElem?_eq_getElem (by omega)
    have h2 : xs[xs.length - 1 - k]? = some xs[xs.length - 1 - k] := List.getElem?_eq_getElem (by omega)
    rw [swp, h1, h2]
    simp only [List.getElem?_set, List.length_set, swp_len]
    by_cases a : xs.length - 1 - k = j
    · subst a
      rw [if_pos rfl, if_pos (by omega), if_pos (by omega), show xs.length - 1 - (xs.length - 1 - k) = k by omega, h1]
    · by_cases b : k = j
      · subst b
        rw [if_neg a, if_pos rfl, if_pos (by omega), if_pos (by omega), h2]
      · rw [if_neg a, if_neg b, ih]
        by_cases c : j < k ∨ xs.length - 1 - j < k
        · rw [if_pos c, if_pos (by omega)]
        · rw [if_neg c, if_neg (by omega)]
theorem swp_half {α : Type} (xs : List α) : swp xs (xs.length / 2) = xs.reverse := by
  apply List.ext_getElem?
  intro j
  by_cases hj : j < xs.length
  · rw [swp_at xs _ (Nat.le_refl _) j hj, List.getElem?_reverse hj]
    by_cases c : j < xs.length / 2 ∨ xs.length - 1 - j < xs.length / 2
    · rw [if_pos c]
    · rw [if_neg c, show xs.length - 1 - j = j by omega]
  · rw [List.getElem?_eq_none (by rw [swp_len]; omega), List.getElem?_eq_none (by simp; omega)]
theorem swp_mid {α : Type} (xs : List α) (k : Nat) (hk : k < xs.length / 2) (x y : α) (hx : xs[k]? = some x) (hy : xs[xs.length - 1 - k]? = some y) :
    (swp xs k)[k]? = some x ∧ (swp xs k)[xs.length - 1 - k]? = some y ∧ swp xs (k + 1) = ((swp xs k).set k y).set (xs.length - 1 - k) x := by
  refine ⟨?_, ?_, by rw [swp, hx, hy]⟩
  · rw [swp_at xs k (by omega) k (by omega), if_neg (by omega), hx]
  · rw [swp_at xs k (by omega) _ (by omega), if_neg (by omega), hy]
end Go.Proofs.Ytieongfdleobpaa
