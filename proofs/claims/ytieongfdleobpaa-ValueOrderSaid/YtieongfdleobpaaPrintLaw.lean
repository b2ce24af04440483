/- What a value is written as tells the value. Plain. -/
import Derived.Test.YtieongfdleobpaaOrdLaw
namespace Go.Proofs.Ytieongfdleobpaa

def ofDig (l : List UInt8) : Nat := l.foldr (fun c acc => (c.toNat - 48) + 10 * acc) 0
theorem digit_nat (m : Nat) : (UInt8.ofNat (48 + m % 10)).toNat = 48 + m % 10 := by
  rw [UInt8.toNat_ofNat']
  omega
theorem ofDig_revDig (u : Nat) : ofDig (revDig u) = u := by
  induction u using Nat.strongRecOn with
  | _ u ih =>
    by_cases h : u / 10 = 0
    · rw [revDig_last u h]
      simp only [ofDig, List.foldr_cons, List.foldr_nil, digit_nat]
      omega
    · rw [revDig_step u h]
      have := ih (u / 10) (by omega)
      simp only [ofDig, List.foldr_cons, digit_nat] at this ⊢
      rw [this]
      omega
theorem revDig_inj (u v : Nat) (h : revDig u = revDig v) : u = v := by
  rw [← ofDig_revDig u, ← ofDig_revDig v, h]
theorem revDig_mem (u : Nat) : ∀ c ∈ revDig u, 48 ≤ c.toNat ∧ c.toNat ≤ 57 := by
  induction u using Nat.strongRecOn with
  | _ u ih =>
    intro c hc
    by_cases h : u / 10 = 0
    · rw [revDig_last u h] at hc
      simp only [List.mem_singleton] at hc
      subst hc
      rw [digit_nat]; omega
    · rw [revDig_step u h] at hc
      rcases List.mem_cons.1 hc with rfl | hc
      · rw [digit_nat]; omega
      · exact ih (u / 10) (by omega) c hc
theorem itoaL_mem (n : Int) : ∀ c ∈ itoaL n, c.toNat = 45 ∨ (48 ≤ c.toNat ∧ c.toNat ≤ 57) := by
  intro c hc
  unfold itoaL at hc
  rw [List.mem_reverse, List.mem_append] at hc
  rcases hc with hc | hc
  · exact .inr (revDig_mem _ c hc)
  · split at hc
    · simp only [List.mem_singleton] at hc; subst hc; exact .inl rfl
    · simp at hc
theorem itoaL_inj (n m : Int) (h : itoaL n = itoaL m) : n = m := by
  unfold itoaL at h
  have h := List.reverse_inj.1 h
  by_cases hn : n < 0
  · by_cases hm : m < 0
    · rw [if_pos hn, if_pos hm] at h
      have := revDig_inj _ _ (List.append_cancel_right h)
      omega
    · rw [if_pos hn, if_neg hm, List.append_nil] at h
      have h45 : (45 : UInt8) ∈ revDig m.natAbs := by rw [← h]; simp
      have := revDig_mem _ _ h45
      exact absurd this.1 (by decide)
  · by_cases hm : m < 0
    · rw [if_neg hn, if_pos hm, List.append_nil] at h
      have h45 : (45 : UInt8) ∈ revDig n.natAbs := by rw [h]; simp
      have := revDig_mem _ _ h45
      exact absurd this.1 (by decide)
    · rw [if_neg hn, if_neg hm, List.append_nil, List.append_nil] at h
      have := revDig_inj _ _ h
      omega
theorem itoaL_not (n : Int) (c : UInt8) (l : List UInt8) (hc : c = 39 ∨ c = 110) : itoaL n ≠ c :: l := by
  intro h
  have := itoaL_mem n c (by rw [h]; simp)
  rcases hc with rfl | rfl
  · exact absurd this (by decide)
  · exact absurd this (by decide)

theorem right_kinds (a : GV) (h : rightB a.kind a.num a.text = true) :
    (a.kind = 0 ∧ a.num = 0 ∧ a.text = ⟨#[]⟩) ∨ (a.kind = 1 ∧ a.text = ⟨#[]⟩) ∨ (a.kind = 2 ∧ a.num = 0 ∧ a.text.size ≤ 40 ∧ okText a.text = true) := by
  unfold rightB at h
  split at h
  · rename_i h0; simp at h; exact .inl ⟨h0, h⟩
  · split at h
    · rename_i h1; simp at h; exact .inr (.inl ⟨h1, h⟩)
    · split at h
      · rename_i h2; simp at h; exact .inr (.inr ⟨h2, h.1.1, h.1.2, h.2⟩)
      · cases h
theorem printS_eq (a b : GV) : printS a.kind a.num a.text = printS b.kind b.num b.text ↔ printL a.kind a.num a.text = printL b.kind b.num b.text := by
  unfold printS
  constructor
  · intro h
    have := congrArg (fun s : ByteArray => s.data.toList) h
    simpa using this
  · intro h; rw [h]
theorem print_inj (a b : GV) (ha : rightB a.kind a.num a.text = true) (hb : rightB b.kind b.num b.text = true) :
    printS a.kind a.num a.text = printS b.kind b.num b.text ↔ a = b := by
  refine ⟨fun h => ?_, fun h => by rw [h]⟩
  rw [printS_eq] at h
  rw [gv_eq]
  rcases right_kinds a ha with ⟨k, n, t⟩ | ⟨k, t⟩ | ⟨k, n, _, _⟩ <;> rcases right_kinds b hb with ⟨k', n', t'⟩ | ⟨k', t'⟩ | ⟨k', n', _, _⟩
  · exact ⟨by rw [k, k'], by rw [n, n'], by rw [t, t']⟩
  · rw [k, k'] at h; simp [printL] at h
    exact absurd h.symm (itoaL_not _ _ _ (.inr rfl))
  · rw [k, k'] at h; simp [printL] at h
  · rw [k, k'] at h; simp [printL] at h
    exact absurd h (itoaL_not _ _ _ (.inr rfl))
  · rw [k, k'] at h; simp only [printL, if_true] at h
    exact ⟨by rw [k, k'], itoaL_inj _ _ h, by rw [t, t']⟩
  · rw [k, k'] at h; simp [printL] at h
    exact absurd h (itoaL_not _ _ _ (.inl rfl))
  · rw [k, k'] at h; simp [printL] at h
  · rw [k, k'] at h; simp [printL] at h
    exact absurd h.symm (itoaL_not _ _ _ (.inl rfl))
  · rw [k, k'] at h; simp [printL] at h
    exact ⟨by rw [k, k'], by rw [n, n'], ByteArray.ext h⟩
end Go.Proofs.Ytieongfdleobpaa
