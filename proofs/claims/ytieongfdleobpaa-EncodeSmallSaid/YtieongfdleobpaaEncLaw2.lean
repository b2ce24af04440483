/- numbers that are read fit 64 bits. -/
import Derived.Test.YtieongfdleobpaaEncLaw
namespace Go.Proofs.Ytieongfdleobpaa
set_option linter.unusedSimpArgs false
set_option linter.unusedVariables false
open Go.RowKit
set_option linter.all false
theorem unzig_i64 {u : Nat} (h : u < 18446744073709551616) : i64 (unzig u) := by
  unfold i64 unzig
  split <;> omega
theorem rOne_i64 (kind : Int) (st : RSt) : i64 (rOne kind st).1.num := by
  unfold rOne
  split
  · exact unzig_i64 (rNumber_lt st)
  · exact (show i64 0 from ⟨by decide, by decide⟩)
def I64L (l : List GV) : Prop := ∀ x ∈ l, i64 x.num
theorem I64L.snoc {l : List GV} {x : GV} (h : I64L l) (hx : i64 x.num) : I64L (l ++ [x]) := fun y hy => by
  rcases List.mem_append.1 hy with hy | hy
  · exact h y hy
  · simp only [List.mem_singleton] at hy; subst hy; exact hx
theorem rPlain_i64 (kind : Int) : ∀ (n : Nat) (st : RSt) (acc : List GV), I64L acc → I64L (rPlain kind n st acc).1
  | 0, _, _, h => h
  | n + 1, st, acc, h => rPlain_i64 kind n _ _ (h.snoc (rOne_i64 kind st))
theorem rRuns_i64 (kind : Int) (n : Nat) : ∀ (f : Nat) (st : RSt) (acc : List GV), I64L acc → I64L (rRuns kind n f st acc).1
  | 0, _, _, h => h
  | f + 1, st, acc, h => by
    rw [rRuns]
    split
    · refine rRuns_i64 kind n f _ _ fun y hy => ?_
      rcases List.mem_append.1 hy with hy | hy
      · exact h y hy
      · rw [(List.mem_replicate.1 hy).2]; exact rOne_i64 kind _
    · exact h
theorem rPick_i64 (all : List GV) (ha : I64L all) : ∀ (n : Nat) (st : RSt) (acc : List GV), I64L acc → I64L (rPick all n st acc).1
  | 0, _, _, h => h
  | n + 1, st, acc, h => by
    rw [rPick]
    split
    · rename_i x hx; exact rPick_i64 all ha n _ _ (h.snoc (ha x (List.mem_of_getElem? hx)))
    · exact rPick_i64 all ha n _ _ h
theorem rSteps_i64 : ∀ (n : Nat) (last : Int) (st : RSt) (acc : List GV), I64L acc → I64L (rSteps n last st acc).1
  | 0, _, _, _, h => h
  | n + 1, last, st, acc, h => rSteps_i64 n _ _ _ (h.snoc (wrap_i64 _))
theorem i64l_nil : I64L [] := fun _ h => by cases h
theorem rValues_i64 (way : Nat) (kind : Int) (n : Nat) (st : RSt) : I64L (rValues way kind n st).1 := by
  unfold rValues
  split
  · exact rPlain_i64 kind n st [] i64l_nil
  · split
    · exact rRuns_i64 kind n _ st [] i64l_nil
    · split
      · exact rPick_i64 _ (rPlain_i64 kind _ _ [] i64l_nil) n _ [] i64l_nil
      · split
        · exact rSteps_i64 n 0 st [] i64l_nil
        · exact i64l_nil
theorem fill_i64 (bs : List UInt8) : ∀ (n i : Nat) (l : List GV), I64L l → I64L (fillN bs i n l)
  | 0, _, _, _ => i64l_nil
  | n + 1, i, l, h => by
    unfold fillN
    split
    · intro y hy
      rcases List.mem_cons.1 hy with rfl | hy
      · exact (show i64 0 from ⟨by decide, by decide⟩)
      · exact fill_i64 bs n _ l h y hy
    · cases l with
      | nil => exact i64l_nil
      | cons x l =>
        intro y hy
        rcases List.mem_cons.1 hy with rfl | hy
        · exact h _ (by simp)
        · exact fill_i64 bs n _ l (fun z hz => h z (by simp [hz])) y hy
theorem fill_len (bs : List UInt8) : ∀ (n i : Nat) (l : List GV), l.length = cntN bs i n → (fillN bs i n l).length = n
  | 0, _, _, _ => rfl
  | n + 1, i, l, h => by
    rw [cntN] at h
    unfold fillN
    split
    · rename_i hb
      rw [if_pos hb] at h
      rw [List.length_cons, fill_len bs n _ l (by omega)]
    · rename_i hb
      rw [if_neg hb] at h
      cases l with
      | nil => rw [List.length_nil] at h; omega
      | cons x l => rw [List.length_cons] at h; simp only [List.length_cons]; rw [fill_len bs n _ l (by omega)]
theorem readC_i64 {kind : Int} {s : List UInt8} {m : List GV} (h : readC kind s = some m) : I64L m ∧ m.length ≤ 60 := by
  unfold readC at h
  split at h
  · cases h
  · split at h
    · cases h
    · rename_i h4
      rw [not_or] at h4
      cases h
      exact ⟨fill_i64 _ _ _ _ (rValues_i64 _ _ _ _), by rw [fill_len _ _ _ _ (show (rd4 kind s).1.length = rdC s by simpa using h4.2)]; exact rSmall_le 60 _⟩
theorem fillN_no {bs : List UInt8} {i n : Nat} {x : GV} {l : List GV} (h : nullB bs i = false) : fillN bs i (n + 1) (x :: l) = x :: fillN bs (i + 1) n l := by
  simp only [fillN, h, Bool.false_eq_true, if_false]
theorem fillN_yes {bs : List UInt8} {i n : Nat} {l : List GV} (h : nullB bs i = true) : fillN bs i (n + 1) l = ⟨0, 0, ⟨#[]⟩⟩ :: fillN bs (i + 1) n l := by
  simp only [fillN, h, if_true]
theorem cntN_no {bs : List UInt8} {i n : Nat} (h : nullB bs i = false) : cntN bs i (n + 1) = cntN bs (i + 1) n + 1 := by
  simp only [cntN, h, Bool.false_eq_true, if_false, Nat.add_comm]
theorem cntN_yes {bs : List UInt8} {i n : Nat} (h : nullB bs i = true) : cntN bs i (n + 1) = cntN bs (i + 1) n := by
  simp only [cntN, h, if_true, Nat.zero_add]
end Go.Proofs.Ytieongfdleobpaa
