/- what is the same costs little: the plain law. -/
import Derived.Test.YtieongfdleobpaaPacked
namespace Go.Proofs.Ytieongfdleobpaa
set_option linter.unusedSimpArgs false
set_option linter.unusedVariables false
open Go.RowKit
set_option linter.all false
open Go.Lib (uvarint zigzag)
theorem bestK_le (kind : Int) (so : List GV) : ∀ q : Nat, (1 ≤ q → 0 ≤ (bestK kind so q).1) ∧ ∀ m, m < q → ¬(m = 3 ∧ kind = 2) → (bestK kind so q).2.length ≤ (writeS m so).length
  | 0 => ⟨fun h => by omega, fun m h => by omega⟩
  | q + 1 => by
    obtain ⟨h1, h2⟩ := bestK_le kind so q
    rw [bestK]
    split
    · rename_i hs
      refine ⟨fun _ => h1 (by omega), fun m hm hn => ?_⟩
      have : m ≠ q := fun e => hn ⟨by omega, hs.2⟩
      exact h2 m (by omega) hn
    · split
      · rename_i hc
        refine ⟨fun _ => by simp, fun m hm hn => ?_⟩
        rcases Nat.lt_or_ge m q with hlt | hge
        · have h3 := h2 m hlt hn
          have h4 := h1 (by omega)
          rcases hc with hc | hc
          · omega
          · simp only; omega
        · obtain rfl : m = q := by omega
          exact Nat.le_refl _
      · rename_i hc
        rw [not_or] at hc
        refine ⟨fun _ => by omega, fun m hm hn => ?_⟩
        rcases Nat.lt_or_ge m q with hlt | hge
        · exact h2 m hlt hn
        · obtain rfl : m = q := by omega
          omega
theorem uv1 {n : Nat} (h : n < 128) : (uvarint n).length = 1 := by rw [Lib.uvarint_small h]; rfl
theorem encOut_size (kind : Int) (l : List GV) (hl : l.length ≤ 60) : (encOut kind l).length = 2 + (l.length + 7) / 8 + (bestK kind (someS l) 4).2.length := by
  unfold encOut
  simp only [List.length_append, List.length_cons, List.length_nil, bitsS_len]
  rw [uv1 (by omega)]
  omega
theorem some_rep {v : GV} (h : v.kind ≠ 0) (n : Nat) : someS (List.replicate n v) = List.replicate n v := by
  unfold someS
  rw [List.filter_replicate]
  simp [h]
def oneC (v : GV) : Nat := if v.kind = 2 then 1 + v.text.size else 10
theorem encV_one {v : GV} (h : Fits v.kind v) : (encV v).length ≤ oneC v := by
  obtain ⟨hi, _, h⟩ := h
  unfold encV oneC
  rcases h with ⟨h1, _⟩ | ⟨h2, _, h3⟩
  · rw [if_pos h1, if_neg (by omega)]
    exact Lib.uvarint_length64 (Lib.zigzag_lt hi.1 hi.2)
  · rw [if_neg (by omega), if_pos h2, List.length_append, uv1 (by omega), size_cast]
    exact Nat.le_refl _
theorem small_x {v : GV} (h : Fits v.kind v) (n : Nat) (hn : n ≤ 60) : (encOut v.kind (List.replicate n v)).length ≤ 3 + (n + 7) / 8 + oneC v := by
  have hk : v.kind ≠ 0 := by rcases h.2.2 with h | h <;> omega
  have h1 := (bestK_le v.kind (List.replicate n v) 4).2 1 (by omega) (by omega)
  have h2 := encV_one h
  rw [encOut_size _ _ (by rw [List.length_replicate]; exact hn), some_rep hk, List.length_replicate]
  have h3 : (writeS 1 (List.replicate n v)).length ≤ 1 + oneC v := by
    unfold writeS
    rw [if_neg (by decide), if_pos rfl]
    cases n with
    | zero => rw [List.replicate_zero, runsS]; exact Nat.zero_le _
    | succ m =>
      have := runs_step m v [] (fun y h => by cases h)
      rw [List.append_nil] at this
      rw [this, List.length_append, List.length_append, uv1 (by omega), runsS, List.length_nil]
      omega
  omega
/-- numbers at even steps -/
def seqF (frm st : Int) (k : Nat) : GV := ⟨1, wrap64 (frm + (k : Int) * st), ⟨#[]⟩⟩
def seqL (frm st : Int) (n : Nat) : List GV := (List.range n).map (seqF frm st)
theorem seqL_len (frm st : Int) (n : Nat) : (seqL frm st n).length = n := by simp [seqL]
theorem seqL_succ (frm st : Int) (n : Nat) : seqL frm st (n + 1) = seqL frm st n ++ [seqF frm st n] := by simp [seqL, List.range_succ]
theorem seq_diff (frm st : Int) (s : Nat) (h0 : -30 ≤ st) (h1 : st < 30) : wrap64 ((seqF frm st (s + 1)).num - (seqF frm st s).num) = st := by
  unfold seqF
  simp only
  have e : ((s + 1 : Nat) : Int) * st = (s : Int) * st + st := by rw [Int.natCast_add, Int.add_mul]; simp
  rw [e]
  generalize (s : Int) * st = p
  unfold wrap64
  omega
theorem zig_small {st : Int} (h0 : -30 ≤ st) (h1 : st < 30) : (uvarint (zigzag st)).length = 1 := by
  apply uv1
  unfold zigzag
  split <;> omega
theorem steps_seq (frm st : Int) (h0 : -30 ≤ st) (h1 : st < 30) : ∀ (m s : Nat), (stepsS (seqF frm st s).num ((List.range' (s + 1) m).map (seqF frm st))).length = m
  | 0, s => rfl
  | m + 1, s => by
    rw [List.range'_succ, List.map_cons, stepsS, List.length_append, seq_diff frm st s h0 h1, zig_small h0 h1, steps_seq frm st h0 h1 m (s + 1)]
    omega
theorem small_y (frm st : Int) (h0 : -30 ≤ st) (h1 : st < 30) (n : Nat) (hn : n ≤ 60) : (encOut 1 (seqL frm st n)).length ≤ 2 + (n + 7) / 8 + 10 + n := by
  have hs : someS (seqL frm st n) = seqL frm st n := by
    unfold someS
    rw [List.filter_eq_self]
    intro x hx
    obtain ⟨k, _, rfl⟩ := List.mem_map.1 hx
    rfl
  have h2 := (bestK_le 1 (seqL frm st n) 4).2 3 (by omega) (by omega)
  rw [encOut_size _ _ (by rw [seqL_len]; exact hn), hs, seqL_len]
  have h3 : (writeS 3 (seqL frm st n)).length ≤ 10 + n := by
    unfold writeS
    rw [if_neg (by decide), if_neg (by decide), if_neg (by decide), if_pos rfl]
    cases n with
    | zero => exact Nat.zero_le _
    | succ m =>
      unfold seqL
      rw [List.range_eq_range', List.range'_succ, List.map_cons, stepsS, List.length_append, Nat.zero_add, show List.range' 1 m = List.range' (0 + 1) m from rfl, steps_seq frm st h0 h1 m 0]
      have hw := wrap_i64 ((seqF frm st 0).num - 0)
      have := Lib.uvarint_length64 (Lib.zigzag_lt hw.1 hw.2)
      omega
  omega
theorem small_z (kind : Int) (n : Nat) (hn : n ≤ 60) : (encOut kind (List.replicate n gv0)).length ≤ 3 + (n + 7) / 8 := by
  have hs : someS (List.replicate n gv0) = [] := by
    unfold someS
    rw [List.filter_replicate]
    rfl
  have h2 := (bestK_le kind [] 4).2 0 (by omega) (by omega)
  rw [encOut_size _ _ (by rw [List.length_replicate]; exact hn), hs, List.length_replicate]
  have h3 : (writeS 0 []).length = 0 := rfl
  omega
theorem err_ok {kind : Int} {l : List GV} (hk : kind = 1 ∨ kind = 2) (hl : l.length ≤ 60) (h : ∀ x ∈ l, badIn kind x = false) : encErr kind l = 0 := by
  unfold encErr
  have : l.any (badIn kind) = false := List.any_eq_false.2 fun x hx => by rw [h x hx]; decide
  rw [if_neg (by rw [this]; simp; omega), if_neg (by omega)]
theorem small_xe {v : GV} (h : Fits v.kind v) (hr : rightB v.kind v.num v.text = true) (n : Nat) (hn : n ≤ 60) : encErr v.kind (List.replicate n v) = 0 :=
  err_ok (by rcases h.2.2 with h | h <;> omega) (by rw [List.length_replicate]; exact hn) fun x hx => by
    rw [(List.mem_replicate.1 hx).2]
    unfold badIn
    rw [hr]
    simp
theorem small_ye (frm st : Int) (n : Nat) (hn : n ≤ 60) : encErr 1 (seqL frm st n) = 0 :=
  err_ok (.inl rfl) (by rw [seqL_len]; exact hn) fun x hx => by
    obtain ⟨k, _, rfl⟩ := List.mem_map.1 hx
    unfold badIn seqF rightB
    simp
theorem small_ze {kind : Int} (hk : kind = 1 ∨ kind = 2) (n : Nat) (hn : n ≤ 60) : encErr kind (List.replicate n gv0) = 0 :=
  err_ok hk (by rw [List.length_replicate]; exact hn) fun x hx => by
    rw [(List.mem_replicate.1 hx).2]
    unfold badIn rightB
    simp
theorem fits_right {v : GV} (hi : i64 v.num) (hr : rightB v.kind v.num v.text = true) (h0 : v.kind ≠ 0) : Fits v.kind v := by
  refine ⟨hi, rfl, ?_⟩
  unfold rightB at hr
  rw [if_neg h0] at hr
  split at hr
  · rename_i h1; exact .inl ⟨h1, of_decide_eq_true hr⟩
  · split at hr
    · rename_i h2
      simp only [Bool.and_eq_true, decide_eq_true_eq] at hr
      exact .inr ⟨h2, hr.1.1, hr.1.2⟩
    · cases hr
end Go.Proofs.Ytieongfdleobpaa
