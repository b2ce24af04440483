/- Texts joined: ask: the walk of the cut into tokens: letters, run, next. The order of values, plainly: it is an order, and what is written tells the value. No program. slices.Index, IndexFunc, Contains, ContainsFunc, Equal at values. What is known of values, plainly: of a list, of two parts. No program. stats: values as Go has them; what the walks of stats lean on. stats.Of -/
import Derived.Test.YtlaldfkeaalnhaaGreatDoorQA04
import Derived.Test.YtlaldfkeaalnhaaGreatDoorQA03
import Derived.Test.YtlaldfkeaalnhaaGreatDoorQA01
import Derived.Deep.DeepCutAuto
import Derived.Test.YtlaldfkeaalnhaaGreatDoorQA02
/- ask: the walk of the cut into tokens: letters, run, next. -/
namespace Go.Proofs.YtlaldfkeaalnhaaGreatDoor
set_option linter.unusedSimpArgs false
set_option linter.unusedVariables false
open Go.RowKit
set_option linter.all false
theorem u8n {a b : UInt8} (h : a ≠ b) : ((a.toNat : Int) == (b.toNat : Int)) = false := by
  rw [beq_eq_false_iff_ne]
  intro e
  exact h (UInt8.toNat_inj.1 (by omega))
theorem u8e {a b : UInt8} (h : a = b) : ((a.toNat : Int) == (b.toNat : Int)) = true := by rw [h]; simp
set_option maxRecDepth 100000 in
set_option maxHeartbeats 8000000 in
theorem small_any (c : UInt8) (w : World) : Calls Tryz.prog 128 #[.int .u8 (c.toNat : Int)] w fun e w' => e = .returned (.bool (smallB c)) ∧ Ext w w' := by
  have hS := Hp.init w
  have hR := Reads.nil w
  unfold smallB
  by_cases h1 : 97 ≤ c.toNat
  · by_cases h2 : c.toNat ≤ 122
    · rw [decide_eq_true h1, decide_eq_true h2]
      go_enter Tryz.func128, Tryz.ntmps128
      go_wp2_with (first | (refine hab ?_; (try clear hF); clear hS; intro wk hS; (try simp only [List.set_cons_zero, List.set_cons_succ, heap_size, heap_set_size] at hS); ((try clear hF); refine hfI ?_; intro hF)) | fail)
      go_ret
      refine ⟨?_, hS.ext⟩
      go_tidy
      simp
      omega
    · rw [decide_eq_true h1, decide_eq_false h2]
      go_enter Tryz.func128, Tryz.ntmps128
      go_wp2_with (first | (refine hab ?_; (try clear hF); clear hS; intro wk hS; (try simp only [List.set_cons_zero, List.set_cons_succ, heap_size, heap_set_size] at hS); ((try clear hF); refine hfI ?_; intro hF)) | fail)
      go_ret
      refine ⟨?_, hS.ext⟩
      go_tidy
      simp
      omega
  · rw [decide_eq_false h1, Bool.false_and]
    go_enter Tryz.func128, Tryz.ntmps128
    go_wp2_with (first | (refine hab ?_; (try clear hF); clear hS; intro wk hS; (try simp only [List.set_cons_zero, List.set_cons_succ, heap_size, heap_set_size] at hS); ((try clear hF); refine hfI ?_; intro hF)) | fail)
    go_ret
    exact ⟨rfl, hS.ext⟩
set_option maxRecDepth 100000 in
set_option maxHeartbeats 8000000 in
theorem digit_any (c : UInt8) (w : World) : Calls Tryz.prog 131 #[.int .u8 (c.toNat : Int)] w fun e w' => e = .returned (.bool (digitB c)) ∧ Ext w w' := by
  have hS := Hp.init w
  have hR := Reads.nil w
  unfold digitB
  by_cases h1 : 48 ≤ c.toNat
  · by_cases h2 : c.toNat ≤ 57
    · rw [decide_eq_true h1, decide_eq_true h2]
      go_enter Tryz.func131, Tryz.ntmps131
      go_wp2_with (first | (refine hab ?_; (try clear hF); clear hS; intro wk hS; (try simp only [List.set_cons_zero, List.set_cons_succ, heap_size, heap_set_size] at hS); ((try clear hF); refine hfI ?_; intro hF)) | fail)
      go_ret
      refine ⟨?_, hS.ext⟩
      go_tidy
      simp
      omega
    · rw [decide_eq_true h1, decide_eq_false h2]
      go_enter Tryz.func131, Tryz.ntmps131
      go_wp2_with (first | (refine hab ?_; (try clear hF); clear hS; intro wk hS; (try simp only [List.set_cons_zero, List.set_cons_succ, heap_size, heap_set_size] at hS); ((try clear hF); refine hfI ?_; intro hF)) | fail)
      go_ret
      refine ⟨?_, hS.ext⟩
      go_tidy
      simp
      omega
  · rw [decide_eq_false h1, Bool.false_and]
    go_enter Tryz.func131, Tryz.ntmps131
    go_wp2_with (first | (refine hab ?_; (try clear hF); clear hS; intro wk hS; (try simp only [List.set_cons_zero, List.set_cons_succ, heap_size, heap_set_size] at hS); ((try clear hF); refine hfI ?_; intro hF)) | fail)
    go_ret
    exact ⟨rfl, hS.ext⟩
set_option maxRecDepth 100000 in
set_option maxHeartbeats 8000000 in
theorem word_any (c : UInt8) (w : World) : Calls Tryz.prog 130 #[.int .u8 (c.toNat : Int)] w fun e w' => e = .returned (.bool (wordB c)) ∧ Ext w w' := by
  have hS := Hp.init w
  have hR := Reads.nil w
  have H1 := Lib.hid (fun W => small_any c W)
  have H2 := Lib.hid (fun W => digit_any c W)
  unfold wordB
  by_cases h3 : c = 95
  · have q : ((c.toNat : Int) == 95) = true := u8e h3
    have q' : (c == 95) = true := by simp [h3]
    rw [q']
    clear h3 q'
    cases h1 : smallB c with
    | true =>
      rw [h1] at H1
      clear h1 H2
      go_enter Tryz.func130, Tryz.ntmps130
      go_wp2_with (first | (refine hab ?_; (try clear hF); clear hS; intro wk hS; (try simp only [List.set_cons_zero, List.set_cons_succ, heap_size, heap_set_size] at hS); ((try clear hF); refine hfI ?_; intro hF)) | (go_at_call 128; (with_reducible refine (H1.out _).mono ?_); rintro e wk ⟨rfl, hX⟩; replace hS := hS.step hX; clear hX; ((try clear hF); refine hfI ?_; intro hF)))
      go_ret
      exact ⟨rfl, hS.ext⟩
    | false =>
      rw [h1] at H1
      clear h1
      cases h2 : digitB c with
      | true =>
        rw [h2] at H2
        clear h2
        go_enter Tryz.func130, Tryz.ntmps130
        go_wp2_with (first | (refine hab ?_; (try clear hF); clear hS; intro wk hS; (try simp only [List.set_cons_zero, List.set_cons_succ, heap_size, heap_set_size] at hS); ((try clear hF); refine hfI ?_; intro hF)) | (go_at_call 128; (with_reducible refine (H1.out _).mono ?_); rintro e wk ⟨rfl, hX⟩; replace hS := hS.step hX; clear hX; ((try clear hF); refine hfI ?_; intro hF)) | (go_at_call 131; (with_reducible refine (H2.out _).mono ?_); rintro e wk ⟨rfl, hX⟩; replace hS := hS.step hX; clear hX; ((try clear hF); refine hfI ?_; intro hF)))
        go_ret
        exact ⟨rfl, hS.ext⟩
      | false =>
        rw [h2] at H2
        clear h2
        go_enter Tryz.func130, Tryz.ntmps130
        go_wp2_with (first | (refine hab ?_; (try clear hF); clear hS; intro wk hS; (try simp only [List.set_cons_zero, List.set_cons_succ, heap_size, heap_set_size] at hS); ((try clear hF); refine hfI ?_; intro hF)) | (go_at_call 128; (with_reducible refine (H1.out _).mono ?_); rintro e wk ⟨rfl, hX⟩; replace hS := hS.step hX; clear hX; ((try clear hF); refine hfI ?_; intro hF)) | (go_at_call 131; (with_reducible refine (H2.out _).mono ?_); rintro e wk ⟨rfl, hX⟩; replace hS := hS.step hX; clear hX; ((try clear hF); refine hfI ?_; intro hF)))
        go_ret
        exact ⟨rfl, hS.ext⟩
  · have q : ((c.toNat : Int) == 95) = false := u8n h3
    have q' : (c == 95) = false := by simp [h3]
    rw [q']
    clear h3 q'
    cases h1 : smallB c with
    | true =>
      rw [h1] at H1
      clear h1 H2
      go_enter Tryz.func130, Tryz.ntmps130
      go_wp2_with (first | (refine hab ?_; (try clear hF); clear hS; intro wk hS; (try simp only [List.set_cons_zero, List.set_cons_succ, heap_size, heap_set_size] at hS); ((try clear hF); refine hfI ?_; intro hF)) | (go_at_call 128; (with_reducible refine (H1.out _).mono ?_); rintro e wk ⟨rfl, hX⟩; replace hS := hS.step hX; clear hX; ((try clear hF); refine hfI ?_; intro hF)))
      go_ret
      exact ⟨rfl, hS.ext⟩
    | false =>
      rw [h1] at H1
      clear h1
      cases h2 : digitB c with
      | true =>
        rw [h2] at H2
        clear h2
        go_enter Tryz.func130, Tryz.ntmps130
        go_wp2_with (first | (refine hab ?_; (try clear hF); clear hS; intro wk hS; (try simp only [List.set_cons_zero, List.set_cons_succ, heap_size, heap_set_size] at hS); ((try clear hF); refine hfI ?_; intro hF)) | (go_at_call 128; (with_reducible refine (H1.out _).mono ?_); rintro e wk ⟨rfl, hX⟩; replace hS := hS.step hX; clear hX; ((try clear hF); refine hfI ?_; intro hF)) | (go_at_call 131; (with_reducible refine (H2.out _).mono ?_); rintro e wk ⟨rfl, hX⟩; replace hS := hS.step hX; clear hX; ((try clear hF); refine hfI ?_; intro hF)))
        go_ret
        exact ⟨rfl, hS.ext⟩
      | false =>
        rw [h2] at H2
        clear h2
        go_enter Tryz.func130, Tryz.ntmps130
        go_wp2_with (first | (refine hab ?_; (try clear hF); clear hS; intro wk hS; (try simp only [List.set_cons_zero, List.set_cons_succ, heap_size, heap_set_size] at hS); ((try clear hF); refine hfI ?_; intro hF)) | (go_at_call 128; (with_reducible refine (H1.out _).mono ?_); rintro e wk ⟨rfl, hX⟩; replace hS := hS.step hX; clear hX; ((try clear hF); refine hfI ?_; intro hF)) | (go_at_call 131; (with_reducible refine (H2.out _).mono ?_); rintro e wk ⟨rfl, hX⟩; replace hS := hS.step hX; clear hX; ((try clear hF); refine hfI ?_; intro hF)))
        go_ret
        exact ⟨rfl, hS.ext⟩
theorem at_drop (s : ByteArray) (k : Nat) (h : k < s.size) : s.data.toList.drop k = s[k] :: s.data.toList.drop (k + 1) := by
  rw [List.drop_eq_getElem_cons (by rw [← Lib.size_eq]; exact h)]
  rfl
set_option maxRecDepth 100000 in
set_option maxHeartbeats 8000000 in
theorem run_any (p : UInt8 → Bool) (g : Nat) (eg : ∀ args w, (callFunc g args).run Tryz.prog w = .ok (.enter g args) w) (hp : ∀ (c : UInt8) (W : World), Calls Tryz.prog g #[.int .u8 (c.toNat : Int)] W fun e w' => e = .returned (.bool (p c)) ∧ Ext W w')
    (s : ByteArray) (w : World) (m : Nat) (hm : s.size = m) (hm2 : m ≤ 1000000) :
    Calls Tryz.prog 129 #[.string s, .func (.func g) #[] #[]] w fun e w' => e = .returned (.int .i64 (runL p s.data.toList)) ∧ Ext w w' := by
  have hS := Hp.init w
  have hR := Reads.nil w
  have HP := Lib.hid hp
  clear hp
  obtain ⟨D, hD⟩ : ∃ D, D = runL p s.data.toList := ⟨_, rfl⟩
  rw [← hD]
  have HD := Lib.hid (show D = 0 + runL p (s.data.toList.drop 0) by rw [hD, List.drop_zero]; omega)
  clear hD
  go_enter Tryz.func129, Tryz.ntmps129
  go_wp2_with (first | (refine hab ?_; (try clear hF); clear hS; intro wk hS; (try simp only [List.set_cons_zero, List.set_cons_succ, heap_size, heap_set_size] at hS); ((try clear hF); refine hfI ?_; intro hF)) | fail)
  go_loopw [5] (fun i wr => ∃ k : Nat, i = .int .i64 k ∧ k ≤ m ∧ Hid (D = k + runL p (s.data.toList.drop k)) ∧ Hp w.heap.size w wr []) (fun i _ => m - (intOf i).toNat)
  case atStart => exact ⟨0, rfl, Nat.zero_le _, HD, hS⟩
  case round =>
    clear hS HD
    obtain ⟨k, rfl, hk, HD, hS⟩ := hrel
    by_cases hlt : k < m
    · have hks : k < s.size := by omega
      have hd := at_drop s k hks
      have HC := Lib.hid (HP.out s[k])
      cases hpc : p s[k] with
      | true =>
        rw [hpc] at HC
        have HD2 := Lib.hid (show D = (k + 1 : Nat) + runL p (s.data.toList.drop (k + 1)) by
          rw [HD.out, hd]
          simp only [runL, hpc, if_true]
          omega)
        clear HD hd hpc
        ((try clear hF); refine hfI ?_; intro hF)
        go_wp2_with (first | (refine hab ?_; (try clear hF); clear hS; intro wk hS; (try simp only [List.set_cons_zero, List.set_cons_succ, heap_size, heap_set_size] at hS); ((try clear hF); refine hfI ?_; intro hF)) | ((with_reducible refine (HC.out _).mono ?_); rintro e wk ⟨rfl, hX⟩; replace hS := hS.step hX; clear hX; ((try clear hF); refine hfI ?_; intro hF)))
        go_roundw
        case rel => exact ⟨k + 1, by go_num, by omega, HD2, hS⟩
        case measure => simp [intOf]; omega
      | false =>
        rw [hpc] at HC
        have HD2 := Lib.hid (show D = k by
          rw [HD.out, hd]
          simp only [runL, hpc, Bool.false_eq_true, if_false]
          omega)
        clear HD hd hpc
        ((try clear hF); refine hfI ?_; intro hF)
        go_wp2_with (first | (refine hab ?_; (try clear hF); clear hS; intro wk hS; (try simp only [List.set_cons_zero, List.set_cons_succ, heap_size, heap_set_size] at hS); ((try clear hF); refine hfI ?_; intro hF)) | ((with_reducible refine (HC.out _).mono ?_); rintro e wk ⟨rfl, hX⟩; replace hS := hS.step hX; clear hX; ((try clear hF); refine hfI ?_; intro hF)))
        go_ret
        exact ⟨by rw [HD2.out]; rfl, hS.ext⟩
    · obtain rfl : k = m := by omega
      have HD2 := Lib.hid (show D = k by
        rw [HD.out, List.drop_eq_nil_of_le (by rw [← Lib.size_eq]; omega)]
        rfl)
      clear HD
      ((try clear hF); refine hfI ?_; intro hF)
      go_wp2_with (first | (refine hab ?_; (try clear hF); clear hS; intro wk hS; (try simp only [List.set_cons_zero, List.set_cons_succ, heap_size, heap_set_size] at hS); ((try clear hF); refine hfI ?_; intro hF)) | fail)
      go_ret
      exact ⟨by rw [HD2.out]; rfl, hS.ext⟩
end Go.Proofs.YtlaldfkeaalnhaaGreatDoor

/- The order of values, plainly: it is an order, and what is written tells the value. No program. -/
namespace Go.Proofs.YtlaldfkeaalnhaaGreatDoor
set_option linter.all false

def cmpG (a b : GV) : Int := cmpV a.kind a.num a.text b.kind b.num b.text

theorem cb_range (a b : List UInt8) : Lib.compareBytes a b = -1 ∨ Lib.compareBytes a b = 0 ∨ Lib.compareBytes a b = 1 := by
  induction a generalizing b with
  | nil => cases b <;> simp [Lib.compareBytes]
  | cons x xs ih =>
    cases b with
    | nil => simp [Lib.compareBytes]
    | cons y ys =>
      simp only [Lib.compareBytes]
      split
      · simp
      · split
        · simp
        · exact ih ys
theorem cb_anti (a b : List UInt8) : Lib.compareBytes b a = - Lib.compareBytes a b := by
  induction a generalizing b with
  | nil => cases b <;> simp [Lib.compareBytes]
  | cons x xs ih =>
    cases b with
    | nil => simp [Lib.compareBytes]
    | cons y ys =>
      simp only [Lib.compareBytes]
      by_cases h1 : x < y
      · have h2 : ¬ y < x := fun h => absurd (UInt8.lt_trans h1 h) (UInt8.lt_irrefl _)
        simp [h1, h2]
      · by_cases h2 : y < x
        · simp [h1, h2]
        · simp only [h1, h2, if_false]; exact ih ys
theorem cb_zero (a b : List UInt8) : Lib.compareBytes a b = 0 ↔ a = b := by
  induction a generalizing b with
  | nil => cases b <;> simp [Lib.compareBytes]
  | cons x xs ih =>
    cases b with
    | nil => simp [Lib.compareBytes]
    | cons y ys =>
      simp only [Lib.compareBytes]
      by_cases h1 : x < y
      · have : x ≠ y := fun e => by subst e; exact UInt8.lt_irrefl _ h1
        simp [h1, this]
      · by_cases h2 : y < x
        · have : x ≠ y := fun e => by subst e; exact UInt8.lt_irrefl _ h2
          simp [h1, h2, this]
        · have : x = y := UInt8.le_antisymm (UInt8.not_lt.1 h2) (UInt8.not_lt.1 h1)
          simp [this, ih]
theorem cb_trans (a b c : List UInt8) (n : Int) (h1 : Lib.compareBytes a b = n) (h2 : Lib.compareBytes b c = n) : Lib.compareBytes a c = n := by
  induction a generalizing b c with
  | nil =>
    cases b <;> cases c <;> simp only [Lib.compareBytes] at * <;> omega
  | cons x xs ih =>
    cases b with
    | nil => cases c <;> simp only [Lib.compareBytes] at * <;> omega
    | cons y ys =>
      cases c with
      | nil => simp only [Lib.compareBytes] at *; omega
      | cons z zs =>
        simp only [Lib.compareBytes] at h1 h2 ⊢
        by_cases p1 : x < y
        · rw [if_pos p1] at h1
          by_cases p2 : y < z
          · rw [if_pos (UInt8.lt_trans p1 p2)]; exact h1
          · rw [if_neg p2] at h2
            by_cases p3 : z < y
            · rw [if_pos p3] at h2; omega
            · obtain rfl : y = z := UInt8.le_antisymm (UInt8.not_lt.1 p3) (UInt8.not_lt.1 p2)
              rw [if_pos p1]; exact h1
        · rw [if_neg p1] at h1
          by_cases p2 : y < x
          · rw [if_pos p2] at h1
            by_cases p3 : y < z
            · rw [if_pos p3] at h2; omega
            · rw [if_neg p3] at h2
              by_cases p4 : z < y
              · have q : z < x := UInt8.lt_trans p4 p2
                have q' : ¬ x < z := fun h => absurd (UInt8.lt_trans q h) (UInt8.lt_irrefl _)
                rw [if_neg q', if_pos q]; exact h1
              · obtain rfl : y = z := UInt8.le_antisymm (UInt8.not_lt.1 p4) (UInt8.not_lt.1 p3)
                rw [if_neg p1, if_pos p2]; exact h1
          · rw [if_neg p2] at h1
            obtain rfl : x = y := UInt8.le_antisymm (UInt8.not_lt.1 p2) (UInt8.not_lt.1 p1)
            by_cases p3 : x < z
            · rw [if_pos p3] at h2 ⊢; exact h2
            · rw [if_neg p3] at h2 ⊢
              by_cases p4 : z < x
              · rw [if_pos p4] at h2 ⊢; exact h2
              · rw [if_neg p4] at h2 ⊢
                exact ih ys zs h1 h2

theorem cmpI_range (x y : Int) : cmpI x y = -1 ∨ cmpI x y = 0 ∨ cmpI x y = 1 := by
  unfold cmpI
  repeat' split
  all_goals omega
theorem cmpG_range (a b : GV) : cmpG a b = -1 ∨ cmpG a b = 0 ∨ cmpG a b = 1 := by
  have h1 := cmpI_range a.kind b.kind
  have h2 := cmpI_range a.num b.num
  have h3 := cb_range a.text.data.toList b.text.data.toList
  unfold cmpG cmpV orI
  repeat' split
  all_goals omega
theorem cmpI_anti (x y : Int) : cmpI y x = - cmpI x y := by
  unfold cmpI
  repeat' split
  all_goals omega
theorem cmpG_anti (a b : GV) : cmpG b a = - cmpG a b := by
  have h1 := cmpI_anti a.kind b.kind
  have h2 := cmpI_anti a.num b.num
  have h3 := cb_anti a.text.data.toList b.text.data.toList
  unfold cmpG cmpV orI
  rw [h1, h2, h3]
  generalize cmpI a.kind b.kind = p
  generalize cmpI a.num b.num = q
  repeat' split
  all_goals omega
theorem cmpI_zero (x y : Int) : cmpI x y = 0 ↔ x = y := by
  unfold cmpI
  repeat' split
  all_goals omega
theorem text_eq (s t : ByteArray) : s.data.toList = t.data.toList ↔ s = t :=
  ⟨fun h => ByteArray.ext (Array.toList_inj.1 h), fun h => by rw [h]⟩
theorem gv_eq (a b : GV) : a = b ↔ a.kind = b.kind ∧ a.num = b.num ∧ a.text = b.text := by
  cases a; cases b; simp
theorem cmpG_zero (a b : GV) : cmpG a b = 0 ↔ a = b := by
  rw [gv_eq, ← text_eq, ← cmpI_zero a.kind, ← cmpI_zero a.num, ← cb_zero]
  unfold cmpG cmpV orI
  repeat' split
  all_goals simp_all
theorem cmpI_trans (x y z n : Int) (h1 : cmpI x y = n) (h2 : cmpI y z = n) : cmpI x z = n := by
  unfold cmpI at *
  repeat' split at h1
  all_goals repeat' split at h2
  all_goals repeat' split
  all_goals omega
theorem orI_trans (p1 p2 p3 q1 q2 q3 r1 r2 r3 : Int) (hp : p1 = p2 → p3 = p1) (hp1 : p1 = 0 → p3 = p2) (hp2 : p2 = 0 → p3 = p1) (hq : q1 = q2 → q3 = q1) (hq1 : q1 = 0 → q3 = q2) (hq2 : q2 = 0 → q3 = q1)
    (hr : r1 = r2 → r3 = r1) (h : orI p1 q1 r1 = orI p2 q2 r2) : orI p3 q3 r3 = orI p1 q1 r1 := by
  unfold orI at *
  by_cases a1 : p1 = 0
  · by_cases a2 : p2 = 0
    · have a3 : p3 = 0 := by omega
      simp only [a1, a2, a3, if_true] at h ⊢
      by_cases b1 : q1 = 0
      · by_cases b2 : q2 = 0
        · have b3 : q3 = 0 := by omega
          simp only [b1, b2, b3, if_true] at h ⊢
          exact hr h
        · have b3 : ¬ q3 = 0 := by omega
          simp only [b1, b2, b3, if_true, if_false] at h ⊢
          omega
      · by_cases b2 : q2 = 0
        · have b3 : ¬ q3 = 0 := by omega
          simp only [b1, b3, if_false] at h ⊢
          omega
        · simp only [b1, b2, if_false] at h
          have b3 : ¬ q3 = 0 := by omega
          simp only [b1, b3, if_false]
          omega
    · have a3 : ¬ p3 = 0 := by omega
      simp only [a1, a2, a3, if_true, if_false] at h ⊢
      omega
  · by_cases a2 : p2 = 0
    · have a3 : ¬ p3 = 0 := by omega
      simp only [a1, a3, if_false] at h ⊢
      omega
    · simp only [a1, a2, if_false] at h
      have a3 : ¬ p3 = 0 := by omega
      simp only [a1, a3, if_false]
      omega
theorem cmpI_left (x y z : Int) (h : cmpI x y = 0) : cmpI x z = cmpI y z := by rw [(cmpI_zero x y).1 h]
theorem cmpI_right (x y z : Int) (h : cmpI y z = 0) : cmpI x z = cmpI x y := by rw [(cmpI_zero y z).1 h]
theorem cmpG_trans (a b c : GV) (h : cmpG a b = cmpG b c) : cmpG a c = cmpG a b :=
  orI_trans _ _ _ _ _ _ _ _ _ (fun h => cmpI_trans _ _ _ _ rfl h.symm) (cmpI_left _ _ _) (cmpI_right _ _ _) (fun h => cmpI_trans _ _ _ _ rfl h.symm) (cmpI_left _ _ _) (cmpI_right _ _ _)
    (fun h => cb_trans _ _ _ _ rfl h.symm) h
theorem cmpG_left (a b c : GV) (h : cmpG a b = 0) : cmpG a c = cmpG b c := by rw [(cmpG_zero a b).1 h]
end Go.Proofs.YtlaldfkeaalnhaaGreatDoor

/- slices.Index, IndexFunc, Contains, ContainsFunc, Equal at values. -/
namespace Go.Proofs.YtlaldfkeaalnhaaGreatDoor
set_option linter.all false
set_option linter.unusedSimpArgs false
set_option linter.unusedVariables false
open Go.RowKit
def eqG (a b : GV) : Bool := a.kind == b.kind && a.num == b.num && a.text.toList == b.text.toList
theorem text_eqL (a b : ByteArray) : a.toList = b.toList ↔ a = b := by
  rw [ByteArray.toList_eq, ByteArray.toList_eq]
  exact ⟨fun h => ByteArray.ext (Array.toList_inj.1 h), fun h => by rw [h]⟩
theorem eqG_iff (a b : GV) : eqG a b = true ↔ a = b := by
  unfold eqG
  simp only [Bool.and_eq_true, beq_iff_eq, text_eqL]
  constructor
  · rintro ⟨⟨h1, h2⟩, h3⟩; cases a; cases b; simp_all
  · rintro rfl; exact ⟨⟨rfl, rfl⟩, rfl⟩
theorem eqG_self (a : GV) : eqG a a = true := (eqG_iff a a).2 rfl
theorem eqlG (a b : GV) (w : World) :
    (binOp .eql 29 (.agg #[.int .i64 a.kind, .int .i64 a.num, .string a.text]) (.agg #[.int .i64 b.kind, .int .i64 b.num, .string b.text])).run Tryz.prog w = .ok (.bool (eqG a b)) w := by
  unfold eqG
  by_cases h1 : a.kind = b.kind <;> by_cases h2 : a.num = b.num <;> by_cases h3 : a.text.toList = b.text.toList <;> simp [go_sem, h1, h2, h3]
theorem neqG (a b : GV) (w : World) :
    (binOp .neq 29 (.agg #[.int .i64 a.kind, .int .i64 a.num, .string a.text]) (.agg #[.int .i64 b.kind, .int .i64 b.num, .string b.text])).run Tryz.prog w = .ok (.bool (!eqG a b)) w := by
  unfold eqG
  by_cases h1 : a.kind = b.kind <;> by_cases h2 : a.num = b.num <;> by_cases h3 : a.text.toList = b.text.toList <;> simp [go_sem, h1, h2, h3]
/-- the first place, from k on, where p holds; or -1 -/
def idxP (p : GV → Bool) : Nat → List GV → Int
  | _, [] => -1
  | k, x :: l => if p x then k else idxP p (k + 1) l
theorem idxP_any (p : GV → Bool) : ∀ (l : List GV) (k : Nat), decide (0 ≤ idxP p k l) = l.any p
  | [], k => rfl
  | x :: l, k => by
    unfold idxP
    rw [List.any_cons]
    cases h : p x with
    | true => simp
    | false => simpa using idxP_any p l (k + 1)
/-- the place is one of the list -/
theorem idxP_range (p : GV → Bool) : ∀ (l : List GV) (k : Nat), -1 ≤ idxP p k l ∧ idxP p k l < k + l.length
  | [], k => by simp [idxP]; omega
  | x :: l, k => by
    unfold idxP
    have := idxP_range p l (k + 1)
    split <;> simp <;> omega
theorem drop_at {l : List GV} {k : Nat} {x : GV} (h : l[k]? = some x) : l.drop k = x :: l.drop (k + 1) := by
  obtain ⟨h1, e⟩ := List.getElem?_eq_some_iff.1 h
  rw [List.drop_eq_getElem_cons h1, e]
set_option maxRecDepth 100000 in
set_option maxHeartbeats 8000000 in
theorem index_any (l : List GV) (A : Option Addr) (cap : Nat) (v : GV) (w : World) (hr : RV w A l) (hl : l.length ≤ 140737488355328) :
    Calls Tryz.prog 121 #[.slice A l.length cap, .agg #[.int .i64 v.kind, .int .i64 v.num, .string v.text]] w fun e w' => e = .returned (.int .i64 (idxP (eqG v) 0 l)) ∧ Ext w w' := by
  obtain ⟨n, hn⟩ : ∃ n, n = l.length := ⟨_, rfl⟩
  rw [← hn]
  have Hn := Lib.hid hn
  rw [← hn] at hl
  clear hn
  have hS := Hp.init w
  have hR := Reads.nil w
  go_enter Tryz.func121, Tryz.ntmps121
  go_wp2_with (first | (refine hab ?_; (try clear hF); clear hS; intro wk hS; (try simp only [List.set_cons_zero, List.set_cons_succ, heap_size, heap_set_size] at hS); ((try clear hF); refine hfI ?_; intro hF)) | fail)
  go_loopw [8, 5] (fun i _ wr => ∃ k : Nat, i = .int .i64 k ∧ k ≤ n ∧ Hid (idxP (eqG v) 0 l = idxP (eqG v) k (l.drop k)) ∧ Hp w.heap.size w wr [.blk w.heap.size [.int .i64 v.kind, .int .i64 v.num, .string v.text] 29]) (fun i _ _ => n - (intOf i).toNat)
  case atStart => exact ⟨0, rfl, Nat.zero_le _, Lib.hid rfl, hS⟩
  case round =>
    clear hS hF
    obtain ⟨k, rfl, hk, hf, hS⟩ := hrel
    by_cases hlt : k < n
    · have hlt' : k < l.length := by rw [← Hn.out]; exact hlt
      obtain ⟨x, hx'⟩ : ∃ x, l[k]? = some x := ⟨l[k], List.getElem?_eq_getElem hlt'⟩
      obtain ⟨b, o, rfl, c0, c1, c2⟩ := hr k x hx'
      have hR := Reads.cell c0 (Reads.cell c1 (Reads.cell c2 (Reads.nil w)))
      have HD := Lib.hid (drop_at hx')
      have b5 := eqlG v x
      clear hx' hlt' c0 c1 c2 hr
      ((try clear hF); refine hfI ?_; intro hF)
      go_wp2_with (first | (refine hab ?_; (try clear hF); clear hS; intro wk hS; (try simp only [List.set_cons_zero, List.set_cons_succ, heap_size, heap_set_size] at hS); ((try clear hF); refine hfI ?_; intro hF)) | (first | (with_reducible refine wp_region_hp (draw := true) (by kernel_rfl) (by kernel_rfl) hS ?_) | ((with_reducible refine Fixed.here ?_); (first | ((with_reducible apply Fixed.skip); (first | rfl | exact wanted_false rfl rfl rfl (by assumption)); try simp only [Act.put, List.setIfInBounds_toArray, List.set_cons_zero, List.set_cons_succ]) | ((with_reducible apply Fixed.val); (first | rfl | exact wanted_true rfl rfl rfl (by assumption)); (rintro w hS; ((try clear hF); refine hfI ?_; intro hF); go_simp; with_reducible rfl); try simp only [Act.put, List.setIfInBounds_toArray, List.set_cons_zero, List.set_cons_succ]) | ((with_reducible apply Fixed.guardT); rfl; rfl; rfl; (all_goals intro hg)) | ((with_reducible apply Fixed.guardF); rfl; rfl; rfl; (all_goals intro hg)) | (with_reducible refine Fixed.done ?_; (try clear hF); clear hS; intro wk hS; ((try clear hF); refine hfI ?_; intro hF))))))
      · go_ret
        refine ⟨?_, hS.ext⟩
        have hc : eqG v x = true := by assumption
        rw [hf.out, HD.out, idxP, if_pos hc]; first | done | rfl
      · go_roundw
        case rel =>
          have hc : eqG v x = false := by assumption
          exact ⟨k + 1, by go_num, by omega, Lib.hid (by rw [hf.out, HD.out, idxP, if_neg (by rw [hc]; simp)]), hS⟩
        case measure => simp [intOf]; omega
    · obtain rfl : k = n := by omega
      ((try clear hF); refine hfI ?_; intro hF)
      go_wp2_with (first | (refine hab ?_; (try clear hF); clear hS; intro wk hS; (try simp only [List.set_cons_zero, List.set_cons_succ, heap_size, heap_set_size] at hS); ((try clear hF); refine hfI ?_; intro hF)) | fail)
      go_ret
      exact ⟨by rw [hf.out, Hn.out, List.drop_length]; rfl, hS.ext⟩
set_option maxRecDepth 100000 in
set_option maxHeartbeats 8000000 in
theorem contains_any (l : List GV) (A : Option Addr) (cap : Nat) (v : GV) (w : World) (hr : RV w A l) (hl : l.length ≤ 140737488355328) :
    Calls Tryz.prog 120 #[.slice A l.length cap, .agg #[.int .i64 v.kind, .int .i64 v.num, .string v.text]] w fun e w' => e = .returned (.bool (l.any (eqG v))) ∧ Ext w w' := by
  have hI := fun (W : World) (hx : Ext w W) => index_any l A cap v W (hr.ext hx) hl
  have HI := Lib.hid hI
  have HA := Lib.hid (idxP_any (eqG v) l 0)
  clear hI hr
  have hS := Hp.init w
  have hR := Reads.nil w
  go_enter Tryz.func120, Tryz.ntmps120
  go_wp2_with (first | (refine hab ?_; (try clear hF); clear hS; intro wk hS; (try simp only [List.set_cons_zero, List.set_cons_succ, heap_size, heap_set_size] at hS); ((try clear hF); refine hfI ?_; intro hF)) | (go_at_call 121; (with_reducible refine (HI.out _ hS.ext).mono ?_); rintro e wk ⟨rfl, hX⟩; replace hS := hS.step hX; clear hX; ((try clear hF); refine hfI ?_; intro hF)))
  go_ret
  exact ⟨by rw [HA.out]; first | done | rfl, hS.ext⟩
/-- a function that is called: it answers p of a value, and leaves all as it was -/
def PredOk (w0 : World) (g : Nat) (lb : Array Value) (p : GV → Bool) : Prop :=
  ∀ W, Ext w0 W → ∀ x : GV, Calls Tryz.prog g (#[.agg #[.int .i64 x.kind, .int .i64 x.num, .string x.text]] ++ lb) W fun e w' => e = .returned (.bool (p x)) ∧ Ext W w'
theorem PredOk.at {w0 : World} {g : Nat} {lb : Array Value} {p : GV → Bool} (h : PredOk w0 g lb p) (W : World) (hx : Ext w0 W) (x : GV) : Calls Tryz.prog g (#[.agg #[.int .i64 x.kind, .int .i64 x.num, .string x.text]] ++ lb) W fun e w' => e = .returned (.bool (p x)) ∧ Ext W w' := h W hx x
set_option maxRecDepth 100000 in
set_option maxHeartbeats 8000000 in
theorem indexFunc_any (l : List GV) (A : Option Addr) (cap : Nat) (g : Nat) (lb : Array Value) (p : GV → Bool) (w : World) (hr : RV w A l) (hl : l.length ≤ 140737488355328) (eg : ∀ args w, (callFunc g args).run Tryz.prog w = .ok (.enter g args) w) (hp : PredOk w g lb p) :
    Calls Tryz.prog 118 #[.slice A l.length cap, .func (.func g) #[] lb] w fun e w' => e = .returned (.int .i64 (idxP p 0 l)) ∧ Ext w w' := by
  obtain ⟨n, hn⟩ : ∃ n, n = l.length := ⟨_, rfl⟩
  rw [← hn]
  have Hn := Lib.hid hn
  rw [← hn] at hl
  clear hn
  have HP := Lib.hid hp
  clear hp
  have hS := Hp.init w
  have hR := Reads.nil w
  go_enter Tryz.func118, Tryz.ntmps118
  go_wp2_with (first | (refine hab ?_; (try clear hF); clear hS; intro wk hS; (try simp only [List.set_cons_zero, List.set_cons_succ, heap_size, heap_set_size] at hS); ((try clear hF); refine hfI ?_; intro hF)) | fail)
  go_loopw [8, 5] (fun i _ wr => ∃ k : Nat, i = .int .i64 k ∧ k ≤ n ∧ Hid (idxP p 0 l = idxP p k (l.drop k)) ∧ Hp w.heap.size w wr []) (fun i _ _ => n - (intOf i).toNat)
  case atStart => exact ⟨0, rfl, Nat.zero_le _, Lib.hid rfl, hS⟩
  case round =>
    clear hS
    obtain ⟨k, rfl, hk, hf, hS⟩ := hrel
    by_cases hlt : k < n
    · have hlt' : k < l.length := by rw [← Hn.out]; exact hlt
      obtain ⟨x, hx'⟩ : ∃ x, l[k]? = some x := ⟨l[k], List.getElem?_eq_getElem hlt'⟩
      obtain ⟨b, o, rfl, c0, c1, c2⟩ := hr k x hx'
      have hR := Reads.cell c0 (Reads.cell c1 (Reads.cell c2 (Reads.nil w)))
      have HD := Lib.hid (drop_at hx')
      clear hx' hlt' c0 c1 c2 hr
      ((try clear hF); refine hfI ?_; intro hF)
      go_wp2_with (first | (refine hab ?_; (try clear hF); clear hS; intro wk hS; (try simp only [List.set_cons_zero, List.set_cons_succ, heap_size, heap_set_size] at hS); ((try clear hF); refine hfI ?_; intro hF)) | ((with_reducible refine (HP.out.at _ hS.ext x).mono ?_); rintro e wk ⟨rfl, hX⟩; replace hS := hS.step hX; clear hX; ((try clear hF); refine hfI ?_; intro hF)))
      · go_ret
        refine ⟨?_, hS.ext⟩
        have hc : p x = true := by assumption
        rw [hf.out, HD.out, idxP, if_pos hc]; first | done | rfl
      · go_roundw
        case rel =>
          have hc : p x = false := by assumption
          exact ⟨k + 1, by go_num, by omega, Lib.hid (by rw [hf.out, HD.out, idxP, if_neg (by rw [hc]; simp)]), hS⟩
        case measure => simp [intOf]; omega
    · obtain rfl : k = n := by omega
      ((try clear hF); refine hfI ?_; intro hF)
      go_wp2_with (first | (refine hab ?_; (try clear hF); clear hS; intro wk hS; (try simp only [List.set_cons_zero, List.set_cons_succ, heap_size, heap_set_size] at hS); ((try clear hF); refine hfI ?_; intro hF)) | fail)
      go_ret
      exact ⟨by rw [hf.out, Hn.out, List.drop_length]; rfl, hS.ext⟩
set_option maxRecDepth 100000 in
set_option maxHeartbeats 8000000 in
theorem containsFunc_any (l : List GV) (A : Option Addr) (cap : Nat) (g : Nat) (lb : Array Value) (p : GV → Bool) (w : World) (hr : RV w A l) (hl : l.length ≤ 140737488355328) (eg : ∀ args w, (callFunc g args).run Tryz.prog w = .ok (.enter g args) w) (hp : PredOk w g lb p) :
    Calls Tryz.prog 88 #[.slice A l.length cap, .func (.func g) #[] lb] w fun e w' => e = .returned (.bool (l.any p)) ∧ Ext w w' := by
  have hI := fun (W : World) (hx : Ext w W) => indexFunc_any l A cap g lb p W (hr.ext hx) hl eg (fun W' hx' => hp W' (hx.trans hx'))
  have HI := Lib.hid hI
  have HA := Lib.hid (idxP_any p l 0)
  clear hI hr hp
  have hS := Hp.init w
  have hR := Reads.nil w
  go_enter Tryz.func88, Tryz.ntmps88
  go_wp2_with (first | (refine hab ?_; (try clear hF); clear hS; intro wk hS; (try simp only [List.set_cons_zero, List.set_cons_succ, heap_size, heap_set_size] at hS); ((try clear hF); refine hfI ?_; intro hF)) | (go_at_call 118; (with_reducible refine (HI.out _ hS.ext).mono ?_); rintro e wk ⟨rfl, hX⟩; replace hS := hS.step hX; clear hX; ((try clear hF); refine hfI ?_; intro hF)))
  go_ret
  exact ⟨by rw [HA.out]; first | done | rfl, hS.ext⟩
def eqL : List GV → List GV → Bool
  | [], [] => true
  | x :: l, y :: m => eqG x y && eqL l m
  | _, _ => false
theorem eqL_iff : ∀ l m : List GV, eqL l m = true ↔ l = m
  | [], [] => by simp [eqL]
  | [], _ :: _ => by simp [eqL]
  | _ :: _, [] => by simp [eqL]
  | x :: l, y :: m => by simp [eqL, eqG_iff, eqL_iff l m]
theorem eqL_len (l m : List GV) (h : l.length ≠ m.length) : eqL l m = false := by
  cases e : eqL l m with
  | false => rfl
  | true => exact absurd (by rw [(eqL_iff l m).1 e]) h
set_option maxRecDepth 100000 in
set_option maxHeartbeats 8000000 in
theorem equal_any (l m : List GV) (A A2 : Option Addr) (cap cap2 : Nat) (w : World) (hr : RV w A l) (hr2 : RV w A2 m) (hl : l.length ≤ 140737488355328) (hl2 : m.length ≤ 140737488355328) :
    Calls Tryz.prog 19 #[.slice A l.length cap, .slice A2 m.length cap2] w fun e w' => e = .returned (.bool (eqL l m)) ∧ Ext w w' := by
  by_cases hlen : l.length = m.length
  · obtain ⟨n, hn⟩ : ∃ n, n = l.length := ⟨_, rfl⟩
    rw [← hlen, ← hn]
    have Hn := Lib.hid hn
    rw [← hn] at hl
    rw [← hn] at hlen
    have Hm := Lib.hid hlen
    clear hn hlen hl2
    have hS := Hp.init w
    have hR := Reads.nil w
    go_enter Tryz.func19, Tryz.ntmps19
    go_wp2_with (first | (refine hab ?_; (try clear hF); clear hS; intro wk hS; (try simp only [List.set_cons_zero, List.set_cons_succ, heap_size, heap_set_size] at hS); ((try clear hF); refine hfI ?_; intro hF)) | fail)
    go_loopw [13, 5] (fun i _ wr => ∃ k : Nat, i = .int .i64 k ∧ k ≤ n ∧ Hid (eqL l m = eqL (l.drop k) (m.drop k)) ∧ Hp w.heap.size w wr []) (fun i _ _ => n - (intOf i).toNat)
    case atStart => exact ⟨0, rfl, Nat.zero_le _, Lib.hid rfl, hS⟩
    case round =>
      clear hS
      obtain ⟨k, rfl, hk, hf, hS⟩ := hrel
      by_cases hlt : k < n
      · have hlt' : k < l.length := by rw [← Hn.out]; exact hlt
        have hlt2 : k < m.length := by rw [← Hm.out]; exact hlt
        obtain ⟨x, hx'⟩ : ∃ x, l[k]? = some x := ⟨l[k], List.getElem?_eq_getElem hlt'⟩
        obtain ⟨y, hy'⟩ : ∃ x, m[k]? = some x := ⟨m[k], List.getElem?_eq_getElem hlt2⟩
        obtain ⟨b, o, rfl, c0, c1, c2⟩ := hr k x hx'
        obtain ⟨b2, o2, rfl, d0, d1, d2⟩ := hr2 k y hy'
        have hR := Reads.cell c0 (Reads.cell c1 (Reads.cell c2 (Reads.cell d0 (Reads.cell d1 (Reads.cell d2 (Reads.nil w))))))
        have HD := Lib.hid (drop_at hx')
        have HD2 := Lib.hid (drop_at hy')
        have b5 := neqG x y
        clear hx' hlt' c0 c1 c2 hr hy' hlt2 d0 d1 d2 hr2
        ((try clear hF); refine hfI ?_; intro hF)
        go_wp2_with (first | (refine hab ?_; (try clear hF); clear hS; intro wk hS; (try simp only [List.set_cons_zero, List.set_cons_succ, heap_size, heap_set_size] at hS); ((try clear hF); refine hfI ?_; intro hF)) | (first | (with_reducible refine wp_region_hp (draw := true) (by kernel_rfl) (by kernel_rfl) hS ?_) | ((with_reducible refine Fixed.here ?_); (first | ((with_reducible apply Fixed.skip); (first | rfl | exact wanted_false rfl rfl rfl (by assumption)); try simp only [Act.put, List.setIfInBounds_toArray, List.set_cons_zero, List.set_cons_succ]) | ((with_reducible apply Fixed.val); (first | rfl | exact wanted_true rfl rfl rfl (by assumption)); (rintro w hS; ((try clear hF); refine hfI ?_; intro hF); go_simp; with_reducible rfl); try simp only [Act.put, List.setIfInBounds_toArray, List.set_cons_zero, List.set_cons_succ]) | ((with_reducible apply Fixed.guardT); rfl; rfl; rfl; (all_goals intro hg)) | ((with_reducible apply Fixed.guardF); rfl; rfl; rfl; (all_goals intro hg)) | (with_reducible refine Fixed.done ?_; (try clear hF); clear hS; intro wk hS; ((try clear hF); refine hfI ?_; intro hF))))))
        · go_ret
          refine ⟨?_, hS.ext⟩
          have hc : eqG x y = false := by cases h : eqG x y <;> simp_all
          rw [hf.out, HD.out, HD2.out, eqL, hc]; rfl
        · go_roundw
          case rel =>
            have hc : eqG x y = true := by cases h : eqG x y <;> simp_all
            exact ⟨k + 1, by go_num, by omega, Lib.hid (by rw [hf.out, HD.out, HD2.out, eqL, hc]; rfl), hS⟩
          case measure => simp [intOf]; omega
      · obtain rfl : k = n := by omega
        ((try clear hF); refine hfI ?_; intro hF)
        go_wp2_with (first | (refine hab ?_; (try clear hF); clear hS; intro wk hS; (try simp only [List.set_cons_zero, List.set_cons_succ, heap_size, heap_set_size] at hS); ((try clear hF); refine hfI ?_; intro hF)) | fail)
        go_ret
        refine ⟨?_, hS.ext⟩
        have e1 : l.drop k = [] := by rw [Hn.out, List.drop_length]
        have e2 : m.drop k = [] := by rw [Hm.out, List.drop_length]
        rw [hf.out, e1, e2]; rfl
  · rw [eqL_len l m hlen]
    have hS := Hp.init w
    have hR := Reads.nil w
    clear hr hr2
    go_enter Tryz.func19, Tryz.ntmps19
    go_wp2_with (first | (refine hab ?_; (try clear hF); clear hS; intro wk hS; (try simp only [List.set_cons_zero, List.set_cons_succ, heap_size, heap_set_size] at hS); ((try clear hF); refine hfI ?_; intro hF)) | fail)
    all_goals first
      | (go_ret; exact ⟨rfl, hS.ext⟩)
      | skip
    all_goals trace_state
end Go.Proofs.YtlaldfkeaalnhaaGreatDoor

/- What is known of values, plainly: of a list, of two parts. No program. -/
namespace Go.Proofs.YtlaldfkeaalnhaaGreatDoor
set_option linter.all false

/-- what is known of values -/
structure ST where
  count : Int
  nulls : Int
  mn : GV
  mx : GV
def stepS (s : ST) (v : GV) : ST :=
  if v.kind = 0 then { s with nulls := s.nulls + 1 }
  else { s with mn := if s.mn.kind = 0 ∨ cmpG v s.mn < 0 then v else s.mn, mx := if s.mx.kind = 0 ∨ 0 < cmpG v s.mx then v else s.mx }
def ofS (l : List GV) : ST := l.foldl stepS ⟨l.length, 0, zeroV, zeroV⟩
/-- what is known of a list, told by its members -/
structure KnowS (l : List GV) (s : ST) : Prop where
  count : s.count = l.length
  nulls : s.nulls = (l.filter fun v => decide (v.kind = 0)).length
  mn : (∀ v ∈ l, v.kind = 0) ∧ s.mn = zeroV ∨ s.mn ∈ l ∧ s.mn.kind ≠ 0 ∧ ∀ v ∈ l, v.kind ≠ 0 → cmpG s.mn v ≤ 0
  mx : (∀ v ∈ l, v.kind = 0) ∧ s.mx = zeroV ∨ s.mx ∈ l ∧ s.mx.kind ≠ 0 ∧ ∀ v ∈ l, v.kind ≠ 0 → cmpG v s.mx ≤ 0

theorem le_trans' {a b c : GV} (h1 : cmpG a b ≤ 0) (h2 : cmpG b c ≤ 0) : cmpG a c ≤ 0 := by
  have r1 := cmpG_range a b
  have r2 := cmpG_range b c
  rcases r1 with r1 | r1 | r1
  · rcases r2 with r2 | r2 | r2
    · rw [cmpG_trans a b c (by omega)]; omega
    · have := (cmpG_zero b c).1 r2
      rw [← this]; omega
    · omega
  · rw [cmpG_left a b c r1]; exact h2
  · omega
theorem cmpG_self (a : GV) : cmpG a a = 0 := (cmpG_zero a a).2 rfl

theorem know_step {l : List GV} {s : ST} {v : GV} (h : KnowS l { s with count := l.length }) : KnowS (l ++ [v]) { stepS s v with count := (l ++ [v]).length } := by
  by_cases k0 : v.kind = 0
  · refine ⟨rfl, ?_, ?_, ?_⟩
    · have := h.nulls
      simp only at this
      simp [stepS, k0, this]
    · rcases h.mn with ⟨a, b⟩ | ⟨a, b, c⟩
      · left
        refine ⟨fun x hx => ?_, by simpa [stepS, k0] using b⟩
        rcases List.mem_append.1 hx with hx | hx
        · exact a x hx
        · rw [List.mem_singleton.1 hx]; exact k0
      · right
        simp only [stepS, k0, if_true]
        refine ⟨List.mem_append_left _ a, b, fun x hx hk => ?_⟩
        rcases List.mem_append.1 hx with hx | hx
        · exact c x hx hk
        · rw [List.mem_singleton.1 hx] at hk; exact absurd k0 hk
    · rcases h.mx with ⟨a, b⟩ | ⟨a, b, c⟩
      · left
        refine ⟨fun x hx => ?_, by simpa [stepS, k0] using b⟩
        rcases List.mem_append.1 hx with hx | hx
        · exact a x hx
        · rw [List.mem_singleton.1 hx]; exact k0
      · right
        simp only [stepS, k0, if_true]
        refine ⟨List.mem_append_left _ a, b, fun x hx hk => ?_⟩
        rcases List.mem_append.1 hx with hx | hx
        · exact c x hx hk
        · rw [List.mem_singleton.1 hx] at hk; exact absurd k0 hk
  · refine ⟨rfl, ?_, ?_, ?_⟩
    · have := h.nulls
      simp only at this
      simp [stepS, k0, this]
    · right
      simp only [stepS, k0, if_false]
      by_cases hc : s.mn.kind = 0 ∨ cmpG v s.mn < 0
      · rw [if_pos hc]
        refine ⟨by simp, k0, fun x hx hk => ?_⟩
        rcases List.mem_append.1 hx with hx | hx
        · rcases h.mn with ⟨a, b⟩ | ⟨a, b, c⟩
          · exact absurd (a x hx) hk
          · have hc' : cmpG v s.mn < 0 := hc.resolve_left b
            exact le_trans' (Int.le_of_lt hc') (c x hx hk)
        · rw [List.mem_singleton.1 hx, cmpG_self]; omega
      · rw [if_neg hc]
        obtain ⟨n1, n2⟩ := not_or.1 hc
        rcases h.mn with ⟨a, b⟩ | ⟨a, b, c⟩
        · simp only at b; rw [b] at n1; exact absurd rfl n1
        · refine ⟨List.mem_append_left _ a, b, fun x hx hk => ?_⟩
          rcases List.mem_append.1 hx with hx | hx
          · exact c x hx hk
          · rw [List.mem_singleton.1 hx]
            have := cmpG_anti s.mn v
            omega
    · right
      simp only [stepS, k0, if_false]
      by_cases hc : s.mx.kind = 0 ∨ 0 < cmpG v s.mx
      · rw [if_pos hc]
        refine ⟨by simp, k0, fun x hx hk => ?_⟩
        rcases List.mem_append.1 hx with hx | hx
        · rcases h.mx with ⟨a, b⟩ | ⟨a, b, c⟩
          · exact absurd (a x hx) hk
          · have hc' : 0 < cmpG v s.mx := hc.resolve_left b
            have := cmpG_anti s.mx v
            have h3 : cmpG s.mx v ≤ 0 := by omega
            exact le_trans' (c x hx hk) h3
        · rw [List.mem_singleton.1 hx, cmpG_self]; omega
      · rw [if_neg hc]
        obtain ⟨n1, n2⟩ := not_or.1 hc
        rcases h.mx with ⟨a, b⟩ | ⟨a, b, c⟩
        · simp only at b; rw [b] at n1; exact absurd rfl n1
        · refine ⟨List.mem_append_left _ a, b, fun x hx hk => ?_⟩
          rcases List.mem_append.1 hx with hx | hx
          · exact c x hx hk
          · rw [List.mem_singleton.1 hx]; omega
theorem know_fold : ∀ (m l : List GV) (s : ST), KnowS l { s with count := l.length } → KnowS (l ++ m) { m.foldl stepS s with count := (l ++ m).length }
  | [], l, s, h => by simpa using h
  | v :: m, l, s, h => by
    have := know_fold m (l ++ [v]) (stepS s v) (know_step h)
    simpa using this
theorem fold_count : ∀ (m : List GV) (s : ST), (m.foldl stepS s).count = s.count
  | [], _ => rfl
  | v :: m, s => by rw [List.foldl_cons, fold_count m]; unfold stepS; split <;> rfl
theorem know_of (l : List GV) : KnowS l (ofS l) := by
  have h := know_fold l [] ⟨l.length, 0, zeroV, zeroV⟩ ⟨rfl, rfl, .inl ⟨(fun v hv => by cases hv), rfl⟩, .inl ⟨(fun v hv => by cases hv), rfl⟩⟩
  have hc : ({ l.foldl stepS ⟨l.length, 0, zeroV, zeroV⟩ with count := (([] : List GV) ++ l).length } : ST) = ofS l := by
    have := fold_count l ⟨l.length, 0, zeroV, zeroV⟩
    unfold ofS
    generalize l.foldl stepS ⟨l.length, 0, zeroV, zeroV⟩ = z at *
    cases z; simp_all
  rw [hc] at h
  simpa using h
end Go.Proofs.YtlaldfkeaalnhaaGreatDoor

/- stats: values as Go has them; what the walks of stats lean on. -/
namespace Go.Proofs.YtlaldfkeaalnhaaGreatDoor
set_option linter.all false
set_option linter.unusedSimpArgs false
set_option linter.unusedVariables false
open Go.RowKit

def stV (s : ST) : Value := .agg #[.int .i64 s.count, .int .i64 s.nulls, .int .i64 s.mn.kind, .int .i64 s.mn.num, .string s.mn.text, .int .i64 s.mx.kind, .int .i64 s.mx.num, .string s.mx.text]

/-- the blocks of stats.Both: b at B, the result at B + 1, out at B + 1 + 1 -/
structure BothF (w : World) (B : Nat) (b : ST) (c n : Int) (p q : GV) (wx : World) : Prop where
  b2 : wx.cell? ⟨B, 2, none⟩ = some (.int .i64 b.mn.kind)
  b3 : wx.cell? ⟨B, 3, none⟩ = some (.int .i64 b.mn.num)
  b4 : wx.cell? ⟨B, 4, none⟩ = some (.string b.mn.text)
  b5 : wx.cell? ⟨B, 5, none⟩ = some (.int .i64 b.mx.kind)
  b6 : wx.cell? ⟨B, 6, none⟩ = some (.int .i64 b.mx.num)
  b7 : wx.cell? ⟨B, 7, none⟩ = some (.string b.mx.text)
  r : wx.heap[B + 1]? = some (.cells #[.int .i64 0, .int .i64 0, .int .i64 0, .int .i64 0, .string ⟨#[]⟩, .int .i64 0, .int .i64 0, .string ⟨#[]⟩] 38 (0, 0))
  o : wx.heap[B + 1 + 1]? = some (.cells #[.int .i64 c, .int .i64 n, .int .i64 p.kind, .int .i64 p.num, .string p.text, .int .i64 q.kind, .int .i64 q.num, .string q.text] 38 (0, 0))
  x : Ext w wx
theorem BothF.ext {w : World} {B : Nat} {b : ST} {c n : Int} {p q : GV} {wx wy : World} (h : BothF w B b c n p q wx) (hx : Ext wx wy) : BothF w B b c n p q wy :=
  ⟨hx.keeps h.b2, hx.keeps h.b3, hx.keeps h.b4, hx.keeps h.b5, hx.keeps h.b6, hx.keeps h.b7, heap_keeps hx h.r, heap_keeps hx h.o, h.x.trans hx⟩

end Go.Proofs.YtlaldfkeaalnhaaGreatDoor

/- stats.Of -/
namespace Go.Proofs.YtlaldfkeaalnhaaGreatDoor
set_option linter.all false
set_option linter.unusedSimpArgs false
set_option linter.unusedVariables false
open Go.RowKit
/-- what is known of the first k values -/
def FoldIs (l : List GV) (k : Nat) (s : ST) : Prop := s = (l.take k).foldl stepS ⟨l.length, 0, zeroV, zeroV⟩
theorem FoldIs.step {l : List GV} {k : Nat} {s : ST} {x : GV} (h : FoldIs l k s) (hx : l[k]? = some x) : FoldIs l (k + 1) (stepS s x) := by
  unfold FoldIs at *
  rw [List.take_add_one, hx, h]
  simp
theorem stepS_cnt (s : ST) (x : GV) : (stepS s x).count = s.count := by unfold stepS; split <;> rfl
theorem FoldIs.nulls {l : List GV} {k : Nat} {s : ST} (h : FoldIs l k s) : 0 ≤ s.nulls ∧ s.nulls ≤ k := by
  have key : ∀ (m : List GV) (s0 : ST), s0.nulls ≤ (m.foldl stepS s0).nulls ∧ (m.foldl stepS s0).nulls ≤ s0.nulls + m.length := by
    intro m
    induction m with
    | nil => intro s0; simp
    | cons x m ih =>
      intro s0
      have h1 := ih (stepS s0 x)
      have h2 : s0.nulls ≤ (stepS s0 x).nulls ∧ (stepS s0 x).nulls ≤ s0.nulls + 1 := by unfold stepS; split <;> simp <;> omega
      simp only [List.foldl_cons, List.length_cons]
      omega
  have h1 := key (l.take k) ⟨l.length, 0, zeroV, zeroV⟩
  have h2 : (l.take k).length ≤ k := List.length_take_le _ _
  rw [FoldIs] at h
  rw [h]
  simp only at h1
  omega

set_option maxRecDepth 100000 in
set_option maxHeartbeats 8000000 in
theorem of_any (l : List GV) (A : Option Addr) (cap : Nat) (w : World) (hr : RV w A l) (hl : l.length ≤ 140737488355328) :
    Calls Tryz.prog 13 #[.slice A l.length cap] w fun e w' => e = .returned (stV (ofS l)) ∧ Ext w w' := by
  obtain ⟨n, hn⟩ : ∃ n, n = l.length := ⟨_, rfl⟩
  rw [← hn]
  have Hn := Lib.hid hn
  rw [← hn] at hl
  clear hn
  unfold stV
  have hS := St.init w
  have hR := Reads.nil w
  go_enter Tryz.func13, Tryz.ntmps13
  (go_wp2_with (first | fail)); ((first | with_reducible refine abs_list_alloc (by (repeat (first | with_reducible exact hS | with_reducible apply St.drew | with_reducible apply St.alloc | with_reducible apply St.put | with_reducible apply atS | with_reducible exact at0 | with_reducible exact at1 | with_reducible exact at2 | with_reducible exact at3 | with_reducible exact at4 | with_reducible exact at5))) ?_ | with_reducible refine abs_list_set (by (repeat (first | with_reducible exact hS | with_reducible apply St.drew | with_reducible apply St.alloc | with_reducible apply St.put | with_reducible apply atS | with_reducible exact at0 | with_reducible exact at1 | with_reducible exact at2 | with_reducible exact at3 | with_reducible exact at4 | with_reducible exact at5))) ?_ | with_reducible refine abs_list_drew (by (repeat (first | with_reducible exact hS | with_reducible apply St.drew | with_reducible apply St.alloc | with_reducible apply St.put | with_reducible apply atS | with_reducible exact at0 | with_reducible exact at1 | with_reducible exact at2 | with_reducible exact at3 | with_reducible exact at4 | with_reducible exact at5))) ?_ | with_reducible refine abs_code_alloc (by (repeat (first | with_reducible exact hS | with_reducible apply St.drew | with_reducible apply St.alloc | with_reducible apply St.put | with_reducible apply atS | with_reducible exact at0 | with_reducible exact at1 | with_reducible exact at2 | with_reducible exact at3 | with_reducible exact at4 | with_reducible exact at5))) ?_ | with_reducible refine abs_code_set (by (repeat (first | with_reducible exact hS | with_reducible apply St.drew | with_reducible apply St.alloc | with_reducible apply St.put | with_reducible apply atS | with_reducible exact at0 | with_reducible exact at1 | with_reducible exact at2 | with_reducible exact at3 | with_reducible exact at4 | with_reducible exact at5))) ?_ | with_reducible refine abs_code_drew (by (repeat (first | with_reducible exact hS | with_reducible apply St.drew | with_reducible apply St.alloc | with_reducible apply St.put | with_reducible apply atS | with_reducible exact at0 | with_reducible exact at1 | with_reducible exact at2 | with_reducible exact at3 | with_reducible exact at4 | with_reducible exact at5))) ?_ | with_reducible refine abs_post_alloc (by (repeat (first | with_reducible exact hS | with_reducible apply St.drew | with_reducible apply St.alloc | with_reducible apply St.put | with_reducible apply atS | with_reducible exact at0 | with_reducible exact at1 | with_reducible exact at2 | with_reducible exact at3 | with_reducible exact at4 | with_reducible exact at5))) ?_ | with_reducible refine abs_post_set (by (repeat (first | with_reducible exact hS | with_reducible apply St.drew | with_reducible apply St.alloc | with_reducible apply St.put | with_reducible apply atS | with_reducible exact at0 | with_reducible exact at1 | with_reducible exact at2 | with_reducible exact at3 | with_reducible exact at4 | with_reducible exact at5))) ?_ | with_reducible refine abs_post_drew (by (repeat (first | with_reducible exact hS | with_reducible apply St.drew | with_reducible apply St.alloc | with_reducible apply St.put | with_reducible apply atS | with_reducible exact at0 | with_reducible exact at1 | with_reducible exact at2 | with_reducible exact at3 | with_reducible exact at4 | with_reducible exact at5))) ?_ | with_reducible refine abs_calls_alloc (by (repeat (first | with_reducible exact hS | with_reducible apply St.drew | with_reducible apply St.alloc | with_reducible apply St.put | with_reducible apply atS | with_reducible exact at0 | with_reducible exact at1 | with_reducible exact at2 | with_reducible exact at3 | with_reducible exact at4 | with_reducible exact at5))) ?_ | with_reducible refine abs_calls_set (by (repeat (first | with_reducible exact hS | with_reducible apply St.drew | with_reducible apply St.alloc | with_reducible apply St.put | with_reducible apply atS | with_reducible exact at0 | with_reducible exact at1 | with_reducible exact at2 | with_reducible exact at3 | with_reducible exact at4 | with_reducible exact at5))) ?_ | with_reducible refine abs_calls_drew (by (repeat (first | with_reducible exact hS | with_reducible apply St.drew | with_reducible apply St.alloc | with_reducible apply St.put | with_reducible apply atS | with_reducible exact at0 | with_reducible exact at1 | with_reducible exact at2 | with_reducible exact at3 | with_reducible exact at4 | with_reducible exact at5))) ?_); ((try clear hF); clear hS; intro wk hS; (try simp only [List.set_cons_zero, List.set_cons_succ, heap_size, heap_set_size] at hS); ((try clear hF); have hF := And.intro hS.facts (hR.at hS.ext); simp only [Facts, cellFacts, RFacts, cellOnly, and_true, true_and, Nat.zero_add, Nat.reduceAdd] at hF)))
  go_loopw [11] (fun i wr => ∃ (k : Nat) (s : ST), i = .int .i64 k ∧ k ≤ n ∧ FoldIs l k s ∧ s.count = n ∧
    St w wr [(w.heap.size + 1, [.int .i64 s.count, .int .i64 s.nulls, .int .i64 s.mn.kind, .int .i64 s.mn.num, .string s.mn.text, .int .i64 s.mx.kind, .int .i64 s.mx.num, .string s.mx.text], 38), (w.heap.size, [.int .i64 0, .int .i64 0, .int .i64 0, .int .i64 0, .string ⟨#[]⟩, .int .i64 0, .int .i64 0, .string ⟨#[]⟩], 38)])
    (fun i _ => n - (intOf i).toNat)
  case atStart => exact ⟨0, ⟨n, 0, zeroV, zeroV⟩, rfl, Nat.zero_le _, by rw [FoldIs, Hn.out]; rfl, rfl, hS⟩
  case round =>
    clear hS hF
    obtain ⟨k, s, rfl, hk, hfold, hcnt, hS⟩ := hrel
    have HC := Lib.hid hcnt
    clear hcnt
    by_cases hlt : k < n
    · have hlt' : k < l.length := by rw [← Hn.out]; exact hlt
      obtain ⟨x, hx'⟩ : ∃ x, l[k]? = some x := ⟨l[k], List.getElem?_eq_getElem hlt'⟩
      obtain ⟨b, o, rfl, c0, c1, c2⟩ := hr k x hx'
      have hR := Reads.cell c0 (Reads.cell c1 (Reads.cell c2 (Reads.nil w)))
      have hnl := hfold.nulls
      have FS := Lib.hid (hfold.step hx')
      have hn1 : -9223372036854775808 ≤ s.nulls := by omega
      have hn2 : s.nulls ≤ 9223372036854775806 := by omega
      clear hx' hlt' c0 c1 c2 hr hfold hnl
      ((try clear hF); have hF := And.intro hS.facts (hR.at hS.ext); simp only [Facts, cellFacts, RFacts, cellOnly, and_true, true_and, Nat.zero_add, Nat.reduceAdd] at hF)
      go_wp2_with (first | ((first | with_reducible refine abs_list_alloc (by (repeat (first | with_reducible exact hS | with_reducible apply St.drew | with_reducible apply St.alloc | with_reducible apply St.put | with_reducible apply atS | with_reducible exact at0 | with_reducible exact at1 | with_reducible exact at2 | with_reducible exact at3 | with_reducible exact at4 | with_reducible exact at5))) ?_ | with_reducible refine abs_list_set (by (repeat (first | with_reducible exact hS | with_reducible apply St.drew | with_reducible apply St.alloc | with_reducible apply St.put | with_reducible apply atS | with_reducible exact at0 | with_reducible exact at1 | with_reducible exact at2 | with_reducible exact at3 | with_reducible exact at4 | with_reducible exact at5))) ?_ | with_reducible refine abs_list_drew (by (repeat (first | with_reducible exact hS | with_reducible apply St.drew | with_reducible apply St.alloc | with_reducible apply St.put | with_reducible apply atS | with_reducible exact at0 | with_reducible exact at1 | with_reducible exact at2 | with_reducible exact at3 | with_reducible exact at4 | with_reducible exact at5))) ?_ | with_reducible refine abs_code_alloc (by (repeat (first | with_reducible exact hS | with_reducible apply St.drew | with_reducible apply St.alloc | with_reducible apply St.put | with_reducible apply atS | with_reducible exact at0 | with_reducible exact at1 | with_reducible exact at2 | with_reducible exact at3 | with_reducible exact at4 | with_reducible exact at5))) ?_ | with_reducible refine abs_code_set (by (repeat (first | with_reducible exact hS | with_reducible apply St.drew | with_reducible apply St.alloc | with_reducible apply St.put | with_reducible apply atS | with_reducible exact at0 | with_reducible exact at1 | with_reducible exact at2 | with_reducible exact at3 | with_reducible exact at4 | with_reducible exact at5))) ?_ | with_reducible refine abs_code_drew (by (repeat (first | with_reducible exact hS | with_reducible apply St.drew | with_reducible apply St.alloc | with_reducible apply St.put | with_reducible apply atS | with_reducible exact at0 | with_reducible exact at1 | with_reducible exact at2 | with_reducible exact at3 | with_reducible exact at4 | with_reducible exact at5))) ?_ | with_reducible refine abs_post_alloc (by (repeat (first | with_reducible exact hS | with_reducible apply St.drew | with_reducible apply St.alloc | with_reducible apply St.put | with_reducible apply atS | with_reducible exact at0 | with_reducible exact at1 | with_reducible exact at2 | with_reducible exact at3 | with_reducible exact at4 | with_reducible exact at5))) ?_ | with_reducible refine abs_post_set (by (repeat (first | with_reducible exact hS | with_reducible apply St.drew | with_reducible apply St.alloc | with_reducible apply St.put | with_reducible apply atS | with_reducible exact at0 | with_reducible exact at1 | with_reducible exact at2 | with_reducible exact at3 | with_reducible exact at4 | with_reducible exact at5))) ?_ | with_reducible refine abs_post_drew (by (repeat (first | with_reducible exact hS | with_reducible apply St.drew | with_reducible apply St.alloc | with_reducible apply St.put | with_reducible apply atS | with_reducible exact at0 | with_reducible exact at1 | with_reducible exact at2 | with_reducible exact at3 | with_reducible exact at4 | with_reducible exact at5))) ?_ | with_reducible refine abs_calls_alloc (by (repeat (first | with_reducible exact hS | with_reducible apply St.drew | with_reducible apply St.alloc | with_reducible apply St.put | with_reducible apply atS | with_reducible exact at0 | with_reducible exact at1 | with_reducible exact at2 | with_reducible exact at3 | with_reducible exact at4 | with_reducible exact at5))) ?_ | with_reducible refine abs_calls_set (by (repeat (first | with_reducible exact hS | with_reducible apply St.drew | with_reducible apply St.alloc | with_reducible apply St.put | with_reducible apply atS | with_reducible exact at0 | with_reducible exact at1 | with_reducible exact at2 | with_reducible exact at3 | with_reducible exact at4 | with_reducible exact at5))) ?_ | with_reducible refine abs_calls_drew (by (repeat (first | with_reducible exact hS | with_reducible apply St.drew | with_reducible apply St.alloc | with_reducible apply St.put | with_reducible apply atS | with_reducible exact at0 | with_reducible exact at1 | with_reducible exact at2 | with_reducible exact at3 | with_reducible exact at4 | with_reducible exact at5))) ?_); ((try clear hF); clear hS; intro wk hS; (try simp only [List.set_cons_zero, List.set_cons_succ, heap_size, heap_set_size] at hS); ((try clear hF); have hF := And.intro hS.facts (hR.at hS.ext); simp only [Facts, cellFacts, RFacts, cellOnly, and_true, true_and, Nat.zero_add, Nat.reduceAdd] at hF))) | (go_at_call 12; (with_reducible refine (compare_any _ _ _ _ _ _ _).mono ?_); rintro e wk ⟨rfl, hX⟩; replace hS := hS.step hX; clear hX; ((try clear hF); have hF := And.intro hS.facts (hR.at hS.ext); simp only [Facts, cellFacts, RFacts, cellOnly, and_true, true_and, Nat.zero_add, Nat.reduceAdd] at hF)))
      all_goals
        go_roundw
        case rel =>
          refine ⟨k + 1, stepS s x, by go_num, by omega, FS.out, by rw [stepS_cnt, HC.out], ?_⟩
          have hD := hS.drop 0
          go_tidy
          clear hF hR hS FS HC Hn
          simp only [List.eraseIdx_cons_zero] at hD
          (try simp only [← Int.not_lt] at *)
          simp_all [stepS, cmpG, -Int.not_lt]
        case measure => simp [intOf]; omega
    · obtain rfl : k = n := by omega
      have fin : ofS l = s := by rw [hfold, Hn.out, List.take_length]; rfl
      have FIN := Lib.hid fin
      clear fin hfold
      ((try clear hF); have hF := And.intro hS.facts (hR.at hS.ext); simp only [Facts, cellFacts, RFacts, cellOnly, and_true, true_and, Nat.zero_add, Nat.reduceAdd] at hF)
      go_wp2_with (first | ((first | with_reducible refine abs_list_alloc (by (repeat (first | with_reducible exact hS | with_reducible apply St.drew | with_reducible apply St.alloc | with_reducible apply St.put | with_reducible apply atS | with_reducible exact at0 | with_reducible exact at1 | with_reducible exact at2 | with_reducible exact at3 | with_reducible exact at4 | with_reducible exact at5))) ?_ | with_reducible refine abs_list_set (by (repeat (first | with_reducible exact hS | with_reducible apply St.drew | with_reducible apply St.alloc | with_reducible apply St.put | with_reducible apply atS | with_reducible exact at0 | with_reducible exact at1 | with_reducible exact at2 | with_reducible exact at3 | with_reducible exact at4 | with_reducible exact at5))) ?_ | with_reducible refine abs_list_drew (by (repeat (first | with_reducible exact hS | with_reducible apply St.drew | with_reducible apply St.alloc | with_reducible apply St.put | with_reducible apply atS | with_reducible exact at0 | with_reducible exact at1 | with_reducible exact at2 | with_reducible exact at3 | with_reducible exact at4 | with_reducible exact at5))) ?_ | with_reducible refine abs_code_alloc (by (repeat (first | with_reducible exact hS | with_reducible apply St.drew | with_reducible apply St.alloc | with_reducible apply St.put | with_reducible apply atS | with_reducible exact at0 | with_reducible exact at1 | with_reducible exact at2 | with_reducible exact at3 | with_reducible exact at4 | with_reducible exact at5))) ?_ | with_reducible refine abs_code_set (by (repeat (first | with_reducible exact hS | with_reducible apply St.drew | with_reducible apply St.alloc | with_reducible apply St.put | with_reducible apply atS | with_reducible exact at0 | with_reducible exact at1 | with_reducible exact at2 | with_reducible exact at3 | with_reducible exact at4 | with_reducible exact at5))) ?_ | with_reducible refine abs_code_drew (by (repeat (first | with_reducible exact hS | with_reducible apply St.drew | with_reducible apply St.alloc | with_reducible apply St.put | with_reducible apply atS | with_reducible exact at0 | with_reducible exact at1 | with_reducible exact at2 | with_reducible exact at3 | with_reducible exact at4 | with_reducible exact at5))) ?_ | with_reducible refine abs_post_alloc (by (repeat (first | with_reducible exact hS | with_reducible apply St.drew | with_reducible apply St.alloc | with_reducible apply St.put | with_reducible apply atS | with_reducible exact at0 | with_reducible exact at1 | with_reducible exact at2 | with_reducible exact at3 | with_reducible exact at4 | with_reducible exact at5))) ?_ | with_reducible refine abs_post_set (by (repeat (first | with_reducible exact hS | with_reducible apply St.drew | with_reducible apply St.alloc | with_reducible apply St.put | with_reducible apply atS | with_reducible exact at0 | with_reducible exact at1 | with_reducible exact at2 | with_reducible exact at3 | with_reducible exact at4 | with_reducible exact at5))) ?_ | with_reducible refine abs_post_drew (by (repeat (first | with_reducible exact hS | with_reducible apply St.drew | with_reducible apply St.alloc | with_reducible apply St.put | with_reducible apply atS | with_reducible exact at0 | with_reducible exact at1 | with_reducible exact at2 | with_reducible exact at3 | with_reducible exact at4 | with_reducible exact at5))) ?_ | with_reducible refine abs_calls_alloc (by (repeat (first | with_reducible exact hS | with_reducible apply St.drew | with_reducible apply St.alloc | with_reducible apply St.put | with_reducible apply atS | with_reducible exact at0 | with_reducible exact at1 | with_reducible exact at2 | with_reducible exact at3 | with_reducible exact at4 | with_reducible exact at5))) ?_ | with_reducible refine abs_calls_set (by (repeat (first | with_reducible exact hS | with_reducible apply St.drew | with_reducible apply St.alloc | with_reducible apply St.put | with_reducible apply atS | with_reducible exact at0 | with_reducible exact at1 | with_reducible exact at2 | with_reducible exact at3 | with_reducible exact at4 | with_reducible exact at5))) ?_ | with_reducible refine abs_calls_drew (by (repeat (first | with_reducible exact hS | with_reducible apply St.drew | with_reducible apply St.alloc | with_reducible apply St.put | with_reducible apply atS | with_reducible exact at0 | with_reducible exact at1 | with_reducible exact at2 | with_reducible exact at3 | with_reducible exact at4 | with_reducible exact at5))) ?_); ((try clear hF); clear hS; intro wk hS; (try simp only [List.set_cons_zero, List.set_cons_succ, heap_size, heap_set_size] at hS); ((try clear hF); have hF := And.intro hS.facts (hR.at hS.ext); simp only [Facts, cellFacts, RFacts, cellOnly, and_true, true_and, Nat.zero_add, Nat.reduceAdd] at hF))) | fail)
      rw [FIN.out]
      exact bodyPost_ret (v := .agg #[.int .i64 s.count, .int .i64 s.nulls, .int .i64 s.mn.kind, .int .i64 s.mn.num, .string s.mn.text, .int .i64 s.mx.kind, .int .i64 s.mx.num, .string s.mx.text]) (by simp [results, Tryz.results13, go_sem, hF]) rfl ⟨rfl, hS.ext⟩
end Go.Proofs.YtlaldfkeaalnhaaGreatDoor
