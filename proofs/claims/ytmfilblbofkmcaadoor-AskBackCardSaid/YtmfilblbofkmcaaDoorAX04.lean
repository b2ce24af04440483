/- value.Holds: what it answers of a condition that lies in memory as a tree, by whatever function that tells a column's value; all that was there is as it was. -/
import Derived.Test.YtmfilblbofkmcaaDoorAX03
import Derived.Test.YtmfilblbofkmcaaDoorAX01
namespace Go.Proofs.YtmfilblbofkmcaaDoor
set_option linter.all false
set_option linter.unusedSimpArgs false
set_option linter.unusedVariables false
open Go.RowKit

/-- a value's fields -/
@[go_sem] theorem run_field_kind (k n : Int) (s : ByteArray) (w : World) : (Instr.field 23 (.agg #[.int .i64 k, .int .i64 n, .string s]) 0).run Tryd.prog w = .ok (.int .i64 k) w := by kernel_rfl
@[go_sem] theorem run_field_num (k n : Int) (s : ByteArray) (w : World) : (Instr.field 23 (.agg #[.int .i64 k, .int .i64 n, .string s]) 1).run Tryd.prog w = .ok (.int .i64 n) w := by kernel_rfl
@[go_sem] theorem run_field_text (k n : Int) (s : ByteArray) (w : World) : (Instr.field 23 (.agg #[.int .i64 k, .int .i64 n, .string s]) 2).run Tryd.prog w = .ok (.string s) w := by kernel_rfl

/-- a condition -/
inductive CT where
  | nil
  | node (code : Int) (col : ByteArray) (v : GV) (l r : CT)

/-- a condition lies at a pointer -/
def CondAt (w : World) : Value → CT → Prop
  | v, .nil => v = .pointer none
  | v, .node c col x l r => ∃ b lv rv, v = .pointer (some ⟨b, 0, none⟩) ∧ w.heap[b]? = some (.cells #[.int .i64 c, .string col, .int .i64 x.kind, .int .i64 x.num, .string x.text, lv, rv] 49 (0, 0)) ∧ CondAt w lv l ∧ CondAt w rv r
theorem CondAt.ext {w w' : World} (hx : Ext w w') : ∀ {t : CT} {v : Value}, CondAt w v t → CondAt w' v t
  | .nil, v, h => h
  | .node c col x l r, v, h => by
    obtain ⟨b, lv, rv, rfl, hb, hl, hr⟩ := h
    have hlt : b < w.heap.size := by
      rcases Nat.lt_or_ge b w.heap.size with h | h
      · exact h
      · rw [Array.getElem?_eq_none h] at hb; cases hb
    exact ⟨b, lv, rv, rfl, (hx.block b hlt).trans hb, hl.ext hx, hr.ext hx⟩

/-- what a condition comes to: 1, 0, -1 -/
def evalC (f : ByteArray → GV) : CT → Int
  | .nil => 1
  | .node c col x l r =>
    if c = 7 then (if (f col).kind = 0 then 1 else 0)
    else if c = 8 then (if (f col).kind = 0 then 0 else 1)
    else if c = 11 then (if evalC f l < 0 then evalC f l else 1 - evalC f l)
    else if c = 9 then (if evalC f l = 0 ∨ evalC f r = 0 then 0 else if evalC f l < 0 ∨ evalC f r < 0 then -1 else 1)
    else if c = 10 then (if evalC f l = 1 ∨ evalC f r = 1 then 1 else if evalC f l < 0 ∨ evalC f r < 0 then -1 else 0)
    else isV c (f col).kind (f col).num (f col).text x.kind x.num x.text
theorem evalC_range (f : ByteArray → GV) : ∀ t, evalC f t = -1 ∨ evalC f t = 0 ∨ evalC f t = 1
  | .nil => .inr (.inr rfl)
  | .node c col x l r => by
    have h1 := evalC_range f l
    have h2 := evalC_range f r
    unfold evalC isV isCode
    repeat' split
    all_goals omega

/-- what is asked of the function that tells a column's value: from world w0 on -/
def GetOk (w0 : World) (g : Nat) (lb : Array Value) (f : ByteArray → GV) : Prop :=
  ∀ W, Ext w0 W → ∀ s, Calls Tryd.prog g (#[.string s] ++ lb) W fun e w' => e = .returned (.agg #[.int .i64 (f s).kind, .int .i64 (f s).num, .string (f s).text]) ∧ Ext W w'

theorem GetOk.at {w0 : World} {g : Nat} {lb : Array Value} {f : ByteArray → GV} (h : GetOk w0 g lb f) (W : World) (hx : Ext w0 W) (s : ByteArray) :
    Calls Tryd.prog g (#[.string s] ++ lb) W fun e w' => e = .returned (.agg #[.int .i64 (f s).kind, .int .i64 (f s).num, .string (f s).text]) ∧ Ext W w' := h W hx s

set_option maxRecDepth 100000 in
set_option maxHeartbeats 8000000 in
theorem holds_any (w0 : World) (g : Nat) (lb : Array Value) (f : ByteArray → GV) (eg : ∀ args w, (callFunc g args).run Tryd.prog w = .ok (.enter g args) w) (hget : GetOk w0 g lb f) :
    ∀ (t : CT) (v : Value) (w : World), CondAt w v t → Ext w0 w → Calls Tryd.prog 9 #[v, .func (.func g) #[] lb] w fun e w' => e = .returned (.int .i64 (evalC f t)) ∧ Ext w w' := by
  intro t
  induction t with
  | nil =>
    intro v w hc hx
    have hc : v = .pointer none := hc
    subst hc
    go_enter Tryd.func9, Tryd.ntmps9
    go_wp2
    go_ret
    exact ⟨rfl, Ext.refl _⟩
  | node c col x l r ihl ihr =>
    intro v w hc hx
    obtain ⟨b, lv, rv, rfl, hb, hl, hr⟩ := hc
    have C0 : w.cell? ⟨b, 0, none⟩ = some (.int .i64 c) := by simp [World.cell?, hb]
    have C1 : w.cell? ⟨b, 1, none⟩ = some (.string col) := by simp [World.cell?, hb]
    have C2 : w.cell? ⟨b, 2, none⟩ = some (.int .i64 x.kind) := by simp [World.cell?, hb]
    have C3 : w.cell? ⟨b, 3, none⟩ = some (.int .i64 x.num) := by simp [World.cell?, hb]
    have C4 : w.cell? ⟨b, 4, none⟩ = some (.string x.text) := by simp [World.cell?, hb]
    have C5 : w.cell? ⟨b, 5, none⟩ = some lv := by simp [World.cell?, hb]
    have C6 : w.cell? ⟨b, 6, none⟩ = some rv := by simp [World.cell?, hb]
    obtain ⟨pl, hpl⟩ : ∃ p, lv = .pointer p := by cases l with
      | nil => exact ⟨_, hl⟩
      | node => obtain ⟨b, _, _, h, _⟩ := hl; exact ⟨_, h⟩
    obtain ⟨pr, hpr⟩ : ∃ p, rv = .pointer p := by cases r with
      | nil => exact ⟨_, hr⟩
      | node => obtain ⟨b, _, _, h, _⟩ := hr; exact ⟨_, h⟩
    subst hpl hpr
    have GET := Lib.hid hget
    have IHL := Lib.hid ihl
    have IHR := Lib.hid ihr
    have HL := Lib.hid hl
    have HR := Lib.hid hr
    have HX := Lib.hid hx
    clear hget ihl ihr hl hr hb hx
    have KEEPF : ∀ W W' : World, (W.cell? ⟨b, 0, none⟩ = some (.int .i64 c) ∧ W.cell? ⟨b, 1, none⟩ = some (.string col) ∧ W.cell? ⟨b, 2, none⟩ = some (.int .i64 x.kind) ∧ W.cell? ⟨b, 3, none⟩ = some (.int .i64 x.num) ∧ W.cell? ⟨b, 4, none⟩ = some (.string x.text) ∧ W.cell? ⟨b, 5, none⟩ = some (.pointer pl) ∧ W.cell? ⟨b, 6, none⟩ = some (.pointer pr) ∧ Ext w W) → Ext W W' → (W'.cell? ⟨b, 0, none⟩ = some (.int .i64 c) ∧ W'.cell? ⟨b, 1, none⟩ = some (.string col) ∧ W'.cell? ⟨b, 2, none⟩ = some (.int .i64 x.kind) ∧ W'.cell? ⟨b, 3, none⟩ = some (.int .i64 x.num) ∧ W'.cell? ⟨b, 4, none⟩ = some (.string x.text) ∧ W'.cell? ⟨b, 5, none⟩ = some (.pointer pl) ∧ W'.cell? ⟨b, 6, none⟩ = some (.pointer pr) ∧ Ext w W') := by
      rintro W W' ⟨C0, C1, C2, C3, C4, C5, C6, hE⟩ hX
      exact ⟨hX.keeps C0, hX.keeps C1, hX.keeps C2, hX.keeps C3, hX.keeps C4, hX.keeps C5, hX.keeps C6, hE.trans hX⟩
    have KF := Lib.hid KEEPF
    clear KEEPF
    by_cases c7 : c = 7
    · have y7 : (c == 7) = true := by simp [c7]
      by_cases k0 : (f col).kind = 0
      · have fin : evalC f (.node c col x l r) = 1 := by simp [evalC, c7, k0]
        have b0 : ((f col).kind == 0) = true := by simp [k0]
        have FIN := Lib.hid fin
        clear fin c7 k0
        go_enter Tryd.func9, Tryd.ntmps9
        go_wp2_with fail
        refine wp_region_fixed (F := fun W => W.cell? ⟨b, 0, none⟩ = some (.int .i64 c) ∧ W.cell? ⟨b, 1, none⟩ = some (.string col) ∧ W.cell? ⟨b, 2, none⟩ = some (.int .i64 x.kind) ∧ W.cell? ⟨b, 3, none⟩ = some (.int .i64 x.num) ∧ W.cell? ⟨b, 4, none⟩ = some (.string x.text) ∧ W.cell? ⟨b, 5, none⟩ = some (.pointer pl) ∧ W.cell? ⟨b, 6, none⟩ = some (.pointer pr) ∧ Ext w W) (by kernel_rfl) (by kernel_rfl) KF.out ⟨C0, C1, C2, C3, C4, C5, C6, Ext.refl w⟩ ?_; (repeat (first | (apply Fixed.skip; rfl; try simp only [Act.put, List.setIfInBounds_toArray, List.set_cons_zero, List.set_cons_succ]) | (apply Fixed.val; rfl; (rintro w ⟨C0, C1, C2, C3, C4, C5, C6, hE⟩; go_simp; with_reducible rfl); try simp only [Act.put, List.setIfInBounds_toArray, List.set_cons_zero, List.set_cons_succ]) | (apply Fixed.call; rfl; (rintro w ⟨C0, C1, C2, C3, C4, C5, C6, hE⟩; go_simp; exact ⟨rfl, rfl⟩); (rintro w ⟨C0, C1, C2, C3, C4, C5, C6, hE⟩; first | (with_reducible exact GET.out.at w (HX.out.trans hE) col)); try simp only [Act.put, List.setIfInBounds_toArray, List.set_cons_zero, List.set_cons_succ]))); refine Fixed.done ?_
        rintro wf hxf ⟨C0, C1, C2, C3, C4, C5, C6, hE⟩
        go_wp2
        go_ret
        exact ⟨by rw [FIN.out]; rfl, hE⟩
      · have fin : evalC f (.node c col x l r) = 0 := by simp [evalC, c7, k0]
        have b0 : ((f col).kind == 0) = false := by simp [k0]
        have FIN := Lib.hid fin
        clear fin c7 k0
        go_enter Tryd.func9, Tryd.ntmps9
        go_wp2_with fail
        refine wp_region_fixed (F := fun W => W.cell? ⟨b, 0, none⟩ = some (.int .i64 c) ∧ W.cell? ⟨b, 1, none⟩ = some (.string col) ∧ W.cell? ⟨b, 2, none⟩ = some (.int .i64 x.kind) ∧ W.cell? ⟨b, 3, none⟩ = some (.int .i64 x.num) ∧ W.cell? ⟨b, 4, none⟩ = some (.string x.text) ∧ W.cell? ⟨b, 5, none⟩ = some (.pointer pl) ∧ W.cell? ⟨b, 6, none⟩ = some (.pointer pr) ∧ Ext w W) (by kernel_rfl) (by kernel_rfl) KF.out ⟨C0, C1, C2, C3, C4, C5, C6, Ext.refl w⟩ ?_; (repeat (first | (apply Fixed.skip; rfl; try simp only [Act.put, List.setIfInBounds_toArray, List.set_cons_zero, List.set_cons_succ]) | (apply Fixed.val; rfl; (rintro w ⟨C0, C1, C2, C3, C4, C5, C6, hE⟩; go_simp; with_reducible rfl); try simp only [Act.put, List.setIfInBounds_toArray, List.set_cons_zero, List.set_cons_succ]) | (apply Fixed.call; rfl; (rintro w ⟨C0, C1, C2, C3, C4, C5, C6, hE⟩; go_simp; exact ⟨rfl, rfl⟩); (rintro w ⟨C0, C1, C2, C3, C4, C5, C6, hE⟩; first | (with_reducible exact GET.out.at w (HX.out.trans hE) col)); try simp only [Act.put, List.setIfInBounds_toArray, List.set_cons_zero, List.set_cons_succ]))); refine Fixed.done ?_
        rintro wf hxf ⟨C0, C1, C2, C3, C4, C5, C6, hE⟩
        go_wp2
        go_ret
        exact ⟨by rw [FIN.out]; rfl, hE⟩
    · by_cases c8 : c = 8
      · have n7 : (c == 7) = false := by simp [c7]
        have y8 : (c == 8) = true := by simp [c8]
        by_cases k0 : (f col).kind = 0
        · have fin : evalC f (.node c col x l r) = 0 := by simp [evalC, c8, k0]
          have b0 : ((f col).kind == 0) = true := by simp [k0]
          have FIN := Lib.hid fin
          clear fin c7 k0 c8
          go_enter Tryd.func9, Tryd.ntmps9
          go_wp2_with fail
          refine wp_region_fixed (F := fun W => W.cell? ⟨b, 0, none⟩ = some (.int .i64 c) ∧ W.cell? ⟨b, 1, none⟩ = some (.string col) ∧ W.cell? ⟨b, 2, none⟩ = some (.int .i64 x.kind) ∧ W.cell? ⟨b, 3, none⟩ = some (.int .i64 x.num) ∧ W.cell? ⟨b, 4, none⟩ = some (.string x.text) ∧ W.cell? ⟨b, 5, none⟩ = some (.pointer pl) ∧ W.cell? ⟨b, 6, none⟩ = some (.pointer pr) ∧ Ext w W) (by kernel_rfl) (by kernel_rfl) KF.out ⟨C0, C1, C2, C3, C4, C5, C6, Ext.refl w⟩ ?_; (repeat (first | (apply Fixed.skip; rfl; try simp only [Act.put, List.setIfInBounds_toArray, List.set_cons_zero, List.set_cons_succ]) | (apply Fixed.val; rfl; (rintro w ⟨C0, C1, C2, C3, C4, C5, C6, hE⟩; go_simp; with_reducible rfl); try simp only [Act.put, List.setIfInBounds_toArray, List.set_cons_zero, List.set_cons_succ]) | (apply Fixed.call; rfl; (rintro w ⟨C0, C1, C2, C3, C4, C5, C6, hE⟩; go_simp; exact ⟨rfl, rfl⟩); (rintro w ⟨C0, C1, C2, C3, C4, C5, C6, hE⟩; first | (with_reducible exact GET.out.at w (HX.out.trans hE) col)); try simp only [Act.put, List.setIfInBounds_toArray, List.set_cons_zero, List.set_cons_succ]))); refine Fixed.done ?_
          rintro wf hxf ⟨C0, C1, C2, C3, C4, C5, C6, hE⟩
          go_wp2
          go_ret
          exact ⟨by rw [FIN.out]; rfl, hE⟩
        · have fin : evalC f (.node c col x l r) = 1 := by simp [evalC, c8, k0]
          have b0 : ((f col).kind == 0) = false := by simp [k0]
          have FIN := Lib.hid fin
          clear fin c7 k0 c8
          go_enter Tryd.func9, Tryd.ntmps9
          go_wp2_with fail
          refine wp_region_fixed (F := fun W => W.cell? ⟨b, 0, none⟩ = some (.int .i64 c) ∧ W.cell? ⟨b, 1, none⟩ = some (.string col) ∧ W.cell? ⟨b, 2, none⟩ = some (.int .i64 x.kind) ∧ W.cell? ⟨b, 3, none⟩ = some (.int .i64 x.num) ∧ W.cell? ⟨b, 4, none⟩ = some (.string x.text) ∧ W.cell? ⟨b, 5, none⟩ = some (.pointer pl) ∧ W.cell? ⟨b, 6, none⟩ = some (.pointer pr) ∧ Ext w W) (by kernel_rfl) (by kernel_rfl) KF.out ⟨C0, C1, C2, C3, C4, C5, C6, Ext.refl w⟩ ?_; (repeat (first | (apply Fixed.skip; rfl; try simp only [Act.put, List.setIfInBounds_toArray, List.set_cons_zero, List.set_cons_succ]) | (apply Fixed.val; rfl; (rintro w ⟨C0, C1, C2, C3, C4, C5, C6, hE⟩; go_simp; with_reducible rfl); try simp only [Act.put, List.setIfInBounds_toArray, List.set_cons_zero, List.set_cons_succ]) | (apply Fixed.call; rfl; (rintro w ⟨C0, C1, C2, C3, C4, C5, C6, hE⟩; go_simp; exact ⟨rfl, rfl⟩); (rintro w ⟨C0, C1, C2, C3, C4, C5, C6, hE⟩; first | (with_reducible exact GET.out.at w (HX.out.trans hE) col)); try simp only [Act.put, List.setIfInBounds_toArray, List.set_cons_zero, List.set_cons_succ]))); refine Fixed.done ?_
          rintro wf hxf ⟨C0, C1, C2, C3, C4, C5, C6, hE⟩
          go_wp2
          go_ret
          exact ⟨by rw [FIN.out]; rfl, hE⟩
      · have n7 : (c == 7) = false := by simp [c7]
        have n8 : (c == 8) = false := by simp [c8]
        by_cases c11 : c = 11
        · have y11 : (c == 11) = true := by simp [c11]
          have fin : evalC f (.node c col x l r) = if evalC f l < 0 then evalC f l else 1 - evalC f l := by simp [evalC, c11]
          have rl := evalC_range f l
          obtain ⟨n, hn⟩ : ∃ n, evalC f l = n := ⟨_, rfl⟩
          rw [hn] at fin rl
          have il := Lib.hid (IHL.out _ w HL.out HX.out)
          rw [hn] at il
          have FIN := Lib.hid fin
          clear fin hn c7 c8 c11
          by_cases hneg : n < 0
          · go_enter Tryd.func9, Tryd.ntmps9
            go_wp2_with (go_at_call 9; refine il.out.mono ?_; rintro e w1 ⟨rfl, hw1⟩)
            go_ret
            exact ⟨by rw [FIN.out, if_pos hneg]; rfl, hw1⟩
          · have l0 : 0 ≤ n := by omega
            have u0 : n ≤ 1 := by omega
            clear rl
            go_enter Tryd.func9, Tryd.ntmps9
            go_wp2_with (go_at_call 9; refine il.out.mono ?_; rintro e w1 ⟨rfl, hw1⟩)
            go_ret
            exact ⟨by rw [FIN.out, if_neg (by omega)]; rfl, hw1⟩
        · have n11 : (c == 11) = false := by simp [c11]
          by_cases c9 : c = 9 ∨ c = 10
          · have rl := evalC_range f l
            have rr := evalC_range f r
            obtain ⟨m, hm⟩ : ∃ m, evalC f l = m := ⟨_, rfl⟩
            obtain ⟨n, hn⟩ : ∃ n, evalC f r = n := ⟨_, rfl⟩
            have il : ∀ W, Ext w W → Calls Tryd.prog 9 #[.pointer pl, .func (.func g) #[] lb] W fun e w' => e = .returned (.int .i64 m) ∧ Ext W w' := fun W hE => by rw [← hm]; exact IHL.out _ W (HL.out.ext hE) (HX.out.trans hE)
            have ir : ∀ W, Ext w W → Calls Tryd.prog 9 #[.pointer pr, .func (.func g) #[] lb] W fun e w' => e = .returned (.int .i64 n) ∧ Ext W w' := fun W hE => by rw [← hn]; exact IHR.out _ W (HR.out.ext hE) (HX.out.trans hE)
            have IL := Lib.hid il
            have IR := Lib.hid ir
            clear il ir
            have fin : evalC f (.node c col x l r) = if c = 9 then (if m = 0 ∨ n = 0 then 0 else if m < 0 ∨ n < 0 then -1 else 1) else (if m = 1 ∨ n = 1 then 1 else if m < 0 ∨ n < 0 then -1 else 0) := by
              rcases c9 with rfl | rfl <;> simp [evalC, hm, hn]
            rw [hm] at rl
            rw [hn] at rr
            have FIN := Lib.hid fin
            clear hm hn fin c7 c8 c11
            obtain ⟨z, hz⟩ : ∃ z : Bool, z = decide (c = 9) := ⟨_, rfl⟩
            have n9 : (c == 9) = z := by rw [hz]; rfl
            have n10 : (c == 10) = !z := by rw [hz]; rcases c9 with h | h <;> simp [h]
            have fin' : (if c = 9 then (if m = 0 ∨ n = 0 then (0 : Int) else if m < 0 ∨ n < 0 then -1 else 1) else (if m = 1 ∨ n = 1 then 1 else if m < 0 ∨ n < 0 then -1 else 0)) = if z then (if m = 0 ∨ n = 0 then 0 else if m < 0 ∨ n < 0 then -1 else 1) else (if m = 1 ∨ n = 1 then 1 else if m < 0 ∨ n < 0 then -1 else 0) := by rw [hz]; simp
            have FIN2 := Lib.hid fin'
            clear hz c9 fin'
            cases z
            all_goals
              rcases rl with rfl | rfl | rfl <;> rcases rr with rfl | rfl | rfl
            all_goals
              go_enter Tryd.func9, Tryd.ntmps9
              go_wp2_with fail
              refine wp_region_fixed (F := fun W => W.cell? ⟨b, 0, none⟩ = some (.int .i64 c) ∧ W.cell? ⟨b, 1, none⟩ = some (.string col) ∧ W.cell? ⟨b, 2, none⟩ = some (.int .i64 x.kind) ∧ W.cell? ⟨b, 3, none⟩ = some (.int .i64 x.num) ∧ W.cell? ⟨b, 4, none⟩ = some (.string x.text) ∧ W.cell? ⟨b, 5, none⟩ = some (.pointer pl) ∧ W.cell? ⟨b, 6, none⟩ = some (.pointer pr) ∧ Ext w W) (by kernel_rfl) (by kernel_rfl) KF.out ⟨C0, C1, C2, C3, C4, C5, C6, Ext.refl w⟩ ?_; (repeat (first | (apply Fixed.skip; rfl; try simp only [Act.put, List.setIfInBounds_toArray, List.set_cons_zero, List.set_cons_succ]) | (apply Fixed.val; rfl; (rintro w ⟨C0, C1, C2, C3, C4, C5, C6, hE⟩; go_simp; with_reducible rfl); try simp only [Act.put, List.setIfInBounds_toArray, List.set_cons_zero, List.set_cons_succ]) | (apply Fixed.call; rfl; (rintro w ⟨C0, C1, C2, C3, C4, C5, C6, hE⟩; go_simp; exact ⟨rfl, rfl⟩); (rintro w ⟨C0, C1, C2, C3, C4, C5, C6, hE⟩; first | (with_reducible exact IL.out w hE) | (with_reducible exact IR.out w hE)); try simp only [Act.put, List.setIfInBounds_toArray, List.set_cons_zero, List.set_cons_succ]))); refine Fixed.done ?_
              rintro wf hxf ⟨C0, C1, C2, C3, C4, C5, C6, hE⟩
              go_wp2
              go_ret
              exact ⟨by rw [FIN.out, FIN2.out]; rfl, hE⟩
          · have n9 : (c == 9) = false := by simp; omega
            have n10 : (c == 10) = false := by simp; omega
            have fin : evalC f (.node c col x l r) = isV c (f col).kind (f col).num (f col).text x.kind x.num x.text := by
              rw [evalC, if_neg c7, if_neg c8, if_neg c11, if_neg (by omega), if_neg (by omega)]
            have FIN := Lib.hid fin
            clear fin c7 c8 c11 c9
            go_enter Tryd.func9, Tryd.ntmps9
            go_wp2_with fail
            refine wp_region_fixed (F := fun W => W.cell? ⟨b, 0, none⟩ = some (.int .i64 c) ∧ W.cell? ⟨b, 1, none⟩ = some (.string col) ∧ W.cell? ⟨b, 2, none⟩ = some (.int .i64 x.kind) ∧ W.cell? ⟨b, 3, none⟩ = some (.int .i64 x.num) ∧ W.cell? ⟨b, 4, none⟩ = some (.string x.text) ∧ W.cell? ⟨b, 5, none⟩ = some (.pointer pl) ∧ W.cell? ⟨b, 6, none⟩ = some (.pointer pr) ∧ Ext w W) (by kernel_rfl) (by kernel_rfl) KF.out ⟨C0, C1, C2, C3, C4, C5, C6, Ext.refl w⟩ ?_; (repeat (first | (apply Fixed.skip; rfl; try simp only [Act.put, List.setIfInBounds_toArray, List.set_cons_zero, List.set_cons_succ]) | (apply Fixed.val; rfl; (rintro w ⟨C0, C1, C2, C3, C4, C5, C6, hE⟩; go_simp; with_reducible rfl); try simp only [Act.put, List.setIfInBounds_toArray, List.set_cons_zero, List.set_cons_succ]) | (apply Fixed.call; rfl; (rintro w ⟨C0, C1, C2, C3, C4, C5, C6, hE⟩; go_simp; exact ⟨rfl, rfl⟩); (rintro w ⟨C0, C1, C2, C3, C4, C5, C6, hE⟩; first | (with_reducible exact GET.out.at w (HX.out.trans hE) col) | (with_reducible exact is_any _ _ _ _ _ _ _ w)); try simp only [Act.put, List.setIfInBounds_toArray, List.set_cons_zero, List.set_cons_succ]))); refine Fixed.done ?_
            rintro wf hxf ⟨C0, C1, C2, C3, C4, C5, C6, hE⟩
            go_wp2
            go_ret
            exact ⟨by rw [FIN.out]; rfl, hE⟩
end Go.Proofs.YtmfilblbofkmcaaDoor
