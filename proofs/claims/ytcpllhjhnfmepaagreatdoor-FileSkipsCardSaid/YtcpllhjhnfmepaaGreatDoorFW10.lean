/- Texts joined: value.Holds over a tree whose columns are all known: the function that tells a column's value need not answer at others. slices.Repeat of one value. Slices of columns: what their cells hold; IndexFunc, ContainsFunc, Find. a change of columns as Go has it. schema.Right. slices of columns: Clone, Delete, Equal of the same. An argument that is a slice of changes of columns: what its cells hold. -/
import Derived.Test.YtcpllhjhnfmepaaGreatDoorFW07
import Derived.Test.YtcpllhjhnfmepaaGreatDoorFW06
import Derived.Test.YtcpllhjhnfmepaaGreatDoorFW04
import Derived.Test.YtcpllhjhnfmepaaGreatDoorFW09
import Derived.Test.YtcpllhjhnfmepaaGreatDoorFW08
import Derived.Test.YtcpllhjhnfmepaaGreatDoorFW01
import Derived.Lib.SmallJoins
/- value.Holds over a tree whose columns are all known: the function that tells a column's value need not answer at others. -/
namespace Go.Proofs.YtcpllhjhnfmepaaGreatDoor
set_option linter.unusedSimpArgs false
set_option linter.unusedVariables false
open Go.RowKit
set_option linter.all false
/-- all columns of a condition are among S -/
def AllC (S : ByteArray → Prop) : CT → Prop
  | .nil => True
  | .node c col _ l r => c ≤ 11 ∧ (c < 9 → S col) ∧ (9 ≤ c → AllC S l ∧ AllC S r)
def GetIn (w0 : World) (g : Nat) (lb : Array Value) (S : ByteArray → Prop) (f : ByteArray → GV) : Prop :=
  ∀ W, Ext w0 W → ∀ s, S s → Calls Tryz.prog g (#[.string s] ++ lb) W fun e w' => e = .returned (.agg #[.int .i64 (f s).kind, .int .i64 (f s).num, .string (f s).text]) ∧ Ext W w'
set_option maxRecDepth 100000 in
set_option maxHeartbeats 8000000 in
theorem holds_in (w0 : World) (g : Nat) (lb : Array Value) (S : ByteArray → Prop) (f : ByteArray → GV) (eg : ∀ args w, (callFunc g args).run Tryz.prog w = .ok (.enter g args) w) (hget : GetIn w0 g lb S f) :
    ∀ (t : CT) (v : Value) (w : World), AllC S t → CondAt w v t → Ext w0 w → Calls Tryz.prog 25 #[v, .func (.func g) #[] lb] w fun e w' => e = .returned (.int .i64 (evalC f t)) ∧ Ext w w' := by
  intro t
  induction t with
  | nil =>
    intro v w ha hc hx
    have hc : v = .pointer none := hc
    subst hc
    go_enter Tryz.func25, Tryz.ntmps25
    go_wp2
    go_ret
    exact ⟨rfl, Ext.refl _⟩
  | node c col x l r ihl ihr =>
    intro v w ha hc hx
    obtain ⟨b, lv, rv, rfl, hb, hl, hr⟩ := hc
    have C0 : w.cell? ⟨b, 0, none⟩ = some (.int .i64 c) := by simp [World.cell?, hb]
    have C1 : w.cell? ⟨b, 1, none⟩ = some (.string col) := by simp [World.cell?, hb]
    have C2 : w.cell? ⟨b, 2, none⟩ = some (.int .i64 x.kind) := by simp [World.cell?, hb]
    have C3 : w.cell? ⟨b, 3, none⟩ = some (.int .i64 x.num) := by simp [World.cell?, hb]
    have C4 : w.cell? ⟨b, 4, none⟩ = some (.string x.text) := by simp [World.cell?, hb]
    have C5 : w.cell? ⟨b, 5, none⟩ = some lv := by simp [World.cell?, hb]
    have C6 : w.cell? ⟨b, 6, none⟩ = some rv := by simp [World.cell?, hb]
    obtain ⟨pl, hpl⟩ : ∃ p, lv = .pointer p := by cases l with
      | nil => exact ⟨_, hl⟩
      | node => obtain ⟨b, _, _, h, _⟩ := hl; exact ⟨_, h⟩
    obtain ⟨pr, hpr⟩ : ∃ p, rv = .pointer p := by cases r with
      | nil => exact ⟨_, hr⟩
      | node => obtain ⟨b, _, _, h, _⟩ := hr; exact ⟨_, h⟩
    subst hpl hpr
    have hc11 := ha.1
    have GET := Lib.hid (fun (h9 : c < 9) (W : World) (hx : Ext w0 W) => hget W hx col (ha.2.1 h9))
    have IHL := Lib.hid (fun (h9 : 9 ≤ c) (v : Value) (w : World) => ihl v w (ha.2.2 h9).1)
    have IHR := Lib.hid (fun (h9 : 9 ≤ c) (v : Value) (w : World) => ihr v w (ha.2.2 h9).2)
    have HL := Lib.hid hl
    have HR := Lib.hid hr
    have HX := Lib.hid hx
    clear hget ihl ihr hl hr hb hx ha
    have KEEPF : ∀ W W' : World, (W.cell? ⟨b, 0, none⟩ = some (.int .i64 c) ∧ W.cell? ⟨b, 1, none⟩ = some (.string col) ∧ W.cell? ⟨b, 2, none⟩ = some (.int .i64 x.kind) ∧ W.cell? ⟨b, 3, none⟩ = some (.int .i64 x.num) ∧ W.cell? ⟨b, 4, none⟩ = some (.string x.text) ∧ W.cell? ⟨b, 5, none⟩ = some (.pointer pl) ∧ W.cell? ⟨b, 6, none⟩ = some (.pointer pr) ∧ Ext w W) → Ext W W' → (W'.cell? ⟨b, 0, none⟩ = some (.int .i64 c) ∧ W'.cell? ⟨b, 1, none⟩ = some (.string col) ∧ W'.cell? ⟨b, 2, none⟩ = some (.int .i64 x.kind) ∧ W'.cell? ⟨b, 3, none⟩ = some (.int .i64 x.num) ∧ W'.cell? ⟨b, 4, none⟩ = some (.string x.text) ∧ W'.cell? ⟨b, 5, none⟩ = some (.pointer pl) ∧ W'.cell? ⟨b, 6, none⟩ = some (.pointer pr) ∧ Ext w W') := by
      rintro W W' ⟨C0, C1, C2, C3, C4, C5, C6, hE⟩ hX
      exact ⟨hX.keeps C0, hX.keeps C1, hX.keeps C2, hX.keeps C3, hX.keeps C4, hX.keeps C5, hX.keeps C6, hE.trans hX⟩
    have KF := Lib.hid KEEPF
    clear KEEPF
    by_cases c7 : c = 7
    · have y7 : (c == 7) = true := by simp [c7]
      have C9 : Hid (c < 9) := Lib.hid (by omega)
      by_cases k0 : (f col).kind = 0
      · have fin : evalC f (.node c col x l r) = 1 := by simp [evalC, c7, k0]
        have b0 : ((f col).kind == 0) = true := by simp [k0]
        have FIN := Lib.hid fin
        clear fin c7 k0
        go_enter Tryz.func25, Tryz.ntmps25
        go_wp2_with fail
        refine wp_region_fixed (F := fun W => W.cell? ⟨b, 0, none⟩ = some (.int .i64 c) ∧ W.cell? ⟨b, 1, none⟩ = some (.string col) ∧ W.cell? ⟨b, 2, none⟩ = some (.int .i64 x.kind) ∧ W.cell? ⟨b, 3, none⟩ = some (.int .i64 x.num) ∧ W.cell? ⟨b, 4, none⟩ = some (.string x.text) ∧ W.cell? ⟨b, 5, none⟩ = some (.pointer pl) ∧ W.cell? ⟨b, 6, none⟩ = some (.pointer pr) ∧ Ext w W) (by kernel_rfl) (by kernel_rfl) KF.out ⟨C0, C1, C2, C3, C4, C5, C6, Ext.refl w⟩ ?_; (repeat (first | (apply Fixed.skip; rfl; try simp only [Act.put, List.setIfInBounds_toArray, List.set_cons_zero, List.set_cons_succ]) | (apply Fixed.val; rfl; (rintro w ⟨C0, C1, C2, C3, C4, C5, C6, hE⟩; go_simp; with_reducible rfl); try simp only [Act.put, List.setIfInBounds_toArray, List.set_cons_zero, List.set_cons_succ]) | (apply Fixed.call; rfl; (rintro w ⟨C0, C1, C2, C3, C4, C5, C6, hE⟩; go_simp; exact ⟨rfl, rfl⟩); (rintro w ⟨C0, C1, C2, C3, C4, C5, C6, hE⟩; first | (with_reducible exact GET.out C9.out w (HX.out.trans hE))); try simp only [Act.put, List.setIfInBounds_toArray, List.set_cons_zero, List.set_cons_succ]))); refine Fixed.done ?_
        rintro wf hxf ⟨C0, C1, C2, C3, C4, C5, C6, hE⟩
        go_wp2
        go_ret
        exact ⟨by rw [FIN.out]; rfl, hE⟩
      · have fin : evalC f (.node c col x l r) = 0 := by simp [evalC, c7, k0]
        have b0 : ((f col).kind == 0) = false := by simp [k0]
        have FIN := Lib.hid fin
        clear fin c7 k0
        go_enter Tryz.func25, Tryz.ntmps25
        go_wp2_with fail
        refine wp_region_fixed (F := fun W => W.cell? ⟨b, 0, none⟩ = some (.int .i64 c) ∧ W.cell? ⟨b, 1, none⟩ = some (.string col) ∧ W.cell? ⟨b, 2, none⟩ = some (.int .i64 x.kind) ∧ W.cell? ⟨b, 3, none⟩ = some (.int .i64 x.num) ∧ W.cell? ⟨b, 4, none⟩ = some (.string x.text) ∧ W.cell? ⟨b, 5, none⟩ = some (.pointer pl) ∧ W.cell? ⟨b, 6, none⟩ = some (.pointer pr) ∧ Ext w W) (by kernel_rfl) (by kernel_rfl) KF.out ⟨C0, C1, C2, C3, C4, C5, C6, Ext.refl w⟩ ?_; (repeat (first | (apply Fixed.skip; rfl; try simp only [Act.put, List.setIfInBounds_toArray, List.set_cons_zero, List.set_cons_succ]) | (apply Fixed.val; rfl; (rintro w ⟨C0, C1, C2, C3, C4, C5, C6, hE⟩; go_simp; with_reducible rfl); try simp only [Act.put, List.setIfInBounds_toArray, List.set_cons_zero, List.set_cons_succ]) | (apply Fixed.call; rfl; (rintro w ⟨C0, C1, C2, C3, C4, C5, C6, hE⟩; go_simp; exact ⟨rfl, rfl⟩); (rintro w ⟨C0, C1, C2, C3, C4, C5, C6, hE⟩; first | (with_reducible exact GET.out C9.out w (HX.out.trans hE))); try simp only [Act.put, List.setIfInBounds_toArray, List.set_cons_zero, List.set_cons_succ]))); refine Fixed.done ?_
        rintro wf hxf ⟨C0, C1, C2, C3, C4, C5, C6, hE⟩
        go_wp2
        go_ret
        exact ⟨by rw [FIN.out]; rfl, hE⟩
    · by_cases c8 : c = 8
      · have n7 : (c == 7) = false := by simp [c7]
        have y8 : (c == 8) = true := by simp [c8]
        have C9 : Hid (c < 9) := Lib.hid (by omega)
        by_cases k0 : (f col).kind = 0
        · have fin : evalC f (.node c col x l r) = 0 := by simp [evalC, c8, k0]
          have b0 : ((f col).kind == 0) = true := by simp [k0]
          have FIN := Lib.hid fin
          clear fin c7 k0 c8
          go_enter Tryz.func25, Tryz.ntmps25
          go_wp2_with fail
          refine wp_region_fixed (F := fun W => W.cell? ⟨b, 0, none⟩ = some (.int .i64 c) ∧ W.cell? ⟨b, 1, none⟩ = some (.string col) ∧ W.cell? ⟨b, 2, none⟩ = some (.int .i64 x.kind) ∧ W.cell? ⟨b, 3, none⟩ = some (.int .i64 x.num) ∧ W.cell? ⟨b, 4, none⟩ = some (.string x.text) ∧ W.cell? ⟨b, 5, none⟩ = some (.pointer pl) ∧ W.cell? ⟨b, 6, none⟩ = some (.pointer pr) ∧ Ext w W) (by kernel_rfl) (by kernel_rfl) KF.out ⟨C0, C1, C2, C3, C4, C5, C6, Ext.refl w⟩ ?_; (repeat (first | (apply Fixed.skip; rfl; try simp only [Act.put, List.setIfInBounds_toArray, List.set_cons_zero, List.set_cons_succ]) | (apply Fixed.val; rfl; (rintro w ⟨C0, C1, C2, C3, C4, C5, C6, hE⟩; go_simp; with_reducible rfl); try simp only [Act.put, List.setIfInBounds_toArray, List.set_cons_zero, List.set_cons_succ]) | (apply Fixed.call; rfl; (rintro w ⟨C0, C1, C2, C3, C4, C5, C6, hE⟩; go_simp; exact ⟨rfl, rfl⟩); (rintro w ⟨C0, C1, C2, C3, C4, C5, C6, hE⟩; first | (with_reducible exact GET.out C9.out w (HX.out.trans hE))); try simp only [Act.put, List.setIfInBounds_toArray, List.set_cons_zero, List.set_cons_succ]))); refine Fixed.done ?_
          rintro wf hxf ⟨C0, C1, C2, C3, C4, C5, C6, hE⟩
          go_wp2
          go_ret
          exact ⟨by rw [FIN.out]; rfl, hE⟩
        · have fin : evalC f (.node c col x l r) = 1 := by simp [evalC, c8, k0]
          have b0 : ((f col).kind == 0) = false := by simp [k0]
          have FIN := Lib.hid fin
          clear fin c7 k0 c8
          go_enter Tryz.func25, Tryz.ntmps25
          go_wp2_with fail
          refine wp_region_fixed (F := fun W => W.cell? ⟨b, 0, none⟩ = some (.int .i64 c) ∧ W.cell? ⟨b, 1, none⟩ = some (.string col) ∧ W.cell? ⟨b, 2, none⟩ = some (.int .i64 x.kind) ∧ W.cell? ⟨b, 3, none⟩ = some (.int .i64 x.num) ∧ W.cell? ⟨b, 4, none⟩ = some (.string x.text) ∧ W.cell? ⟨b, 5, none⟩ = some (.pointer pl) ∧ W.cell? ⟨b, 6, none⟩ = some (.pointer pr) ∧ Ext w W) (by kernel_rfl) (by kernel_rfl) KF.out ⟨C0, C1, C2, C3, C4, C5, C6, Ext.refl w⟩ ?_; (repeat (first | (apply Fixed.skip; rfl; try simp only [Act.put, List.setIfInBounds_toArray, List.set_cons_zero, List.set_cons_succ]) | (apply Fixed.val; rfl; (rintro w ⟨C0, C1, C2, C3, C4, C5, C6, hE⟩; go_simp; with_reducible rfl); try simp only [Act.put, List.setIfInBounds_toArray, List.set_cons_zero, List.set_cons_succ]) | (apply Fixed.call; rfl; (rintro w ⟨C0, C1, C2, C3, C4, C5, C6, hE⟩; go_simp; exact ⟨rfl, rfl⟩); (rintro w ⟨C0, C1, C2, C3, C4, C5, C6, hE⟩; first | (with_reducible exact GET.out C9.out w (HX.out.trans hE))); try simp only [Act.put, List.setIfInBounds_toArray, List.set_cons_zero, List.set_cons_succ]))); refine Fixed.done ?_
          rintro wf hxf ⟨C0, C1, C2, C3, C4, C5, C6, hE⟩
          go_wp2
          go_ret
          exact ⟨by rw [FIN.out]; rfl, hE⟩
      · have n7 : (c == 7) = false := by simp [c7]
        have n8 : (c == 8) = false := by simp [c8]
        by_cases c11 : c = 11
        · have y11 : (c == 11) = true := by simp [c11]
          have fin : evalC f (.node c col x l r) = if evalC f l < 0 then evalC f l else 1 - evalC f l := by simp [evalC, c11]
          have rl := evalC_range f l
          obtain ⟨n, hn⟩ : ∃ n, evalC f l = n := ⟨_, rfl⟩
          rw [hn] at fin rl
          have il := Lib.hid (IHL.out (by omega) _ w HL.out HX.out)
          rw [hn] at il
          have FIN := Lib.hid fin
          clear fin hn c7 c8 c11
          by_cases hneg : n < 0
          · go_enter Tryz.func25, Tryz.ntmps25
            go_wp2_with (go_at_call 25; refine il.out.mono ?_; rintro e w1 ⟨rfl, hw1⟩)
            go_ret
            exact ⟨by rw [FIN.out, if_pos hneg]; rfl, hw1⟩
          · have l0 : 0 ≤ n := by omega
            have u0 : n ≤ 1 := by omega
            clear rl
            go_enter Tryz.func25, Tryz.ntmps25
            go_wp2_with (go_at_call 25; refine il.out.mono ?_; rintro e w1 ⟨rfl, hw1⟩)
            go_ret
            exact ⟨by rw [FIN.out, if_neg (by omega)]; rfl, hw1⟩
        · have n11 : (c == 11) = false := by simp [c11]
          by_cases c9 : c = 9 ∨ c = 10
          · have rl := evalC_range f l
            have rr := evalC_range f r
            obtain ⟨m, hm⟩ : ∃ m, evalC f l = m := ⟨_, rfl⟩
            obtain ⟨n, hn⟩ : ∃ n, evalC f r = n := ⟨_, rfl⟩
            have il : ∀ W, Ext w W → Calls Tryz.prog 25 #[.pointer pl, .func (.func g) #[] lb] W fun e w' => e = .returned (.int .i64 m) ∧ Ext W w' := fun W hE => by rw [← hm]; exact IHL.out (by omega) _ W (HL.out.ext hE) (HX.out.trans hE)
            have ir : ∀ W, Ext w W → Calls Tryz.prog 25 #[.pointer pr, .func (.func g) #[] lb] W fun e w' => e = .returned (.int .i64 n) ∧ Ext W w' := fun W hE => by rw [← hn]; exact IHR.out (by omega) _ W (HR.out.ext hE) (HX.out.trans hE)
            have IL := Lib.hid il
            have IR := Lib.hid ir
            clear il ir
            have fin : evalC f (.node c col x l r) = if c = 9 then (if m = 0 ∨ n = 0 then 0 else if m < 0 ∨ n < 0 then -1 else 1) else (if m = 1 ∨ n = 1 then 1 else if m < 0 ∨ n < 0 then -1 else 0) := by
              rcases c9 with rfl | rfl <;> simp [evalC, hm, hn]
            rw [hm] at rl
            rw [hn] at rr
            have FIN := Lib.hid fin
            clear hm hn fin c7 c8 c11
            obtain ⟨z, hz⟩ : ∃ z : Bool, z = decide (c = 9) := ⟨_, rfl⟩
            have n9 : (c == 9) = z := by rw [hz]; rfl
            have n10 : (c == 10) = !z := by rw [hz]; rcases c9 with h | h <;> simp [h]
            have fin' : (if c = 9 then (if m = 0 ∨ n = 0 then (0 : Int) else if m < 0 ∨ n < 0 then -1 else 1) else (if m = 1 ∨ n = 1 then 1 else if m < 0 ∨ n < 0 then -1 else 0)) = if z then (if m = 0 ∨ n = 0 then 0 else if m < 0 ∨ n < 0 then -1 else 1) else (if m = 1 ∨ n = 1 then 1 else if m < 0 ∨ n < 0 then -1 else 0) := by rw [hz]; simp
            have FIN2 := Lib.hid fin'
            clear hz c9 fin'
            cases z
            all_goals
              rcases rl with rfl | rfl | rfl <;> rcases rr with rfl | rfl | rfl
            all_goals
              go_enter Tryz.func25, Tryz.ntmps25
              go_wp2_with fail
              refine wp_region_fixed (F := fun W => W.cell? ⟨b, 0, none⟩ = some (.int .i64 c) ∧ W.cell? ⟨b, 1, none⟩ = some (.string col) ∧ W.cell? ⟨b, 2, none⟩ = some (.int .i64 x.kind) ∧ W.cell? ⟨b, 3, none⟩ = some (.int .i64 x.num) ∧ W.cell? ⟨b, 4, none⟩ = some (.string x.text) ∧ W.cell? ⟨b, 5, none⟩ = some (.pointer pl) ∧ W.cell? ⟨b, 6, none⟩ = some (.pointer pr) ∧ Ext w W) (by kernel_rfl) (by kernel_rfl) KF.out ⟨C0, C1, C2, C3, C4, C5, C6, Ext.refl w⟩ ?_; (repeat (first | (apply Fixed.skip; rfl; try simp only [Act.put, List.setIfInBounds_toArray, List.set_cons_zero, List.set_cons_succ]) | (apply Fixed.val; rfl; (rintro w ⟨C0, C1, C2, C3, C4, C5, C6, hE⟩; go_simp; with_reducible rfl); try simp only [Act.put, List.setIfInBounds_toArray, List.set_cons_zero, List.set_cons_succ]) | (apply Fixed.call; rfl; (rintro w ⟨C0, C1, C2, C3, C4, C5, C6, hE⟩; go_simp; exact ⟨rfl, rfl⟩); (rintro w ⟨C0, C1, C2, C3, C4, C5, C6, hE⟩; first | (with_reducible exact IL.out w hE) | (with_reducible exact IR.out w hE)); try simp only [Act.put, List.setIfInBounds_toArray, List.set_cons_zero, List.set_cons_succ]))); refine Fixed.done ?_
              rintro wf hxf ⟨C0, C1, C2, C3, C4, C5, C6, hE⟩
              go_wp2
              go_ret
              exact ⟨by rw [FIN.out, FIN2.out]; rfl, hE⟩
          · have C9 : Hid (c < 9) := Lib.hid (by omega)
            have n9 : (c == 9) = false := by simp; omega
            have n10 : (c == 10) = false := by simp; omega
            have fin : evalC f (.node c col x l r) = isV c (f col).kind (f col).num (f col).text x.kind x.num x.text := by
              rw [evalC, if_neg c7, if_neg c8, if_neg c11, if_neg (by omega), if_neg (by omega)]
            have FIN := Lib.hid fin
            clear fin c7 c8 c11 c9
            go_enter Tryz.func25, Tryz.ntmps25
            go_wp2_with fail
            refine wp_region_fixed (F := fun W => W.cell? ⟨b, 0, none⟩ = some (.int .i64 c) ∧ W.cell? ⟨b, 1, none⟩ = some (.string col) ∧ W.cell? ⟨b, 2, none⟩ = some (.int .i64 x.kind) ∧ W.cell? ⟨b, 3, none⟩ = some (.int .i64 x.num) ∧ W.cell? ⟨b, 4, none⟩ = some (.string x.text) ∧ W.cell? ⟨b, 5, none⟩ = some (.pointer pl) ∧ W.cell? ⟨b, 6, none⟩ = some (.pointer pr) ∧ Ext w W) (by kernel_rfl) (by kernel_rfl) KF.out ⟨C0, C1, C2, C3, C4, C5, C6, Ext.refl w⟩ ?_; (repeat (first | (apply Fixed.skip; rfl; try simp only [Act.put, List.setIfInBounds_toArray, List.set_cons_zero, List.set_cons_succ]) | (apply Fixed.val; rfl; (rintro w ⟨C0, C1, C2, C3, C4, C5, C6, hE⟩; go_simp; with_reducible rfl); try simp only [Act.put, List.setIfInBounds_toArray, List.set_cons_zero, List.set_cons_succ]) | (apply Fixed.call; rfl; (rintro w ⟨C0, C1, C2, C3, C4, C5, C6, hE⟩; go_simp; exact ⟨rfl, rfl⟩); (rintro w ⟨C0, C1, C2, C3, C4, C5, C6, hE⟩; first | (with_reducible exact GET.out C9.out w (HX.out.trans hE)) | (with_reducible exact is_any _ _ _ _ _ _ _ w)); try simp only [Act.put, List.setIfInBounds_toArray, List.set_cons_zero, List.set_cons_succ]))); refine Fixed.done ?_
            rintro wf hxf ⟨C0, C1, C2, C3, C4, C5, C6, hE⟩
            go_wp2
            go_ret
            exact ⟨by rw [FIN.out]; rfl, hE⟩
end Go.Proofs.YtcpllhjhnfmepaaGreatDoor

/- slices.Repeat of one value. -/
namespace Go.Proofs.YtcpllhjhnfmepaaGreatDoor
set_option linter.all false
set_option linter.unusedSimpArgs false
set_option linter.unusedVariables false
open Go.RowKit
theorem cellsV_rep_add (x : GV) (n m : Nat) : cellsV (List.replicate (n + m) x) = cellsV (List.replicate n x) ++ cellsV (List.replicate m x) := by
  rw [← List.replicate_append_replicate, cellsV_append]
theorem cellsV_one : ∀ (l : List GV), ∀ u ∈ cellsV l, u.oneCell' = true
  | [], u, h => by cases h
  | x :: l, u, h => by
    simp only [cellsV, List.mem_cons] at h
    rcases h with rfl | rfl | rfl | h
    · rfl
    · rfl
    · rfl
    · exact cellsV_one l u h
theorem rep_step {x : GV} {xs : List Value} {n m : Nat} (h : xs.take (n * 3) = cellsV (List.replicate n x)) (hl : (n + m) * 3 ≤ xs.length) :
    (splice xs (n * 3) (cellsV (List.replicate m x))).take ((n + m) * 3) = cellsV (List.replicate (n + m) x) := by
  have hm : (cellsV (List.replicate m x)).length = m * 3 := by rw [cellsV_len, List.length_replicate]
  unfold splice
  rw [cellsV_rep_add, ← h, ← List.append_assoc, List.take_left' (by rw [List.length_append, List.length_take, hm]; omega)]
set_option maxRecDepth 100000 in
set_option maxHeartbeats 8000000 in
theorem repeat_any (x : GV) (A : Option Addr) (c : Nat) (k : Nat) (hk : k ≤ 1000) (w : World) (hr : RV w A [x]) :
    Calls Tryz.prog 53 #[.slice A 1 c, .int .i64 k] w fun e w' => ∃ g cap, e = .returned (.slice (some ⟨g, 0, none⟩) k cap) ∧ Hp w.heap.size w w' [.row 45 3 (some ⟨g, 0, none⟩) k cap (cellsV (List.replicate k x))] := by
  obtain ⟨b, o, rfl, c0, c1, c2⟩ := hr 0 x rfl
  simp only [Nat.zero_mul, Nat.add_zero] at c0 c1 c2
  have hR := Reads.cell c0 (Reads.cell c1 (Reads.cell c2 (Reads.nil w)))
  clear c0 c1 c2 hr
  have hS := Hp.init w
  have w1 : IntKind.u64.wrap (k : Int) = k := by rw [IntKind.wrap_u64]; omega
  have w2 : IntKind.i64.wrap (k : Int) = k := by rw [IntKind.wrap_i64]; omega
  have HM := Lib.hid (show ∀ W : World, Calls Tryz.prog 78 #[.int .u64 1, .int .u64 k] W fun e w' => e = .returned (.tuple #[.int .u64 0, .int .u64 k]) ∧ w' = W from fun W => by
    have := Tryz.bits_Mul 1 k (by decide) (by omega) W
    rw [Nat.one_mul, Nat.div_eq_of_lt (by omega), Nat.mod_eq_of_lt (by omega)] at this
    exact this)
  ((try clear hF); (first | have hF := And.intro hS.facts (hR.at hS.ext) | have hF := hS.facts); simp only [HFacts, cellFacts, RFacts, cellOnly, and_true, true_and, Nat.zero_add, Nat.reduceAdd] at hF)
  go_enter Tryz.func53, Tryz.ntmps53
  obtain ⟨m0, hm0⟩ : ∃ m, m = min 1 k := ⟨_, rfl⟩
  have hm1 : m0 ≤ k := by omega
  have HM0 := Lib.hid hm0
  clear hm0
  go_wp2_with (first | ((with_reducible first | refine nhLa ?_ | refine nhLs ?_ | refine nhLd ?_ | refine nhCa ?_ | refine nhCs ?_ | refine nhCd ?_ | refine nhPa ?_ | refine nhPs ?_ | refine nhPd ?_ | refine nhKa ?_ | refine nhKs ?_ | refine nhKd ?_); ((try clear hF); clear hS; intro wk hS; (try simp only [List.set_cons_zero, List.set_cons_succ, heap_size, heap_set_size] at hS); ((try clear hF); (first | have hF := And.intro hS.facts (hR.at hS.ext) | have hF := hS.facts); simp only [HFacts, cellFacts, RFacts, cellOnly, and_true, true_and, Nat.zero_add, Nat.reduceAdd] at hF))) | (go_at_call 78; (with_reducible refine (HM.out _).mono ?_); rintro e wk ⟨rfl, hw⟩; replace hw := hw.symm; subst hw) | (at_make; refine wpList_makeN_hp Tryz.elem_vals rfl (.tmp 29) (.tmp 29) rfl hS .i64 .i64 _ _ rfl rfl (m := k) rfl rfl (by omega) (by omega) ?_; clear hS; intro g wk xs hxl hS; ((try clear hF); (first | have hF := And.intro hS.facts (hR.at hS.ext) | have hF := hS.facts); simp only [HFacts, cellFacts, RFacts, cellOnly, and_true, true_and, Nat.zero_add, Nat.reduceAdd] at hF)) | (refine wpList_copy_hp Tryz.elem_vals rfl (.tmp 31) (.tmp 32) rfl hS 0 k k ⟨b, o, none⟩ 1 c m0 rfl rfl HM0.out (cellsV (List.replicate m0 x)) (by rw [cellsV_len, List.length_replicate]) (by omega) ?hsrc (cellsV_one _) ?_; rotate_left; clear hS; intro wk hS; ((try clear hF); (first | have hF := And.intro hS.facts (hR.at hS.ext) | have hF := hS.facts); simp only [HFacts, cellFacts, RFacts, cellOnly, and_true, true_and, Nat.zero_add, Nat.reduceAdd] at hF)))
  case hsrc =>
    intro j v hj
    have h01 : m0 = 0 ∨ m0 = 1 := by have := HM0.out; omega
    clear hS
    rcases h01 with rfl | rfl
    · simp [cellsV] at hj
    · have hj' : [Value.int .i64 x.kind, .int .i64 x.num, .string x.text][j]? = some v := hj
      match j, hj' with
      | 0, hj' => simp at hj'; subst hj'; simpa [Addr.add] using hF.1
      | 1, hj' => simp at hj'; subst hj'; simpa [Addr.add] using hF.2.1
      | 2, hj' => simp at hj'; subst hj'; simpa [Addr.add] using hF.2.2
      | j + 3, hj' => simp at hj'
  have hx0 : (splice xs (0 * 3) (cellsV (List.replicate m0 x))).take (m0 * 3) = cellsV (List.replicate m0 x) := by
    have := rep_step (x := x) (xs := xs) (n := 0) (m := m0) (by simp [cellsV]) (by omega)
    rwa [Nat.zero_add] at this
  have hl0 : (splice xs (0 * 3) (cellsV (List.replicate m0 x))).length = k * 3 := by rw [length_splice _ _ _ (by rw [cellsV_len, List.length_replicate]; omega)]; exact hxl
  have HX0 := Lib.hid hx0
  have HL0 := Lib.hid hl0
  clear hx0 hl0 hxl
  generalize splice xs (0 * 3) (cellsV (List.replicate m0 x)) = ys at HX0 HL0 hS
  go_loopw [8] (fun nv wr => ∃ (n : Nat) (zs : List Value), nv = .int .i64 n ∧ n ≤ k ∧ (0 < k → 0 < n) ∧ Hid (zs.take (n * 3) = cellsV (List.replicate n x)) ∧ Hid (zs.length = k * 3) ∧ Hp w.heap.size w wr [.row 45 3 (some ⟨g, 0, none⟩) k k zs]) (fun nv _ => k - (intOf nv).toNat)
  case atStart => exact ⟨m0, ys, rfl, hm1, (by have := HM0.out; omega), HX0, HL0, hS⟩
  case round =>
    clear hS hF HM0 hm1 HX0 HL0
    obtain ⟨n, zs, rfl, hn, hpos, hz, hzl, hS⟩ := hrel
    by_cases hlt : n < k
    · obtain ⟨m, hm⟩ : ∃ m, m = min n (k - n) := ⟨_, rfl⟩
      have hm2 : n + m ≤ k := by omega
      have hm3 : 0 < m := by have := hpos (by omega); omega
      have hm4 : m ≤ n := by omega
      have HM1 := Lib.hid (show m = Nat.min n (k - n) from hm)
      clear hm hpos
      have f1 : (n : Int) ≤ k := by omega
      have f2 : (0 : Int) ≤ n := by omega
      have f3 : IntKind.i64.wrap ((n : Int) + (m : Int)) = (n : Int) + m := IntWalk.i64_in _ (by omega)
      have f5 : ¬ k = n := by omega
      ((try clear hF); (first | have hF := And.intro hS.facts (hR.at hS.ext) | have hF := hS.facts); simp only [HFacts, cellFacts, RFacts, cellOnly, and_true, true_and, Nat.zero_add, Nat.reduceAdd] at hF)
      go_wp2_with fail
      ((with_reducible refine wp_region_chain_hp [.q, .q, .q, .q, .q, .q, .q, .t, .t, .t] [] (by kernel_rfl) rfl (by kernel_rfl) hS (fun w h => h.sub (by simp)) ?_); clear hS; (repeat ((with_reducible refine Walk.here ?_); (first | ((with_reducible apply Walk.skipQ); (first | rfl | exact wanted_false rfl rfl rfl (by assumption)); (try simp only [Mark.isQ, if_true, Bool.false_eq_true, if_false, Act.put, List.setIfInBounds_toArray, List.set_cons_zero, List.set_cons_succ])) | ((with_reducible apply Walk.val); (first | rfl | exact wanted_true rfl rfl rfl (by assumption)); (rintro w hS; ((try clear hF); (first | have hF := And.intro hS.facts (hR.at hS.ext) | have hF := hS.facts); simp only [HFacts, cellFacts, RFacts, cellOnly, and_true, true_and, Nat.zero_add, Nat.reduceAdd] at hF); go_simp; with_reducible rfl); (try simp only [Mark.isQ, if_true, Bool.false_eq_true, if_false, Act.put, List.setIfInBounds_toArray, List.set_cons_zero, List.set_cons_succ])) | ((with_reducible apply Walk.tail); (try simp only [Mark.isQ, if_true, Bool.false_eq_true, if_false, Act.put, List.setIfInBounds_toArray, List.set_cons_zero, List.set_cons_succ])) | ((with_reducible apply Walk.guardT); rfl; rfl; rfl; (all_goals intro hg)) | ((with_reducible apply Walk.guardF); rfl; rfl; rfl; (all_goals intro hg))))); refine Walk.done ?_; simp only [chainOf, Mark.isT, if_true, Bool.false_eq_true, if_false])
      refine Chain.copy Tryz.elem_vals rfl (.tmp 41) (.tmp 44) rfl n (k - n) (k - n) ⟨g, 0, none⟩ n k m rfl rfl HM1.out (cellsV (List.replicate m x)) (by rw [cellsV_len, List.length_replicate]) hm2 ?_ (cellsV_one _) (fun w h => h.sub (by simp)) ?_
      · intro W hW j v hj
        have hj3 : j < m * 3 := by
          have := (List.getElem?_eq_some_iff.1 hj).1
          rwa [cellsV_len, List.length_replicate] at this
        have e : (cellsV (List.replicate n x))[j]? = some v := by
          rw [show n = m + (n - m) by omega, cellsV_rep_add, List.getElem?_append_left (by rw [cellsV_len, List.length_replicate]; exact hj3)]
          exact hj
        rw [← hz.out, List.getElem?_take_of_lt (by omega)] at e
        obtain ⟨g', hg', hc, _⟩ := hW.rowCell 0 rfl e
        obtain rfl : g = g' := by simpa using hg'
        have e2 : (⟨g, 0, none⟩ : Addr).add j = ⟨g, j, none⟩ := by unfold Addr.add; split <;> simp_all
        rw [e2]; exact hc
      try simp only [Act.put, List.setIfInBounds_toArray, List.set_cons_zero, List.set_cons_succ]
      (refine Chain.val (by (first | rfl | exact wanted_true rfl rfl rfl (by assumption))) (fun w h => h.sub (by simp)) (by rintro w hS; ((try clear hF); (first | have hF := And.intro hS.facts (hR.at hS.ext) | have hF := hS.facts); simp only [HFacts, cellFacts, RFacts, cellOnly, and_true, true_and, Nat.zero_add, Nat.reduceAdd] at hF); go_simp; with_reducible rfl) ?_; try simp only [Act.put, List.setIfInBounds_toArray, List.set_cons_zero, List.set_cons_succ])
      (refine Chain.val (by (first | rfl | exact wanted_true rfl rfl rfl (by assumption))) (fun w h => h.sub (by simp)) (by rintro w hS; ((try clear hF); (first | have hF := And.intro hS.facts (hR.at hS.ext) | have hF := hS.facts); simp only [HFacts, cellFacts, RFacts, cellOnly, and_true, true_and, Nat.zero_add, Nat.reduceAdd] at hF); go_simp; with_reducible rfl) ?_; try simp only [Act.put, List.setIfInBounds_toArray, List.set_cons_zero, List.set_cons_succ])
      (refine Chain.done ?_; (try clear hF); intro wk hS; ((try clear hF); (first | have hF := And.intro hS.facts (hR.at hS.ext) | have hF := hS.facts); simp only [HFacts, cellFacts, RFacts, cellOnly, and_true, true_and, Nat.zero_add, Nat.reduceAdd] at hF))
      go_wp2_with fail
      go_roundw
      case rel => exact ⟨n + m, splice zs (n * 3) (cellsV (List.replicate m x)), by go_num, hm2, by omega, Lib.hid (rep_step hz.out (by rw [hzl.out]; omega)), Lib.hid (by rw [length_splice _ _ _ (by rw [cellsV_len, List.length_replicate, hzl.out]; omega)]; exact hzl.out), hS⟩
      case measure => simp [intOf]; omega
    · obtain rfl : n = k := by omega
      ((try clear hF); (first | have hF := And.intro hS.facts (hR.at hS.ext) | have hF := hS.facts); simp only [HFacts, cellFacts, RFacts, cellOnly, and_true, true_and, Nat.zero_add, Nat.reduceAdd] at hF)
      go_wp2_with fail
      go_ret
      refine ⟨g, n, rfl, ?_⟩
      have e : zs = cellsV (List.replicate n x) := by rw [← hz.out, List.take_of_length_le (by rw [hzl.out]; exact Nat.le_refl _)]
      rw [e] at hS
      exact hS
end Go.Proofs.YtcpllhjhnfmepaaGreatDoor

/- Slices of columns: what their cells hold; IndexFunc, ContainsFunc, Find. -/
namespace Go.Proofs.YtcpllhjhnfmepaaGreatDoor
set_option linter.all false
set_option linter.unusedSimpArgs false
set_option linter.unusedVariables false
open Go.RowKit
def cellsC : List CG → List Value
  | [] => []
  | c :: l => .int .i64 c.id :: .string c.name :: .int .i64 c.kind :: .bool c.must :: .int .i64 c.d.kind :: .int .i64 c.d.num :: .string c.d.text :: cellsC l
/-- the slice at A reads as the columns l -/
def RC (w : World) (A : Option Addr) (l : List CG) : Prop :=
  ∀ (i : Nat) (c : CG), l[i]? = some c → ∃ b o : Nat, A = some ⟨b, o, none⟩ ∧ w.cell? ⟨b, o + i * 7, none⟩ = some (.int .i64 c.id) ∧ w.cell? ⟨b, o + i * 7 + 1, none⟩ = some (.string c.name) ∧ w.cell? ⟨b, o + i * 7 + 2, none⟩ = some (.int .i64 c.kind) ∧ w.cell? ⟨b, o + i * 7 + 3, none⟩ = some (.bool c.must) ∧ w.cell? ⟨b, o + i * 7 + 4, none⟩ = some (.int .i64 c.d.kind) ∧ w.cell? ⟨b, o + i * 7 + 5, none⟩ = some (.int .i64 c.d.num) ∧ w.cell? ⟨b, o + i * 7 + 6, none⟩ = some (.string c.d.text)
theorem RC.ext {w w' : World} {A : Option Addr} {l : List CG} (h : RC w A l) (hx : Ext w w') : RC w' A l := fun i c hi => by
  obtain ⟨b, o, hA, h0, h1, h2, h3, h4, h5, h6⟩ := h i c hi
  exact ⟨b, o, hA, hx.keeps h0, hx.keeps h1, hx.keeps h2, hx.keeps h3, hx.keeps h4, hx.keeps h5, hx.keeps h6⟩
theorem cellsC_len : ∀ l : List CG, (cellsC l).length = l.length * 7
  | [] => rfl
  | x :: l => by simp [cellsC, cellsC_len l]; omega
theorem cellsC_append : ∀ l m : List CG, cellsC (l ++ m) = cellsC l ++ cellsC m
  | [], m => rfl
  | x :: l, m => by simp [cellsC, cellsC_append l m]
theorem cellsC_one : ∀ (l : List CG), ∀ u ∈ cellsC l, u.oneCell' = true
  | [], u, h => by cases h
  | x :: l, u, h => by
    simp only [cellsC, List.mem_cons] at h
    rcases h with rfl | rfl | rfl | rfl | rfl | rfl | rfl | h
    all_goals first | rfl | exact cellsC_one l u h
theorem cellsC_at : ∀ (l : List CG) (i : Nat) (c : CG), l[i]? = some c → (cellsC l)[i * 7]? = some (.int .i64 c.id) ∧ (cellsC l)[i * 7 + 1]? = some (.string c.name) ∧ (cellsC l)[i * 7 + 2]? = some (.int .i64 c.kind) ∧ (cellsC l)[i * 7 + 3]? = some (.bool c.must) ∧ (cellsC l)[i * 7 + 4]? = some (.int .i64 c.d.kind) ∧ (cellsC l)[i * 7 + 5]? = some (.int .i64 c.d.num) ∧ (cellsC l)[i * 7 + 6]? = some (.string c.d.text)
  | [], i, x, h => by simp at h
  | y :: l, 0, x, h => by simp at h; subst h; simp [cellsC]
  | y :: l, i + 1, x, h => by
    have := cellsC_at l i x (by simpa using h)
    rw [show (i + 1) * 7 = i * 7 + 7 by omega]
    simpa [cellsC] using this
theorem RC.block {w : World} {l : List CG} {g : Nat} {cs : Array Value} {t : TypeId} {fr : Nat × Nat} (h : w.heap[g]? = some (.cells cs t fr)) (hcs : cs = (cellsC l).toArray) : RC w (some ⟨g, 0, none⟩) l := fun i x hi => by
  subst hcs
  obtain ⟨h0, h1, h2, h3, h4, h5, h6⟩ := cellsC_at l i x hi
  refine ⟨g, 0, rfl, ?_, ?_, ?_, ?_, ?_, ?_, ?_⟩ <;> simp [World.cell?, h, *]
theorem Tryz.elem_cols : Elem Tryz.prog 22 47 7 72 := by
  obtain ⟨i0, hi0, hz0, hz1, hz2⟩ := info_parts (show (Tryz.prog.info? 47).map (fun i => (i.zero, i.size, i.bytes)) = some (some (.agg #[.int .i64 0, .string ⟨#[]⟩, .int .i64 0, .bool false, .int .i64 0, .int .i64 0, .string ⟨#[]⟩]), 7, 72) by kernel_rfl)
  exact ⟨Tryz.underlying22, ⟨i0, _, hi0, hz0, hz1, hz2, rfl⟩, by omega⟩
abbrev cRow (A : Option Addr) (cap : Nat) (l : List CG) : Item := .row 47 7 A l.length cap (cellsC l)
theorem Hp.rc {B : Nat} {w0 w : World} {L : List Item} {A : Option Addr} {cap n : Nat} {l : List CG} (h : Hp B w0 w L) (i : Nat) (hi : L[i]? = some (.row 47 7 A n cap (cellsC l))) : RC w A l := fun j x hj => by
  obtain ⟨h0, h1, h2, h3, h4, h5, h6⟩ := cellsC_at l j x hj
  obtain ⟨g, hg, c0, _⟩ := h.rowCell i hi h0
  obtain ⟨g1, hg1, c1, _⟩ := h.rowCell i hi h1
  obtain ⟨g2, hg2, c2, _⟩ := h.rowCell i hi h2
  obtain ⟨g3, hg3, c3, _⟩ := h.rowCell i hi h3
  obtain ⟨g4, hg4, c4, _⟩ := h.rowCell i hi h4
  obtain ⟨g5, hg5, c5, _⟩ := h.rowCell i hi h5
  obtain ⟨g6, hg6, c6, _⟩ := h.rowCell i hi h6
  rw [hg] at hg1 hg2 hg3 hg4 hg5 hg6
  simp only [Option.some.injEq, Addr.mk.injEq, and_true] at hg1 hg2 hg3 hg4 hg5 hg6
  subst hg1 hg2 hg3 hg4 hg5 hg6
  refine ⟨g, 0, hg, ?_, ?_, ?_, ?_, ?_, ?_, ?_⟩ <;> rw [Nat.zero_add] <;> assumption
/-- the first place, from k on, where p holds; or -1 -/
def idxC (p : CG → Bool) : Nat → List CG → Int
  | _, [] => -1
  | k, x :: l => if p x then k else idxC p (k + 1) l
theorem idxC_any (p : CG → Bool) : ∀ (l : List CG) (k : Nat), decide (0 ≤ idxC p k l) = l.any p
  | [], k => rfl
  | x :: l, k => by
    unfold idxC
    rw [List.any_cons]
    cases h : p x with
    | true => simp
    | false => simpa using idxC_any p l (k + 1)
theorem dropC_at {l : List CG} {k : Nat} {x : CG} (h : l[k]? = some x) : l.drop k = x :: l.drop (k + 1) := by
  obtain ⟨h1, e⟩ := List.getElem?_eq_some_iff.1 h
  rw [List.drop_eq_getElem_cons h1, e]
/-- a function that is called: it answers p of a column, and leaves all as it was -/
def PredC (w0 : World) (g : Nat) (lb : Array Value) (p : CG → Bool) : Prop :=
  ∀ W, Ext w0 W → ∀ c : CG, Calls Tryz.prog g (#[.agg #[.int .i64 c.id, .string c.name, .int .i64 c.kind, .bool c.must, .int .i64 c.d.kind, .int .i64 c.d.num, .string c.d.text]] ++ lb) W fun e w' => e = .returned (.bool (p c)) ∧ Ext W w'
theorem PredC.at {w0 : World} {g : Nat} {lb : Array Value} {p : CG → Bool} (h : PredC w0 g lb p) (W : World) (hx : Ext w0 W) (c : CG) : Calls Tryz.prog g (#[.agg #[.int .i64 c.id, .string c.name, .int .i64 c.kind, .bool c.must, .int .i64 c.d.kind, .int .i64 c.d.num, .string c.d.text]] ++ lb) W fun e w' => e = .returned (.bool (p c)) ∧ Ext W w' := h W hx c
set_option maxRecDepth 100000 in
set_option maxHeartbeats 8000000 in
theorem cindexFunc_any (l : List CG) (A : Option Addr) (cap : Nat) (g : Nat) (lb : Array Value) (p : CG → Bool) (w : World) (hr : RC w A l) (hl : l.length ≤ 140737488355328) (eg : ∀ args w, (callFunc g args).run Tryz.prog w = .ok (.enter g args) w) (hp : PredC w g lb p) :
    Calls Tryz.prog 19 #[.slice A l.length cap, .func (.func g) #[] lb] w fun e w' => e = .returned (.int .i64 (idxC p 0 l)) ∧ Ext w w' := by
  obtain ⟨n, hn⟩ : ∃ n, n = l.length := ⟨_, rfl⟩
  rw [← hn]
  have Hn := Lib.hid hn
  rw [← hn] at hl
  clear hn
  have HP := Lib.hid hp
  clear hp
  have hS := Hp.init w
  have hR := Reads.nil w
  go_enter Tryz.func19, Tryz.ntmps19
  go_wp2_with (first | ((with_reducible first | refine nhLa ?_ | refine nhLs ?_ | refine nhLd ?_ | refine nhCa ?_ | refine nhCs ?_ | refine nhCd ?_ | refine nhPa ?_ | refine nhPs ?_ | refine nhPd ?_ | refine nhKa ?_ | refine nhKs ?_ | refine nhKd ?_); ((try clear hF); clear hS; intro wk hS; (try simp only [List.set_cons_zero, List.set_cons_succ, heap_size, heap_set_size] at hS); ((try clear hF); (first | have hF := And.intro hS.facts (hR.at hS.ext) | have hF := hS.facts); simp only [HFacts, cellFacts, RFacts, cellOnly, and_true, true_and, Nat.zero_add, Nat.reduceAdd] at hF))) | fail)
  go_loopw [8, 5] (fun i _ wr => ∃ k : Nat, i = .int .i64 k ∧ k ≤ n ∧ Hid (idxC p 0 l = idxC p k (l.drop k)) ∧ Hp w.heap.size w wr []) (fun i _ _ => n - (intOf i).toNat)
  case atStart => exact ⟨0, rfl, Nat.zero_le _, Lib.hid rfl, hS⟩
  case round =>
    clear hS
    obtain ⟨k, rfl, hk, hf, hS⟩ := hrel
    by_cases hlt : k < n
    · have hlt' : k < l.length := by rw [← Hn.out]; exact hlt
      obtain ⟨x, hx'⟩ : ∃ x, l[k]? = some x := ⟨l[k], List.getElem?_eq_getElem hlt'⟩
      obtain ⟨b, o, rfl, c0, c1, c2, c3, c4, c5, c6⟩ := hr k x hx'
      have hR := Reads.cell c0 (Reads.cell c1 (Reads.cell c2 (Reads.cell c3 (Reads.cell c4 (Reads.cell c5 (Reads.cell c6 (Reads.nil w)))))))
      have HD := Lib.hid (dropC_at hx')
      clear hx' hlt' c0 c1 c2 c3 c4 c5 c6 hr
      ((try clear hF); (first | have hF := And.intro hS.facts (hR.at hS.ext) | have hF := hS.facts); simp only [HFacts, cellFacts, RFacts, cellOnly, and_true, true_and, Nat.zero_add, Nat.reduceAdd] at hF)
      go_wp2_with (first | ((with_reducible first | refine nhLa ?_ | refine nhLs ?_ | refine nhLd ?_ | refine nhCa ?_ | refine nhCs ?_ | refine nhCd ?_ | refine nhPa ?_ | refine nhPs ?_ | refine nhPd ?_ | refine nhKa ?_ | refine nhKs ?_ | refine nhKd ?_); ((try clear hF); clear hS; intro wk hS; (try simp only [List.set_cons_zero, List.set_cons_succ, heap_size, heap_set_size] at hS); ((try clear hF); (first | have hF := And.intro hS.facts (hR.at hS.ext) | have hF := hS.facts); simp only [HFacts, cellFacts, RFacts, cellOnly, and_true, true_and, Nat.zero_add, Nat.reduceAdd] at hF))) | ((with_reducible refine (HP.out.at _ hS.ext x).mono ?_); rintro e wk ⟨rfl, hX⟩; replace hS := hS.step hX; clear hX; ((try clear hF); (first | have hF := And.intro hS.facts (hR.at hS.ext) | have hF := hS.facts); simp only [HFacts, cellFacts, RFacts, cellOnly, and_true, true_and, Nat.zero_add, Nat.reduceAdd] at hF)))
      · go_ret
        refine ⟨?_, hS.ext⟩
        have hc : p x = true := by assumption
        rw [hf.out, HD.out, idxC, if_pos hc]; first | done | rfl
      · go_roundw
        case rel =>
          have hc : p x = false := by assumption
          exact ⟨k + 1, by go_num, by omega, Lib.hid (by rw [hf.out, HD.out, idxC, if_neg (by rw [hc]; simp)]), hS⟩
        case measure => simp [intOf]; omega
    · obtain rfl : k = n := by omega
      ((try clear hF); (first | have hF := And.intro hS.facts (hR.at hS.ext) | have hF := hS.facts); simp only [HFacts, cellFacts, RFacts, cellOnly, and_true, true_and, Nat.zero_add, Nat.reduceAdd] at hF)
      go_wp2_with (first | ((with_reducible first | refine nhLa ?_ | refine nhLs ?_ | refine nhLd ?_ | refine nhCa ?_ | refine nhCs ?_ | refine nhCd ?_ | refine nhPa ?_ | refine nhPs ?_ | refine nhPd ?_ | refine nhKa ?_ | refine nhKs ?_ | refine nhKd ?_); ((try clear hF); clear hS; intro wk hS; (try simp only [List.set_cons_zero, List.set_cons_succ, heap_size, heap_set_size] at hS); ((try clear hF); (first | have hF := And.intro hS.facts (hR.at hS.ext) | have hF := hS.facts); simp only [HFacts, cellFacts, RFacts, cellOnly, and_true, true_and, Nat.zero_add, Nat.reduceAdd] at hF))) | fail)
      go_ret
      exact ⟨by rw [hf.out, Hn.out, List.drop_length]; rfl, hS.ext⟩
set_option maxRecDepth 100000 in
set_option maxHeartbeats 8000000 in
theorem ccontainsFunc_any (l : List CG) (A : Option Addr) (cap : Nat) (g : Nat) (lb : Array Value) (p : CG → Bool) (w : World) (hr : RC w A l) (hl : l.length ≤ 140737488355328) (eg : ∀ args w, (callFunc g args).run Tryz.prog w = .ok (.enter g args) w) (hp : PredC w g lb p) :
    Calls Tryz.prog 64 #[.slice A l.length cap, .func (.func g) #[] lb] w fun e w' => e = .returned (.bool (l.any p)) ∧ Ext w w' := by
  have hI := fun (W : World) (hx : Ext w W) => cindexFunc_any l A cap g lb p W (hr.ext hx) hl eg (fun W' hx' => hp W' (hx.trans hx'))
  have HI := Lib.hid hI
  have HA := Lib.hid (idxC_any p l 0)
  clear hI hr hp
  have hS := Hp.init w
  have hR := Reads.nil w
  go_enter Tryz.func64, Tryz.ntmps64
  go_wp2_with (first | ((with_reducible first | refine nhLa ?_ | refine nhLs ?_ | refine nhLd ?_ | refine nhCa ?_ | refine nhCs ?_ | refine nhCd ?_ | refine nhPa ?_ | refine nhPs ?_ | refine nhPd ?_ | refine nhKa ?_ | refine nhKs ?_ | refine nhKd ?_); ((try clear hF); clear hS; intro wk hS; (try simp only [List.set_cons_zero, List.set_cons_succ, heap_size, heap_set_size] at hS); ((try clear hF); (first | have hF := And.intro hS.facts (hR.at hS.ext) | have hF := hS.facts); simp only [HFacts, cellFacts, RFacts, cellOnly, and_true, true_and, Nat.zero_add, Nat.reduceAdd] at hF))) | (go_at_call 19; (with_reducible refine (HI.out _ hS.ext).mono ?_); rintro e wk ⟨rfl, hX⟩; replace hS := hS.step hX; clear hX; ((try clear hF); (first | have hF := And.intro hS.facts (hR.at hS.ext) | have hF := hS.facts); simp only [HFacts, cellFacts, RFacts, cellOnly, and_true, true_and, Nat.zero_add, Nat.reduceAdd] at hF)))
  go_ret
  exact ⟨by rw [HA.out]; first | done | rfl, hS.ext⟩
def nmEq (nm : ByteArray) (c : CG) : Bool := c.name.toList == nm.toList
set_option maxRecDepth 100000 in
set_option maxHeartbeats 8000000 in
theorem find1_any (nm : ByteArray) (c : CG) (bk : Nat) (w : World) (h : w.cell? ⟨bk, 0, none⟩ = some (.string nm)) :
    Calls Tryz.prog 57 #[.agg #[.int .i64 c.id, .string c.name, .int .i64 c.kind, .bool c.must, .int .i64 c.d.kind, .int .i64 c.d.num, .string c.d.text], .pointer (some ⟨bk, 0, none⟩)] w fun e w' => e = .returned (.bool (nmEq nm c)) ∧ Ext w w' := by
  have hS := Hp.init w
  have hR := Reads.cell h (Reads.nil w)
  clear h
  unfold nmEq
  ((try clear hF); (first | have hF := And.intro hS.facts (hR.at hS.ext) | have hF := hS.facts); simp only [HFacts, cellFacts, RFacts, cellOnly, and_true, true_and, Nat.zero_add, Nat.reduceAdd] at hF)
  go_enter Tryz.func57, Tryz.ntmps57
  go_wp2_with (first | ((with_reducible first | refine nhLa ?_ | refine nhLs ?_ | refine nhLd ?_ | refine nhCa ?_ | refine nhCs ?_ | refine nhCd ?_ | refine nhPa ?_ | refine nhPs ?_ | refine nhPd ?_ | refine nhKa ?_ | refine nhKs ?_ | refine nhKd ?_); ((try clear hF); clear hS; intro wk hS; (try simp only [List.set_cons_zero, List.set_cons_succ, heap_size, heap_set_size] at hS); ((try clear hF); (first | have hF := And.intro hS.facts (hR.at hS.ext) | have hF := hS.facts); simp only [HFacts, cellFacts, RFacts, cellOnly, and_true, true_and, Nat.zero_add, Nat.reduceAdd] at hF))) | fail)
  go_ret
  exact ⟨rfl, hS.ext⟩
theorem eg_find1 : ∀ args w, (callFunc 57 args).run Tryz.prog w = .ok (.enter 57 args) w := fun _ _ => by kernel_rfl
set_option maxRecDepth 100000 in
set_option maxHeartbeats 8000000 in
theorem find_any (l : List CG) (A : Option Addr) (cap : Nat) (nm : ByteArray) (w : World) (hr : RC w A l) (hl : l.length ≤ 140737488355328) :
    Calls Tryz.prog 27 #[.slice A l.length cap, .string nm] w fun e w' => e = .returned (.int .i64 (idxC (nmEq nm) 0 l)) ∧ Ext w w' := by
  have HI := Lib.hid (fun (W : World) bk (hx : Ext w W) (h : W.cell? ⟨bk, 0, none⟩ = some (.string nm)) => cindexFunc_any l A cap 57 #[.pointer (some ⟨bk, 0, none⟩)] (nmEq nm) W (hr.ext hx) hl eg_find1 (fun W' hx' c => find1_any nm c bk W' (hx'.keeps h)))
  clear hr
  have hS := Hp.init w
  have hR := Reads.nil w
  go_enter Tryz.func27, Tryz.ntmps27
  go_wp2_with (first | ((with_reducible first | refine nhLa ?_ | refine nhLs ?_ | refine nhLd ?_ | refine nhCa ?_ | refine nhCs ?_ | refine nhCd ?_ | refine nhPa ?_ | refine nhPs ?_ | refine nhPd ?_ | refine nhKa ?_ | refine nhKs ?_ | refine nhKd ?_); ((try clear hF); clear hS; intro wk hS; (try simp only [List.set_cons_zero, List.set_cons_succ, heap_size, heap_set_size] at hS); ((try clear hF); (first | have hF := And.intro hS.facts (hR.at hS.ext) | have hF := hS.facts); simp only [HFacts, cellFacts, RFacts, cellOnly, and_true, true_and, Nat.zero_add, Nat.reduceAdd] at hF))) | (go_at_call 19; (with_reducible refine (HI.out _ _ hS.ext hF.1).mono ?_); rintro e wk ⟨rfl, hX⟩; replace hS := hS.step hX; clear hX; ((try clear hF); (first | have hF := And.intro hS.facts (hR.at hS.ext) | have hF := hS.facts); simp only [HFacts, cellFacts, RFacts, cellOnly, and_true, true_and, Nat.zero_add, Nat.reduceAdd] at hF)))
  go_ret
  exact ⟨rfl, hS.ext⟩
def clashC (c d : CG) : Bool := d.id == c.id || d.name.toList == c.name.toList
set_option maxRecDepth 100000 in
set_option maxHeartbeats 8000000 in
theorem right1c_any (c d : CG) (bk : Nat) (w : World) (h : w.cell? ⟨bk, 0, none⟩ = some (.int .i64 c.id)) (h1 : w.cell? ⟨bk, 1, none⟩ = some (.string c.name)) :
    Calls Tryz.prog 66 #[.agg #[.int .i64 d.id, .string d.name, .int .i64 d.kind, .bool d.must, .int .i64 d.d.kind, .int .i64 d.d.num, .string d.d.text], .pointer (some ⟨bk, 0, none⟩)] w fun e w' => e = .returned (.bool (clashC c d)) ∧ Ext w w' := by
  have hS := Hp.init w
  have hR := Reads.cell h (Reads.cell h1 (Reads.nil w))
  clear h h1
  unfold clashC
  by_cases hid : d.id = c.id
  · ((try clear hF); (first | have hF := And.intro hS.facts (hR.at hS.ext) | have hF := hS.facts); simp only [HFacts, cellFacts, RFacts, cellOnly, and_true, true_and, Nat.zero_add, Nat.reduceAdd] at hF)
    go_enter Tryz.func66, Tryz.ntmps66
    go_wp2_with (first | ((with_reducible first | refine nhLa ?_ | refine nhLs ?_ | refine nhLd ?_ | refine nhCa ?_ | refine nhCs ?_ | refine nhCd ?_ | refine nhPa ?_ | refine nhPs ?_ | refine nhPd ?_ | refine nhKa ?_ | refine nhKs ?_ | refine nhKd ?_); ((try clear hF); clear hS; intro wk hS; (try simp only [List.set_cons_zero, List.set_cons_succ, heap_size, heap_set_size] at hS); ((try clear hF); (first | have hF := And.intro hS.facts (hR.at hS.ext) | have hF := hS.facts); simp only [HFacts, cellFacts, RFacts, cellOnly, and_true, true_and, Nat.zero_add, Nat.reduceAdd] at hF))) | fail)
    go_ret
    refine ⟨?_, hS.ext⟩
    simp [hid]
  · ((try clear hF); (first | have hF := And.intro hS.facts (hR.at hS.ext) | have hF := hS.facts); simp only [HFacts, cellFacts, RFacts, cellOnly, and_true, true_and, Nat.zero_add, Nat.reduceAdd] at hF)
    go_enter Tryz.func66, Tryz.ntmps66
    go_wp2_with (first | ((with_reducible first | refine nhLa ?_ | refine nhLs ?_ | refine nhLd ?_ | refine nhCa ?_ | refine nhCs ?_ | refine nhCd ?_ | refine nhPa ?_ | refine nhPs ?_ | refine nhPd ?_ | refine nhKa ?_ | refine nhKs ?_ | refine nhKd ?_); ((try clear hF); clear hS; intro wk hS; (try simp only [List.set_cons_zero, List.set_cons_succ, heap_size, heap_set_size] at hS); ((try clear hF); (first | have hF := And.intro hS.facts (hR.at hS.ext) | have hF := hS.facts); simp only [HFacts, cellFacts, RFacts, cellOnly, and_true, true_and, Nat.zero_add, Nat.reduceAdd] at hF))) | fail)
    go_ret
    refine ⟨?_, hS.ext⟩
    simp [hid]
theorem eg_right1 : ∀ args w, (callFunc 66 args).run Tryz.prog w = .ok (.enter 66 args) w := fun _ _ => by kernel_rfl
end Go.Proofs.YtcpllhjhnfmepaaGreatDoor

/- a change of columns as Go has it. -/
namespace Go.Proofs.YtcpllhjhnfmepaaGreatDoor
set_option linter.all false
set_option linter.unusedSimpArgs false
set_option linter.unusedVariables false
open Go.RowKit
/-- a change as Go has it -/
structure HG where
  what : Int
  c : CG
  name : ByteArray
  tgt : ByteArray
abbrev hV (h : HG) : Value := .agg #[.int .i64 h.what, .int .i64 h.c.id, .string h.c.name, .int .i64 h.c.kind, .bool h.c.must, .int .i64 h.c.d.kind, .int .i64 h.c.d.num, .string h.c.d.text, .string h.name, .string h.tgt]
end Go.Proofs.YtcpllhjhnfmepaaGreatDoor

/- schema.Right. -/
namespace Go.Proofs.YtcpllhjhnfmepaaGreatDoor
set_option linter.all false
set_option linter.unusedSimpArgs false
set_option linter.unusedVariables false
open Go.RowKit
theorem RC.take {w : World} {A : Option Addr} {l : List CG} (h : RC w A l) (k : Nat) : RC w A (l.take k) := fun i c hi => by
  rw [List.getElem?_take] at hi
  split at hi
  · exact h i c hi
  · cases hi
def rgt (next : Int) : List CG → List CG → Bool
  | _, [] => true
  | pre, c :: r => colB c && decide (c.id < next) && !pre.any (clashC c) && rgt next (pre ++ [c]) r
/-- whether columns may be a table's -/
def rightC (l : List CG) (next : Int) : Bool := rgt next [] l && (decide (1 ≤ l.length) && decide (l.length ≤ 8))
set_option maxRecDepth 100000 in
set_option maxHeartbeats 8000000 in
theorem sright_any (l : List CG) (A : Option Addr) (cap : Nat) (next : Int) (w : World) (hr : RC w A l) (hl : l.length ≤ 140737488355328) (hcap : l.length ≤ cap) (hK : KeptAt w) :
    Calls Tryz.prog 37 #[.slice A l.length cap, .int .i64 next] w fun e w' => e = .returned (.bool (rightC l next)) ∧ Ext w w' := by
  obtain ⟨n, hn⟩ : ∃ n, n = l.length := ⟨_, rfl⟩
  unfold rightC
  rw [← hn]
  have Hn := Lib.hid hn
  rw [← hn] at hl hcap
  clear hn
  have hS := Hp.init w
  have hR := Reads.nil w
  go_enter Tryz.func37, Tryz.ntmps37
  go_wp2_with (first | ((with_reducible first | refine nhLa ?_ | refine nhLs ?_ | refine nhLd ?_ | refine nhCa ?_ | refine nhCs ?_ | refine nhCd ?_ | refine nhPa ?_ | refine nhPs ?_ | refine nhPd ?_ | refine nhKa ?_ | refine nhKs ?_ | refine nhKd ?_); ((try clear hF); clear hS; intro wk hS; (try simp only [List.set_cons_zero, List.set_cons_succ, heap_size, heap_set_size] at hS); ((try clear hF); (first | have hF := And.intro hS.facts (hR.at hS.ext) | have hF := hS.facts); simp only [HFacts, cellFacts, RFacts, cellOnly, and_true, true_and, Nat.zero_add, Nat.reduceAdd] at hF))) | fail)
  go_loopw [9] (fun i wr => ∃ k : Nat, i = .int .i64 k ∧ k ≤ n ∧ Hid (rgt next [] l = rgt next (l.take k) (l.drop k)) ∧ Hp w.heap.size w wr []) (fun i _ => n - (intOf i).toNat)
  case atStart => exact ⟨0, rfl, Nat.zero_le _, Lib.hid rfl, hS⟩
  case round =>
    clear hS
    obtain ⟨k, rfl, hk, hf, hS⟩ := hrel
    by_cases hlt : k < n
    · have hlt' : k < l.length := by rw [← Hn.out]; exact hlt
      obtain ⟨c, hx'⟩ : ∃ x, l[k]? = some x := ⟨l[k], List.getElem?_eq_getElem hlt'⟩
      obtain ⟨cb, hcb⟩ : ∃ b, b = colB c := ⟨_, rfl⟩
      obtain ⟨ib, hib⟩ : ∃ b, b = decide (c.id < next) := ⟨_, rfl⟩
      obtain ⟨xb, hxb⟩ : ∃ b, b = (l.take k).any (clashC c) := ⟨_, rfl⟩
      have HCB := Lib.hid (fun (W : World) hx => column_any c W (hK.ext (w' := W) hx))
      have HXB := Lib.hid (fun (W : World) bk (hx : Ext w W) (h0 : W.cell? ⟨bk, 0, none⟩ = some (.int .i64 c.id)) (h1 : W.cell? ⟨bk, 1, none⟩ = some (.string c.name)) => show Calls Tryz.prog 64 #[.slice A k cap, .func (.func 66) #[] #[.pointer (some ⟨bk, 0, none⟩)]] W fun e w' => e = .returned (.bool ((l.take k).any (clashC c))) ∧ Ext W w' from by
        have := ccontainsFunc_any (l.take k) A cap 66 #[.pointer (some ⟨bk, 0, none⟩)] (clashC c) W ((hr.ext hx).take k) (by rw [List.length_take]; omega) eg_right1 (fun W' hx' d => right1c_any c d bk W' (hx'.keeps h0) (hx'.keeps h1))
        rw [List.length_take, Nat.min_eq_left (by omega)] at this
        exact this)
      have HST := Lib.hid (show rgt next (l.take k) (l.drop k) = (colB c && decide (c.id < next) && !(l.take k).any (clashC c) && rgt next (l.take (k + 1)) (l.drop (k + 1))) by
        rw [dropC_at hx', rgt, List.take_add_one, hx']; rfl)
      obtain ⟨b, o, rfl, c0, c1, c2, c3, c4, c5, c6⟩ := hr k c hx'
      have hR := Reads.cell c0 (Reads.cell c1 (Reads.cell c2 (Reads.cell c3 (Reads.cell c4 (Reads.cell c5 (Reads.cell c6 (Reads.nil w)))))))
      rw [← hcb] at HCB HST
      rw [← hxb] at HXB HST
      clear hx' hlt' c0 c1 c2 c3 c4 c5 c6 hr hcb hxb
      by_cases hid : next ≤ c.id
      · have hdi : decide (next ≤ c.id) = true := by simp [hid]
        have hdf : decide (c.id < next) = false := by simp; omega
        rw [hdf] at HST
        clear hid hdf hib ib
        cases cb with
        | false =>
          ((try clear hF); (first | have hF := And.intro hS.facts (hR.at hS.ext) | have hF := hS.facts); simp only [HFacts, cellFacts, RFacts, cellOnly, and_true, true_and, Nat.zero_add, Nat.reduceAdd] at hF)
          go_wp2_with (first | ((with_reducible first | refine nhLa ?_ | refine nhLs ?_ | refine nhLd ?_ | refine nhCa ?_ | refine nhCs ?_ | refine nhCd ?_ | refine nhPa ?_ | refine nhPs ?_ | refine nhPd ?_ | refine nhKa ?_ | refine nhKs ?_ | refine nhKd ?_); ((try clear hF); clear hS; intro wk hS; (try simp only [List.set_cons_zero, List.set_cons_succ, heap_size, heap_set_size] at hS); ((try clear hF); (first | have hF := And.intro hS.facts (hR.at hS.ext) | have hF := hS.facts); simp only [HFacts, cellFacts, RFacts, cellOnly, and_true, true_and, Nat.zero_add, Nat.reduceAdd] at hF))) | (go_at_call 47; (with_reducible refine (HCB.out _ hS.ext).mono ?_); rintro e wk ⟨rfl, hX⟩; replace hS := hS.step hX; clear hX; ((try clear hF); (first | have hF := And.intro hS.facts (hR.at hS.ext) | have hF := hS.facts); simp only [HFacts, cellFacts, RFacts, cellOnly, and_true, true_and, Nat.zero_add, Nat.reduceAdd] at hF)) | (go_at_call 64; (with_reducible refine (HXB.out _ _ hS.ext hF.1.1.1 hF.1.2.1.1).mono ?_); rintro e wk ⟨rfl, hX⟩; replace hS := hS.step hX; clear hX; ((try clear hF); (first | have hF := And.intro hS.facts (hR.at hS.ext) | have hF := hS.facts); simp only [HFacts, cellFacts, RFacts, cellOnly, and_true, true_and, Nat.zero_add, Nat.reduceAdd] at hF)))
          go_ret
          exact ⟨by rw [hf.out, HST.out]; rfl, hS.ext⟩
        | true =>
          ((try clear hF); (first | have hF := And.intro hS.facts (hR.at hS.ext) | have hF := hS.facts); simp only [HFacts, cellFacts, RFacts, cellOnly, and_true, true_and, Nat.zero_add, Nat.reduceAdd] at hF)
          go_wp2_with (first | ((with_reducible first | refine nhLa ?_ | refine nhLs ?_ | refine nhLd ?_ | refine nhCa ?_ | refine nhCs ?_ | refine nhCd ?_ | refine nhPa ?_ | refine nhPs ?_ | refine nhPd ?_ | refine nhKa ?_ | refine nhKs ?_ | refine nhKd ?_); ((try clear hF); clear hS; intro wk hS; (try simp only [List.set_cons_zero, List.set_cons_succ, heap_size, heap_set_size] at hS); ((try clear hF); (first | have hF := And.intro hS.facts (hR.at hS.ext) | have hF := hS.facts); simp only [HFacts, cellFacts, RFacts, cellOnly, and_true, true_and, Nat.zero_add, Nat.reduceAdd] at hF))) | (go_at_call 47; (with_reducible refine (HCB.out _ hS.ext).mono ?_); rintro e wk ⟨rfl, hX⟩; replace hS := hS.step hX; clear hX; ((try clear hF); (first | have hF := And.intro hS.facts (hR.at hS.ext) | have hF := hS.facts); simp only [HFacts, cellFacts, RFacts, cellOnly, and_true, true_and, Nat.zero_add, Nat.reduceAdd] at hF)) | (go_at_call 64; (with_reducible refine (HXB.out _ _ hS.ext hF.1.1.1 hF.1.2.1.1).mono ?_); rintro e wk ⟨rfl, hX⟩; replace hS := hS.step hX; clear hX; ((try clear hF); (first | have hF := And.intro hS.facts (hR.at hS.ext) | have hF := hS.facts); simp only [HFacts, cellFacts, RFacts, cellOnly, and_true, true_and, Nat.zero_add, Nat.reduceAdd] at hF)))
          go_ret
          exact ⟨by rw [hf.out, HST.out]; rfl, hS.ext⟩
      · have hdi : decide (next ≤ c.id) = false := by simp; omega
        have hdf : decide (c.id < next) = true := by simp; omega
        rw [hdf] at HST
        clear hid hdf hib ib
        cases cb with
        | false =>
          ((try clear hF); (first | have hF := And.intro hS.facts (hR.at hS.ext) | have hF := hS.facts); simp only [HFacts, cellFacts, RFacts, cellOnly, and_true, true_and, Nat.zero_add, Nat.reduceAdd] at hF)
          go_wp2_with (first | ((with_reducible first | refine nhLa ?_ | refine nhLs ?_ | refine nhLd ?_ | refine nhCa ?_ | refine nhCs ?_ | refine nhCd ?_ | refine nhPa ?_ | refine nhPs ?_ | refine nhPd ?_ | refine nhKa ?_ | refine nhKs ?_ | refine nhKd ?_); ((try clear hF); clear hS; intro wk hS; (try simp only [List.set_cons_zero, List.set_cons_succ, heap_size, heap_set_size] at hS); ((try clear hF); (first | have hF := And.intro hS.facts (hR.at hS.ext) | have hF := hS.facts); simp only [HFacts, cellFacts, RFacts, cellOnly, and_true, true_and, Nat.zero_add, Nat.reduceAdd] at hF))) | (go_at_call 47; (with_reducible refine (HCB.out _ hS.ext).mono ?_); rintro e wk ⟨rfl, hX⟩; replace hS := hS.step hX; clear hX; ((try clear hF); (first | have hF := And.intro hS.facts (hR.at hS.ext) | have hF := hS.facts); simp only [HFacts, cellFacts, RFacts, cellOnly, and_true, true_and, Nat.zero_add, Nat.reduceAdd] at hF)) | (go_at_call 64; (with_reducible refine (HXB.out _ _ hS.ext hF.1.1.1 hF.1.2.1.1).mono ?_); rintro e wk ⟨rfl, hX⟩; replace hS := hS.step hX; clear hX; ((try clear hF); (first | have hF := And.intro hS.facts (hR.at hS.ext) | have hF := hS.facts); simp only [HFacts, cellFacts, RFacts, cellOnly, and_true, true_and, Nat.zero_add, Nat.reduceAdd] at hF)))
          go_ret
          exact ⟨by rw [hf.out, HST.out]; rfl, hS.ext⟩
        | true =>
          cases xb with
          | false =>
            ((try clear hF); (first | have hF := And.intro hS.facts (hR.at hS.ext) | have hF := hS.facts); simp only [HFacts, cellFacts, RFacts, cellOnly, and_true, true_and, Nat.zero_add, Nat.reduceAdd] at hF)
            go_wp2_with (first | ((with_reducible first | refine nhLa ?_ | refine nhLs ?_ | refine nhLd ?_ | refine nhCa ?_ | refine nhCs ?_ | refine nhCd ?_ | refine nhPa ?_ | refine nhPs ?_ | refine nhPd ?_ | refine nhKa ?_ | refine nhKs ?_ | refine nhKd ?_); ((try clear hF); clear hS; intro wk hS; (try simp only [List.set_cons_zero, List.set_cons_succ, heap_size, heap_set_size] at hS); ((try clear hF); (first | have hF := And.intro hS.facts (hR.at hS.ext) | have hF := hS.facts); simp only [HFacts, cellFacts, RFacts, cellOnly, and_true, true_and, Nat.zero_add, Nat.reduceAdd] at hF))) | (go_at_call 47; (with_reducible refine (HCB.out _ hS.ext).mono ?_); rintro e wk ⟨rfl, hX⟩; replace hS := hS.step hX; clear hX; ((try clear hF); (first | have hF := And.intro hS.facts (hR.at hS.ext) | have hF := hS.facts); simp only [HFacts, cellFacts, RFacts, cellOnly, and_true, true_and, Nat.zero_add, Nat.reduceAdd] at hF)) | (go_at_call 64; (with_reducible refine (HXB.out _ _ hS.ext hF.1.1.1 hF.1.2.1.1).mono ?_); rintro e wk ⟨rfl, hX⟩; replace hS := hS.step hX; clear hX; ((try clear hF); (first | have hF := And.intro hS.facts (hR.at hS.ext) | have hF := hS.facts); simp only [HFacts, cellFacts, RFacts, cellOnly, and_true, true_and, Nat.zero_add, Nat.reduceAdd] at hF)))
            go_roundw
            case rel => exact ⟨k + 1, by go_num, by omega, Lib.hid (by rw [hf.out, HST.out]; rfl), hS.sub (by simp)⟩
            case measure => simp [intOf]; omega
          | true =>
            ((try clear hF); (first | have hF := And.intro hS.facts (hR.at hS.ext) | have hF := hS.facts); simp only [HFacts, cellFacts, RFacts, cellOnly, and_true, true_and, Nat.zero_add, Nat.reduceAdd] at hF)
            go_wp2_with (first | ((with_reducible first | refine nhLa ?_ | refine nhLs ?_ | refine nhLd ?_ | refine nhCa ?_ | refine nhCs ?_ | refine nhCd ?_ | refine nhPa ?_ | refine nhPs ?_ | refine nhPd ?_ | refine nhKa ?_ | refine nhKs ?_ | refine nhKd ?_); ((try clear hF); clear hS; intro wk hS; (try simp only [List.set_cons_zero, List.set_cons_succ, heap_size, heap_set_size] at hS); ((try clear hF); (first | have hF := And.intro hS.facts (hR.at hS.ext) | have hF := hS.facts); simp only [HFacts, cellFacts, RFacts, cellOnly, and_true, true_and, Nat.zero_add, Nat.reduceAdd] at hF))) | (go_at_call 47; (with_reducible refine (HCB.out _ hS.ext).mono ?_); rintro e wk ⟨rfl, hX⟩; replace hS := hS.step hX; clear hX; ((try clear hF); (first | have hF := And.intro hS.facts (hR.at hS.ext) | have hF := hS.facts); simp only [HFacts, cellFacts, RFacts, cellOnly, and_true, true_and, Nat.zero_add, Nat.reduceAdd] at hF)) | (go_at_call 64; (with_reducible refine (HXB.out _ _ hS.ext hF.1.1.1 hF.1.2.1.1).mono ?_); rintro e wk ⟨rfl, hX⟩; replace hS := hS.step hX; clear hX; ((try clear hF); (first | have hF := And.intro hS.facts (hR.at hS.ext) | have hF := hS.facts); simp only [HFacts, cellFacts, RFacts, cellOnly, and_true, true_and, Nat.zero_add, Nat.reduceAdd] at hF)))
            go_ret
            exact ⟨by rw [hf.out, HST.out]; rfl, hS.ext⟩
    · obtain rfl : k = n := by omega
      have hfin : rgt next [] l = true := by rw [hf.out, Hn.out, List.drop_length]; rfl
      have HFIN := Lib.hid hfin
      clear hfin hf
      by_cases h1 : 1 ≤ k
      · by_cases h8 : k ≤ 8
        · ((try clear hF); (first | have hF := And.intro hS.facts (hR.at hS.ext) | have hF := hS.facts); simp only [HFacts, cellFacts, RFacts, cellOnly, and_true, true_and, Nat.zero_add, Nat.reduceAdd] at hF)
          go_wp2_with (first | ((with_reducible first | refine nhLa ?_ | refine nhLs ?_ | refine nhLd ?_ | refine nhCa ?_ | refine nhCs ?_ | refine nhCd ?_ | refine nhPa ?_ | refine nhPs ?_ | refine nhPd ?_ | refine nhKa ?_ | refine nhKs ?_ | refine nhKd ?_); ((try clear hF); clear hS; intro wk hS; (try simp only [List.set_cons_zero, List.set_cons_succ, heap_size, heap_set_size] at hS); ((try clear hF); (first | have hF := And.intro hS.facts (hR.at hS.ext) | have hF := hS.facts); simp only [HFacts, cellFacts, RFacts, cellOnly, and_true, true_and, Nat.zero_add, Nat.reduceAdd] at hF))) | fail)
          go_ret
          exact ⟨by rw [HFIN.out, decide_eq_true h1, decide_eq_true h8]; show Ending.returned (.bool (decide ((k : Int) ≤ 8))) = _; rw [decide_eq_true (by omega : (k : Int) ≤ 8)]; rfl, hS.ext⟩
        · ((try clear hF); (first | have hF := And.intro hS.facts (hR.at hS.ext) | have hF := hS.facts); simp only [HFacts, cellFacts, RFacts, cellOnly, and_true, true_and, Nat.zero_add, Nat.reduceAdd] at hF)
          go_wp2_with (first | ((with_reducible first | refine nhLa ?_ | refine nhLs ?_ | refine nhLd ?_ | refine nhCa ?_ | refine nhCs ?_ | refine nhCd ?_ | refine nhPa ?_ | refine nhPs ?_ | refine nhPd ?_ | refine nhKa ?_ | refine nhKs ?_ | refine nhKd ?_); ((try clear hF); clear hS; intro wk hS; (try simp only [List.set_cons_zero, List.set_cons_succ, heap_size, heap_set_size] at hS); ((try clear hF); (first | have hF := And.intro hS.facts (hR.at hS.ext) | have hF := hS.facts); simp only [HFacts, cellFacts, RFacts, cellOnly, and_true, true_and, Nat.zero_add, Nat.reduceAdd] at hF))) | fail)
          go_ret
          exact ⟨by rw [HFIN.out, decide_eq_true h1, decide_eq_false h8]; show Ending.returned (.bool (decide ((k : Int) ≤ 8))) = _; rw [decide_eq_false (by omega : ¬(k : Int) ≤ 8)]; rfl, hS.ext⟩
      · ((try clear hF); (first | have hF := And.intro hS.facts (hR.at hS.ext) | have hF := hS.facts); simp only [HFacts, cellFacts, RFacts, cellOnly, and_true, true_and, Nat.zero_add, Nat.reduceAdd] at hF)
        go_wp2_with (first | ((with_reducible first | refine nhLa ?_ | refine nhLs ?_ | refine nhLd ?_ | refine nhCa ?_ | refine nhCs ?_ | refine nhCd ?_ | refine nhPa ?_ | refine nhPs ?_ | refine nhPd ?_ | refine nhKa ?_ | refine nhKs ?_ | refine nhKd ?_); ((try clear hF); clear hS; intro wk hS; (try simp only [List.set_cons_zero, List.set_cons_succ, heap_size, heap_set_size] at hS); ((try clear hF); (first | have hF := And.intro hS.facts (hR.at hS.ext) | have hF := hS.facts); simp only [HFacts, cellFacts, RFacts, cellOnly, and_true, true_and, Nat.zero_add, Nat.reduceAdd] at hF))) | fail)
        go_ret
        exact ⟨by first | rfl | (rw [HFIN.out, decide_eq_false h1]; rfl), hS.ext⟩
end Go.Proofs.YtcpllhjhnfmepaaGreatDoor

/- slices of columns: Clone, Delete, Equal of the same. -/
namespace Go.Proofs.YtcpllhjhnfmepaaGreatDoor
set_option linter.all false
set_option linter.unusedSimpArgs false
set_option linter.unusedVariables false
open Go.RowKit
theorem RC.cells {w : World} {b o : Nat} {l : List CG} (h : RC w (some ⟨b, o, none⟩) l) : ∀ (j : Nat) (u : Value), (cellsC l)[j]? = some u → w.cell? ⟨b, o + j, none⟩ = some u := fun j u hj => by
  have hlt : j < l.length * 7 := by rw [← cellsC_len]; exact (List.getElem?_eq_some_iff.1 hj).1
  obtain ⟨c, hc⟩ : ∃ c, l[j / 7]? = some c := ⟨_, List.getElem?_eq_getElem (by omega)⟩
  obtain ⟨b', o', hb, c0, c1, c2, c3, c4, c5, c6⟩ := h _ c hc
  obtain ⟨d0, d1, d2, d3, d4, d5, d6⟩ := cellsC_at l _ c hc
  simp only [Option.some.injEq, Addr.mk.injEq, and_true] at hb
  obtain ⟨rfl, rfl⟩ := hb
  have hm : j % 7 < 7 := Nat.mod_lt _ (by decide)
  have e : j = j / 7 * 7 + j % 7 := by omega
  generalize j % 7 = r at *
  generalize j / 7 = q at *
  subst e
  rcases (by omega : r = 0 ∨ r = 1 ∨ r = 2 ∨ r = 3 ∨ r = 4 ∨ r = 5 ∨ r = 6) with rfl | rfl | rfl | rfl | rfl | rfl | rfl
  · rw [Nat.add_zero] at hj ⊢; rw [d0] at hj; cases hj; exact c0
  · rw [d1] at hj; cases hj; rw [← Nat.add_assoc]; exact c1
  · rw [d2] at hj; cases hj; rw [← Nat.add_assoc]; exact c2
  · rw [d3] at hj; cases hj; rw [← Nat.add_assoc]; exact c3
  · rw [d4] at hj; cases hj; rw [← Nat.add_assoc]; exact c4
  · rw [d5] at hj; cases hj; rw [← Nat.add_assoc]; exact c5
  · rw [d6] at hj; cases hj; rw [← Nat.add_assoc]; exact c6
theorem addr_add (b o j : Nat) : (⟨b, o, none⟩ : Addr).add j = ⟨b, o + j, none⟩ := by unfold Addr.add; split <;> simp_all
set_option maxRecDepth 100000 in
set_option maxHeartbeats 8000000 in
theorem clone_any (l : List CG) (b o cap : Nat) (w : World) (hr : RC w (some ⟨b, o, none⟩) l) (hl : l.length ≤ 1000) :
    Calls Tryz.prog 40 #[.slice (some ⟨b, o, none⟩) l.length cap] w fun e w' => ∃ A' cap', e = .returned (.slice A' l.length cap') ∧ Hp w.heap.size w w' [cRow A' cap' l] := by
  have HC := Lib.hid (fun (W : World) (hx : Ext w W) => (hr.ext hx).cells)
  have HL := Lib.hid (cellsC_len l)
  have H1 := Lib.hid (cellsC_one l)
  unfold cRow
  obtain ⟨n, hn⟩ : ∃ n, n = l.length := ⟨_, rfl⟩
  rw [← hn] at hl HL ⊢
  clear hn hr
  have hS := Hp.init w
  have hR := Reads.nil w
  have he : ∀ w : World, (binOp .eql 22 (.slice (some ⟨b, o, none⟩) n cap) (.slice none 0 0)).run Tryz.prog w = .ok (.bool false) w := fun _ => rfl
  go_enter Tryz.func40, Tryz.ntmps40
  go_wp2_with (first | ((with_reducible first | refine nhLa ?_ | refine nhLs ?_ | refine nhLd ?_ | refine nhCa ?_ | refine nhCs ?_ | refine nhCd ?_ | refine nhPa ?_ | refine nhPs ?_ | refine nhPd ?_ | refine nhKa ?_ | refine nhKs ?_ | refine nhKd ?_); ((try clear hF); clear hS; intro wk hS; (try simp only [List.set_cons_zero, List.set_cons_succ, heap_size, heap_set_size] at hS); ((try clear hF); (first | have hF := And.intro hS.facts (hR.at hS.ext) | have hF := hS.facts); simp only [HFacts, cellFacts, RFacts, cellOnly, and_true, true_and, Nat.zero_add, Nat.reduceAdd] at hF))) | (at_builtin; refine wpList_append_hp Tryz.elem_cols rfl (.tmp 5) (.tmp 6) rfl (hS.blkRow (size := 7) (n := 0) rfl (by omega)) rfl ⟨b, o, none⟩ rfl (news := cellsC l) HL.out (fun j u hu => by rw [addr_add]; exact HC.out _ hS.ext j u hu) H1.out (by omega) (by omega) ?_; clear hS; intro A' cap' wk hS; ((try clear hF); (first | have hF := And.intro hS.facts (hR.at hS.ext) | have hF := hS.facts); simp only [HFacts, cellFacts, RFacts, cellOnly, and_true, true_and, Nat.zero_add, Nat.reduceAdd] at hF)))
  go_ret
  exact ⟨A', cap', rfl, by simpa using hS⟩
end Go.Proofs.YtcpllhjhnfmepaaGreatDoor

/- An argument that is a slice of changes of columns: what its cells hold. -/
namespace Go.Proofs.YtcpllhjhnfmepaaGreatDoor
set_option linter.unusedSimpArgs false
set_option linter.unusedVariables false
open Go.RowKit
set_option linter.all false
open Go.ChangeShapes Go.WideShapes Go.ChangeAt Go.Joins Go.Deep
theorem Tryz.cellsBool : Tryz.prog.cellsOf 4 = 1 := by kernel_rfl
theorem Tryz.cellsCol : Tryz.prog.cellsOf 47 = 7 := by kernel_rfl
theorem trod_struct5 {H : Type} {enc : TypeId × Value → H} {P : Program} {w : World} {base : Nat} {spare : Nat → Bool} {held : Bool} {t : TypeId} {f0 f1 f2 f3 f4 : Field} {fuel : Nat} {cs : List Value} {x : DataW H × List MemPlace} (ht : P.underlying t = some (.struct #[f0, f1, f2, f3, f4])) (h : DataW.trod enc P w base spare held fuel t cs = some x) :
    ∃ y0 y1 y2 y3 y4 n, cs.length = P.cellsOf t ∧ DataW.trod enc P w base spare held n f0.type ((cs.drop f0.offset).take (P.cellsOf f0.type)) = some y0 ∧
      DataW.trod enc P w base spare held n f1.type ((cs.drop f1.offset).take (P.cellsOf f1.type)) = some y1 ∧ DataW.trod enc P w base spare held n f2.type ((cs.drop f2.offset).take (P.cellsOf f2.type)) = some y2 ∧
      DataW.trod enc P w base spare held n f3.type ((cs.drop f3.offset).take (P.cellsOf f3.type)) = some y3 ∧ DataW.trod enc P w base spare held n f4.type ((cs.drop f4.offset).take (P.cellsOf f4.type)) = some y4 := by
  obtain ⟨xs, n, _, rfl, hl, hlen, hf⟩ := DataW.trod_struct ht h
  match xs, hlen with
  | [y0, y1, y2, y3, y4], _ => exact ⟨y0, y1, y2, y3, y4, n, hl, by simpa using hf 0 f0 rfl, by simpa using hf 1 f1 rfl, by simpa using hf 2 f2 rfl, by simpa using hf 3 f3 rfl, by simpa using hf 4 f4 rfl⟩
section
variable {H : Type} {enc : TypeId × Value → H} {w : World} {base fuel : Nat} {spare : Nat → Bool} {held : Bool}
theorem gv_cells3 {c0 c1 c2 : Value} {x : DataW H × List MemPlace} (h : DataW.trod enc Tryz.prog w base spare held fuel 45 [c0, c1, c2] = some x) : ∃ p : GV, c0 = .int .i64 p.kind ∧ c1 = .int .i64 p.num ∧ c2 = .string p.text := by
  obtain ⟨y0, y1, y2, n, _, hl, h0, h1, h2⟩ := trod_struct3 Tryz.underlying45 h
  simp only [Tryz.cellsInt, Tryz.cellsInt64, Tryz.cellsString, List.drop_zero, List.drop_succ_cons, List.take_succ_cons, List.take_zero] at h0 h1 h2
  obtain ⟨kind, e2, _, _⟩ := DataW.trod_int Tryz.underlying3 h0
  obtain ⟨num, e3, _, _⟩ := DataW.trod_int Tryz.underlying2 h1
  obtain ⟨text, e4, _, _⟩ := DataW.trod_string Tryz.underlying9 h2
  simp only [List.cons.injEq, and_true] at e2 e3 e4
  exact ⟨⟨kind, num, text⟩, e2, e3, e4⟩
theorem col_cells {c0 c1 c2 c3 c4 c5 c6 : Value} {x : DataW H × List MemPlace} (h : DataW.trod enc Tryz.prog w base spare held fuel 47 [c0, c1, c2, c3, c4, c5, c6] = some x) : ∃ p : CG, c0 = .int .i64 p.id ∧ c1 = .string p.name ∧ c2 = .int .i64 p.kind ∧ c3 = .bool p.must ∧ c4 = .int .i64 p.d.kind ∧ c5 = .int .i64 p.d.num ∧ c6 = .string p.d.text := by
  obtain ⟨y0, y1, y2, y3, y4, n, hl, h0, h1, h2, h3, h4⟩ := trod_struct5 Tryz.underlying47 h
  simp only [Tryz.cellsInt, Tryz.cellsBool, Tryz.cellsString, Tryz.cellsVal, List.drop_zero, List.drop_succ_cons, List.take_succ_cons, List.take_zero] at h0 h1 h2 h3 h4
  obtain ⟨id, e0, _, _⟩ := DataW.trod_int Tryz.underlying3 h0
  obtain ⟨nm, e1, _, _⟩ := DataW.trod_string Tryz.underlying9 h1
  obtain ⟨kd, e2, _, _⟩ := DataW.trod_int Tryz.underlying3 h2
  obtain ⟨mu, e3, _⟩ := DataW.trod_bool Tryz.underlying4 h3
  obtain ⟨d, e4, e5, e6⟩ := gv_cells3 h4
  simp only [List.cons.injEq, and_true] at e0 e1 e2 e3
  exact ⟨⟨id, nm, kd, mu, d⟩, e0, e1, e2, e3, e4, e5, e6⟩
end
end Go.Proofs.YtcpllhjhnfmepaaGreatDoor
