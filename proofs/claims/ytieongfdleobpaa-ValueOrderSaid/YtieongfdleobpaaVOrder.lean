/- millpondkeep.ValueOrder: it answers true. -/
import Derived.Test.YtieongfdleobpaaPrintLaw
import Derived.Deep.DeepCutAuto
import Derived.Test.YtieongfdleobpaaRegion
namespace Go.Proofs.Ytieongfdleobpaa
open Go.RowKit

set_option maxHeartbeats 400000 in
theorem sign_any (n : Int) (h : n = -1 ∨ n = 0 ∨ n = 1) (w : World) : Calls Try.prog 9 #[.int .i64 n] w fun e w' => e = .returned (.int .i64 n) ∧ Ext w w' := by
  rcases h with rfl | rfl | rfl
  all_goals
    go_enter Try.func9, Try.ntmps9
    go_wp2
    go_ret
    exact ⟨rfl, Ext.refl _⟩

theorem print_is {a : GV} {s : ByteArray} (h : printS a.kind a.num a.text = s) (hn : i64 a.num) (hs : a.text.size ≤ 300) (w : World) :
    Calls Try.prog 11 #[.agg #[.int .i64 a.kind, .int .i64 a.num, .string a.text]] w fun e w' => e = .returned (.string s) ∧ Ext w w' := by
  have := print_any a.kind a.num a.text w hn.1 hn.2 (by omega)
  rw [h] at this
  exact this
theorem is_is {a b : GV} {c v : Int} (h : isV c a.kind a.num a.text b.kind b.num b.text = v) (w : World) :
    Calls Try.prog 12 #[.int .i64 c, .agg #[.int .i64 a.kind, .int .i64 a.num, .string a.text], .agg #[.int .i64 b.kind, .int .i64 b.num, .string b.text]] w fun e w' => e = .returned (.int .i64 v) ∧ Ext w w' := by
  have := is_any c a.kind a.num a.text b.kind b.num b.text w
  rw [h] at this
  exact this
theorem eql_val (a b : GV) (t : Bool) (h : t = true ↔ a = b) (w : World) :
    (binOp .eql 23 (.agg #[.int .i64 a.kind, .int .i64 a.num, .string a.text]) (.agg #[.int .i64 b.kind, .int .i64 b.num, .string b.text])).run Try.prog w = .ok (.bool t) w := by
  rw [gv_eq] at h
  by_cases h1 : a.kind = b.kind <;> by_cases h2 : a.num = b.num <;> by_cases h3 : a.text = b.text
  all_goals (cases t <;> simp_all [go_sem, ByteArray.toList_eq, text_eq])
  all_goals exact fun e => h3 (ByteArray.ext e)

theorem compare_is {a b : GV} {m : Int} (h : cmpG a b = m) (w : World) :
    Calls Try.prog 10 #[.agg #[.int .i64 a.kind, .int .i64 a.num, .string a.text], .agg #[.int .i64 b.kind, .int .i64 b.num, .string b.text]] w fun e w' => e = .returned (.int .i64 m) ∧ Ext w w' := by
  have := compare_any a.kind a.num a.text b.kind b.num b.text w
  rw [show cmpV a.kind a.num a.text b.kind b.num b.text = m from h] at this
  exact this

set_option maxRecDepth 100000 in
set_option maxHeartbeats 8000000 in
theorem order_main (a b c : GV) (w : World) (hsum : a.text.size + b.text.size + c.text.size ≤ 300) (ha : okV a = true) (hb : okV b = true) (hc : okV c = true) (ia : i64 a.num) (ib : i64 b.num) :
    Calls Try.prog 3 #[.agg #[.int .i64 a.kind, .int .i64 a.num, .string a.text], .agg #[.int .i64 b.kind, .int .i64 b.num, .string b.text], .agg #[.int .i64 c.kind, .int .i64 c.num, .string c.text]] w
      fun e w' => e = .returned (.bool true) ∧ Ext w w' := by
  have hsum' : (a.text.size : Int) + b.text.size + c.text.size ≤ 300 := by omega
  have hall : [a, b, c].all okV = true := by simp [ha, hb, hc]
  have HALL := Lib.hid hall
  clear hall
  obtain ⟨m, hm⟩ : ∃ m, cmpG a b = m := ⟨_, rfl⟩
  obtain ⟨n, hn⟩ : ∃ n, cmpG b c = n := ⟨_, rfl⟩
  obtain ⟨k, hk⟩ : ∃ k, cmpG a c = k := ⟨_, rfl⟩
  have rm := hm ▸ cmpG_range a b
  have rn := hn ▸ cmpG_range b c
  have rk := hk ▸ cmpG_range a c
  obtain ⟨m', hm'⟩ : ∃ m', cmpG b a = m' := ⟨_, rfl⟩
  have hmm : m = -m' := by have := cmpG_anti b a; omega
  have cba := Lib.hid (compare_is hm')
  have sm' := Lib.hid (sign_any m' (by omega))
  have lm' : -1 ≤ m' := by omega
  have um' : m' ≤ 1 := by omega
  have HMM := Lib.hid hmm
  have HM' := Lib.hid hm'
  clear hm' hmm
  have lm : -1 ≤ m := by omega
  have um : m ≤ 1 := by omega
  obtain ⟨sa, hsa⟩ : ∃ s, printS a.kind a.num a.text = s := ⟨_, rfl⟩
  obtain ⟨sb, hsb⟩ : ∃ s, printS b.kind b.num b.text = s := ⟨_, rfl⟩
  have pa := Lib.hid (print_is hsa ia (by omega))
  have pb := Lib.hid (print_is hsb ib (by omega))
  have hz : m = 0 ↔ a = b := by rw [← hm]; exact cmpG_zero a b
  have hp : sa = sb ↔ a = b := by
    rw [← hsa, ← hsb]
    exact print_inj a b (by simp [okV] at ha; exact ha.2) (by simp [okV] at hb; exact hb.2)
  have t1 : m = n → k = m := fun h => by rw [← hk, ← hm]; exact cmpG_trans a b c (by rw [hm, hn, h])
  have t2 : m = 0 → k = n := fun h => by rw [← hk, ← hn]; exact cmpG_left a b c (by rw [hm, h])
  have HZ := Lib.hid hz
  have HP := Lib.hid hp
  have T1 := Lib.hid t1
  have T2 := Lib.hid t2
  clear hz hp t1 t2 hsa hsb ia ib
  have cab := Lib.hid (compare_is hm)
  have cbc := Lib.hid (compare_is hn)
  have cac := Lib.hid (compare_is hk)
  have sm := Lib.hid (sign_any m rm)
  have sn := Lib.hid (sign_any n rn)
  have sk := Lib.hid (sign_any k rk)
  have RM := Lib.hid rm
  have RN := Lib.hid rn
  have RK := Lib.hid rk
  have HM := Lib.hid hm
  have HN := Lib.hid hn
  have HK := Lib.hid hk
  clear hm hn hk rm rn rk ha hb hc
  have hkeep : ∀ W W' : World, Ext W W' → (W.cell? ⟨w.heap.size, 0, none⟩ = some (.int .i64 a.kind) ∧ W.cell? ⟨w.heap.size, 1, none⟩ = some (.int .i64 a.num) ∧ W.cell? ⟨w.heap.size, 2, none⟩ = some (.string a.text) ∧ W.cell? ⟨w.heap.size + 1, 0, none⟩ = some (.int .i64 b.kind) ∧ W.cell? ⟨w.heap.size + 1, 1, none⟩ = some (.int .i64 b.num) ∧ W.cell? ⟨w.heap.size + 1, 2, none⟩ = some (.string b.text) ∧ W.cell? ⟨w.heap.size + 1 + 1, 0, none⟩ = some (.int .i64 c.kind) ∧ W.cell? ⟨w.heap.size + 1 + 1, 1, none⟩ = some (.int .i64 c.num) ∧ W.cell? ⟨w.heap.size + 1 + 1, 2, none⟩ = some (.string c.text) ∧ Ext w W) → (W'.cell? ⟨w.heap.size, 0, none⟩ = some (.int .i64 a.kind) ∧ W'.cell? ⟨w.heap.size, 1, none⟩ = some (.int .i64 a.num) ∧ W'.cell? ⟨w.heap.size, 2, none⟩ = some (.string a.text) ∧ W'.cell? ⟨w.heap.size + 1, 0, none⟩ = some (.int .i64 b.kind) ∧ W'.cell? ⟨w.heap.size + 1, 1, none⟩ = some (.int .i64 b.num) ∧ W'.cell? ⟨w.heap.size + 1, 2, none⟩ = some (.string b.text) ∧ W'.cell? ⟨w.heap.size + 1 + 1, 0, none⟩ = some (.int .i64 c.kind) ∧ W'.cell? ⟨w.heap.size + 1 + 1, 1, none⟩ = some (.int .i64 c.num) ∧ W'.cell? ⟨w.heap.size + 1 + 1, 2, none⟩ = some (.string c.text) ∧ Ext w W') := by
    rintro W W' hx ⟨A0, A1, A2, B0, B1, B2, C0, C1, C2, hE⟩
    exact ⟨hx.keeps A0, hx.keeps A1, hx.keeps A2, hx.keeps B0, hx.keeps B1, hx.keeps B2, hx.keeps C0, hx.keeps C1, hx.keeps C2, hE.trans hx⟩
  have KEEP' : ∀ W W' : World, (W.cell? ⟨w.heap.size, 0, none⟩ = some (.int .i64 a.kind) ∧ W.cell? ⟨w.heap.size, 1, none⟩ = some (.int .i64 a.num) ∧ W.cell? ⟨w.heap.size, 2, none⟩ = some (.string a.text) ∧ W.cell? ⟨w.heap.size + 1, 0, none⟩ = some (.int .i64 b.kind) ∧ W.cell? ⟨w.heap.size + 1, 1, none⟩ = some (.int .i64 b.num) ∧ W.cell? ⟨w.heap.size + 1, 2, none⟩ = some (.string b.text) ∧ W.cell? ⟨w.heap.size + 1 + 1, 0, none⟩ = some (.int .i64 c.kind) ∧ W.cell? ⟨w.heap.size + 1 + 1, 1, none⟩ = some (.int .i64 c.num) ∧ W.cell? ⟨w.heap.size + 1 + 1, 2, none⟩ = some (.string c.text) ∧ Ext w W) → Ext W W' → (W'.cell? ⟨w.heap.size, 0, none⟩ = some (.int .i64 a.kind) ∧ W'.cell? ⟨w.heap.size, 1, none⟩ = some (.int .i64 a.num) ∧ W'.cell? ⟨w.heap.size, 2, none⟩ = some (.string a.text) ∧ W'.cell? ⟨w.heap.size + 1, 0, none⟩ = some (.int .i64 b.kind) ∧ W'.cell? ⟨w.heap.size + 1, 1, none⟩ = some (.int .i64 b.num) ∧ W'.cell? ⟨w.heap.size + 1, 2, none⟩ = some (.string b.text) ∧ W'.cell? ⟨w.heap.size + 1 + 1, 0, none⟩ = some (.int .i64 c.kind) ∧ W'.cell? ⟨w.heap.size + 1 + 1, 1, none⟩ = some (.int .i64 c.num) ∧ W'.cell? ⟨w.heap.size + 1 + 1, 2, none⟩ = some (.string c.text) ∧ Ext w W') := fun W W' h hx => hkeep W W' hx h
  clear hkeep
  have KEEPH := Lib.hid KEEP'
  clear KEEP'
  go_enter Try.func3, Try.ntmps3
  go_wp2_with (first | (go_at_call 7; refine (ordered_any _).mono ?_; rintro e w1 ⟨rfl, hw1⟩; have A0 := hw1.keeps (p := ⟨w.heap.size, 0, none⟩) (v := .int .i64 a.kind) (by go_simp); have A1 := hw1.keeps (p := ⟨w.heap.size, 1, none⟩) (v := .int .i64 a.num) (by go_simp); have A2 := hw1.keeps (p := ⟨w.heap.size, 2, none⟩) (v := .string a.text) (by go_simp); have B0 := hw1.keeps (p := ⟨w.heap.size + 1, 0, none⟩) (v := .int .i64 b.kind) (by go_simp); have B1 := hw1.keeps (p := ⟨w.heap.size + 1, 1, none⟩) (v := .int .i64 b.num) (by go_simp); have B2 := hw1.keeps (p := ⟨w.heap.size + 1, 2, none⟩) (v := .string b.text) (by go_simp); have C0 := hw1.keeps (p := ⟨w.heap.size + 1 + 1, 0, none⟩) (v := .int .i64 c.kind) (by go_simp); have C1 := hw1.keeps (p := ⟨w.heap.size + 1 + 1, 1, none⟩) (v := .int .i64 c.num) (by go_simp); have C2 := hw1.keeps (p := ⟨w.heap.size + 1 + 1, 2, none⟩) (v := .string c.text) (by go_simp)) | (go_at_call 8; go_must (refine (right_list [a, b, c] _ _ _ (RV.block (heap_alloc_new w1 _) rfl) (by simp)).mono ?_); rw [HALL.out]; rintro e w2 ⟨rfl, hw2⟩; have hw3 := (Ext.refl w1).alloc (.cells (cellsV [a, b, c]).toArray 23) |>.trans hw2; have A0 := hw3.keeps A0; have A1 := hw3.keeps A1; have A2 := hw3.keeps A2; have B0 := hw3.keeps B0; have B1 := hw3.keeps B1; have B2 := hw3.keeps B2; have C0 := hw3.keeps C0; have C1 := hw3.keeps C1; have C2 := hw3.keeps C2))
  have E2 : Ext w w2 := by (repeat (first | exact Ext.refl _ | assumption | refine Ext.drew ?_ | refine Ext.alloc ?_ _ | refine Ext.drewN ?_ _ | refine Ext.trans ?_ (by assumption)))
  refine wp_region_fixed (F := fun w' => w'.cell? ⟨w.heap.size, 0, none⟩ = some (.int .i64 a.kind) ∧ w'.cell? ⟨w.heap.size, 1, none⟩ = some (.int .i64 a.num) ∧ w'.cell? ⟨w.heap.size, 2, none⟩ = some (.string a.text) ∧ w'.cell? ⟨w.heap.size + 1, 0, none⟩ = some (.int .i64 b.kind) ∧ w'.cell? ⟨w.heap.size + 1, 1, none⟩ = some (.int .i64 b.num) ∧ w'.cell? ⟨w.heap.size + 1, 2, none⟩ = some (.string b.text) ∧ w'.cell? ⟨w.heap.size + 1 + 1, 0, none⟩ = some (.int .i64 c.kind) ∧ w'.cell? ⟨w.heap.size + 1 + 1, 1, none⟩ = some (.int .i64 c.num) ∧ w'.cell? ⟨w.heap.size + 1 + 1, 2, none⟩ = some (.string c.text) ∧ Ext w w') (by kernel_rfl) (by kernel_rfl) KEEPH.out ⟨A0, A1, A2, B0, B1, B2, C0, C1, C2, by assumption⟩ ?_
  (repeat (first | (apply Fixed.skip; rfl; try simp only [Act.put, List.setIfInBounds_toArray, List.set_cons_zero, List.set_cons_succ]) | (apply Fixed.val; rfl; (rintro w ⟨A0, A1, A2, B0, B1, B2, C0, C1, C2, _⟩; go_simp; with_reducible rfl); try simp only [Act.put, List.setIfInBounds_toArray, List.set_cons_zero, List.set_cons_succ]) | (apply Fixed.call; rfl; (rintro w ⟨A0, A1, A2, B0, B1, B2, C0, C1, C2, _⟩; go_simp; exact ⟨rfl, rfl⟩); (intro w hF; clear hF; first | (with_reducible exact cab.out w) | (with_reducible exact cbc.out w) | (with_reducible exact cac.out w) | (with_reducible exact sm.out w) | (with_reducible exact sn.out w) | (with_reducible exact sk.out w)); try simp only [Act.put, List.setIfInBounds_toArray, List.set_cons_zero, List.set_cons_succ])))
  refine Fixed.done ?_
  rintro wf hxf ⟨A0, A1, A2, B0, B1, B2, C0, C1, C2, hEf⟩
  go_upto_region 9 with fail
  go_cut [91] (fun s91 wx => s91 = .bool false ∧ wx.cell? ⟨w.heap.size, 0, none⟩ = some (.int .i64 a.kind) ∧ wx.cell? ⟨w.heap.size, 1, none⟩ = some (.int .i64 a.num) ∧ wx.cell? ⟨w.heap.size, 2, none⟩ = some (.string a.text) ∧ wx.cell? ⟨w.heap.size + 1, 0, none⟩ = some (.int .i64 b.kind) ∧ wx.cell? ⟨w.heap.size + 1, 1, none⟩ = some (.int .i64 b.num) ∧ wx.cell? ⟨w.heap.size + 1, 2, none⟩ = some (.string b.text) ∧ wx.cell? ⟨w.heap.size + 1 + 1, 0, none⟩ = some (.int .i64 c.kind) ∧ wx.cell? ⟨w.heap.size + 1 + 1, 1, none⟩ = some (.int .i64 c.num) ∧ wx.cell? ⟨w.heap.size + 1 + 1, 2, none⟩ = some (.string c.text) ∧ Ext w wx)
  case first =>
    have bw : IntKind.i64.wrap (-m') = m := by rw [HMM.out]; exact IntWalk.i64_in _ (by omega)
    have b0 : (m != m) = false := by simp
    by_cases hmn : m = n
    · have b1 : (m == n) = true := by simp [hmn]
      have b2 : (k != m) = false := by simp [T1.out hmn]
      clear hmn
      by_cases hm0 : m = 0
      · have b3 : (m == 0) = true := by simp [hm0]
        have b4 : (k != n) = false := by simp [T2.out hm0]
        have b5 := eql_val a b true (by simp [HZ.out.1 hm0])
        have b6 : (sa.toList == sb.toList) = true := by rw [HP.out.2 (HZ.out.1 hm0)]; simp
        clear hm0
        refine wp_region_fixed (F := fun w' => w'.cell? ⟨w.heap.size, 0, none⟩ = some (.int .i64 a.kind) ∧ w'.cell? ⟨w.heap.size, 1, none⟩ = some (.int .i64 a.num) ∧ w'.cell? ⟨w.heap.size, 2, none⟩ = some (.string a.text) ∧ w'.cell? ⟨w.heap.size + 1, 0, none⟩ = some (.int .i64 b.kind) ∧ w'.cell? ⟨w.heap.size + 1, 1, none⟩ = some (.int .i64 b.num) ∧ w'.cell? ⟨w.heap.size + 1, 2, none⟩ = some (.string b.text) ∧ w'.cell? ⟨w.heap.size + 1 + 1, 0, none⟩ = some (.int .i64 c.kind) ∧ w'.cell? ⟨w.heap.size + 1 + 1, 1, none⟩ = some (.int .i64 c.num) ∧ w'.cell? ⟨w.heap.size + 1 + 1, 2, none⟩ = some (.string c.text) ∧ Ext w w') (by kernel_rfl) (by kernel_rfl) KEEPH.out ⟨A0, A1, A2, B0, B1, B2, C0, C1, C2, by assumption⟩ ?_
        (repeat (first | (apply Fixed.skip; rfl; try simp only [Act.put, List.setIfInBounds_toArray, List.set_cons_zero, List.set_cons_succ]) | (apply Fixed.val; rfl; (rintro w ⟨A0, A1, A2, B0, B1, B2, C0, C1, C2, _⟩; go_simp; with_reducible rfl); try simp only [Act.put, List.setIfInBounds_toArray, List.set_cons_zero, List.set_cons_succ]) | (apply Fixed.call; rfl; (rintro w ⟨A0, A1, A2, B0, B1, B2, C0, C1, C2, _⟩; go_simp; exact ⟨rfl, rfl⟩); (intro w hF; clear hF; first | (with_reducible exact cba.out w) | (with_reducible exact sm'.out w) | (with_reducible exact pa.out w) | (with_reducible exact pb.out w)); try simp only [Act.put, List.setIfInBounds_toArray, List.set_cons_zero, List.set_cons_succ])))
        refine Fixed.done ?_
        rintro wf hxf ⟨A0, A1, A2, B0, B1, B2, C0, C1, C2, hEf⟩
        go_wp2_with fail
        go_meet
        exact ⟨rfl, A0, A1, A2, B0, B1, B2, C0, C1, C2, hEf⟩
      · have hab : ¬ a = b := fun h => hm0 (HZ.out.2 h)
        have b3 : (m == 0) = false := by simp [hm0]
        have b5 := eql_val a b false (by simp [hab])
        have b6 : (sa.toList == sb.toList) = false := by rw [beq_eq_false_iff_ne]; rw [ByteArray.toList_eq, ByteArray.toList_eq]; exact fun h => hab (HP.out.1 ((text_eq _ _).1 h))
        clear hab
        clear hm0
        refine wp_region_fixed (F := fun w' => w'.cell? ⟨w.heap.size, 0, none⟩ = some (.int .i64 a.kind) ∧ w'.cell? ⟨w.heap.size, 1, none⟩ = some (.int .i64 a.num) ∧ w'.cell? ⟨w.heap.size, 2, none⟩ = some (.string a.text) ∧ w'.cell? ⟨w.heap.size + 1, 0, none⟩ = some (.int .i64 b.kind) ∧ w'.cell? ⟨w.heap.size + 1, 1, none⟩ = some (.int .i64 b.num) ∧ w'.cell? ⟨w.heap.size + 1, 2, none⟩ = some (.string b.text) ∧ w'.cell? ⟨w.heap.size + 1 + 1, 0, none⟩ = some (.int .i64 c.kind) ∧ w'.cell? ⟨w.heap.size + 1 + 1, 1, none⟩ = some (.int .i64 c.num) ∧ w'.cell? ⟨w.heap.size + 1 + 1, 2, none⟩ = some (.string c.text) ∧ Ext w w') (by kernel_rfl) (by kernel_rfl) KEEPH.out ⟨A0, A1, A2, B0, B1, B2, C0, C1, C2, by assumption⟩ ?_
        (repeat (first | (apply Fixed.skip; rfl; try simp only [Act.put, List.setIfInBounds_toArray, List.set_cons_zero, List.set_cons_succ]) | (apply Fixed.val; rfl; (rintro w ⟨A0, A1, A2, B0, B1, B2, C0, C1, C2, _⟩; go_simp; with_reducible rfl); try simp only [Act.put, List.setIfInBounds_toArray, List.set_cons_zero, List.set_cons_succ]) | (apply Fixed.call; rfl; (rintro w ⟨A0, A1, A2, B0, B1, B2, C0, C1, C2, _⟩; go_simp; exact ⟨rfl, rfl⟩); (intro w hF; clear hF; first | (with_reducible exact cba.out w) | (with_reducible exact sm'.out w) | (with_reducible exact pa.out w) | (with_reducible exact pb.out w)); try simp only [Act.put, List.setIfInBounds_toArray, List.set_cons_zero, List.set_cons_succ])))
        refine Fixed.done ?_
        rintro wf hxf ⟨A0, A1, A2, B0, B1, B2, C0, C1, C2, hEf⟩
        go_wp2_with fail
        go_meet
        exact ⟨rfl, A0, A1, A2, B0, B1, B2, C0, C1, C2, hEf⟩
    · have b1 : (m == n) = false := by simp [hmn]
      clear hmn
      by_cases hm0 : m = 0
      · have b3 : (m == 0) = true := by simp [hm0]
        have b4 : (k != n) = false := by simp [T2.out hm0]
        have b5 := eql_val a b true (by simp [HZ.out.1 hm0])
        have b6 : (sa.toList == sb.toList) = true := by rw [HP.out.2 (HZ.out.1 hm0)]; simp
        clear hm0
        refine wp_region_fixed (F := fun w' => w'.cell? ⟨w.heap.size, 0, none⟩ = some (.int .i64 a.kind) ∧ w'.cell? ⟨w.heap.size, 1, none⟩ = some (.int .i64 a.num) ∧ w'.cell? ⟨w.heap.size, 2, none⟩ = some (.string a.text) ∧ w'.cell? ⟨w.heap.size + 1, 0, none⟩ = some (.int .i64 b.kind) ∧ w'.cell? ⟨w.heap.size + 1, 1, none⟩ = some (.int .i64 b.num) ∧ w'.cell? ⟨w.heap.size + 1, 2, none⟩ = some (.string b.text) ∧ w'.cell? ⟨w.heap.size + 1 + 1, 0, none⟩ = some (.int .i64 c.kind) ∧ w'.cell? ⟨w.heap.size + 1 + 1, 1, none⟩ = some (.int .i64 c.num) ∧ w'.cell? ⟨w.heap.size + 1 + 1, 2, none⟩ = some (.string c.text) ∧ Ext w w') (by kernel_rfl) (by kernel_rfl) KEEPH.out ⟨A0, A1, A2, B0, B1, B2, C0, C1, C2, by assumption⟩ ?_
        (repeat (first | (apply Fixed.skip; rfl; try simp only [Act.put, List.setIfInBounds_toArray, List.set_cons_zero, List.set_cons_succ]) | (apply Fixed.val; rfl; (rintro w ⟨A0, A1, A2, B0, B1, B2, C0, C1, C2, _⟩; go_simp; with_reducible rfl); try simp only [Act.put, List.setIfInBounds_toArray, List.set_cons_zero, List.set_cons_succ]) | (apply Fixed.call; rfl; (rintro w ⟨A0, A1, A2, B0, B1, B2, C0, C1, C2, _⟩; go_simp; exact ⟨rfl, rfl⟩); (intro w hF; clear hF; first | (with_reducible exact cba.out w) | (with_reducible exact sm'.out w) | (with_reducible exact pa.out w) | (with_reducible exact pb.out w)); try simp only [Act.put, List.setIfInBounds_toArray, List.set_cons_zero, List.set_cons_succ])))
        refine Fixed.done ?_
        rintro wf hxf ⟨A0, A1, A2, B0, B1, B2, C0, C1, C2, hEf⟩
        go_wp2_with fail
        go_meet
        exact ⟨rfl, A0, A1, A2, B0, B1, B2, C0, C1, C2, hEf⟩
      · have hab : ¬ a = b := fun h => hm0 (HZ.out.2 h)
        have b3 : (m == 0) = false := by simp [hm0]
        have b5 := eql_val a b false (by simp [hab])
        have b6 : (sa.toList == sb.toList) = false := by rw [beq_eq_false_iff_ne]; rw [ByteArray.toList_eq, ByteArray.toList_eq]; exact fun h => hab (HP.out.1 ((text_eq _ _).1 h))
        clear hab
        clear hm0
        refine wp_region_fixed (F := fun w' => w'.cell? ⟨w.heap.size, 0, none⟩ = some (.int .i64 a.kind) ∧ w'.cell? ⟨w.heap.size, 1, none⟩ = some (.int .i64 a.num) ∧ w'.cell? ⟨w.heap.size, 2, none⟩ = some (.string a.text) ∧ w'.cell? ⟨w.heap.size + 1, 0, none⟩ = some (.int .i64 b.kind) ∧ w'.cell? ⟨w.heap.size + 1, 1, none⟩ = some (.int .i64 b.num) ∧ w'.cell? ⟨w.heap.size + 1, 2, none⟩ = some (.string b.text) ∧ w'.cell? ⟨w.heap.size + 1 + 1, 0, none⟩ = some (.int .i64 c.kind) ∧ w'.cell? ⟨w.heap.size + 1 + 1, 1, none⟩ = some (.int .i64 c.num) ∧ w'.cell? ⟨w.heap.size + 1 + 1, 2, none⟩ = some (.string c.text) ∧ Ext w w') (by kernel_rfl) (by kernel_rfl) KEEPH.out ⟨A0, A1, A2, B0, B1, B2, C0, C1, C2, by assumption⟩ ?_
        (repeat (first | (apply Fixed.skip; rfl; try simp only [Act.put, List.setIfInBounds_toArray, List.set_cons_zero, List.set_cons_succ]) | (apply Fixed.val; rfl; (rintro w ⟨A0, A1, A2, B0, B1, B2, C0, C1, C2, _⟩; go_simp; with_reducible rfl); try simp only [Act.put, List.setIfInBounds_toArray, List.set_cons_zero, List.set_cons_succ]) | (apply Fixed.call; rfl; (rintro w ⟨A0, A1, A2, B0, B1, B2, C0, C1, C2, _⟩; go_simp; exact ⟨rfl, rfl⟩); (intro w hF; clear hF; first | (with_reducible exact cba.out w) | (with_reducible exact sm'.out w) | (with_reducible exact pa.out w) | (with_reducible exact pb.out w)); try simp only [Act.put, List.setIfInBounds_toArray, List.set_cons_zero, List.set_cons_succ])))
        refine Fixed.done ?_
        rintro wf hxf ⟨A0, A1, A2, B0, B1, B2, C0, C1, C2, hEf⟩
        go_wp2_with fail
        go_meet
        exact ⟨rfl, A0, A1, A2, B0, B1, B2, C0, C1, C2, hEf⟩
  case rest =>
    obtain ⟨rfl, A0, A1, A2, B0, B1, B2, C0, C1, C2, hE⟩ := hcut
    by_cases hk : a.kind = b.kind
    · by_cases h0 : a.kind = 0
      · have c1 : (a.kind != b.kind) = false := by simp [hk]
        have c2 : (a.kind == 0) = true := by simp [h0]
        have i1 := Lib.hid (is_is (show isV 1 a.kind a.num a.text b.kind b.num b.text = -1 by simp [isV, h0]))
        have i2 := Lib.hid (is_is (show isV 2 a.kind a.num a.text b.kind b.num b.text = -1 by simp [isV, h0]))
        clear hk h0
        go_wp2_with (go_at_call 12; (first | (with_reducible refine (i1.out _).mono ?_) | (with_reducible refine (i2.out _).mono ?_)); rintro e w' ⟨rfl, hx⟩; have A0 := hx.keeps A0; have A1 := hx.keeps A1; have A2 := hx.keeps A2; have B0 := hx.keeps B0; have B1 := hx.keeps B1; have B2 := hx.keeps B2; have C0 := hx.keeps C0; have C1 := hx.keeps C1; have C2 := hx.keeps C2; have hE := hE.trans hx)
        go_ret
        exact ⟨rfl, by assumption⟩
      · have c1 : (a.kind != b.kind) = false := by simp [hk]
        have c2 : (a.kind == 0) = false := by simp [h0]
        have is_val : ∀ c, isV c a.kind a.num a.text b.kind b.num b.text = isCode c m := fun c => by
          rw [← HM.out]; unfold isV cmpG; rw [if_neg (by rintro (h | h); exact h0 h; exact h hk)]
        have is_val' : ∀ c, isV c b.kind b.num b.text a.kind a.num a.text = isCode c m' := fun c => by
          rw [← HM'.out]; unfold isV cmpG; rw [if_neg (by rintro (h | h); exact h0 (hk.trans h); exact h hk.symm)]
        have lV : ∀ c, 0 ≤ isCode c m ∧ isCode c m ≤ 1 := fun c => by unfold isCode; split <;> omega
        have s1 : isCode 3 m + isCode 1 m + isCode 5 m = 1 := by rcases RM.out with h | h | h <;> rw [h] <;> decide
        have s2 : isCode 4 m = 1 - isCode 5 m := by rcases RM.out with h | h | h <;> rw [h] <;> decide
        have s3 : isCode 2 m = 1 - isCode 1 m := by rcases RM.out with h | h | h <;> rw [h] <;> decide
        have s4 : isCode 6 m = isCode 4 m' := by
          rcases RM.out with h | h | h <;> rw [show m' = -m by have := HMM.out; omega, h] <;> decide
        have i1 := Lib.hid (is_is (is_val 1))
        have i2 := Lib.hid (is_is (is_val 2))
        have i3 := Lib.hid (is_is (is_val 3))
        have i4 := Lib.hid (is_is (is_val 4))
        have i5 := Lib.hid (is_is (is_val 5))
        have i6 := Lib.hid (is_is (is_val 6))
        have u4 := Lib.hid (is_is ((is_val' 4).trans s4.symm))
        have l1 := lV 1
        have l3 := lV 3
        have l5 := lV 5
        generalize isCode 1 m = v1 at *
        generalize isCode 2 m = v2 at *
        generalize isCode 3 m = v3 at *
        generalize isCode 4 m = v4 at *
        generalize isCode 5 m = v5 at *
        generalize isCode 6 m = v6 at *
        have d1 : IntKind.i64.wrap (v3 + v1) = v3 + v1 := IntWalk.i64_in _ (by omega)
        have d2 : IntKind.i64.wrap (v3 + v1 + v5) = 1 := by rw [s1]; rfl
        have d3 : IntKind.i64.wrap (1 - v5) = v4 := by rw [s2]; exact IntWalk.i64_in _ (by omega)
        have d4 : IntKind.i64.wrap (1 - v1) = v2 := by rw [s3]; exact IntWalk.i64_in _ (by omega)
        clear is_val is_val' lV s1 s2 s3 s4 hk h0 l1 l3 l5
        go_wp2_with fail
        refine wp_region_fixed (F := fun w' => w'.cell? ⟨w.heap.size, 0, none⟩ = some (.int .i64 a.kind) ∧ w'.cell? ⟨w.heap.size, 1, none⟩ = some (.int .i64 a.num) ∧ w'.cell? ⟨w.heap.size, 2, none⟩ = some (.string a.text) ∧ w'.cell? ⟨w.heap.size + 1, 0, none⟩ = some (.int .i64 b.kind) ∧ w'.cell? ⟨w.heap.size + 1, 1, none⟩ = some (.int .i64 b.num) ∧ w'.cell? ⟨w.heap.size + 1, 2, none⟩ = some (.string b.text) ∧ w'.cell? ⟨w.heap.size + 1 + 1, 0, none⟩ = some (.int .i64 c.kind) ∧ w'.cell? ⟨w.heap.size + 1 + 1, 1, none⟩ = some (.int .i64 c.num) ∧ w'.cell? ⟨w.heap.size + 1 + 1, 2, none⟩ = some (.string c.text) ∧ Ext w w') (by kernel_rfl) (by kernel_rfl) KEEPH.out ⟨A0, A1, A2, B0, B1, B2, C0, C1, C2, by assumption⟩ ?_
        (repeat (first | (apply Fixed.skip; rfl; try simp only [Act.put, List.setIfInBounds_toArray, List.set_cons_zero, List.set_cons_succ]) | (apply Fixed.val; rfl; (rintro w ⟨A0, A1, A2, B0, B1, B2, C0, C1, C2, _⟩; go_simp; with_reducible rfl); try simp only [Act.put, List.setIfInBounds_toArray, List.set_cons_zero, List.set_cons_succ]) | (apply Fixed.call; rfl; (rintro w ⟨A0, A1, A2, B0, B1, B2, C0, C1, C2, _⟩; go_simp; exact ⟨rfl, rfl⟩); (intro w hF; clear hF; first | (with_reducible exact i1.out w) | (with_reducible exact i2.out w) | (with_reducible exact i3.out w) | (with_reducible exact i4.out w) | (with_reducible exact i5.out w) | (with_reducible exact i6.out w) | (with_reducible exact u4.out w)); try simp only [Act.put, List.setIfInBounds_toArray, List.set_cons_zero, List.set_cons_succ])))
        refine Fixed.done ?_
        rintro wf hxf ⟨A0, A1, A2, B0, B1, B2, C0, C1, C2, hEf⟩
        go_wp2
        go_ret
        refine ⟨rfl, ?_⟩
        (repeat (first | exact Ext.refl _ | assumption | refine Ext.drew ?_ | refine Ext.alloc ?_ _ | refine Ext.drewN ?_ _ | refine Ext.trans ?_ (by assumption)))
    · have c1 : (a.kind != b.kind) = true := by simp [hk]
      have i1 := Lib.hid (is_is (show isV 1 a.kind a.num a.text b.kind b.num b.text = -1 by simp [isV, hk]))
      have i2 := Lib.hid (is_is (show isV 2 a.kind a.num a.text b.kind b.num b.text = -1 by simp [isV, hk]))
      clear hk
      go_wp2_with (go_at_call 12; (first | (with_reducible refine (i1.out _).mono ?_) | (with_reducible refine (i2.out _).mono ?_)); rintro e w' ⟨rfl, hx⟩; have A0 := hx.keeps A0; have A1 := hx.keeps A1; have A2 := hx.keeps A2; have B0 := hx.keeps B0; have B1 := hx.keeps B1; have B2 := hx.keeps B2; have C0 := hx.keeps C0; have C1 := hx.keeps C1; have C2 := hx.keeps C2; have hE := hE.trans hx)
      go_ret
      exact ⟨rfl, by assumption⟩
end Go.Proofs.Ytieongfdleobpaa
