/- slices.SortStableFunc at rows: insertionSort. -/
import Derived.Test.YtlaldfkeaalnhaaGreatDoorQA17
namespace Go.Proofs.YtlaldfkeaalnhaaGreatDoor
set_option linter.unusedSimpArgs false
set_option linter.unusedVariables false
open Go.RowKit
set_option linter.all false
/-- the function that is handed over tells how rows stand, and leaves all as it was -/
def SortC (B : Nat) (w0 : World) (g n cap : Nat) (L : List Item) (fid : Nat) (cb : Array Value) (cf : List GV → List GV → Int) (xs0 : List Mx) : Prop :=
  ∀ (xs : List Mx) (W : World), (∀ x ∈ xs, x ∈ xs0) → xs.length = n → Hp B w0 W (rowsI g n cap xs :: L) → ∀ x ∈ xs0, ∀ y ∈ xs0, Calls Tryz.prog fid (#[hdV x, hdV y] ++ cb) W fun e w' => e = .returned (.int .i64 (cf x.2.2 y.2.2)) ∧ Ext W w'
def ltM (cf : List GV → List GV → Int) (x y : Mx) : Bool := decide (cf x.2.2 y.2.2 < 0)
theorem getD_of {xs : List Mx} {i : Nat} {x : Mx} (h : xs[i]? = some x) : xs.getD i mx0 = x := by rw [List.getD_eq_getElem?_getD, h]; rfl
theorem swpL_sub {xs xs0 : List Mx} (hm : ∀ x ∈ xs, x ∈ xs0) {i j : Nat} (hi : i < xs.length) (hj : j < xs.length) : ∀ x ∈ swpL mx0 xs i j, x ∈ xs0 := fun x hx => hm x (swpL_mem mx0 hi hj hx)
set_option maxRecDepth 100000 in
set_option maxHeartbeats 8000000 in
theorem insertion_any {B : Nat} {w0 w : World} {L : List Item} {g n cap : Nat} (xs xs0 : List Mx) (a b : Nat) (fid : Nat) (cb : Array Value) (cf : List GV → List GV → Int) (hm : ∀ x ∈ xs, x ∈ xs0) (hn : xs.length = n) (hn2 : n ≤ 1000) (hc : n ≤ cap) (hb : b ≤ n) (hab : a ≤ b)
    (eg : ∀ args w, (callFunc fid args).run Tryz.prog w = .ok (.enter fid args) w) (hcf : SortC B w0 g n cap L fid cb cf xs0) (hS : Hp B w0 w (rowsI g n cap xs :: L)) :
    Calls Tryz.prog 93 #[.slice (some ⟨g, 0, none⟩) n cap, .int .i64 a, .int .i64 b, .func (.func fid) #[] cb] w fun e w' => e = .returned (.tuple #[]) ∧ Hp B w0 w' (rowsI g n cap (insOut mx0 (ltM cf) a (b - a - 1) (a + 1) xs) :: L) ∧ ∀ x ∈ insOut mx0 (ltM cf) a (b - a - 1) (a + 1) xs, x ∈ xs0 := by
  obtain ⟨R, hR0⟩ : ∃ R, R = insOut mx0 (ltM cf) a (b - a - 1) (a + 1) xs := ⟨_, rfl⟩
  rw [← hR0]
  have HN := Lib.hid hn
  have HM := Lib.hid hm
  have HR0 := Lib.hid hR0.symm
  have HCF := Lib.hid hcf
  have hw1 : IntKind.i64.wrap ((a : Int) + 1) = ((a + 1 : Nat) : Int) := by rw [IntWalk.i64_in _ (by omega)]; push_cast; rfl
  clear hR0 hn hm hcf
  have hF : True := trivial
  have hR := Reads.nil w
  go_enter Tryz.func93, Tryz.ntmps93
  go_wp2
  go_loopw [8, 9] (fun s8 _ wr => ∃ (i : Nat) (ys : List Mx), s8 = .int .i64 i ∧ a + 1 ≤ i ∧ i ≤ b + 1 ∧ Hid (ys.length = n) ∧ Hid (∀ x ∈ ys, x ∈ xs0) ∧ Hid (insOut mx0 (ltM cf) a (b - i) i ys = R) ∧ Hp B w0 wr (rowsI g n cap ys :: L)) (fun s8 _ _ => b + 2 - (intOf s8).toNat)
  case atStart => exact ⟨a + 1, xs, rfl, Nat.le_refl _, by omega, HN, HM, by rw [← Nat.sub_sub] at *; exact HR0, hS⟩
  case round =>
    clear hS HR0 HN HM hw1
    obtain ⟨i, ys, rfl, hi, hib, HYL, HYM, HRR, hS⟩ := hrel
    by_cases hlt : i < b
    · obtain ⟨k, hk⟩ : ∃ k, b - i = k + 1 := ⟨b - i - 1, by omega⟩
      have hRR := HRR.out
      rw [hk, insOut] at hRR
      have hk2 : k = b - (i + 1) := by omega
      rw [hk2] at hRR
      have HR1 := Lib.hid hRR
      have hin : i < n := by omega
      clear hRR HRR hk hk2
      go_wp2
      go_loopw [9] (fun s9 wr => ∃ (j : Nat) (zs : List Mx), s9 = .int .i64 j ∧ a ≤ j ∧ j ≤ i ∧ Hid (zs.length = n) ∧ Hid (∀ x ∈ zs, x ∈ xs0) ∧ Hid (insOut mx0 (ltM cf) a (b - (i + 1)) (i + 1) (insIn mx0 (ltM cf) a j zs) = R) ∧ Hp B w0 wr (rowsI g n cap zs :: L)) (fun s9 _ => (intOf s9).toNat)
      case atStart => exact ⟨i, ys, rfl, by omega, Nat.le_refl _, HYL, HYM, HR1, hS⟩
      case round =>
        clear hS HR1 HYL HYM
        obtain ⟨j, zs, rfl, hja, hji, HZL, HZM, HRR, hS⟩ := hrel
        have hRR := HRR.out
        clear HRR
        by_cases hj : a < j
        · obtain ⟨q, hq⟩ : ∃ q, j = q + 1 := ⟨j - 1, by omega⟩
          obtain ⟨x, hx⟩ : ∃ x, zs[j]? = some x := ⟨_, List.getElem?_eq_getElem (by rw [HZL.out]; omega)⟩
          obtain ⟨y, hy⟩ : ∃ y, zs[q]? = some y := ⟨_, List.getElem?_eq_getElem (by rw [HZL.out]; omega)⟩
          have HCX := Lib.hid (fun (W : World) (h : Hp B w0 W (rowsI g n cap zs :: L)) => HCF.out zs W HZM.out HZL.out h x (HZM.out x (List.mem_of_getElem? hx)) y (HZM.out y (List.mem_of_getElem? hy)))
          have HC1 := Lib.hid (fun (W : World) (h : Hp B w0 W (rowsI g n cap zs :: L)) => rows_cell h hx (by omega) hc)
          have HC2 := Lib.hid (fun (W : World) (h : Hp B w0 W (rowsI g n cap zs :: L)) => rows_cell h hy (by omega) hc)
          have HT := Lib.hid (swp_hd _ hx hy)
          have hqn : q < n := by omega
          have hjn : j < n := by omega
          have hne : j ≠ q := by omega
          have hne' : q ≠ j := by omega
          have hgt : (a : Int) < (j : Int) := by omega
          have hgd : decide ((a : Int) < (j : Int)) = true := decide_eq_true hgt
          have hw2 : IntKind.i64.wrap ((j : Int) - 1) = (q : Int) := by rw [IntWalk.i64_in _ (by omega)]; omega
          rw [hq, insIn, ← hq, getD_of hx, getD_of hy] at hRR
          have HQ := Lib.hid hq
          obtain ⟨cv, hcv⟩ : ∃ cv, cv = cf x.2.2 y.2.2 := ⟨_, rfl⟩
          have hlm : ltM cf x y = decide (cv < 0) := by rw [hcv]; rfl
          rw [hlm] at hRR
          rw [← hcv] at HCX
          have hjn2 : j < zs.length := by rw [HZL.out]; exact hjn
          have hqn2 : q < zs.length := by rw [HZL.out]; exact hqn
          have HZ2 := Lib.hid (swpL_sub HZM.out hjn2 hqn2)
          have HZL2 := Lib.hid (show (swpL mx0 zs j q).length = n by rw [swpL_len, HZL.out])
          clear hcv hlm hx hy hq hjn2 hqn2
          by_cases hc0 : cv < 0
          · have hcd : decide (cv < 0) = true := decide_eq_true hc0
            rw [if_pos ⟨hj, hcd⟩] at hRR
            have HR2 := Lib.hid hRR
            clear hRR
            go_wp2
            ((with_reducible refine wp_region_hp (draw := true) (by kernel_rfl) (by kernel_rfl) hS ?_); (repeat ((with_reducible refine Fixed.here ?_); (first | ((with_reducible apply Fixed.skip); (first | rfl | exact wanted_false rfl rfl rfl (by assumption)); try simp only [Act.put, List.setIfInBounds_toArray, List.set_cons_zero, List.set_cons_succ]) | ((with_reducible apply Fixed.val); (first | rfl | exact wanted_true rfl rfl rfl (by assumption)); (rintro w hS; obtain ⟨e1, e2⟩ := HC1.out _ hS; obtain ⟨e3, e4⟩ := HC2.out _ hS; go_simp; with_reducible rfl); try simp only [Act.put, List.setIfInBounds_toArray, List.set_cons_zero, List.set_cons_succ]) | ((with_reducible apply Fixed.call); (first | rfl | exact wanted_true rfl rfl rfl (by assumption)); (rintro w hS; obtain ⟨e1, e2⟩ := HC1.out _ hS; obtain ⟨e3, e4⟩ := HC2.out _ hS; go_simp; exact ⟨rfl, rfl⟩); (rintro w hS; first | (with_reducible exact HCX.out _ hS)); try simp only [Act.put, List.setIfInBounds_toArray, List.set_cons_zero, List.set_cons_succ])))); (with_reducible refine Fixed.done ?_); (try clear hF); clear hS; intro wk hS; obtain ⟨e1, e2⟩ := HC1.out _ hS; obtain ⟨e3, e4⟩ := HC2.out _ hS)
            go_wp2
            have HS2 := Lib.hid (show Hp B w0 ((wk.drew.setCell ⟨g, j, none⟩ (hdV y)).setCell ⟨g, q, none⟩ (hdV x)) (rowsI g n cap (swpL mx0 zs j q) :: L) from by
              have h := (hS.drew.putRow j (hdV y)).putRow q (hdV x)
              rw [HT.out] at h
              exact h)
            clear hS HT HC1 HC2 HCX
            go_region
            go_wp2
            go_roundw
            case rel => exact ⟨q, _, by go_num, by have := HQ.out; omega, by have := HQ.out; omega, HZL2, HZ2, HR2, HS2.out⟩
            case measure => have := HQ.out; simp [intOf]; omega
          · have hcd : decide (cv < 0) = false := decide_eq_false hc0
            rw [if_neg (by rw [hcd]; simp)] at hRR
            have HR2 := Lib.hid hRR
            clear hRR
            go_wp2
            ((with_reducible refine wp_region_hp (draw := true) (by kernel_rfl) (by kernel_rfl) hS ?_); (repeat ((with_reducible refine Fixed.here ?_); (first | ((with_reducible apply Fixed.skip); (first | rfl | exact wanted_false rfl rfl rfl (by assumption)); try simp only [Act.put, List.setIfInBounds_toArray, List.set_cons_zero, List.set_cons_succ]) | ((with_reducible apply Fixed.val); (first | rfl | exact wanted_true rfl rfl rfl (by assumption)); (rintro w hS; obtain ⟨e1, e2⟩ := HC1.out _ hS; obtain ⟨e3, e4⟩ := HC2.out _ hS; go_simp; with_reducible rfl); try simp only [Act.put, List.setIfInBounds_toArray, List.set_cons_zero, List.set_cons_succ]) | ((with_reducible apply Fixed.call); (first | rfl | exact wanted_true rfl rfl rfl (by assumption)); (rintro w hS; obtain ⟨e1, e2⟩ := HC1.out _ hS; obtain ⟨e3, e4⟩ := HC2.out _ hS; go_simp; exact ⟨rfl, rfl⟩); (rintro w hS; first | (with_reducible exact HCX.out _ hS)); try simp only [Act.put, List.setIfInBounds_toArray, List.set_cons_zero, List.set_cons_succ])))); (with_reducible refine Fixed.done ?_); (try clear hF); clear hS; intro wk hS; obtain ⟨e1, e2⟩ := HC1.out _ hS; obtain ⟨e3, e4⟩ := HC2.out _ hS)
            go_wp2
            go_roundw
            case rel => exact ⟨i + 1, zs, by go_num, by omega, by omega, HZL, HZM, HR2, hS⟩
            case measure => simp [intOf]; omega
        · obtain rfl : j = a := by omega
          have hgd : decide ((j : Int) < (j : Int)) = false := by simp
          have HR2 := Lib.hid (show insOut mx0 (ltM cf) j (b - (i + 1)) (i + 1) zs = R from by
            rw [← hRR]
            congr 1
            cases j with
            | zero => rfl
            | succ k => rw [insIn, if_neg (by omega)])
          clear hRR
          go_wp2
          ((with_reducible refine wp_region_hp (draw := true) (by kernel_rfl) (by kernel_rfl) hS ?_); (repeat ((with_reducible refine Fixed.here ?_); (first | ((with_reducible apply Fixed.skip); (first | rfl | exact wanted_false rfl rfl rfl (by assumption)); try simp only [Act.put, List.setIfInBounds_toArray, List.set_cons_zero, List.set_cons_succ]) | ((with_reducible apply Fixed.val); (first | rfl | exact wanted_true rfl rfl rfl (by assumption)); (rintro w hS; skip; go_simp; with_reducible rfl); try simp only [Act.put, List.setIfInBounds_toArray, List.set_cons_zero, List.set_cons_succ])))); (with_reducible refine Fixed.done ?_); (try clear hF); clear hS; intro wk hS; skip)
          go_wp2
          go_roundw
          case rel => exact ⟨i + 1, zs, by go_num, by omega, by omega, HZL, HZM, HR2, hS⟩
          case measure => simp [intOf]; omega
    · have hlt2 : ¬ ((i : Int) < (b : Int)) := by omega
      have hRR := HRR.out
      rw [show b - i = 0 by omega, insOut] at hRR
      go_wp2
      go_end0
      subst hRR
      exact ⟨rfl, hS, fun _ _ _ h => HYM.out _ h⟩
end Go.Proofs.YtlaldfkeaalnhaaGreatDoor
