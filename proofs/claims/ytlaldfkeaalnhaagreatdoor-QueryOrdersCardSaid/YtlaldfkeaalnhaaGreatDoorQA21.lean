/- slices.SortStableFunc at rows: symMerge, one at the left. -/
import Derived.Test.YtlaldfkeaalnhaaGreatDoorQA20
import Derived.Test.YtlaldfkeaalnhaaGreatDoorQA01
namespace Go.Proofs.YtlaldfkeaalnhaaGreatDoor
set_option linter.unusedSimpArgs false
set_option linter.unusedVariables false
open Go.RowKit
set_option linter.all false
theorem bsL_end (p : Nat → Bool) {f i j : Nat} (h : ¬ i < j) : bsL p f i j = i := by cases f <;> simp [bsL, h]
/-- the two rows that are looked at -/
theorem sort_at {B : Nat} {w0 : World} {L : List Item} {g n cap fid : Nat} {cb : Array Value} {cf : List GV → List GV → Int} {xs0 zs : List Mx} (HCF : SortC B w0 g n cap L fid cb cf xs0) (hm : ∀ x ∈ zs, x ∈ xs0) (hl : zs.length = n) (hc : n ≤ cap) {i j : Nat} (hi : i < n) (hj : j < n) :
    ∃ x y : Mx, zs.getD i mx0 = x ∧ zs.getD j mx0 = y ∧ zs[i]? = some x ∧ zs[j]? = some y ∧
      (∀ W, Hp B w0 W (rowsI g n cap zs :: L) → Calls Tryz.prog fid (#[hdV x, hdV y] ++ cb) W fun e w' => e = .returned (.int .i64 (cf x.2.2 y.2.2)) ∧ Ext W w') ∧
      (∀ W, Hp B w0 W (rowsI g n cap zs :: L) → W.cell? ⟨g, i, none⟩ = some (hdV x) ∧ W.frozen? ⟨g, i, none⟩ = false) ∧
      (∀ W, Hp B w0 W (rowsI g n cap zs :: L) → W.cell? ⟨g, j, none⟩ = some (hdV y) ∧ W.frozen? ⟨g, j, none⟩ = false) := by
  obtain ⟨x, hx⟩ : ∃ x, zs[i]? = some x := ⟨_, List.getElem?_eq_getElem (by omega)⟩
  obtain ⟨y, hy⟩ : ∃ y, zs[j]? = some y := ⟨_, List.getElem?_eq_getElem (by omega)⟩
  exact ⟨x, y, getD_of hx, getD_of hy, hx, hy, fun W h => HCF zs W hm hl h x (hm x (List.mem_of_getElem? hx)) y (hm y (List.mem_of_getElem? hy)), fun W h => rows_cell h hx hi hc, fun W h => rows_cell h hy hj hc⟩
set_option maxRecDepth 100000 in
set_option maxHeartbeats 8000000 in
theorem sym_one {B : Nat} {w0 w : World} {L : List Item} {g n cap : Nat} (f : Nat) (xs xs0 : List Mx) (a m b : Nat) (fid : Nat) (cb : Array Value) (cf : List GV → List GV → Int) (hm : ∀ x ∈ xs, x ∈ xs0) (hn : xs.length = n) (hn2 : n ≤ 1000) (hc : n ≤ cap) (ham : a + 1 = m) (hmb : m < b) (hb : b ≤ n)
    (eg : ∀ args w, (callFunc fid args).run Tryz.prog w = .ok (.enter fid args) w) (hcf : SortC B w0 g n cap L fid cb cf xs0) (hS : Hp B w0 w (rowsI g n cap xs :: L)) :
    Calls Tryz.prog 111 #[.slice (some ⟨g, 0, none⟩) n cap, .int .i64 a, .int .i64 m, .int .i64 b, .func (.func fid) #[] cb] w fun e w' => e = .returned (.tuple #[]) ∧ Hp B w0 w' (rowsI g n cap (symL mx0 (ltM cf) (f + 1) xs a m b) :: L) := by
  rw [symL, if_pos (by omega)]
  obtain ⟨p, hp⟩ : ∃ p : Nat → Bool, p = fun h => ltM cf (xs.getD h mx0) (xs.getD a mx0) := ⟨_, rfl⟩
  rw [← hp]
  have HP := Lib.hid (fun h : Nat => congrFun hp h)
  clear hp
  obtain ⟨K, hK0⟩ : ∃ K, K = bsL p (b + 1) m b := ⟨_, rfl⟩
  have hKb : m ≤ K ∧ K ≤ b := by rw [hK0]; exact bsL_in _ _ _ _ (by omega)
  rw [← hK0]
  have HN := Lib.hid hn
  have HM := Lib.hid hm
  have HK0 := Lib.hid hK0.symm
  have HCF := Lib.hid hcf
  have hw1 : IntKind.i64.wrap ((m : Int) - (a : Int)) = 1 := by rw [IntWalk.i64_in _ (by omega)]; omega
  have HAM := Lib.hid ham
  have han : a < n := by omega
  clear hK0 hn hm hcf ham
  have hF : True := trivial
  have hR := Reads.nil w
  go_enter Tryz.func111, Tryz.ntmps111
  go_wp2
  go_loopw [10, 11] (fun s10 s11 wr => ∃ (i j f : Nat), s10 = .int .i64 i ∧ s11 = .int .i64 j ∧ m ≤ i ∧ i ≤ j ∧ j ≤ b ∧ Hid (j - i < f) ∧ Hid (bsL p f i j = K) ∧ Hp B w0 wr (rowsI g n cap xs :: L)) (fun s10 s11 _ => (intOf s11).toNat - (intOf s10).toNat)
  case atStart => exact ⟨m, b, b + 1, rfl, rfl, by omega, by omega, by omega, Lib.hid (by omega), HK0, hS⟩
  case round =>
    clear hS HK0
    obtain ⟨i, j, q, rfl, rfl, hmi, hij, hjb, HQ, HK0, hS⟩ := hrel
    by_cases hlt : i < j
    · obtain ⟨q, rfl⟩ : ∃ q2, q = q2 + 1 := ⟨q - 1, by have := HQ.out; omega⟩
      obtain ⟨h, hh⟩ : ∃ h, h = (i + j) / 2 := ⟨_, rfl⟩
      have hhn : h < n := by omega
      have hK0 := HK0.out
      rw [bsL, if_pos hlt, ← hh] at hK0
      obtain ⟨x, y, ex, ey, hx, hy, HC, HC1, HC2⟩ := sort_at HCF.out HM.out HN.out hc hhn han
      have HC := Lib.hid HC
      have HC1 := Lib.hid HC1
      have HC2 := Lib.hid HC2
      obtain ⟨cv, hcv⟩ : ∃ cv, cv = cf x.2.2 y.2.2 := ⟨_, rfl⟩
      have hlm : ltM cf x y = decide (cv < 0) := by rw [hcv]; rfl
      rw [HP.out h, ex, ey, hlm] at hK0
      rw [← hcv] at HC
      have hws : IntKind.i64.wrap ((i : Int) + (j : Int)) = (i : Int) + (j : Int) := IntWalk.i64_in _ (by omega)
      have hh2 : ((i : Int) + (j : Int)) / 2 = (h : Int) := by omega
      have hw3 : IntKind.i64.wrap ((h : Int) + 1) = ((h + 1 : Nat) : Int) := by rw [IntWalk.i64_in _ (by omega)]; push_cast; rfl
      have HH := Lib.hid (show i ≤ h ∧ h < j by omega)
      clear hx hy hcv hlm ex ey HK0 hh
      go_wp2
      ((with_reducible refine wp_region_hp (draw := true) (by kernel_rfl) (by kernel_rfl) hS ?_); (repeat ((with_reducible refine Fixed.here ?_); (first | ((with_reducible apply Fixed.skip); (first | rfl | exact wanted_false rfl rfl rfl (by assumption)); try simp only [Act.put, List.setIfInBounds_toArray, List.set_cons_zero, List.set_cons_succ]) | ((with_reducible apply Fixed.val); (first | rfl | exact wanted_true rfl rfl rfl (by assumption)); (rintro w hS; obtain ⟨e1, e2⟩ := HC1.out _ hS; obtain ⟨e3, e4⟩ := HC2.out _ hS; go_simp; with_reducible rfl); try simp only [Act.put, List.setIfInBounds_toArray, List.set_cons_zero, List.set_cons_succ]) | ((with_reducible apply Fixed.call); (first | rfl | exact wanted_true rfl rfl rfl (by assumption)); (rintro w hS; obtain ⟨e1, e2⟩ := HC1.out _ hS; obtain ⟨e3, e4⟩ := HC2.out _ hS; go_simp; exact ⟨rfl, rfl⟩); (rintro w hS; first | (with_reducible exact HC.out _ hS)); try simp only [Act.put, List.setIfInBounds_toArray, List.set_cons_zero, List.set_cons_succ])))); (with_reducible refine Fixed.done ?_); (try clear hF); clear hS; intro wk hS; obtain ⟨e1, e2⟩ := HC1.out _ hS; obtain ⟨e3, e4⟩ := HC2.out _ hS)
      by_cases hc0 : cv < 0
      · have hcd : decide (cv < 0) = true := decide_eq_true hc0
        rw [if_pos hcd] at hK0
        have HK2 := Lib.hid hK0
        have HQ2 := Lib.hid (show j - (h + 1) < q by have := HQ.out; have := HH.out; omega)
        clear hK0
        go_wp2
        go_roundw
        case rel => exact ⟨h + 1, j, q, rfl, rfl, by have := HH.out; omega, by have := HH.out; omega, hjb, HQ2, HK2, hS⟩
        case measure => have := HH.out; simp [intOf]; omega
      · have hcd : decide (cv < 0) = false := decide_eq_false hc0
        rw [if_neg (by rw [hcd]; simp)] at hK0
        have HK2 := Lib.hid hK0
        have HQ2 := Lib.hid (show h - i < q by have := HQ.out; have := HH.out; omega)
        clear hK0
        go_wp2
        go_roundw
        case rel => exact ⟨i, h, q, rfl, rfl, by have := HH.out; omega, by have := HH.out; omega, by have := HH.out; omega, HQ2, HK2, hS⟩
        case measure => have := HH.out; simp [intOf]; omega
    · have hK0 := HK0.out
      rw [bsL_end _ hlt] at hK0
      obtain rfl : i = K := hK0
      clear hF HQ HK0
      have HA0 := Lib.hid (show a + 0 ≤ i - 1 by have := HAM.out; omega)
      have hw4 : IntKind.i64.wrap ((i : Int) - 1) = ((i - 1 : Nat) : Int) := by have := HAM.out; rw [IntWalk.i64_in _ (by omega)]; omega
      go_wp2
      go_loopw [13] (fun s13 wr => ∃ k : Nat, s13 = .int .i64 (a + k : Nat) ∧ a + k ≤ i - 1 ∧ Hp B w0 wr (rowsI g n cap (upL mx0 xs a k) :: L)) (fun s13 _ => i - (intOf s13).toNat)
      case atStart => exact ⟨0, rfl, HA0.out, hS⟩
      case round =>
        clear hS
        obtain ⟨k, rfl, hk, hS⟩ := hrel
        by_cases hlt2 : a + k < i - 1
        · have hlen : (upL mx0 xs a k).length = n := by rw [upL_len, HN.out]
          obtain ⟨c, hc1⟩ : ∃ c, c = a + k := ⟨_, rfl⟩
          have hUS : upL mx0 xs a (k + 1) = swpL mx0 (upL mx0 xs a k) c (c + 1) := by rw [upL, hc1]
          obtain ⟨x, hx⟩ : ∃ x, (upL mx0 xs a k)[c]? = some x := ⟨_, List.getElem?_eq_getElem (by omega)⟩
          obtain ⟨y, hy⟩ : ∃ y, (upL mx0 xs a k)[c + 1]? = some y := ⟨_, List.getElem?_eq_getElem (by omega)⟩
          obtain ⟨c1, f1⟩ := rows_cell hS hx (by omega) hc
          obtain ⟨c2, f2⟩ := rows_cell hS hy (by omega) hc
          have HT := swp_hd _ hx hy
          rw [← hUS] at HT
          have hcn : c < n := by omega
          obtain ⟨d, hd⟩ : ∃ d, d = c + 1 := ⟨_, rfl⟩
          rw [← hd] at hy c2 f2 HT
          have hdn : d < n := by omega
          have hne : c ≠ d := by omega
          have hne' : d ≠ c := by omega
          have hlt3 : (c : Int) < ((i - 1 : Nat) : Int) := by omega
          have hw5 : IntKind.i64.wrap ((c : Int) + 1) = (d : Int) := by rw [IntWalk.i64_in _ (by omega)]; omega
          have HS2 := Lib.hid (show Hp B w0 ((wr.drew.setCell ⟨g, c, none⟩ (hdV y)).setCell ⟨g, d, none⟩ (hdV x)) (rowsI g n cap (upL mx0 xs a (k + 1)) :: L) from by
            have h := (hS.drew.putRow c (hdV y)).putRow d (hdV x)
            rw [HT] at h
            exact h)
          have HD := Lib.hid (show d = a + (k + 1) by omega)
          have HCK := Lib.hid hc1
          rw [← hc1]
          clear hx hy hS HT hlen hUS hc1 hd
          go_wp2
          go_region
          go_wp2
          go_roundw
          case rel => exact ⟨k + 1, by rw [HD.out], by omega, HS2.out⟩
          case measure => have := HD.out; have := HCK.out; simp [intOf]; omega
        · have hlt3 : ¬ (((a + k : Nat) : Int) < ((i - 1 : Nat) : Int)) := by omega
          obtain rfl : k = i - 1 - a := by omega
          go_wp2
          exact bodyPost_ret (results_none (by kernel_rfl) _ _ _) rfl ⟨rfl, hS⟩
end Go.Proofs.YtlaldfkeaalnhaaGreatDoor
