/- slices.SortStableFunc at rows: symMerge. -/
import Derived.Test.YtlaldfkeaalnhaaGreatDoorQA23
import Derived.Deep.DeepCutAuto
namespace Go.Proofs.YtlaldfkeaalnhaaGreatDoor
set_option linter.unusedSimpArgs false
set_option linter.unusedVariables false
open Go.RowKit
set_option linter.all false
theorem rotL_fuel {α : Type} (d : α) : ∀ (f f2 : Nat) (xs : List α) (m i j : Nat), 1 ≤ i → 1 ≤ j → i + j < f → i + j < f2 → rotL d f xs m i j = rotL d f2 xs m i j
 | 0, _, _, _, _, _, _, _, h, _ => by omega
 | _, 0, _, _, _, _, _, _, _, h => by omega
 | f + 1, f2 + 1, xs, m, i, j, hi, hj, h1, h2 => by
  rw [rotL, rotL]
  split
  ·rfl
  ·split
   ·exact rotL_fuel d f f2 _ m _ j (by omega) hj (by omega) (by omega)
   ·exact rotL_fuel d f f2 _ m i _ hi (by omega) (by omega) (by omega)
/-- what is to be known of the function itself, of less rows -/
def SymC (B : Nat) (w0 : World) (g n cap : Nat) (L : List Item) (fid : Nat) (cb : Array Value) (cf : List GV → List GV → Int) (xs0 : List Mx) (f : Nat) : Prop :=
 ∀ (xs : List Mx) (a m b : Nat) (W : World), (∀ x ∈ xs, x ∈ xs0) → xs.length = n → a < m → m < b → b ≤ n → b - a ≤ f → Hp B w0 W (rowsI g n cap xs :: L) →
  Calls Tryz.prog 111 #[.slice (some ⟨g, 0, none⟩) n cap, .int .i64 a, .int .i64 m, .int .i64 b, .func (.func fid) #[] cb] W fun e w' => e = .returned (.tuple #[]) ∧ Hp B w0 w' (rowsI g n cap (symL mx0 (ltM cf) f xs a m b) :: L)
theorem SymC.at {B : Nat} {w0 : World} {L : List Item} {g n cap fid : Nat} {cb : Array Value} {cf : List GV → List GV → Int} {xs0 : List Mx} {f : Nat} (h : SymC B w0 g n cap L fid cb cf xs0 f) (xs : List Mx) (a m b : Nat) (W : World) (h1 : ∀ x ∈ xs, x ∈ xs0) (h2 : xs.length = n) (h3 : a < m) (h4 : m < b) (h5 : b ≤ n) (h6 : b - a ≤ f) (h7 : Hp B w0 W (rowsI g n cap xs :: L)) :
  Calls Tryz.prog 111 #[.slice (some ⟨g, 0, none⟩) n cap, .int .i64 a, .int .i64 m, .int .i64 b, .func (.func fid) #[] cb] W fun e w' => e = .returned (.tuple #[]) ∧ Hp B w0 w' (rowsI g n cap (symL mx0 (ltM cf) f xs a m b) :: L) := h xs a m b W h1 h2 h3 h4 h5 h6 h7
set_option maxRecDepth 100000 in
set_option maxHeartbeats 8000000 in
theorem sym_more {B : Nat} {w0 w : World} {L : List Item} {g n cap : Nat} (f : Nat) (xs xs0 : List Mx) (a m b : Nat) (fid : Nat) (cb : Array Value) (cf : List GV → List GV → Int) (hm : ∀ x ∈ xs, x ∈ xs0) (hn : xs.length = n) (hn2 : n ≤ 1000) (hc : n ≤ cap) (ham : a + 1 < m) (hmb : m + 1 < b) (hbn : b ≤ n) (hfu : b - a ≤ f + 1)
  (eg : ∀ args w, (callFunc fid args).run Tryz.prog w = .ok (.enter fid args) w) (hcf : SortC B w0 g n cap L fid cb cf xs0) (hIH : SymC B w0 g n cap L fid cb cf xs0 f) (hS : Hp B w0 w (rowsI g n cap xs :: L)) :
  Calls Tryz.prog 111 #[.slice (some ⟨g, 0, none⟩) n cap, .int .i64 a, .int .i64 m, .int .i64 b, .func (.func fid) #[] cb] w fun e w' => e = .returned (.tuple #[]) ∧ Hp B w0 w' (rowsI g n cap (symL mx0 (ltM cf) (f + 1) xs a m b) :: L) := by
 rw [symL, if_neg (by omega), if_neg (by omega)]
 have hsi := symS_in mx0 (ltM cf) xs (show a < m by omega) (show m < b by omega)
 simp only []
 obtain ⟨md, hmd⟩ : ∃ md, md = (a + b) / 2 := ⟨_, rfl⟩
 have hsd : symS mx0 (ltM cf) xs a m b = bsL (fun c => !ltM cf (xs.getD (md + m - 1 - c) mx0) (xs.getD c mx0)) (b + 1) (if md < m then md + m - b else a) (if md < m then md else m) := by rw [hmd]; rfl
 generalize symS mx0 (ltM cf) xs a m b = S at hsi hsd ⊢
 rw [← hmd] at hsi ⊢
 obtain ⟨p, hp⟩ : ∃ p : Nat → Bool, p = fun c => !ltM cf (xs.getD (md + m - 1 - c) mx0) (xs.getD c mx0) := ⟨_, rfl⟩
 rw [← hp] at hsd
 have HP := Lib.hid (fun h : Nat => congrFun hp h)
 clear hp
 obtain ⟨s0, hs0⟩ : ∃ s0, s0 = if md < m then md + m - b else a := ⟨_, rfl⟩
 obtain ⟨r0, hr0⟩ : ∃ r0, r0 = if md < m then md else m := ⟨_, rfl⟩
 rw [← hs0, ← hr0] at hsd
 have hsr : s0 ≤ r0 ∧ r0 ≤ md ∧ r0 ≤ m ∧ md + m ≤ b + s0 ∧ a ≤ s0 := by rw [hs0, hr0]; split <;> omega
 obtain ⟨e, he⟩ : ∃ e, e = md + m - S := ⟨_, rfl⟩
 rw [← he] at hsi ⊢
 have hmdb : a < md ∧ md < b := by omega
 have HSD := Lib.hid hsd.symm
 have HN := Lib.hid hn
 have HM := Lib.hid hm
 have HCF := Lib.hid hcf
 have HIH := Lib.hid hIH
 have HS0 := Lib.hid hs0
 have HR0 := Lib.hid hr0
 have HSI := Lib.hid hsi
 have hw0 : IntKind.i64.wrap ((m : Int) - (a : Int)) = (m : Int) - (a : Int) := IntWalk.i64_in _ (by omega)
 have hne0 : ((m : Int) - (a : Int) == 1) = false := by simp; omega
 have hw1 : IntKind.i64.wrap ((b : Int) - (m : Int)) = (b : Int) - (m : Int) := IntWalk.i64_in _ (by omega)
 have hne1 : ((b : Int) - (m : Int) == 1) = false := by simp; omega
 have hne0' : ¬ ((m : Int) - (a : Int) = 1) := by omega
 have hne1' : ¬ ((b : Int) - (m : Int) = 1) := by omega
 have hw2 : IntKind.i64.wrap ((a : Int) + (b : Int)) = (a : Int) + (b : Int) := IntWalk.i64_in _ (by omega)
 have hmd2 : ((a : Int) + (b : Int)) / 2 = (md : Int) := by omega
 obtain ⟨N, hN⟩ : ∃ N, N = md + m := ⟨_, rfl⟩
 obtain ⟨p0, hp0⟩ : ∃ p0, p0 = md + m - 1 := ⟨_, rfl⟩
 have hw3 : IntKind.i64.wrap ((md : Int) + (m : Int)) = (N : Int) := by rw [IntWalk.i64_in _ (by omega)]; omega
 have hw4 : IntKind.i64.wrap ((N : Int) - (S : Int)) = (e : Int) := by rw [IntWalk.i64_in _ (by omega)]; omega
 have hw5 : IntKind.i64.wrap ((N : Int) - 1) = (p0 : Int) := by rw [IntWalk.i64_in _ (by omega)]; omega
 rw [← hp0] at HP
 have HNN := Lib.hid (And.intro hN hp0)
 obtain ⟨x1, hx1⟩ : ∃ x1, x1 = (if S < m ∧ m < e then rotL mx0 (b + 1) xs m (m - S) (e - m) else xs) := ⟨_, rfl⟩
 obtain ⟨x2, hx2⟩ : ∃ x2, x2 = (if a < S ∧ S < md then symL mx0 (ltM cf) f x1 a S md else x1) := ⟨_, rfl⟩
 obtain ⟨x3, hx3⟩ : ∃ x3, x3 = (if md < e ∧ e < b then symL mx0 (ltM cf) f x2 md e b else x2) := ⟨_, rfl⟩
 rw [← hx1, ← hx2, ← hx3]
 have hmdn : md ≤ n := by omega
 have hp1 : x1.Perm xs := by
  rw [hx1]; split
  ·exact rotL_perm mx0 _ xs m _ _ (by omega) (by rw [HN.out]; omega)
  ·exact List.Perm.refl _
 have hl1 : x1.length = n := by rw [hp1.length_eq, HN.out]
 have hp2 : x2.Perm x1 := by
  rw [hx2]; split
  ·rename_i hh; exact symL_perm mx0 _ f x1 a S md hh.1 hh.2 (by rw [hl1]; exact hmdn)
  ·exact List.Perm.refl _
 have hl2 : x2.length = n := by rw [hp2.length_eq, hl1]
 have HL1 := Lib.hid hl1
 have HL2 := Lib.hid hl2
 have HM1 := Lib.hid (show ∀ x ∈ x1, x ∈ xs0 from fun x hx => HM.out x (hp1.mem_iff.1 hx))
 have HM2 := Lib.hid (show ∀ x ∈ x2, x ∈ xs0 from fun x hx => HM1.out x (hp2.mem_iff.1 hx))
 have HX1 := Lib.hid hx1
 have HX2 := Lib.hid hx2
 have HX3 := Lib.hid hx3
 have HBE := Lib.hid (show b - md ≤ f ∧ md - a ≤ f by omega)
 clear hx1 hx2 hx3 hp1 hp2 hl1 hl2
 have HFU := Lib.hid hfu
 have HHE := Lib.hid (And.intro he hmd)
 clear hsd hn hm hcf hIH hs0 hr0 hsi he hmd hfu hN hp0
 have hF : True := trivial
 have hR := Reads.nil w
 go_enter Tryz.func111, Tryz.ntmps111
 go_upto_if 140 with fail
 go_cut [20, 21] from 138 to 146 (fun s20 s21 W => s20 = .int .i64 s0 ∧ s21 = .int .i64 r0 ∧ Hp B w0 W (rowsI g n cap xs :: L))
 case first =>
  by_cases hlt : md < m
  ·have hw6 : IntKind.i64.wrap ((N : Int) - (b : Int)) = (s0 : Int) := by have := HNN.out; have h0 := HS0.out; rw [if_pos hlt] at h0; rw [IntWalk.i64_in _ (by omega)]; omega
   have hr : r0 = md := by have := HR0.out; rwa [if_pos hlt] at this
   go_wp2
   go_meet
   case rel => exact ⟨rfl, by rw [hr], hS⟩
  ·have hs : s0 = a := by have := HS0.out; rwa [if_neg hlt] at this
   have hr : r0 = m := by have := HR0.out; rwa [if_neg hlt] at this
   go_wp2
   go_meet
   case rel => exact ⟨by rw [hs], by rw [hr], hS⟩
 case rest =>
  clear hS
  obtain ⟨rfl, rfl, hS⟩ := hcut
  go_wp2
  go_loopw [20, 21] (fun s20 s21 wr => ∃ (i j f : Nat), s20 = .int .i64 i ∧ s21 = .int .i64 j ∧ s0 ≤ i ∧ i ≤ j ∧ j ≤ r0 ∧ Hid (j - i < f) ∧ Hid (bsL p f i j = S) ∧ Hp B w0 wr (rowsI g n cap xs :: L)) (fun s20 s21 _ => (intOf s21).toNat - (intOf s20).toNat)
  case atStart => exact ⟨s0, r0, b + 1, rfl, rfl, by omega, by omega, by omega, Lib.hid (by omega), HSD, hS⟩
  case round =>
   clear hS HSD
   obtain ⟨i, j, q, rfl, rfl, hmi, hij, hjb, HQ, HK0, hS⟩ := hrel
   by_cases hlt : i < j
   ·obtain ⟨q, rfl⟩ : ∃ q2, q = q2 + 1 := ⟨q - 1, by have := HQ.out; omega⟩
    obtain ⟨h, hh⟩ : ∃ h, h = (i + j) / 2 := ⟨_, rfl⟩
    have hhn : h < n := by omega
    have hK0 := HK0.out
    rw [bsL, if_pos hlt, ← hh] at hK0
    obtain ⟨ph, hph⟩ : ∃ ph, ph = p0 - h := ⟨_, rfl⟩
    have hpn : ph < n := by have := HNN.out; omega
    obtain ⟨x, y, ex, ey, hx, hy, HC, HC1, HC2⟩ := sort_at HCF.out HM.out HN.out hc hpn hhn
    have HC := Lib.hid HC
    have HC1 := Lib.hid HC1
    have HC2 := Lib.hid HC2
    obtain ⟨cv, hcv⟩ : ∃ cv, cv = cf x.2.2 y.2.2 := ⟨_, rfl⟩
    have hlm : ltM cf x y = decide (cv < 0) := by rw [hcv]; rfl
    rw [HP.out h, ← hph, ex, ey, hlm] at hK0
    rw [← hcv] at HC
    have hws : IntKind.i64.wrap ((i : Int) + (j : Int)) = (i : Int) + (j : Int) := IntWalk.i64_in _ (by omega)
    have hh2 : ((i : Int) + (j : Int)) / 2 = (h : Int) := by omega
    have hw6 : IntKind.i64.wrap ((h : Int) + 1) = ((h + 1 : Nat) : Int) := by rw [IntWalk.i64_in _ (by omega)]; push_cast; rfl
    have hw7 : IntKind.i64.wrap ((p0 : Int) - (h : Int)) = (ph : Int) := by have := HNN.out; rw [IntWalk.i64_in _ (by omega)]; omega
    have HH := Lib.hid (show i ≤ h ∧ h < j by omega)
    clear hx hy hcv hlm ex ey HK0 hh hph
    by_cases hc0 : cv < 0
    ·have hcd : decide (cv < 0) = true := decide_eq_true hc0
     rw [if_neg (by rw [hcd]; simp)] at hK0
     have HK2 := Lib.hid hK0
     have HQ2 := Lib.hid (show h - i < q by have := HQ.out; have := HH.out; omega)
     clear hK0
     go_wp2
     ((with_reducible refine wp_region_hp (draw := true) (by kernel_rfl) (by kernel_rfl) hS ?_); (repeat ((with_reducible refine Fixed.here ?_); (first | ((with_reducible apply Fixed.skip); (first | rfl | exact wanted_false rfl rfl rfl (by assumption)); try simp only [Act.put, List.setIfInBounds_toArray, List.set_cons_zero, List.set_cons_succ]) | ((with_reducible apply Fixed.val); (first | rfl | exact wanted_true rfl rfl rfl (by assumption)); (rintro w hS; obtain ⟨e1, e2⟩ := HC1.out _ hS; obtain ⟨e3, e4⟩ := HC2.out _ hS; go_simp; with_reducible rfl); try simp only [Act.put, List.setIfInBounds_toArray, List.set_cons_zero, List.set_cons_succ]) | ((with_reducible apply Fixed.call); (first | rfl | exact wanted_true rfl rfl rfl (by assumption)); (rintro w hS; obtain ⟨e1, e2⟩ := HC1.out _ hS; obtain ⟨e3, e4⟩ := HC2.out _ hS; go_simp; exact ⟨rfl, rfl⟩); (rintro w hS; first | (with_reducible exact HC.out _ hS)); try simp only [Act.put, List.setIfInBounds_toArray, List.set_cons_zero, List.set_cons_succ])))); (with_reducible refine Fixed.done ?_); (try clear hF); clear hS; intro wk hS; obtain ⟨e1, e2⟩ := HC1.out _ hS; obtain ⟨e3, e4⟩ := HC2.out _ hS)
     go_wp2
     go_roundw
     case rel => exact ⟨i, h, q, rfl, rfl, by have := HH.out; omega, by have := HH.out; omega, by have := HH.out; omega, HQ2, HK2, hS⟩
     case measure => have := HH.out; simp [intOf]; omega
    ·have hcd : decide (cv < 0) = false := decide_eq_false hc0
     rw [if_pos (by rw [hcd]; rfl)] at hK0
     have HK2 := Lib.hid hK0
     have HQ2 := Lib.hid (show j - (h + 1) < q by have := HQ.out; have := HH.out; omega)
     clear hK0
     go_wp2
     ((with_reducible refine wp_region_hp (draw := true) (by kernel_rfl) (by kernel_rfl) hS ?_); (repeat ((with_reducible refine Fixed.here ?_); (first | ((with_reducible apply Fixed.skip); (first | rfl | exact wanted_false rfl rfl rfl (by assumption)); try simp only [Act.put, List.setIfInBounds_toArray, List.set_cons_zero, List.set_cons_succ]) | ((with_reducible apply Fixed.val); (first | rfl | exact wanted_true rfl rfl rfl (by assumption)); (rintro w hS; obtain ⟨e1, e2⟩ := HC1.out _ hS; obtain ⟨e3, e4⟩ := HC2.out _ hS; go_simp; with_reducible rfl); try simp only [Act.put, List.setIfInBounds_toArray, List.set_cons_zero, List.set_cons_succ]) | ((with_reducible apply Fixed.call); (first | rfl | exact wanted_true rfl rfl rfl (by assumption)); (rintro w hS; obtain ⟨e1, e2⟩ := HC1.out _ hS; obtain ⟨e3, e4⟩ := HC2.out _ hS; go_simp; exact ⟨rfl, rfl⟩); (rintro w hS; first | (with_reducible exact HC.out _ hS)); try simp only [Act.put, List.setIfInBounds_toArray, List.set_cons_zero, List.set_cons_succ])))); (with_reducible refine Fixed.done ?_); (try clear hF); clear hS; intro wk hS; obtain ⟨e1, e2⟩ := HC1.out _ hS; obtain ⟨e3, e4⟩ := HC2.out _ hS)
     go_wp2
     go_roundw
     case rel => exact ⟨h + 1, j, q, rfl, rfl, by have := HH.out; omega, by have := HH.out; omega, hjb, HQ2, HK2, hS⟩
     case measure => have := HH.out; simp [intOf]; omega
   ·have hK0 := HK0.out
    rw [bsL_end _ hlt] at hK0
    obtain rfl : i = S := hK0
    clear hF HQ HK0 HP HCF
    obtain ⟨b1, hb1⟩ : ∃ bb : Bool, bb = decide (i < m ∧ m < e) := ⟨_, rfl⟩
    have HB1 := Lib.hid hb1
    clear hb1
    go_upto_region 39 with fail
    go_cut [185] from 178 to 184 (fun s W => s = .bool b1 ∧ Hp B w0 W (rowsI g n cap xs :: L))
    case first =>
     by_cases h1 : i < m
     ·have d1 : decide ((i : Int) < (m : Int)) = true := decide_eq_true (by omega)
      have g1 : (i : Int) < (m : Int) := by omega
      by_cases h2 : m < e
      ·have d2 : decide ((m : Int) < (e : Int)) = true := decide_eq_true (by omega)
       have g2 : (m : Int) < (e : Int) := by omega
       have hb : b1 = true := by rw [HB1.out]; exact decide_eq_true ⟨h1, h2⟩
       go_wp2
       go_meet
       case rel => exact ⟨by rw [hb], hS⟩
      ·have d2 : decide ((m : Int) < (e : Int)) = false := decide_eq_false (by omega)
       have g2 : ¬ ((m : Int) < (e : Int)) := by omega
       have hb : b1 = false := by rw [HB1.out]; exact decide_eq_false (fun h => h2 h.2)
       go_wp2
       go_meet
       case rel => exact ⟨by rw [hb], hS⟩
     ·have d1 : decide ((i : Int) < (m : Int)) = false := decide_eq_false (by omega)
      have g1 : ¬ ((i : Int) < (m : Int)) := by omega
      have hb : b1 = false := by rw [HB1.out]; exact decide_eq_false (fun h => h1 h.1)
      go_wp2
      go_meet
      case rel => exact ⟨by rw [hb], hS⟩
    case rest =>
     clear hS
     obtain ⟨rfl, hS⟩ := hcut
     go_upto_if 185 with fail
     go_cut [] from 178 to 191 (fun W => Hp B w0 W (rowsI g n cap x1 :: L))
     case first =>
      cases b1 with
      | true =>
       have hb := of_decide_eq_true HB1.out.symm
       go_wp2_with (go_at_call 148; (with_reducible refine Calls.mono (rotate_any xs i m e _ HN.out hn2 hc hb.1 hb.2 (by have := HSI.out; omega) hS) ?_); clear hS; rintro ee wk ⟨rfl, hS⟩)
       replace hS := (show Hp B w0 wk (rowsI g n cap (rotL mx0 (b + 1) xs m (m - i) (e - m)) :: L) from by rw [← rotL_fuel mx0 (e + 1) (b + 1) xs m (m - i) (e - m) (by omega) (by omega) (by omega) (by have := HSI.out; omega)]; exact hS)
       go_meet
       case rel => rw [HX1.out, if_pos hb]; exact hS
      | false =>
       have hb := of_decide_eq_false HB1.out.symm
       go_wp2
       go_meet
       case rel => rw [HX1.out, if_neg hb]; exact hS
     case rest =>
      clear hS
      have hS := hcut
      clear hcut
      obtain ⟨b2, hb2⟩ : ∃ bb : Bool, bb = decide (a < i ∧ i < md) := ⟨_, rfl⟩
      have HB2 := Lib.hid hb2
      clear hb2
      go_upto_region 41 with fail
      go_cut [199] from 192 to 198 (fun s W => s = .bool b2 ∧ Hp B w0 W (rowsI g n cap x1 :: L))
      case first =>
       by_cases h1 : a < i
       ·have d1 : decide ((a : Int) < (i : Int)) = true := decide_eq_true (by omega)
        have g1 : (a : Int) < (i : Int) := by omega
        by_cases h2 : i < md
        ·have d2 : decide ((i : Int) < (md : Int)) = true := decide_eq_true (by omega)
         have g2 : (i : Int) < (md : Int) := by omega
         have hb : b2 = true := by rw [HB2.out]; exact decide_eq_true ⟨h1, h2⟩
         go_wp2
         go_meet
         case rel => exact ⟨by rw [hb], hS⟩
        ·have d2 : decide ((i : Int) < (md : Int)) = false := decide_eq_false (by omega)
         have g2 : ¬ ((i : Int) < (md : Int)) := by omega
         have hb : b2 = false := by rw [HB2.out]; exact decide_eq_false (fun h => h2 h.2)
         go_wp2
         go_meet
         case rel => exact ⟨by rw [hb], hS⟩
       ·have d1 : decide ((a : Int) < (i : Int)) = false := decide_eq_false (by omega)
        have g1 : ¬ ((a : Int) < (i : Int)) := by omega
        have hb : b2 = false := by rw [HB2.out]; exact decide_eq_false (fun h => h1 h.1)
        go_wp2
        go_meet
        case rel => exact ⟨by rw [hb], hS⟩
      case rest =>
       clear hS
       obtain ⟨rfl, hS⟩ := hcut
       go_upto_if 199 with fail
       go_cut [] from 192 to 205 (fun W => Hp B w0 W (rowsI g n cap x2 :: L))
       case first =>
        cases b2 with
        | true =>
         have hb := of_decide_eq_true HB2.out.symm
         go_wp2_with (go_at_call 111; (go_must (with_reducible refine Calls.mono (SymC.at HIH.out x1 a i md _ HM1.out HL1.out hb.1 hb.2 hmdn HBE.out.2 hS) ?_)); clear hS; rintro ee wk ⟨rfl, hS⟩)
         go_meet
         case rel => rw [HX2.out, if_pos hb]; exact hS
        | false =>
         have hb := of_decide_eq_false HB2.out.symm
         go_wp2
         go_meet
         case rel => rw [HX2.out, if_neg hb]; exact hS
       case rest =>
        clear hS
        have hS := hcut
        clear hcut
        obtain ⟨b3, hb3⟩ : ∃ bb : Bool, bb = decide (md < e ∧ e < b) := ⟨_, rfl⟩
        have HB3 := Lib.hid hb3
        clear hb3
        go_upto_region 43 with fail
        go_cut [213] from 206 to 212 (fun s W => s = .bool b3 ∧ Hp B w0 W (rowsI g n cap x2 :: L))
        case first =>
         by_cases h1 : md < e
         ·have d1 : decide ((md : Int) < (e : Int)) = true := decide_eq_true (by omega)
          have g1 : (md : Int) < (e : Int) := by omega
          by_cases h2 : e < b
          ·have d2 : decide ((e : Int) < (b : Int)) = true := decide_eq_true (by omega)
           have g2 : (e : Int) < (b : Int) := by omega
           have hb : b3 = true := by rw [HB3.out]; exact decide_eq_true ⟨h1, h2⟩
           go_wp2
           go_meet
           case rel => exact ⟨by rw [hb], hS⟩
          ·have d2 : decide ((e : Int) < (b : Int)) = false := decide_eq_false (by omega)
           have g2 : ¬ ((e : Int) < (b : Int)) := by omega
           have hb : b3 = false := by rw [HB3.out]; exact decide_eq_false (fun h => h2 h.2)
           go_wp2
           go_meet
           case rel => exact ⟨by rw [hb], hS⟩
         ·have d1 : decide ((md : Int) < (e : Int)) = false := decide_eq_false (by omega)
          have g1 : ¬ ((md : Int) < (e : Int)) := by omega
          have hb : b3 = false := by rw [HB3.out]; exact decide_eq_false (fun h => h1 h.1)
          go_wp2
          go_meet
          case rel => exact ⟨by rw [hb], hS⟩
        case rest =>
         clear hS
         obtain ⟨rfl, hS⟩ := hcut
         go_upto_if 213 with fail
         cases b3 with
         | true =>
          have hb := of_decide_eq_true HB3.out.symm
          go_wp2_with (go_at_call 111; (go_must (with_reducible refine Calls.mono (SymC.at HIH.out x2 md e b _ HM2.out HL2.out hb.1 hb.2 hbn HBE.out.1 hS) ?_)); clear hS; rintro ee wk ⟨rfl, hS⟩)
          rw [← if_pos (c := md < e ∧ e < b) (t := symL mx0 (ltM cf) f x2 md e b) (e := x2) hb, ← HX3.out] at hS
          go_end0
          exact ⟨rfl, hS⟩
         | false =>
          have hb := of_decide_eq_false HB3.out.symm
          rw [← if_neg (c := md < e ∧ e < b) (t := symL mx0 (ltM cf) f x2 md e b) (e := x2) hb, ← HX3.out] at hS
          go_wp2
          go_end0
          exact ⟨rfl, hS⟩
theorem symMerge_any {B : Nat} {w0 : World} {L : List Item} {g n cap : Nat} (xs0 : List Mx) (fid : Nat) (cb : Array Value) (cf : List GV → List GV → Int) (hn2 : n ≤ 1000) (hc : n ≤ cap)
  (eg : ∀ args w, (callFunc fid args).run Tryz.prog w = .ok (.enter fid args) w) (hcf : SortC B w0 g n cap L fid cb cf xs0) : ∀ f, SymC B w0 g n cap L fid cb cf xs0 f
 | 0 => fun xs a m b W hm hn h1 h2 h3 h4 hS => by omega
 | f + 1 => fun xs a m b W hm hn h1 h2 h3 h4 hS => by
  by_cases ha : a + 1 = m
  ·exact sym_one f xs xs0 a m b fid cb cf hm hn hn2 hc ha h2 h3 eg hcf hS
  ·by_cases hb : m + 1 = b
   ·exact sym_two f xs xs0 a m b fid cb cf hm hn hn2 hc (by omega) hb h3 eg hcf hS
   ·exact sym_more f xs xs0 a m b fid cb cf hm hn hn2 hc (by omega) (by omega) h3 h4 eg hcf (symMerge_any xs0 fid cb cf hn2 hc eg hcf f) hS
end Go.Proofs.YtlaldfkeaalnhaaGreatDoor
