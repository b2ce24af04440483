/- Texts joined: query.Run: what comes of rows: plain. slices.SortStableFunc at rows: all of it. query.together and query.Run: what tells how rows stand; slices.Clone of rows. query.together: the walk. query.Run: the walk. -/
import Derived.Test.YtlaldfkeaalnhaaGreatDoorQA02
import Derived.Test.YtlaldfkeaalnhaaGreatDoorQA20
import Derived.Test.YtlaldfkeaalnhaaGreatDoorQA16
import Derived.Test.YtlaldfkeaalnhaaGreatDoorQA26
import Derived.Test.YtlaldfkeaalnhaaGreatDoorQA27
import Derived.Deep.DeepCutAuto
/- query.Run: what comes of rows: plain. -/
namespace Go.Proofs.YtlaldfkeaalnhaaGreatDoor
set_option linter.unusedSimpArgs false
set_option linter.unusedVariables false
open Go.RowKit
set_option linter.all false
/-! what is made of a list is made of what stands in it -/
section
variable {α β : Type} (f : α → β) (d : α) (e : β) (hd : f d = e) {lt : α → α → Bool} {lt' : β → β → Bool} (hl : ∀ x y, lt' (f x) (f y) = lt x y)
include hd
theorem map_get (xs : List α) (k : Nat) : (xs.map f).getD k e = f (xs.getD k d) := by
 rw [List.getD_eq_getElem?_getD, List.getD_eq_getElem?_getD, List.getElem?_map]
 cases xs[k]? with
 | none => exact hd.symm
 | some x => rfl
theorem map_swp (xs : List α) (i j : Nat) : (swpL d xs i j).map f = swpL e (xs.map f) i j := by
 unfold swpL
 rw [List.map_set, List.map_set, map_get f d e hd, map_get f d e hd]
theorem map_swR (xs : List α) (a b : Nat) : ∀ n, (swR d xs a b n).map f = swR e (xs.map f) a b n
 | 0 => rfl
 | n + 1 => by rw [swR, swR, map_swp f d e hd, map_swR xs a b n]
theorem map_rot : ∀ (n : Nat) (xs : List α) (m i j : Nat), (rotL d n xs m i j).map f = rotL e n (xs.map f) m i j
 | 0, xs, m, i, j => rfl
 | n + 1, xs, m, i, j => by
  rw [rotL, rotL]
  split
  ·exact map_swR f d e hd _ _ _ _
  ·split
   ·rw [map_rot n, map_swR f d e hd]
   ·rw [map_rot n, map_swR f d e hd]
theorem map_up (xs : List α) (a : Nat) : ∀ n, (upL d xs a n).map f = upL e (xs.map f) a n
 | 0 => rfl
 | n + 1 => by rw [upL, upL, map_swp f d e hd, map_up xs a n]
theorem map_dn (xs : List α) (m : Nat) : ∀ n, (dnL d xs m n).map f = dnL e (xs.map f) m n
 | 0 => rfl
 | n + 1 => by rw [dnL, dnL, map_swp f d e hd, map_dn xs m n]
include hl
theorem map_insIn (a : Nat) : ∀ (j : Nat) (xs : List α), (insIn d lt a j xs).map f = insIn e lt' a j (xs.map f)
 | 0, xs => rfl
 | j + 1, xs => by
  rw [insIn, insIn, map_get f d e hd, map_get f d e hd, hl]
  split
  ·rw [map_insIn a j, map_swp f d e hd]
  ·rfl
theorem map_insOut (a : Nat) : ∀ (k i : Nat) (xs : List α), (insOut d lt a k i xs).map f = insOut e lt' a k i (xs.map f)
 | 0, i, xs => rfl
 | k + 1, i, xs => by rw [insOut, insOut, map_insOut a k, map_insIn f d e hd hl]
theorem map_sym : ∀ (n : Nat) (xs : List α) (a m b : Nat), (symL d lt n xs a m b).map f = symL e lt' n (xs.map f) a m b
 | 0, xs, a, m, b => rfl
 | n + 1, xs, a, m, b => by
  have e1 : (fun h => lt' ((xs.map f).getD h e) ((xs.map f).getD a e)) = fun h => lt (xs.getD h d) (xs.getD a d) := by
   funext h; rw [map_get f d e hd, map_get f d e hd, hl]
  have e2 : (fun h => !lt' ((xs.map f).getD m e) ((xs.map f).getD h e)) = fun h => !lt (xs.getD m d) (xs.getD h d) := by
   funext h; rw [map_get f d e hd, map_get f d e hd, hl]
  have e3 : symS e lt' (xs.map f) a m b = symS d lt xs a m b := by
   unfold symS
   congr 1
   funext h; rw [map_get f d e hd, map_get f d e hd, hl]
  rw [symL, symL, e1, e2, e3]
  split
  ·exact map_up f d e hd _ _ _
  ·split
   ·exact map_dn f d e hd _ _ _
   ·simp only []
    have q1 : (if symS d lt xs a m b < m ∧ m < (a + b) / 2 + m - symS d lt xs a m b then rotL d (b + 1) xs m (m - symS d lt xs a m b) ((a + b) / 2 + m - symS d lt xs a m b - m) else xs).map f = (if symS d lt xs a m b < m ∧ m < (a + b) / 2 + m - symS d lt xs a m b then rotL e (b + 1) (xs.map f) m (m - symS d lt xs a m b) ((a + b) / 2 + m - symS d lt xs a m b - m) else xs.map f) := by
     split
     ·exact map_rot f d e hd _ _ _ _ _
     ·rfl
    rw [← q1]
    generalize (if symS d lt xs a m b < m ∧ m < (a + b) / 2 + m - symS d lt xs a m b then rotL d (b + 1) xs m (m - symS d lt xs a m b) ((a + b) / 2 + m - symS d lt xs a m b - m) else xs) = x1
    have q2 : (if a < symS d lt xs a m b ∧ symS d lt xs a m b < (a + b) / 2 then symL d lt n x1 a (symS d lt xs a m b) ((a + b) / 2) else x1).map f = (if a < symS d lt xs a m b ∧ symS d lt xs a m b < (a + b) / 2 then symL e lt' n (x1.map f) a (symS d lt xs a m b) ((a + b) / 2) else x1.map f) := by
     split
     ·exact map_sym n _ _ _ _
     ·rfl
    rw [← q2]
    generalize (if a < symS d lt xs a m b ∧ symS d lt xs a m b < (a + b) / 2 then symL d lt n x1 a (symS d lt xs a m b) ((a + b) / 2) else x1) = x2
    split
    ·exact map_sym n _ _ _ _
    ·rfl
theorem map_blk (n : Nat) : ∀ (k a : Nat) (xs : List α), (blkL d lt n k a xs).map f = blkL e lt' n k a (xs.map f)
 | 0, a, xs => rfl
 | k + 1, a, xs => by
  rw [blkL, blkL]
  split
  ·rw [map_blk n k, map_insOut f d e hd hl]
  ·exact map_insOut f d e hd hl _ _ _ _
theorem map_mrg (n z : Nat) : ∀ (k a : Nat) (xs : List α), (mrgL d lt n z k a xs).map f = mrgL e lt' n z k a (xs.map f)
 | 0, a, xs => rfl
 | k + 1, a, xs => by
  rw [mrgL, mrgL]
  split
  ·rw [map_mrg n z k, map_sym f d e hd hl]
  ·split
   ·exact map_sym f d e hd hl _ _ _ _ _
   ·rfl
theorem map_stb (n : Nat) : ∀ (k z : Nat) (xs : List α), (stbL d lt n k z xs).map f = stbL e lt' n k z (xs.map f)
 | 0, z, xs => rfl
 | k + 1, z, xs => by
  rw [stbL, stbL]
  split
  ·rw [map_stb n k, map_mrg f d e hd hl]
  ·rfl
theorem map_stable (xs : List α) : (stableL d lt xs).map f = stableL e lt' (xs.map f) := by
 unfold stableL
 rw [map_stb f d e hd hl, map_blk f d e hd hl, List.length_map]
end
/-! where all are the same, all stands as it stood -/
section
variable {α : Type} (d : α)
theorem bsL_all (p : Nat → Bool) (hp : ∀ c, p c = true) : ∀ (f i j : Nat), i ≤ j → j < f + i → bsL p f i j = j
 | 0, i, j, h, hf => by omega
 | f + 1, i, j, h, hf => by
  rw [bsL]
  split
  ·rw [if_pos (hp _)]
   exact bsL_all p hp f _ _ (by omega) (by omega)
  ·omega
theorem bsL_no (p : Nat → Bool) (hp : ∀ c, p c = false) : ∀ (f i j : Nat), i ≤ j → bsL p f i j = i
 | 0, i, j, h => rfl
 | f + 1, i, j, h => by
  rw [bsL]
  split
  ·rw [hp, if_neg (by simp)]
   exact bsL_no p hp f _ _ (by omega)
  ·rfl
variable {lt : α → α → Bool} (hl : ∀ x y, lt x y = false)
include hl
theorem insIn_id (a : Nat) : ∀ (j : Nat) (xs : List α), insIn d lt a j xs = xs
 | 0, xs => rfl
 | j + 1, xs => by rw [insIn, hl, if_neg (by simp)]
theorem insOut_id (a : Nat) : ∀ (k i : Nat) (xs : List α), insOut d lt a k i xs = xs
 | 0, i, xs => rfl
 | k + 1, i, xs => by rw [insOut, insIn_id d hl, insOut_id a k]
theorem symL_id : ∀ (n : Nat) (xs : List α) (a m b : Nat), a < m → m < b → symL d lt n xs a m b = xs
 | 0, xs, a, m, b, _, _ => rfl
 | n + 1, xs, a, m, b, h1, h2 => by
  rw [symL]
  split
  ·rw [bsL_no _ (fun c => hl _ _) _ _ _ (by omega), show m - 1 - a = 0 by omega]; rfl
  ·split
   ·rw [bsL_all _ (fun c => by rw [hl]; rfl) _ _ _ (by omega) (by omega), Nat.sub_self]; rfl
   ·simp only []
    have hs : symS d lt xs a m b = if (a + b) / 2 < m then (a + b) / 2 else m := by
     unfold symS
     exact bsL_all _ (fun c => by rw [hl]; rfl) _ _ _ (by split <;> omega) (by split <;> omega)
    have hin := symS_in d lt xs h1 h2
    generalize symS d lt xs a m b = s at hs hin ⊢
    rw [if_neg (show ¬ (s < m ∧ m < (a + b) / 2 + m - s) by split at hs <;> omega)]
    have q : (if a < s ∧ s < (a + b) / 2 then symL d lt n xs a s ((a + b) / 2) else xs) = xs := by
     split
     ·rename_i h; exact symL_id n _ _ _ _ h.1 h.2
     ·rfl
    rw [q]
    split
    ·rename_i h; exact symL_id n _ _ _ _ h.1 h.2
    ·rfl
theorem blkL_id (n : Nat) : ∀ (k a : Nat) (xs : List α), blkL d lt n k a xs = xs
 | 0, a, xs => rfl
 | k + 1, a, xs => by
  rw [blkL]
  split
  ·rw [insOut_id d hl, blkL_id n k]
  ·rw [insOut_id d hl]
theorem mrgL_id (n z : Nat) (hz : 0 < z) : ∀ (k a : Nat) (xs : List α), mrgL d lt n z k a xs = xs
 | 0, a, xs => rfl
 | k + 1, a, xs => by
  rw [mrgL]
  split
  ·rw [symL_id d hl _ _ _ _ _ (by omega) (by omega), mrgL_id n z hz k]
  ·split
   ·rw [symL_id d hl _ _ _ _ _ (by omega) (by omega)]
   ·rfl
theorem stbL_id (n : Nat) : ∀ (k z : Nat) (xs : List α), 0 < z → stbL d lt n k z xs = xs
 | 0, z, xs, _ => rfl
 | k + 1, z, xs, hz => by
  rw [stbL]
  split
  ·rw [mrgL_id d hl n z hz, stbL_id n k _ _ (by omega)]
  ·rfl
theorem stableL_id (xs : List α) : stableL d lt xs = xs := by
 unfold stableL
 rw [stbL_id d hl _ _ _ _ (by omega), blkL_id d hl]
end
/-! compares -/
structure CmpOk {α : Type} (c : α → α → Int) : Prop where
 anti : ∀ x y, c y x = - c x y
 trans : ∀ x y z, c x y ≤ 0 → c y z ≤ 0 → c x z ≤ 0
theorem CmpOk.ord {α : Type} {c : α → α → Int} (h : CmpOk c) : Ordl fun x y => decide (c x y < 0) :=
 ⟨fun x y hx => by have := h.anti x y; simp at hx ⊢; omega, fun x y z h1 h2 => by
  simp at h1 h2 ⊢
  have a1 := h.anti x y
  have a2 := h.anti y z
  have a3 := h.anti x z
  have := h.trans x y z (by omega) (by omega)
  omega⟩
theorem CmpOk.pull {α β : Type} {c : α → α → Int} (h : CmpOk c) (f : β → α) : CmpOk fun x y => c (f x) (f y) := ⟨fun x y => h.anti _ _, fun x y z => h.trans _ _ _⟩
theorem CmpOk.neg {α : Type} {c : α → α → Int} (h : CmpOk c) : CmpOk fun x y => - c x y := ⟨fun x y => by have := h.anti x y; omega, fun x y z h1 h2 => by
  have a1 := h.anti x y
  have a2 := h.anti y z
  have a3 := h.anti x z
  have := h.trans z y x (by omega) (by omega)
  omega⟩
theorem CmpOk.none {α : Type} : CmpOk fun (_ _ : α) => (0 : Int) := ⟨fun _ _ => rfl, fun _ _ _ _ _ => by omega⟩
theorem CmpOk.lex {α : Type} {c e : α → α → Int} (h : CmpOk c) (k : CmpOk e) : CmpOk fun x y => if c x y ≠ 0 then c x y else e x y := by
 refine ⟨fun x y => ?_, fun x y z h1 h2 => ?_⟩
 ·have := h.anti x y
  have := k.anti x y
  show (if c y x ≠ 0 then c y x else e y x) = - (if c x y ≠ 0 then c x y else e x y)
  split <;> split <;> omega
 ·have h1' : (if c x y ≠ 0 then c x y else e x y) ≤ 0 := h1
  have h2' : (if c y z ≠ 0 then c y z else e y z) ≤ 0 := h2
  show (if c x z ≠ 0 then c x z else e x z) ≤ 0
  have b1 : c x y ≤ 0 := by split at h1' <;> omega
  have b2 : c y z ≤ 0 := by split at h2' <;> omega
  have b3 := h.trans x y z b1 b2
  split
  ·exact b3
  ·rename_i h0
   have h0' : c x z = 0 := by simpa using h0
   have a1 := h.anti x y
   have a2 := h.anti y z
   have a3 := h.anti x z
   have b4 := h.trans z x y (by omega) b1
   have b5 := h.trans y z x b2 (by omega)
   rw [if_neg (by omega)] at h1'
   rw [if_neg (by omega)] at h2'
   exact k.trans x y z h1' h2'
theorem cmpG_ok : CmpOk cmpG := ⟨cmpG_anti, fun _ _ _ => le_trans'⟩
theorem cmpL_anti : ∀ l m, cmpL m l = - cmpL l m
 | [], [] => rfl
 | [], _ :: _ => rfl
 | _ :: _, [] => rfl
 | x :: l, y :: m => by
  have := cmpG_anti x y
  have := cmpL_anti l m
  rw [cmpL, cmpL]
  split <;> split <;> omega
theorem cmpL_trans : ∀ x y z, cmpL x y ≤ 0 → cmpL y z ≤ 0 → cmpL x z ≤ 0
 | [], _, [], _, _ => by simp [cmpL]
 | [], _, _ :: _, _, _ => by simp [cmpL]
 | _ :: _, [], _, h, _ => absurd h (by simp [cmpL])
 | _ :: _, _ :: _, [], _, h => absurd h (by simp [cmpL])
 | x :: l, y :: m, z :: n, h1, h2 => by
  rw [cmpL] at h1 h2 ⊢
  have b1 : cmpG x y ≤ 0 := by split at h1 <;> omega
  have b2 : cmpG y z ≤ 0 := by split at h2 <;> omega
  have b3 := cmpG_ok.trans x y z b1 b2
  split
  ·exact b3
  ·rename_i h0
   have h0' : cmpG x z = 0 := by simpa using h0
   have a1 := cmpG_anti x y
   have a2 := cmpG_anti y z
   have a3 := cmpG_anti x z
   have b4 := cmpG_ok.trans z x y (by omega) b1
   have b5 := cmpG_ok.trans y z x b2 (by omega)
   rw [if_neg (by omega)] at h1
   rw [if_neg (by omega)] at h2
   exact cmpL_trans l m n h1 h2
theorem cmpL_ok : CmpOk cmpL := ⟨cmpL_anti, cmpL_trans⟩
theorem cmpL_zero : ∀ l m, cmpL l m = 0 ↔ l = m
 | [], [] => by simp [cmpL]
 | [], _ :: _ => by simp [cmpL]
 | _ :: _, [] => by simp [cmpL]
 | x :: l, y :: m => by
  rw [cmpL]
  by_cases h : cmpG x y = 0
  ·rw [if_neg (by simpa using h), cmpL_zero l m, (cmpG_zero x y).1 h]; simp
  ·rw [if_pos h]
   refine ⟨fun h2 => absurd h2 h, fun h2 => ?_⟩
   rw [List.cons.injEq] at h2
   exact absurd ((cmpG_zero x y).2 h2.1) h
/-- how rows stand that a question puts in order -/
def ordC : List (Int × Bool) → List GV → List GV → Int
 | [], _, _ => 0
 | (k, dsc) :: l, a, b => if (if dsc = true then - cmpG (atR a k) (atR b k) else cmpG (atR a k) (atR b k)) ≠ 0 then (if dsc = true then - cmpG (atR a k) (atR b k) else cmpG (atR a k) (atR b k)) else ordC l a b
theorem ordC_ok : ∀ l, CmpOk (ordC l)
 | [] => CmpOk.none
 | (k, dsc) :: l => by
  cases dsc with
  | false => exact (cmpG_ok.pull (fun a : List GV => atR a k)).lex (ordC_ok l)
  | true => exact (cmpG_ok.pull (fun a : List GV => atR a k)).neg.lex (ordC_ok l)
def ltR (cf : List GV → List GV → Int) (x y : List GV) : Bool := decide (cf x y < 0)
def srtR (cf : List GV → List GV → Int) (l : List (List GV)) : List (List GV) := stableL [] (ltR cf) l
theorem srtR_of (cf : List GV → List GV → Int) (xs : List Mx) : (stableL mx0 (ltM cf) xs).map (·.2.2) = srtR cf (xs.map (·.2.2)) := map_stable (fun x : Mx => x.2.2) mx0 [] rfl (lt := ltM cf) (lt' := ltR cf) (fun x y => rfl) xs
theorem srtR_perm (cf : List GV → List GV → Int) (l : List (List GV)) : (srtR cf l).Perm l := stableL_perm [] _ l
theorem srtR_srt {cf : List GV → List GV → Int} (h : CmpOk cf) (l : List (List GV)) : Srt [] (ltR cf) (srtR cf l) 0 l.length := stableL_srt h.ord l
theorem srtR_id (l : List (List GV)) : srtR (fun _ _ => 0) l = l := stableL_id [] (fun _ _ => rfl) l
/-- rows that are together: one row more -/
def grpStep (ks : List Int) (out : List (List (List GV))) (r : List GV) : List (List (List GV)) :=
 match out.getLast? with
 | some g => if cmpL (keyR ks (g.headD [])) (keyR ks r) = 0 then out.dropLast ++ [g ++ [r]] else out ++ [[r]]
 | none => [[r]]
def ordK (ks : List Int) (a b : List GV) : Int := cmpL (keyR ks a) (keyR ks b)
def togG (ks : List Int) (rs : List (List GV)) : List (List (List GV)) := if ks = [] then [rs] else (srtR (ordK ks) rs).foldl (grpStep ks) []
/-- a row of what comes of a part -/
def rowQ (items : List IT) (is : List Int) (part : List (List GV)) : List GV := (items.zip is).map fun x => ofQ x.1 x.2 part
def outQ (q : QG) (is bs : List Int) (rs : List (List GV)) : List (List GV) := if someE q = true then (togG bs rs).map (rowQ q.items is) else rs.map (keyR is)
def limQ (n : Int) (l : List (List GV)) : List (List GV) := if 0 < n ∧ n < l.length then l.take n.toNat else l
/-- what comes of rows, or which error -/
def runE (cs : List CG) (rs : List (List GV)) (q : QG) : Int × List (List GV) :=
 if (planE cs q).1 ≠ 0 then ((planE cs q).1, []) else (0, limQ q.limit (srtR (ordC q.ord) (outQ q (planE cs q).2.1 (planE cs q).2.2 rs)))
end Go.Proofs.YtlaldfkeaalnhaaGreatDoor

/- slices.SortStableFunc at rows: all of it. -/
namespace Go.Proofs.YtlaldfkeaalnhaaGreatDoor
set_option linter.unusedSimpArgs false
set_option linter.unusedVariables false
open Go.RowKit
set_option linter.all false
set_option maxRecDepth 100000 in
set_option maxHeartbeats 8000000 in
theorem stableC_any {B : Nat} {w0 w : World} {L : List Item} {g n cap : Nat} (xs : List Mx) (fid : Nat) (cb : Array Value) (cf : List GV → List GV → Int) (hn : xs.length = n) (hn2 : n ≤ 1000) (hc : n ≤ cap)
  (eg : ∀ args w, (callFunc fid args).run Tryz.prog w = .ok (.enter fid args) w) (hcf : SortC B w0 g n cap L fid cb cf xs) (hS : Hp B w0 w (rowsI g n cap xs :: L)) :
  Calls Tryz.prog 82 #[.slice (some ⟨g, 0, none⟩) n cap, .int .i64 n, .func (.func fid) #[] cb] w fun e w' => e = .returned (.tuple #[]) ∧ Hp B w0 w' (rowsI g n cap (stableL mx0 (ltM cf) xs) :: L) := by
 obtain ⟨R, hR0⟩ : ∃ R, R = stableL mx0 (ltM cf) xs := ⟨_, rfl⟩
 rw [← hR0]
 rw [stableL, hn] at hR0
 obtain ⟨zs0, hz0⟩ : ∃ z, z = blkL mx0 (ltM cf) n (n + 1) 0 xs := ⟨_, rfl⟩
 rw [← hz0] at hR0
 have HR := Lib.hid hR0.symm
 have HZ := Lib.hid hz0.symm
 have hpz : zs0.Perm xs := by rw [hz0]; exact blkL_perm mx0 _ _ _ _ _ hn.symm (by omega)
 have HPZ := Lib.hid hpz
 have HN := Lib.hid hn
 have HIN := Lib.hid (fun (ys : List Mx) (a b : Nat) (W : World) (hp : ys.Perm xs) (hb : b ≤ n) (hab : a ≤ b) (h : Hp B w0 W (rowsI g n cap ys :: L)) => insertion_any ys xs a b fid cb cf (fun x hx => hp.mem_iff.1 hx) (by rw [hp.length_eq, hn]) hn2 hc hb hab eg hcf h)
 have HSY := Lib.hid (fun (ys : List Mx) (a m b : Nat) (W : World) (hp : ys.Perm xs) (h1 : a < m) (h2 : m < b) (h3 : b ≤ n) (h : Hp B w0 W (rowsI g n cap ys :: L)) => SymC.at (symMerge_any xs fid cb cf hn2 hc eg hcf n) ys a m b W (fun x hx => hp.mem_iff.1 hx) (by rw [hp.length_eq, hn]) h1 h2 h3 (by omega) h)
 clear hR0 hz0 hpz hn hcf
 have hF : True := trivial
 have hR := Reads.nil w
 go_enter Tryz.func82, Tryz.ntmps82
 go_wp2
 go_loopw [7, 8] (fun s7 s8 wr => ∃ (a f : Nat) (ys : List Mx), s7 = .int .i64 a ∧ s8 = .int .i64 (a + 20 : Nat) ∧ a ≤ n ∧ n < a + f ∧ Hid (ys.Perm xs) ∧ Hid (blkL mx0 (ltM cf) n f a ys = zs0) ∧ Hp B w0 wr (rowsI g n cap ys :: L)) (fun s7 _ _ => n - (intOf s7).toNat)
 case atStart => exact ⟨0, n + 1, xs, rfl, rfl, by omega, by omega, Lib.hid (List.Perm.refl _), HZ, hS⟩
 case round =>
  clear hS HZ
  obtain ⟨a, f, ys, rfl, rfl, han, haf, HP, HZ, hS⟩ := hrel
  obtain ⟨f, rfl⟩ : ∃ f2, f = f2 + 1 := ⟨f - 1, by omega⟩
  have hZ := HZ.out
  rw [blkL] at hZ
  obtain ⟨b, hb⟩ : ∃ b, b = a + 20 := ⟨_, rfl⟩
  have hw1 : IntKind.i64.wrap ((b : Int) + 20) = ((b + 20 : Nat) : Int) := by rw [IntWalk.i64_in _ (by omega)]; push_cast; rfl
  rw [← hb] at hZ ⊢
  by_cases hlt : b ≤ n
  ·have hlt' : (b : Int) ≤ (n : Int) := by omega
   rw [if_pos hlt] at hZ
   have HC := Lib.hid (fun (W : World) (h : Hp B w0 W (rowsI g n cap ys :: L)) => HIN.out ys a b W HP.out hlt (by omega) h)
   have HE := Lib.hid (show b - a - 1 = 20 - 1 by omega)
   have hpy : (insOut mx0 (ltM cf) a (20 - 1) (a + 1) ys).Perm xs := (insOut_perm mx0 _ a _ _ ys (by rw [HP.out.length_eq, HN.out]; omega)).trans HP.out
   have HP2 := Lib.hid hpy
   have HZ2 := Lib.hid hZ
   have HBA := Lib.hid hb
   clear hZ HZ hpy hb
   go_wp2_with (go_at_call 93; go_must (with_reducible refine Calls.mono (HC.out _ hS) ?_); clear hS; rintro ee wk ⟨rfl, hS, _⟩)
   rw [HE.out] at hS
   go_roundw
   case rel => exact ⟨b, f, _, rfl, rfl, hlt, by have := HBA.out; omega, HP2, HZ2, hS⟩
   case measure => have := HBA.out; simp [intOf]; omega
  ·have hlt' : ¬ ((b : Int) ≤ (n : Int)) := by omega
   rw [if_neg hlt] at hZ
   have HC := Lib.hid (fun (W : World) (h : Hp B w0 W (rowsI g n cap ys :: L)) => HIN.out ys a n W HP.out (Nat.le_refl _) han h)
   rw [hZ] at HC
   clear hZ HZ hb HIN HP hw1
   go_wp2_with (go_at_call 93; go_must (with_reducible refine Calls.mono (HC.out _ hS) ?_); clear hS; rintro ee wk ⟨rfl, hS, _⟩)
   clear hlt hlt' haf han HC hF
   go_loopw [6, 7, 8, 9] (fun s6 _ _ _ wr => ∃ (z f : Nat) (ys : List Mx), s6 = .int .i64 z ∧ 1 ≤ z ∧ z ≤ 2 * n + 20 ∧ n < f + z ∧ Hid (ys.Perm xs) ∧ Hid (stbL mx0 (ltM cf) n f z ys = R) ∧ Hp B w0 wr (rowsI g n cap ys :: L)) (fun s6 _ _ _ _ => n - (intOf s6).toNat)
   case atStart => exact ⟨20, n, zs0, rfl, by omega, by omega, by omega, HPZ, HR, hS⟩
   case round =>
    clear hS HR HPZ
    skip
    obtain ⟨z, f, ys, rfl, hz, hz2, hzf, HP, HR, hS⟩ := hrel
    by_cases hlt : z < n
    ·have hlt' : (z : Int) < (n : Int) := by omega
     obtain ⟨f, rfl⟩ : ∃ f2, f = f2 + 1 := ⟨f - 1, by omega⟩
     have hR2 := HR.out
     rw [stbL, if_pos hlt] at hR2
     have HR := Lib.hid hR2
     obtain ⟨zz, hzz⟩ : ∃ zz, zz = 2 * z := ⟨_, rfl⟩
     rw [← hzz] at hR2 HR
     have hw2 : IntKind.i64.wrap (2 * (z : Int)) = (zz : Int) := by rw [IntWalk.i64_in _ (by omega)]; omega
     have hw3 : IntKind.i64.wrap ((z : Int) * 2) = (zz : Int) := by rw [IntWalk.i64_in _ (by omega)]; omega
     have HZZ := Lib.hid hzz
     clear hR2 hzz
     go_wp2
     go_loopw [7, 8] (fun s7 s8 wr => ∃ (a b f2 : Nat) (ys : List Mx), s7 = .int .i64 a ∧ s8 = .int .i64 b ∧ b = a + zz ∧ a ≤ n ∧ n < a + f2 ∧ Hid (ys.Perm xs) ∧ Hid (stbL mx0 (ltM cf) n f zz (mrgL mx0 (ltM cf) n z f2 a ys) = R) ∧ Hp B w0 wr (rowsI g n cap ys :: L)) (fun s7 _ _ => n - (intOf s7).toNat)
     case atStart => exact ⟨0, zz, n + 1, ys, rfl, rfl, by omega, by omega, by omega, HP, HR, hS⟩
     case round =>
      clear hS HR HP
      obtain ⟨a, b, f2, ys, rfl, rfl, hb, han, haf, HP, HR, hS⟩ := hrel
      obtain ⟨f2, rfl⟩ : ∃ f3, f2 = f3 + 1 := ⟨f2 - 1, by omega⟩
      have hR2 := HR.out
      rw [mrgL, ← HZZ.out, ← hb] at hR2
      obtain ⟨m, hm⟩ : ∃ m, m = a + z := ⟨_, rfl⟩
      rw [← hm] at hR2
      have hw4 : IntKind.i64.wrap ((a : Int) + (z : Int)) = (m : Int) := by rw [IntWalk.i64_in _ (by omega)]; omega
      have HZ2 := HZZ.out
      by_cases hbn : b ≤ n
      ·have hbn' : (b : Int) ≤ (n : Int) := by omega
       have hw5 : IntKind.i64.wrap ((b : Int) + (zz : Int)) = ((b + zz : Nat) : Int) := by rw [IntWalk.i64_in _ (by omega)]; push_cast; rfl
       rw [if_pos hbn] at hR2
       have HC := Lib.hid (fun (W : World) (h : Hp B w0 W (rowsI g n cap ys :: L)) => HSY.out ys a m b W HP.out (by omega) (by omega) hbn h)
       have hpy : (symL mx0 (ltM cf) n ys a m b).Perm xs := (symL_perm mx0 _ n ys a m b (by omega) (by omega) (by rw [HP.out.length_eq, HN.out]; omega)).trans HP.out
       have HP2 := Lib.hid hpy
       have HR2 := Lib.hid hR2
       have HBA := Lib.hid (show a < b ∧ n < b + f2 by omega)
       clear hR2 HR hpy hm HZ2 hb
       go_wp2_with (go_at_call 111; go_must (with_reducible refine Calls.mono (HC.out _ hS) ?_); clear hS; rintro ee wk ⟨rfl, hS⟩)
       go_roundw
       case rel => exact ⟨b, b + zz, f2, _, rfl, rfl, rfl, hbn, HBA.out.2, HP2, HR2, hS⟩
       case measure => have := HBA.out; simp [intOf]; omega
      ·have hbn' : ¬ ((b : Int) ≤ (n : Int)) := by omega
       rw [if_neg hbn] at hR2
       have HZN := Lib.hid (show 1 ≤ zz ∧ zz ≤ 2 * n + 20 ∧ n < f + zz ∧ z < zz by omega)
       by_cases hmn : m < n
       ·have hmn' : (m : Int) < (n : Int) := by omega
        rw [if_pos hmn] at hR2
        have HC := Lib.hid (fun (W : World) (h : Hp B w0 W (rowsI g n cap ys :: L)) => HSY.out ys a m n W HP.out (by omega) (by omega) (Nat.le_refl _) h)
        have hpy : (symL mx0 (ltM cf) n ys a m n).Perm xs := (symL_perm mx0 _ n ys a m n (by omega) (by omega) (by rw [HP.out.length_eq, HN.out]; omega)).trans HP.out
        have HP2 := Lib.hid hpy
        have HR2 := Lib.hid hR2
        clear hR2 HR hpy hm HZ2 hb
        go_wp2_with (go_at_call 111; go_must (with_reducible refine Calls.mono (HC.out _ hS) ?_); clear hS; rintro ee wk ⟨rfl, hS⟩)
        go_roundw
        case rel => exact ⟨zz, f, _, rfl, HZN.out.1, HZN.out.2.1, HZN.out.2.2.1, HP2, HR2, hS⟩
        case measure => have := HZN.out; simp [intOf]; omega
       ·have hmn' : ¬ ((m : Int) < (n : Int)) := by omega
        rw [if_neg hmn] at hR2
        have HR2 := Lib.hid hR2
        clear hR2 HR hm HZ2 hb
        go_wp2
        go_roundw
        case rel => exact ⟨zz, f, _, rfl, HZN.out.1, HZN.out.2.1, HZN.out.2.2.1, HP, HR2, hS⟩
        case measure => have := HZN.out; simp [intOf]; omega
    ·have hlt' : ¬ ((z : Int) < (n : Int)) := by omega
     have hR2 := HR.out
     have he : stbL mx0 (ltM cf) n f z ys = ys := by cases f with
      | zero => rfl
      | succ f => rw [stbL, if_neg hlt]
     rw [he] at hR2
     subst hR2
     go_wp2
     go_end0
     exact ⟨rfl, hS⟩
theorem stable_any {B : Nat} {w0 w : World} {L : List Item} {g n cap : Nat} (xs : List Mx) (fid : Nat) (cb : Array Value) (cf : List GV → List GV → Int) (hn : xs.length = n) (hn2 : n ≤ 1000) (hc : n ≤ cap)
  (eg : ∀ args w, (callFunc fid args).run Tryz.prog w = .ok (.enter fid args) w) (hcf : SortC B w0 g n cap L fid cb cf xs) (hS : Hp B w0 w (rowsI g n cap xs :: L)) :
  Calls Tryz.prog 52 #[.slice (some ⟨g, 0, none⟩) n cap, .func (.func fid) #[] cb] w fun e w' => e = .returned (.tuple #[]) ∧ Hp B w0 w' (rowsI g n cap (stableL mx0 (ltM cf) xs) :: L) := by
 have HC := Lib.hid (fun (W : World) (h : Hp B w0 W (rowsI g n cap xs :: L)) => stableC_any xs fid cb cf hn hn2 hc eg hcf h)
 clear hn hcf eg
 have hF : True := trivial
 have hR := Reads.nil w
 go_enter Tryz.func52, Tryz.ntmps52
 go_wp2_with (go_at_call 82; go_must (with_reducible refine Calls.mono (HC.out _ hS) ?_); clear hS; rintro ee wk ⟨rfl, hS⟩)
 go_end0
 exact ⟨rfl, hS⟩
end Go.Proofs.YtlaldfkeaalnhaaGreatDoor

/- query.together and query.Run: what tells how rows stand; slices.Clone of rows. -/
namespace Go.Proofs.YtlaldfkeaalnhaaGreatDoor
set_option linter.unusedSimpArgs false
set_option linter.unusedVariables false
open Go.RowKit
set_option linter.all false
theorem Hp.rowSm {B : Nat} {w0 w : World} {L : List Item} {e : TypeId} {size n cap : Nat} {A : Option Addr} {xs : List Value} (h : Hp B w0 w L) (i : Nat) (hi : L[i]? = some (.row e size A n cap xs)) (hx : xs ≠ []) : ∃ g, A = some ⟨g, 0, none⟩ := by
 cases xs with
 | nil => exact absurd rfl hx
 | cons x xs =>
  obtain ⟨g, hg, _⟩ := h.rowCell i hi (j := 0) (u := x) rfl
  exact ⟨g, hg⟩
set_option maxRecDepth 100000 in
set_option maxHeartbeats 8000000 in
theorem tog1_any (ks : List Int) (Ab : Option Addr) (m cb gB : Nat) (x y : Mx) (w : World) (hb : RI w Ab ks) (hm : ks.length = m) (hm2 : m ≤ 1000) (hB : w.cell? ⟨gB, 0, none⟩ = some (.slice Ab m cb)) (hx : RV w x.1 x.2.2) (hy : RV w y.1 y.2.2) (hlx : x.2.2.length ≤ 1000) (hly : y.2.2.length ≤ 1000)
  (hk : ∀ k ∈ ks, 0 ≤ k ∧ k < x.2.2.length) (hk2 : ∀ k ∈ ks, 0 ≤ k ∧ k < y.2.2.length) :
  Calls Tryz.prog 80 #[hdV x, hdV y, .pointer (some ⟨gB, 0, none⟩)] w fun e w' => e = .returned (.int .i64 (ordK ks x.2.2 y.2.2)) ∧ Ext w w' := by
 have HK1 := Lib.hid (fun (W : World) (L : List Item) (h : Hp w.heap.size w W L) => show Calls Tryz.prog 49 #[.slice x.1 x.2.2.length x.2.1, .slice Ab m cb] W fun e w' => ∃ A' c', e = .returned (.slice A' m c') ∧ Hp w.heap.size w w' (.row 29 3 A' m c' (cellsV (keyR ks x.2.2)) :: L) from (qkey_any x.2.2 x.1 _ x.2.1 ks Ab m cb W rfl hm (hx.ext h.ext) (hb.ext h.ext) hlx hm2 hk).mono fun e w' ⟨A', c', he, hk⟩ => ⟨A', c', he, h.join hk⟩)
 have HK2 := Lib.hid (fun (W : World) (L : List Item) (h : Hp w.heap.size w W L) => show Calls Tryz.prog 49 #[.slice y.1 y.2.2.length y.2.1, .slice Ab m cb] W fun e w' => ∃ A' c', e = .returned (.slice A' m c') ∧ Hp w.heap.size w w' (.row 29 3 A' m c' (cellsV (keyR ks y.2.2)) :: L) from (qkey_any y.2.2 y.1 _ y.2.1 ks Ab m cb W rfl hm (hy.ext h.ext) (hb.ext h.ext) hly hm2 hk2).mono fun e w' ⟨A', c', he, hk⟩ => ⟨A', c', he, h.join hk⟩)
 have HC := Lib.hid (fun (W : World) (L : List Item) (A1 : Option Addr) (c1 : Nat) (A2 : Option Addr) (c2 : Nat) (h : Hp w.heap.size w W (.row 29 3 A2 m c2 (cellsV (keyR ks y.2.2)) :: .row 29 3 A1 m c1 (cellsV (keyR ks x.2.2)) :: L)) => show Calls Tryz.prog 33 #[.slice A1 m c1, .slice A2 m c2, .func (.func 12) #[] #[]] W fun e w' => e = .returned (.int .i64 (cmpL (keyR ks x.2.2) (keyR ks y.2.2))) ∧ Hp w.heap.size w w' (.row 29 3 A2 m c2 (cellsV (keyR ks y.2.2)) :: .row 29 3 A1 m c1 (cellsV (keyR ks x.2.2)) :: L) from (cmpFunc_any (keyR ks x.2.2) (keyR ks y.2.2) A1 m c1 A2 m c2 W (by unfold keyR; rw [List.length_map, hm]) (by unfold keyR; rw [List.length_map, hm]) (h.rv 1 rfl) (h.rv 0 rfl) hm2 hm2).mono fun e w' ⟨he, hx⟩ => ⟨he, h.step hx⟩)
 have hS := Hp.init w
 have hR := Reads.cell hB (Reads.nil w)
 clear hb hm hB hx hy hk hk2
 go_enter Tryz.func80, Tryz.ntmps80
 go_upto_region 1 with (first | (refine hab ?_; (try clear hF); clear hS; intro wk hS; (try simp only [List.set_cons_zero, List.set_cons_succ, heap_size, heap_set_size] at hS); ((try clear hF); refine hfI ?_; intro hF)) | fail)
 ((with_reducible refine wp_region_chain_hp [.q, .q, .t, .q, .q, .t, .t, .t] [] (by kernel_rfl) rfl (by kernel_rfl) hS (fun w h => h.sub (by simp)) ?_); clear hS; (repeat ((with_reducible refine Walk.here ?_); (first | ((with_reducible apply Walk.skipQ); (first | rfl | exact wanted_false rfl rfl rfl (by assumption)); (try simp only [Mark.isQ, if_true, Bool.false_eq_true, if_false, Act.put, List.setIfInBounds_toArray, List.set_cons_zero, List.set_cons_succ])) | ((with_reducible apply Walk.val); (first | rfl | exact wanted_true rfl rfl rfl (by assumption)); (rintro w hS; ((try clear hF); refine hfI ?_; intro hF); go_simp; first | with_reducible rfl | (rw [if_neg (by first | omega | (simp only [ByteArray.size_append]; omega) | (simp [ByteArray.size_append]; omega))]; try with_reducible rfl)); (try simp only [Mark.isQ, if_true, Bool.false_eq_true, if_false, Act.put, List.setIfInBounds_toArray, List.set_cons_zero, List.set_cons_succ])) | ((with_reducible apply Walk.tail); (try simp only [Mark.isQ, if_true, Bool.false_eq_true, if_false, Act.put, List.setIfInBounds_toArray, List.set_cons_zero, List.set_cons_succ])) | ((with_reducible apply Walk.guardT); rfl; rfl; rfl; (all_goals intro hg)) | ((with_reducible apply Walk.guardF); rfl; rfl; rfl; (all_goals intro hg))))); refine Walk.done ?_; simp only [chainOf, Mark.isT, if_true, Bool.false_eq_true, if_false])
 (refine Chain.call (by (first | rfl | exact wanted_true rfl rfl rfl (by assumption))) (by rintro w hS; ((try clear hF); refine hfI ?_; intro hF); go_simp; exact ⟨rfl, rfl⟩) ?_; (intro w hS); (with_reducible refine Calls.mono (HK1.out _ _ hS) ?_); clear hS; rintro e wk ⟨A1, c1, rfl, hS⟩; (try simp only [List.eraseIdx_cons_zero, List.eraseIdx_cons_succ, List.set_cons_zero, List.set_cons_succ] at hS); refine ⟨_, _, rfl, hS, (fun w h => h.sub (by simp)), ?_⟩; (clear hS); try simp only [Act.put, List.setIfInBounds_toArray, List.set_cons_zero, List.set_cons_succ])
 (refine Chain.call (by (first | rfl | exact wanted_true rfl rfl rfl (by assumption))) (by rintro w hS; ((try clear hF); refine hfI ?_; intro hF); go_simp; exact ⟨rfl, rfl⟩) ?_; (intro w hS); (with_reducible refine Calls.mono (HK2.out _ _ hS) ?_); clear hS; rintro e wk ⟨A2, c2, rfl, hS⟩; (try simp only [List.eraseIdx_cons_zero, List.eraseIdx_cons_succ, List.set_cons_zero, List.set_cons_succ] at hS); refine ⟨_, _, rfl, hS, (fun w h => h.sub (by simp)), ?_⟩; (clear hS); try simp only [Act.put, List.setIfInBounds_toArray, List.set_cons_zero, List.set_cons_succ])
 (refine Chain.call (by (first | rfl | exact wanted_true rfl rfl rfl (by assumption))) (by rintro w hS; ((try clear hF); refine hfI ?_; intro hF); go_simp; exact ⟨rfl, rfl⟩) ?_; (intro w hS); (with_reducible refine Calls.mono (HC.out _ _ _ _ _ _ hS) ?_); clear hS; rintro e wk ⟨rfl, hS⟩; (try simp only [List.eraseIdx_cons_zero, List.eraseIdx_cons_succ, List.set_cons_zero, List.set_cons_succ] at hS); refine ⟨_, _, rfl, hS, (fun w h => h.sub (by simp)), ?_⟩; (clear hS); try simp only [Act.put, List.setIfInBounds_toArray, List.set_cons_zero, List.set_cons_succ])
 (refine Chain.val (by (first | rfl | exact wanted_true rfl rfl rfl (by assumption))) (fun w h => h.sub (by simp)) (by rintro w hS; ((try clear hF); refine hfI ?_; intro hF); go_simp; with_reducible rfl) ?_; try simp only [Act.put, List.setIfInBounds_toArray, List.set_cons_zero, List.set_cons_succ])
 (refine Chain.done ?_; (try clear hF); intro wk hS; ((try clear hF); refine hfI ?_; intro hF))
 go_wp2_with (first | (refine hab ?_; (try clear hF); clear hS; intro wk hS; (try simp only [List.set_cons_zero, List.set_cons_succ, heap_size, heap_set_size] at hS); ((try clear hF); refine hfI ?_; intro hF)) | fail)
 go_ret
 exact ⟨rfl, hS.ext⟩
set_option maxRecDepth 100000 in
set_option maxHeartbeats 8000000 in
theorem run2_any (ord : List (Int × Bool)) (oa : Option Addr) (m oc gQ : Nat) (x y : Mx) (w : World) (ho : ROr w oa ord) (hm : ord.length = m) (hm2 : m ≤ 1000) (hQ : w.cell? ⟨gQ, 3, none⟩ = some (.slice oa m oc)) (hx : RV w x.1 x.2.2) (hy : RV w y.1 y.2.2) (hlx : x.2.2.length ≤ 1000) (hly : y.2.2.length ≤ 1000)
  (hk : ∀ p ∈ ord, 0 ≤ p.1 ∧ p.1 < x.2.2.length ∧ p.1 < y.2.2.length) :
  Calls Tryz.prog 53 #[hdV x, hdV y, .pointer (some ⟨gQ, 0, none⟩)] w fun e w' => e = .returned (.int .i64 (ordC ord x.2.2 y.2.2)) ∧ Ext w w' := by
 obtain ⟨A1, c1, l1⟩ := x
 obtain ⟨A2, c2, l2⟩ := y
 dsimp only at hx hy hlx hly hk ⊢
 obtain ⟨n1, hn1⟩ : ∃ n1, n1 = l1.length := ⟨_, rfl⟩
 obtain ⟨n2, hn2⟩ : ∃ n2, n2 = l2.length := ⟨_, rfl⟩
 show Calls Tryz.prog 53 #[.slice A1 l1.length c1, .slice A2 l2.length c2, .pointer (some ⟨gQ, 0, none⟩)] w _
 rw [← hn1, ← hn2]
 rw [← hn1] at hlx
 rw [← hn2] at hly
 have Hn1 := Lib.hid hn1
 have Hn2 := Lib.hid hn2
 have HK := Lib.hid hk
 have Hm := Lib.hid hm
 have HCM := Lib.hid (fun (a b : GV) (W : World) => show Calls Tryz.prog 12 #[.agg #[.int .i64 a.kind, .int .i64 a.num, .string a.text], .agg #[.int .i64 b.kind, .int .i64 b.num, .string b.text]] W fun e w' => e = .returned (.int .i64 (cmpG a b)) ∧ Ext W w' from compare_any a.kind a.num a.text b.kind b.num b.text W)
 clear hn1 hn2 hk hm
 have hS := Hp.init w
 have hR := Reads.cell hQ (Reads.nil w)
 go_enter Tryz.func53, Tryz.ntmps53
 go_wp2_with (first | (refine hab ?_; (try clear hF); clear hS; intro wk hS; (try simp only [List.set_cons_zero, List.set_cons_succ, heap_size, heap_set_size] at hS); ((try clear hF); refine hfI ?_; intro hF)) | fail)
 go_loopw [5, 7, 8, 12] (fun _ _ _ i wr => ∃ j : Nat, i = .int .i64 j ∧ j ≤ m ∧ Hid (ordC ord l1 l2 = ordC (ord.drop j) l1 l2) ∧ Hp w.heap.size w wr []) (fun _ _ _ i _ => m - (intOf i).toNat)
 case atStart => exact ⟨0, rfl, Nat.zero_le _, Lib.hid rfl, hS⟩
 case round =>
  clear hS
  obtain ⟨j, rfl, hj, HE, hS⟩ := hrel
  by_cases hlt : j < m
  ·obtain ⟨p, hp⟩ : ∃ p, ord[j]? = some p := ⟨ord[j]'(by rw [Hm.out]; exact hlt), List.getElem?_eq_getElem _⟩
   obtain ⟨bo, oo, rfl, p0, p1⟩ := ho j p hp
   obtain ⟨k0, k1, k2⟩ := HK.out p (List.mem_of_getElem? hp)
   obtain ⟨q, hq⟩ : ∃ q : Nat, p.1 = (q : Int) := ⟨p.1.toNat, by omega⟩
   have hq1 : q < n1 := by rw [Hn1.out]; omega
   have hq2 : q < n2 := by rw [Hn2.out]; omega
   obtain ⟨v, hv⟩ : ∃ v, l1[q]? = some v := ⟨l1[q]'(by rw [← Hn1.out]; exact hq1), List.getElem?_eq_getElem _⟩
   obtain ⟨u, hu⟩ : ∃ u, l2[q]? = some u := ⟨l2[q]'(by rw [← Hn2.out]; exact hq2), List.getElem?_eq_getElem _⟩
   obtain ⟨b1, o1, rfl, d0, d1, d2⟩ := hx q v hv
   obtain ⟨b2, o2, rfl, f0, f1, f2⟩ := hy q u hu
   have HE2 := Lib.hid (show ordC ord l1 l2 = if (if p.2 = true then - cmpG v u else cmpG v u) ≠ 0 then (if p.2 = true then - cmpG v u else cmpG v u) else ordC (ord.drop (j + 1)) l1 l2 from by
    rw [HE.out, show ord.drop j = p :: ord.drop (j + 1) from dropI_at hp]
    obtain ⟨pk, pd⟩ := p
    dsimp only at hq ⊢
    have e1 : atR l1 pk = v := by unfold atR; rw [hq]; simp [hv]
    have e2 : atR l2 pk = u := by unfold atR; rw [hq]; simp [hu]
    rw [ordC, e1, e2])
   have hcr := cmpG_range v u
   have HCV := Lib.hid (HCM.out v u)
   obtain ⟨cv, hcv⟩ : ∃ cv, cv = cmpG v u := ⟨_, rfl⟩
   rw [← hcv] at hcr HCV HE2
   rw [hq] at p0
   obtain ⟨pk, pd⟩ := p
   dsimp only at p0 p1 HE2
   have hR := Reads.cell hQ (Reads.cell p0 (Reads.cell p1 (Reads.cell d0 (Reads.cell d1 (Reads.cell d2 (Reads.cell f0 (Reads.cell f1 (Reads.cell f2 (Reads.nil w)))))))))
   have hwn : IntKind.i64.wrap (- cv) = - cv := IntWalk.i64_in _ (by omega)
   clear hcv hp hv hu p0 p1 d0 d1 d2 f0 f1 f2 hQ ho hx hy k0 k1 k2 HE HCM hq HK
   by_cases hc : cv = 0
   ·subst hc
    have HE3 := Lib.hid (show ordC ord l1 l2 = ordC (ord.drop (j + 1)) l1 l2 from by rw [HE2.out]; cases pd <;> simp)
    clear HE2 hcr
    cases pd <;> as_aux_lemma =>
     ((try clear hF); refine hfI ?_; intro hF)
     go_upto_region 4 with (first | (refine hab ?_; (try clear hF); clear hS; intro wk hS; (try simp only [List.set_cons_zero, List.set_cons_succ, heap_size, heap_set_size] at hS); ((try clear hF); refine hfI ?_; intro hF)) | fail)
     obtain ⟨g7, hg7⟩ := hS.named
     rw [← hg7] at hS hF ⊢
     clear hg7
     ((with_reducible refine wp_region_hp (draw := true) (by kernel_rfl) (by kernel_rfl) hS ?_); (repeat ((with_reducible refine Fixed.here ?_); (first | ((with_reducible apply Fixed.skip); (first | rfl | exact wanted_false rfl rfl rfl (by assumption)); try simp only [Act.put, List.setIfInBounds_toArray, List.set_cons_zero, List.set_cons_succ]) | ((with_reducible apply Fixed.val); (first | rfl | exact wanted_true rfl rfl rfl (by assumption)); (rintro w hS; ((try clear hF); refine hfI ?_; intro hF); go_simp; with_reducible rfl); try simp only [Act.put, List.setIfInBounds_toArray, List.set_cons_zero, List.set_cons_succ]) | ((with_reducible apply Fixed.call); (first | rfl | exact wanted_true rfl rfl rfl (by assumption)); (rintro w hS; ((try clear hF); refine hfI ?_; intro hF); go_simp; exact ⟨rfl, rfl⟩); (rintro w hS; first | (with_reducible exact HCV.out _)); try simp only [Act.put, List.setIfInBounds_toArray, List.set_cons_zero, List.set_cons_succ])))); (with_reducible refine Fixed.done ?_); (try clear hF); clear hS; intro wk hS; ((try clear hF); refine hfI ?_; intro hF))
     go_wp2_with (first | (refine hab ?_; (try clear hF); clear hS; intro wk hS; (try simp only [List.set_cons_zero, List.set_cons_succ, heap_size, heap_set_size] at hS); ((try clear hF); refine hfI ?_; intro hF)) | fail)
     go_roundw
     case rel => exact ⟨j + 1, by go_num, by omega, HE3, hS.tail⟩
     case measure => simp [intOf]; omega
   ·have hcb : (cv != 0) = true := by simp [hc]
    have hcb2 : (-cv != 0) = true := by simp [hc]
    have HE3 := Lib.hid (show ordC ord l1 l2 = (if pd = true then - cv else cv) from by
     rw [HE2.out, if_pos]
     split <;> omega)
    clear HE2 hcr hc
    cases pd <;> as_aux_lemma =>
     ((try clear hF); refine hfI ?_; intro hF)
     go_upto_region 4 with (first | (refine hab ?_; (try clear hF); clear hS; intro wk hS; (try simp only [List.set_cons_zero, List.set_cons_succ, heap_size, heap_set_size] at hS); ((try clear hF); refine hfI ?_; intro hF)) | fail)
     obtain ⟨g7, hg7⟩ := hS.named
     rw [← hg7] at hS hF ⊢
     clear hg7
     ((with_reducible refine wp_region_hp (draw := true) (by kernel_rfl) (by kernel_rfl) hS ?_); (repeat ((with_reducible refine Fixed.here ?_); (first | ((with_reducible apply Fixed.skip); (first | rfl | exact wanted_false rfl rfl rfl (by assumption)); try simp only [Act.put, List.setIfInBounds_toArray, List.set_cons_zero, List.set_cons_succ]) | ((with_reducible apply Fixed.val); (first | rfl | exact wanted_true rfl rfl rfl (by assumption)); (rintro w hS; ((try clear hF); refine hfI ?_; intro hF); go_simp; with_reducible rfl); try simp only [Act.put, List.setIfInBounds_toArray, List.set_cons_zero, List.set_cons_succ]) | ((with_reducible apply Fixed.call); (first | rfl | exact wanted_true rfl rfl rfl (by assumption)); (rintro w hS; ((try clear hF); refine hfI ?_; intro hF); go_simp; exact ⟨rfl, rfl⟩); (rintro w hS; first | (with_reducible exact HCV.out _)); try simp only [Act.put, List.setIfInBounds_toArray, List.set_cons_zero, List.set_cons_succ])))); (with_reducible refine Fixed.done ?_); (try clear hF); clear hS; intro wk hS; ((try clear hF); refine hfI ?_; intro hF))
     go_wp2_with (first | (refine hab ?_; (try clear hF); clear hS; intro wk hS; (try simp only [List.set_cons_zero, List.set_cons_succ, heap_size, heap_set_size] at hS); ((try clear hF); refine hfI ?_; intro hF)) | fail)
     go_ret
     exact ⟨by rw [HE3.out]; first | done | rfl, hS.ext⟩
  ·obtain rfl : m = j := by omega
   have HE3 := Lib.hid (show ordC ord l1 l2 = 0 from by rw [HE.out, List.drop_eq_nil_of_le (by rw [Hm.out]; exact Nat.le_refl _)]; rfl)
   clear HE
   ((try clear hF); refine hfI ?_; intro hF)
   go_wp2_with (first | (refine hab ?_; (try clear hF); clear hS; intro wk hS; (try simp only [List.set_cons_zero, List.set_cons_succ, heap_size, heap_set_size] at hS); ((try clear hF); refine hfI ?_; intro hF)) | fail)
   go_ret
   exact ⟨by rw [HE3.out]; first | done | rfl, hS.ext⟩
theorem rr_mx {w : World} {b : Nat} : ∀ (rs : List (List GV)) (o : Nat), RR w (some ⟨b, o, none⟩) rs → ∃ xs : List Mx, xs.map (·.2.2) = rs ∧ (∀ j x, xs[j]? = some x → w.cell? ⟨b, o + j, none⟩ = some (hdV x)) ∧ ∀ x ∈ xs, RV w x.1 x.2.2
 | [], o, _ => ⟨[], rfl, fun j x h => by simp at h, fun x h => by simp at h⟩
 | r :: rs, o, h => by
  obtain ⟨b1, o1, A1, c1, e, h0, h1⟩ := h 0 r rfl
  obtain ⟨rfl, rfl⟩ : b = b1 ∧ o = o1 := by simpa using e
  obtain ⟨xs, e1, e2, e3⟩ := rr_mx rs (o + 1) (fun i r' hi => by
   obtain ⟨b2, o2, A2, c2, e, k0, k1⟩ := h (i + 1) r' (by simpa using hi)
   obtain ⟨rfl, rfl⟩ : b = b2 ∧ o = o2 := by simpa using e
   exact ⟨b, o + 1, A2, c2, rfl, by rw [Nat.add_assoc, Nat.add_comm 1 i]; exact k0, k1⟩)
  refine ⟨(A1, c1, r) :: xs, by simp [e1], fun j x hj => ?_, fun x hx => ?_⟩
  ·cases j with
   | zero =>
    obtain rfl : (A1, c1, r) = x := by simpa using hj
    exact h0
   | succ j =>
    have := e2 j x (by simpa using hj)
    rwa [Nat.add_assoc, Nat.add_comm 1 j] at this
  ·rcases List.mem_cons.1 hx with rfl | hx
   ·exact h1
   ·exact e3 x hx
set_option maxRecDepth 100000 in
set_option maxHeartbeats 8000000 in
theorem rclone_any (xs : List Mx) (b o n cap : Nat) (w : World) (hn : xs.length = n) (hr : ∀ j x, xs[j]? = some x → w.cell? ⟨b, o + j, none⟩ = some (hdV x)) (h0 : 1 ≤ n) (hl : n ≤ 1000) :
  Calls Tryz.prog 30 #[.slice (some ⟨b, o, none⟩) n cap] w fun e w' => ∃ g cap', e = .returned (.slice (some ⟨g, 0, none⟩) n cap') ∧ n ≤ cap' ∧ Hp w.heap.size w w' [rowsI g n cap' xs] := by
 have HC := Lib.hid (fun (W : World) (hx : Ext w W) (j : Nat) (u : Value) (hu : (xs.map hdV)[j]? = some u) => show W.cell? ((⟨b, o, none⟩ : Addr).add j) = some u from by
  rw [addr_plus]
  rw [List.getElem?_map] at hu
  cases hj : xs[j]? with
  | none => rw [hj] at hu; cases hu
  | some x =>
   rw [hj] at hu
   obtain rfl : hdV x = u := by simpa using hu
   exact hx.keeps (hr j x hj))
 have HL := Lib.hid (show (xs.map hdV).length = n * 1 by rw [List.length_map, hn, Nat.mul_one])
 have H1 := Lib.hid (show ∀ u ∈ xs.map hdV, u.oneCell' = true from fun u hu => by
  obtain ⟨x, _, rfl⟩ := List.mem_map.1 hu
  rfl)
 have HNE := Lib.hid (show xs.map hdV ≠ [] by intro e; have h1 := congrArg List.length e; simp at h1; subst h1; simp at hn; omega)
 clear hr hn
 have hS := Hp.init w
 have hR := Reads.nil w
 have he : ∀ w : World, (binOp .eql 23 (.slice (some ⟨b, o, none⟩) n cap) (.slice none 0 0)).run Tryz.prog w = .ok (.bool false) w := fun _ => rfl
 go_enter Tryz.func30, Tryz.ntmps30
 go_wp2_with (first | (refine hab ?_; (try clear hF); clear hS; intro wk hS; (try simp only [List.set_cons_zero, List.set_cons_succ, heap_size, heap_set_size] at hS); ((try clear hF); refine hfI ?_; intro hF)) | (at_builtin; refine wpList_append_hp Tryz.elem_rows rfl (.tmp 5) (.tmp 6) rfl (hS.blkRow (size := 1) (n := 0) rfl (by omega)) rfl ⟨b, o, none⟩ rfl (news := xs.map hdV) HL.out (fun j u hu => HC.out _ hS.ext j u hu) H1.out (by omega) (by omega) ?_; clear hS; intro A' cap' wk hS; ((try clear hF); refine hfI ?_; intro hF)))
 rw [Nat.zero_add, List.nil_append] at hS
 go_ret
 obtain ⟨g, rfl⟩ := hS.rowSm 0 rfl HNE.out
 exact ⟨g, cap', by simp, (hS.rowLen 0 rfl).2, hS⟩
end Go.Proofs.YtlaldfkeaalnhaaGreatDoor

/- query.together: the walk. -/
namespace Go.Proofs.YtlaldfkeaalnhaaGreatDoor
set_option linter.unusedSimpArgs false
set_option linter.unusedVariables false
open Go.RowKit
set_option linter.all false
theorem Tryz.elem_grpsQ : Elem Tryz.prog 97 23 1 24 := by
 obtain ⟨i0, hi0, hz0, hz1, hz2⟩ := info_parts (show (Tryz.prog.info? 23).map (fun i => (i.zero, i.size, i.bytes)) = some (some (.slice none 0 0), 1, 24) by kernel_rfl)
 exact ⟨Tryz.underlying97, ⟨i0, _, hi0, hz0, hz1, hz2, rfl⟩, by omega⟩
/-- the slice at A reads as rows that are together -/
def RGr (w : World) (A : Option Addr) (gs : List (List (List GV))) : Prop := ∀ (i : Nat) (g : List (List GV)), gs[i]? = some g → ∃ (b o : Nat) (A1 : Option Addr) (c1 : Nat), A = some ⟨b, o, none⟩ ∧ w.cell? ⟨b, o + i, none⟩ = some (.slice A1 g.length c1) ∧ RR w A1 g
theorem RGr.ext {w w' : World} {A : Option Addr} {l : List (List (List GV))} (h : RGr w A l) (hx : Ext w w') : RGr w' A l := fun i r hi => by
 obtain ⟨b, o, A1, c1, hA, h0, h1⟩ := h i r hi
 exact ⟨b, o, A1, c1, hA, hx.keeps h0, h1.ext hx⟩
/-- rows that are together: where they lie -/
abbrev Gx := Option Addr × Nat × List Mx
abbrev hdG (x : Gx) : Value := .slice x.1 x.2.2.length x.2.1
abbrev gI (x : Gx) : Item := .row 35 1 x.1 x.2.2.length x.2.1 (x.2.2.map hdV)
def conG (x : Gx) : List (List GV) := x.2.2.map (·.2.2)
theorem gI_rr {B : Nat} {w0 w : World} {L : List Item} (h : Hp B w0 w L) {x : Gx} (hx : gI x ∈ L) (hv : ∀ y ∈ x.2.2, RV w y.1 y.2.2) : RR w x.1 (conG x) := fun i r hi => by
 unfold conG at hi
 rw [List.getElem?_map] at hi
 cases hxi : x.2.2[i]? with
 | none => rw [hxi] at hi; cases hi
 | some y =>
  rw [hxi] at hi
  obtain rfl : y.2.2 = r := by simpa using hi
  obtain ⟨g, hg, c0, _⟩ := (hp_of_at (h.own _ hx)).rowCell 0 rfl (j := i) (u := hdV y) (by rw [List.getElem?_map, hxi]; rfl)
  exact ⟨g, 0, y.1, y.2.1, hg, by simpa using c0, hv y (List.mem_of_getElem? hxi)⟩
theorem rgr_of {B : Nat} {w0 w : World} {L : List Item} {A : Option Addr} {n cap : Nat} {gs : List Gx} (h : Hp B w0 w (.row 23 1 A n cap (gs.map hdG) :: L)) (hm : ∀ x ∈ gs, gI x ∈ L) (hv : ∀ x ∈ gs, ∀ y ∈ x.2.2, RV w y.1 y.2.2) : RGr w A (gs.map conG) := fun i g hi => by
 rw [List.getElem?_map] at hi
 cases hxi : gs[i]? with
 | none => rw [hxi] at hi; cases hi
 | some x =>
  rw [hxi] at hi
  obtain rfl : conG x = g := by simpa using hi
  obtain ⟨g0, hg, c0, _⟩ := h.rowCell 0 rfl (j := i) (u := hdG x) (by rw [List.getElem?_map, hxi]; rfl)
  have hx := List.mem_of_getElem? hxi
  exact ⟨g0, 0, x.1, x.2.1, hg, by rw [Nat.zero_add, show (conG x).length = x.2.2.length from List.length_map ..]; exact c0, gI_rr h.tail (hm x hx) (hv x hx)⟩
theorem grp_len (ks : List Int) : ∀ (l : List (List GV)) (out : List (List (List GV))), (l.foldl (grpStep ks) out).length ≤ out.length + l.length
 | [], out => by simp
 | r :: l, out => by
  rw [List.foldl_cons]
  have h1 := grp_len ks l (grpStep ks out r)
  have h2 : (grpStep ks out r).length ≤ out.length + 1 := by
   unfold grpStep
   cases hl : out.getLast? with
   | none => simp
   | some g =>
    simp only
    split
    ·simp only [List.length_append, List.length_dropLast, List.length_singleton]; omega
    ·simp
  simp only [List.length_cons]
  omega
theorem grp_last (ks : List Int) (D : List (List (List GV))) (c : List (List GV)) (r : List GV) : grpStep ks (D ++ [c]) r = if cmpL (keyR ks (c.headD [])) (keyR ks r) = 0 then D ++ [c ++ [r]] else (D ++ [c]) ++ [[r]] := by
 unfold grpStep
 rw [List.getLast?_append]
 simp
theorem grp_take (ks : List Int) {l : List (List GV)} {j : Nat} {r : List GV} (h : l[j]? = some r) : (l.take (j + 1)).foldl (grpStep ks) [] = grpStep ks ((l.take j).foldl (grpStep ks) []) r := by
 rw [List.take_add_one, h, List.foldl_append]
 rfl
theorem perm_new {a b c d : Item} {G : List Item} {x : Item} : (a :: b :: c :: d :: (G ++ [x])).Perm (b :: a :: x :: c :: d :: G) :=
 (List.Perm.swap b a _).trans (((List.perm_append_comm (l₁ := c :: d :: G) (l₂ := [x])).cons a).cons b)
theorem set_last {α : Type} (l : List α) (a b : α) (k : Nat) (h : l.length = k) : (l ++ [a]).set k b = l ++ [b] := by subst h; simp
theorem getD_hd {xs : List Mx} {x0 : Mx} (h : xs[0]? = some x0) : (xs.map (·.2.2)).headD [] = x0.2.2 := by
 cases xs with
 | nil => simp at h
 | cons a l => simp at h; subst h; rfl
set_option maxRecDepth 100000 in
set_option maxHeartbeats 8000000 in
theorem together_any (rs : List (List GV)) (A : Option Addr) (n cap : Nat) (ks : List Int) (Ab : Option Addr) (m cb : Nat) (w : World) (hn : rs.length = n) (hr : RR w A rs) (hb : RI w Ab ks) (hm : ks.length = m) (h0 : 1 ≤ n) (hl : n ≤ 1000) (hm2 : m ≤ 1000) (hrl : ∀ r ∈ rs, r.length ≤ 1000) (hk : ∀ r ∈ rs, ∀ k ∈ ks, 0 ≤ k ∧ k < r.length) :
  Calls Tryz.prog 50 #[.slice A n cap, .slice Ab m cb] w fun e w' => ∃ A' n' c', e = .returned (.slice A' n' c') ∧ (togG ks rs).length = n' ∧ n' ≤ 1000 ∧ Ext w w' ∧ RGr w' A' (togG ks rs) := by
 by_cases hks : ks = []
 ·subst hks
  obtain rfl : m = 0 := by simpa using hm.symm
  have HR := Lib.hid hr
  have Hn := Lib.hid hn
  clear hr hb hk hrl hn hm
  have hS := Hp.init w
  have hR := Reads.nil w
  go_enter Tryz.func50, Tryz.ntmps50
  go_wp2_with (first | ((with_reducible first | refine nhLa ?_ | refine nhLd ?_ | refine nhCa ?_ | refine nhCd ?_ | refine nhPa ?_ | refine nhPd ?_ | refine nhKa ?_ | refine nhKd ?_); (try clear hF); clear hS; intro wk hS; refine hfI ?_; intro hF) | fail)
  go_ret
  refine ⟨_, _, _, rfl, rfl, by decide, hS.ext, fun i g hi => ?_⟩
  cases i with
  | succ i => simp [togG] at hi
  | zero =>
   obtain rfl : rs = g := by simpa [togG] using hi
   have hF := hS.facts
   simp only [HFacts, cellFacts, RFacts, cellOnly, and_true, true_and, Nat.zero_add, Nat.reduceAdd] at hF
   refine ⟨_, _, A, cap, rfl, ?_, HR.out.ext hS.ext⟩
   rw [Hn.out, Nat.zero_add]
   exact hF.1.1
 have hm0 : m ≠ 0 := fun e => hks (List.eq_nil_of_length_eq_zero (by rw [hm, e]))
 have hmb : ((m : Int) == 0) = false := by simp; omega
 obtain ⟨b, o, hA⟩ : ∃ b o, A = some ⟨b, o, none⟩ := by
  cases rs with
  | nil => simp at hn; omega
  | cons r l =>
   obtain ⟨b, o, _, _, e, _⟩ := hr 0 r rfl
   exact ⟨b, o, e⟩
 subst hA
 obtain ⟨xs, hx1, hx2, hx3⟩ := rr_mx rs o hr
 have hxn : xs.length = n := by rw [← hn, ← hx1, List.length_map]
 have hT : togG ks rs = (srtR (ordK ks) rs).foldl (grpStep ks) [] := by unfold togG; rw [if_neg hks]
 have hmx : ∀ x ∈ xs, x.2.2 ∈ rs := fun x hx => by rw [← hx1]; exact List.mem_map.2 ⟨x, hx, rfl⟩
 have HCLN := Lib.hid (fun (W : World) (L : List Item) (h : Hp w.heap.size w W L) => show Calls Tryz.prog 30 #[.slice (some ⟨b, o, none⟩) n cap] W fun e w' => ∃ g c', e = .returned (.slice (some ⟨g, 0, none⟩) n c') ∧ n ≤ c' ∧ Hp w.heap.size w w' (rowsI g n c' xs :: L) from (rclone_any xs b o n cap W hxn (fun j x hj => h.ext.keeps (hx2 j x hj)) h0 hl).mono fun e w' ⟨g, c', he, hc, hk⟩ => ⟨g, c', he, hc, h.join hk⟩)
 have HTBL := Lib.hid (fun (W : World) (g3 gL cL : Nat) (hc : n ≤ cL) (h : Hp w.heap.size w W (rowsI gL n cL xs :: [.blk g3 [.slice Ab m cb] 91])) => stable_any xs 80 #[.pointer (some ⟨g3, 0, none⟩)] (ordK ks) hxn hl hc (fun _ _ => by kernel_rfl) (fun xs' W' hm' hl' hW x hx y hy => by
  have hc0 : W'.cell? ⟨g3, 0, none⟩ = some (.slice Ab m cb) := by
   have := hW.tail.facts
   exact this.1.1.1
  exact tog1_any ks Ab m cb g3 x y W' (hb.ext hW.ext) hm hm2 hc0 ((hx3 x hx).ext hW.ext) ((hx3 y hy).ext hW.ext) (hrl _ (hmx x hx)) (hrl _ (hmx y hy)) (hk _ (hmx x hx)) (hk _ (hmx y hy))) h)
 obtain ⟨ys, hys⟩ : ∃ ys, ys = stableL mx0 (ltM (ordK ks)) xs := ⟨_, rfl⟩
 rw [← hys] at HTBL
 have hyp : ys.Perm xs := by rw [hys]; exact stableL_perm mx0 _ xs
 have HYN := Lib.hid (show ys.length = n by rw [hyp.length_eq, hxn])
 have HYX := Lib.hid (show ∀ y ∈ ys, y ∈ xs from fun y hy => hyp.mem_iff.1 hy)
 have HYM := Lib.hid (show (ys.map (·.2.2)).foldl (grpStep ks) [] = togG ks rs by rw [hT, hys, srtR_of, hx1])
 have HRV := Lib.hid (show ∀ y ∈ ys, RV w y.1 y.2.2 from fun y hy => hx3 y (hyp.mem_iff.1 hy))
 have HCMP := Lib.hid (fun (W : World) (g3 : Nat) (hW : Ext w W) (hc0 : W.cell? ⟨g3, 0, none⟩ = some (.slice Ab m cb)) (x y : Mx) (hx : x ∈ ys) (hy : y ∈ ys) => tog1_any ks Ab m cb g3 x y W (hb.ext hW) hm hm2 hc0 ((hx3 x (hyp.mem_iff.1 hx)).ext hW) ((hx3 y (hyp.mem_iff.1 hy)).ext hW) (hrl _ (hmx x (hyp.mem_iff.1 hx))) (hrl _ (hmx y (hyp.mem_iff.1 hy))) (hk _ (hmx x (hyp.mem_iff.1 hx))) (hk _ (hmx y (hyp.mem_iff.1 hy))))
 have HTL := Lib.hid (show (togG ks rs).length ≤ 1000 by
  rw [hT]
  have h1 := grp_len ks (srtR (ordK ks) rs) []
  rw [(srtR_perm _ _).length_eq, hn] at h1
  simp at h1
  omega)
 obtain ⟨TG, hTG⟩ : ∃ T, T = togG ks rs := ⟨_, rfl⟩
 rw [← hTG] at HYM HTL ⊢
 clear hTG hT hyp hys hx1 hx2 hx3 hxn hmx hr hb hk hrl hm hn hks hm0
 have hS := Hp.init w
 have hR := Reads.nil w
 have eg : ∀ args w, (callFunc 80 args).run Tryz.prog w = .ok (.enter 80 args) w := fun _ _ => by kernel_rfl
 go_enter Tryz.func50, Tryz.ntmps50
 go_upto_region 4 with (first | ((with_reducible first | refine nhLa ?_ | refine nhLd ?_ | refine nhCa ?_ | refine nhCd ?_ | refine nhPa ?_ | refine nhPd ?_ | refine nhKa ?_ | refine nhKd ?_); (try clear hF); clear hS; intro wk hS; refine hfI ?_; intro hF) | fail)
 go_upto_region 5 with (first | ((with_reducible first | refine nhLa ?_ | refine nhLd ?_ | refine nhCa ?_ | refine nhCd ?_ | refine nhPa ?_ | refine nhPd ?_ | refine nhKa ?_ | refine nhKd ?_); (try clear hF); clear hS; intro wk hS; refine hfI ?_; intro hF) | (go_at_call 30; (with_reducible refine Calls.mono (HCLN.out _ _ hS) ?_); clear hS; rintro e wk ⟨gL, cL, rfl, hcL, hS⟩; (try simp only [List.eraseIdx_cons_zero, List.eraseIdx_cons_succ, List.set_cons_zero, List.set_cons_succ] at hS); ((try clear hF); refine hfI ?_; intro hF)))
 go_upto_region 6 with (first | ((with_reducible first | refine nhLa ?_ | refine nhLd ?_ | refine nhCa ?_ | refine nhCd ?_ | refine nhPa ?_ | refine nhPd ?_ | refine nhKa ?_ | refine nhKd ?_); (try clear hF); clear hS; intro wk hS; refine hfI ?_; intro hF) | (go_at_call 52; (with_reducible refine Calls.mono (HTBL.out _ w.heap.size gL cL hcL hS) ?_); clear hS; rintro e wk ⟨rfl, hS⟩; (try simp only [List.eraseIdx_cons_zero, List.eraseIdx_cons_succ, List.set_cons_zero, List.set_cons_succ] at hS); ((try clear hF); refine hfI ?_; intro hF)))
 clear HCLN HTBL
 have hwm : IntKind.i64.wrap ((0 : Int) - 1) = -1 := by decide
 go_upto_region 7 with (first | ((with_reducible first | refine nhLa ?_ | refine nhLd ?_ | refine nhCa ?_ | refine nhCd ?_ | refine nhPa ?_ | refine nhPd ?_ | refine nhKa ?_ | refine nhKd ?_); (try clear hF); clear hS; intro wk hS; refine hfI ?_; intro hF) | fail)
 replace hS := hS.nilRow 23 1
 go_wp2_with (first | ((with_reducible first | refine nhLa ?_ | refine nhLd ?_ | refine nhCa ?_ | refine nhCd ?_ | refine nhPa ?_ | refine nhPd ?_ | refine nhKa ?_ | refine nhKd ?_); (try clear hF); clear hS; intro wk hS; refine hfI ?_; intro hF) | fail)
 go_loopw [7, 9, 10, 24] (fun lv _ _ i wr => ∃ j : Nat, i = .int .i64 j ∧ j ≤ n ∧ ((j = 0 ∧ lv = .slice none 0 0 ∧ Hp w.heap.size w wr [.row 23 1 none 0 0 [], rowsI gL n cL ys, .blk w.heap.size [.slice Ab m cb] 91]) ∨
  ∃ (k : Nat) (D : List Gx) (cu : Gx) (gO cO : Nat), lv = .slice (some ⟨gO, 0, none⟩) (k + 1 : Nat) cO ∧ Hid (D.length = k) ∧ k < j ∧ Hid ((D ++ [cu]).map conG = ((ys.map (·.2.2)).take j).foldl (grpStep ks) []) ∧ Hid (∀ g ∈ D ++ [cu], ∀ y ∈ g.2.2, y ∈ ys) ∧ Hid (cu.2.2 ≠ [] ∧ cu.2.2.length ≤ j) ∧ Hp w.heap.size w wr (.row 23 1 (some ⟨gO, 0, none⟩) (k + 1) cO ((D ++ [cu]).map hdG) :: gI cu :: rowsI gL n cL ys :: .blk w.heap.size [.slice Ab m cb] 91 :: D.map gI))) (fun _ _ _ i _ => n - (intOf i).toNat)
 case atStart => exact ⟨0, rfl, Nat.zero_le _, .inl ⟨rfl, rfl, hS⟩⟩
 case round =>
  clear hS
  obtain ⟨j, rfl, hj, hcase⟩ := hrel
  by_cases hlt : j < n
  ·obtain ⟨x, hx⟩ : ∃ x, ys[j]? = some x := ⟨ys[j]'(by rw [HYN.out]; exact hlt), List.getElem?_eq_getElem _⟩
   have hxm := List.mem_of_getElem? hx
   have HGT := Lib.hid (grp_take ks (l := ys.map (·.2.2)) (j := j) (r := x.2.2) (by rw [List.getElem?_map, hx]; rfl))
   rcases hcase with ⟨rfl, rfl, hS⟩ | ⟨k, D, cu, gO, cO, rfl, HDL, hkj, HCON, HMEM, HCU, hS⟩
   ·as_aux_lemma =>
    have HG0 := Lib.hid (show ((ys.map (·.2.2)).take (0 + 1)).foldl (grpStep ks) [] = [[x.2.2]] by rw [HGT.out]; rfl)
    obtain ⟨gq, e1, cL0, _⟩ := hS.rowCell 1 rfl (j := 0) (u := hdV x) (by rw [List.getElem?_map, hx]; rfl)
    obtain rfl : gL = gq := by simpa using e1
    have HXM := Lib.hid hxm
    clear hx hxm e1 HGT
    ((try clear hF); refine hfI ?_; intro hF)
    go_upto_region 13 with (first | ((with_reducible first | refine nhLa ?_ | refine nhLd ?_ | refine nhCa ?_ | refine nhCd ?_ | refine nhPa ?_ | refine nhPd ?_ | refine nhKa ?_ | refine nhKd ?_); (try clear hF); clear hS; intro wk hS; refine hfI ?_; intro hF) | fail)
    go_wp2_with (first | ((with_reducible first | refine nhLa ?_ | refine nhLd ?_ | refine nhCa ?_ | refine nhCd ?_ | refine nhPa ?_ | refine nhPd ?_ | refine nhKa ?_ | refine nhKd ?_); (try clear hF); clear hS; intro wk hS; refine hfI ?_; intro hF) | (at_builtin; refine wpList_push_hp Tryz.elem_grpsQ rfl (.tmp 55) (.tmp 58) rfl (hS.second 1 rfl) rfl rfl rfl (by simp [Value.oneCell']) (by omega) (by omega) ?_; clear hS; intro Ak capk wk hS; (try simp only [List.eraseIdx_cons_zero, List.eraseIdx_cons_succ, List.set_cons_zero, List.set_cons_succ] at hS); ((try clear hF); refine hfI ?_; intro hF)))
    obtain ⟨gO, rfl⟩ := hS.rowSm 0 rfl (by simp)
    have h1 := (hS.front 1 rfl).blkRow (size := 1) (n := 1) rfl (by omega)
    go_roundw
    case rel =>
     refine ⟨1, by go_num, by omega, .inr ⟨0, [], (some ⟨wr.heap.size, 0, none⟩, 1, [x]), gO, capk, rfl, Lib.hid rfl, by omega, Lib.hid ?_, Lib.hid ?_, Lib.hid ⟨by simp, by simp⟩, ?_⟩⟩
     ·rw [HG0.out]; rfl
     ·intro g hg y hy
      obtain rfl : g = (some ⟨wr.heap.size, 0, none⟩, 1, [x]) := by simpa using hg
      obtain rfl : y = x := by simpa using hy
      exact HXM.out
     ·exact h1.perm (List.Perm.swap _ _ _)
    case measure => simp [intOf]; omega
   ·obtain ⟨Ac, cc, xc⟩ := cu
    have hcu := HCU.out
    dsimp only at hcu
    obtain ⟨x0, hx0⟩ : ∃ x0, xc[0]? = some x0 := ⟨xc[0]'(List.length_pos_iff.2 hcu.1), List.getElem?_eq_getElem _⟩
    have hx0m : x0 ∈ ys := HMEM.out (Ac, cc, xc) (by simp) x0 (List.mem_of_getElem? hx0)
    have HGT2 := Lib.hid (show ((ys.map (·.2.2)).take (j + 1)).foldl (grpStep ks) [] = if ordK ks x0.2.2 x.2.2 = 0 then D.map conG ++ [conG (Ac, cc, xc) ++ [x.2.2]] else (D.map conG ++ [conG (Ac, cc, xc)]) ++ [[x.2.2]] by
     rw [HGT.out, ← HCON.out, List.map_append]
     show grpStep ks (D.map conG ++ [conG (Ac, cc, xc)]) x.2.2 = _
     rw [grp_last]
     have e0 : (conG (Ac, cc, xc)).headD [] = x0.2.2 := getD_hd hx0
     rw [e0]
     rfl)
    have HCV := Lib.hid (fun (W : World) (h : Hp w.heap.size w W (.row 23 1 (some ⟨gO, 0, none⟩) (k + 1) cO ((D ++ [(Ac, cc, xc)]).map hdG) :: .row 35 1 Ac xc.length cc (xc.map hdV) :: rowsI gL n cL ys :: .blk w.heap.size [.slice Ab m cb] 91 :: D.map gI)) => HCMP.out W w.heap.size h.ext h.facts.1.1.1 x0 x hx0m hxm)
    obtain ⟨cv, hcv⟩ : ∃ cv, cv = ordK ks x0.2.2 x.2.2 := ⟨_, rfl⟩
    rw [← hcv] at HGT2 HCV
    replace hS : Hp w.heap.size w wr (.row 23 1 (some ⟨gO, 0, none⟩) (k + 1) cO ((D ++ [(Ac, cc, xc)]).map hdG) :: .row 35 1 Ac xc.length cc (xc.map hdV) :: rowsI gL n cL ys :: .blk w.heap.size [.slice Ab m cb] 91 :: D.map gI) := hS
    obtain ⟨nc, hnc⟩ : ∃ nc, nc = xc.length := ⟨_, rfl⟩
    have HNC := Lib.hid hnc
    have HHD := Lib.hid (show ((D ++ [(Ac, cc, xc)]).map hdG)[k]? = some (.slice Ac (nc : Nat) cc) by
     rw [List.getElem?_map, List.getElem?_append_right (by rw [HDL.out]; exact Nat.le_refl _), HDL.out, Nat.sub_self, hnc]; rfl)
    obtain ⟨gc, hgc, cC0, _⟩ := hS.rowCell 1 rfl (j := 0) (u := hdV x0) (by rw [List.getElem?_map, hx0]; rfl)
    subst hgc
    obtain ⟨gq, e1, cL0, _⟩ := hS.rowCell 2 rfl (j := j) (u := hdV x) (by rw [List.getElem?_map, hx]; rfl)
    obtain rfl : gL = gq := by simpa using e1
    obtain ⟨gq2, e2, cO1, _⟩ := hS.rowCell 0 rfl HHD.out
    obtain rfl : gO = gq2 := by simpa using e2
    have hw1 : IntKind.i64.wrap (((k + 1 : Nat) : Int) - 1) = (k : Int) := by rw [IntWalk.i64_in _ (by omega)]; push_cast; omega
    have hw2 : IntKind.i64.wrap ((k : Int) + 1 - 1) = (k : Int) := by rw [IntWalk.i64_in _ (by omega)]; omega
    have HXM := Lib.hid hxm
    have hnl : nc ≤ 1000 := by omega
    have hnc0 : 0 < nc := by rw [hnc]; exact List.length_pos_iff.2 hcu.1
    have HNL := Lib.hid (show nc ≤ j by omega)
    rw [← hnc] at hS HCV
    clear hx hxm hx0 hx0m hcu hcv e1 e2 HGT HCMP HTL HCU hnc
    by_cases hc0 : cv = 0
    ·as_aux_lemma =>
     subst hc0
     have HG3 := Lib.hid (show ((ys.map (·.2.2)).take (j + 1)).foldl (grpStep ks) [] = D.map conG ++ [conG (some ⟨gc, 0, none⟩, cc, xc) ++ [x.2.2]] by rw [HGT2.out, if_pos rfl])
     clear HGT2
     ((try clear hF); refine hfI ?_; intro hF)
     go_upto_region 12 with (first | ((with_reducible first | refine nhLa ?_ | refine nhLd ?_ | refine nhCa ?_ | refine nhCd ?_ | refine nhPa ?_ | refine nhPd ?_ | refine nhKa ?_ | refine nhKd ?_); (try clear hF); clear hS; intro wk hS; refine hfI ?_; intro hF) | (go_at_call 80; (with_reducible refine (HCV.out _ hS).mono ?_); rintro e wk ⟨rfl, hX⟩; replace hS := hS.step hX; clear hX; ((try clear hF); refine hfI ?_; intro hF)))
     obtain ⟨gq4, e4, cO2, _⟩ := hS.rowCell 0 rfl HHD.out
     obtain rfl : gO = gq4 := by simpa using e4
     go_wp2_with (first | ((with_reducible first | refine nhLa ?_ | refine nhLd ?_ | refine nhCa ?_ | refine nhCd ?_ | refine nhPa ?_ | refine nhPd ?_ | refine nhKa ?_ | refine nhKd ?_); ((try clear hF); clear hS; intro wk hS; (try simp only [List.set_cons_zero, List.set_cons_succ, heap_size, heap_set_size] at hS); ((try clear hF); refine hfI ?_; intro hF))) | (at_builtin; refine wpList_push_hp Tryz.elem_rows rfl (.tmp 50) (.tmp 52) rfl (hS.second 1 rfl) rfl rfl rfl (by simp [Value.oneCell']) (by omega) (by omega) ?_; clear hS; intro Ak capk wk hS; (try simp only [List.eraseIdx_cons_zero, List.eraseIdx_cons_succ, List.set_cons_zero, List.set_cons_succ] at hS); (obtain ⟨gq3, e3, cO3, fO3⟩ := hS.rowCell 1 rfl HHD.out); (obtain rfl : gO = gq3 := by simpa using e3); ((try clear hF); refine hfI ?_; intro hF)))
     have h1 := (hS.front 1 rfl).putRow k (.slice Ak (nc + 1 : Nat) capk)
     go_roundw
     case rel =>
      refine ⟨j + 1, by go_num, by omega, .inr ⟨k, D, (Ak, capk, xc ++ [x]), gO, cO, rfl, HDL, by omega, Lib.hid ?_, Lib.hid ?_, Lib.hid ⟨by simp, by rw [List.length_append, ← HNC.out]; have := HNL.out; simp; omega⟩, ?_⟩⟩
      ·rw [HG3.out, List.map_append]
       unfold conG
       simp
      ·intro g hg y hy
       rcases List.mem_append.1 hg with hg | hg
       ·exact HMEM.out g (List.mem_append_left _ hg) y hy
       ·obtain rfl : g = (Ak, capk, xc ++ [x]) := by simpa using hg
        rcases List.mem_append.1 hy with hy | hy
        ·exact HMEM.out (some ⟨gc, 0, none⟩, cc, xc) (by simp) y hy
        ·obtain rfl : y = x := by simpa using hy
         exact HXM.out
      ·have e5 : (D ++ [((Ak, capk, xc ++ [x]) : Gx)]).map hdG = ((D ++ [((some ⟨gc, 0, none⟩, cc, xc) : Gx)]).map hdG).set k (.slice Ak (nc + 1 : Nat) capk) := by
        rw [List.map_append, List.map_append]
        show _ = (D.map hdG ++ [hdG _]).set k _
        rw [set_last _ _ _ k (by rw [List.length_map, HDL.out])]
        show _ ++ [Value.slice Ak (xc ++ [x]).length capk] = _
        rw [List.length_append, ← HNC.out]
        rfl
       have e6 : gI (Ak, capk, xc ++ [x]) = .row 35 1 Ak (nc + 1) capk (xc.map hdV ++ [hdV x]) := by
        show Item.row _ _ _ (xc ++ [x]).length _ ((xc ++ [x]).map hdV) = _
        rw [List.length_append, ← HNC.out, List.map_append]
        rfl
       rw [e5, e6]
       exact h1
     case measure => simp [intOf]; omega
    ·as_aux_lemma =>
     have hcb : (cv == 0) = false := by simp [hc0]
     have HG3 := Lib.hid (show ((ys.map (·.2.2)).take (j + 1)).foldl (grpStep ks) [] = (D.map conG ++ [conG (some ⟨gc, 0, none⟩, cc, xc)]) ++ [[x.2.2]] by rw [HGT2.out, if_neg hc0])
     clear HGT2 hc0
     ((try clear hF); refine hfI ?_; intro hF)
     go_upto_region 13 with (first | ((with_reducible first | refine nhLa ?_ | refine nhLd ?_ | refine nhCa ?_ | refine nhCd ?_ | refine nhPa ?_ | refine nhPd ?_ | refine nhKa ?_ | refine nhKd ?_); (try clear hF); clear hS; intro wk hS; refine hfI ?_; intro hF) | (go_at_call 80; (with_reducible refine (HCV.out _ hS).mono ?_); rintro e wk ⟨rfl, hX⟩; replace hS := hS.step hX; clear hX; ((try clear hF); refine hfI ?_; intro hF)))
     go_wp2_with (first | ((with_reducible first | refine nhLa ?_ | refine nhLd ?_ | refine nhCa ?_ | refine nhCd ?_ | refine nhPa ?_ | refine nhPd ?_ | refine nhKa ?_ | refine nhKd ?_); (try clear hF); clear hS; intro wk hS; refine hfI ?_; intro hF) | (at_builtin; refine wpList_push_hp Tryz.elem_grpsQ rfl (.tmp 55) (.tmp 58) rfl (hS.second 1 rfl) rfl rfl rfl (by simp [Value.oneCell']) (by omega) (by omega) ?_; clear hS; intro Ak capk wk hS; (try simp only [List.eraseIdx_cons_zero, List.eraseIdx_cons_succ, List.set_cons_zero, List.set_cons_succ] at hS); ((try clear hF); refine hfI ?_; intro hF)))
     obtain ⟨ge, hge⟩ := hS.nameQ 1 rfl
     rw [← hge] at hS
     clear hge
     obtain ⟨gO2, rfl⟩ := hS.rowSm 0 rfl (by simp)
     have h1 := (hS.front 1 rfl).blkRow (size := 1) (n := 1) rfl (by omega)
     go_roundw
     case rel =>
      refine ⟨j + 1, by go_num, by omega, .inr ⟨k + 1, D ++ [(some ⟨gc, 0, none⟩, cc, xc)], (some ⟨ge, 0, none⟩, 1, [x]), gO2, capk, rfl, Lib.hid (by rw [List.length_append, HDL.out]; rfl), by omega, Lib.hid ?_, Lib.hid ?_, Lib.hid ⟨by simp, by simp⟩, ?_⟩⟩
      ·rw [HG3.out, List.map_append, List.map_append]
       rfl
      ·intro g hg y hy
       rcases List.mem_append.1 hg with hg | hg
       ·exact HMEM.out g hg y hy
       ·obtain rfl : g = (some ⟨ge, 0, none⟩, 1, [x]) := by simpa using hg
        obtain rfl : y = x := by simpa using hy
        exact HXM.out
      ·have e5 : (D ++ [((some ⟨gc, 0, none⟩, cc, xc) : Gx)] ++ [((some ⟨ge, 0, none⟩, 1, [x]) : Gx)]).map hdG = (D ++ [((some ⟨gc, 0, none⟩, cc, xc) : Gx)]).map hdG ++ [.slice (some ⟨ge, 0, none⟩) 1 1] := List.map_append
       have e6 : gI (some ⟨gc, 0, none⟩, cc, xc) = .row 35 1 (some ⟨gc, 0, none⟩) nc cc (xc.map hdV) := by
        show Item.row _ _ _ xc.length _ _ = _
        rw [← HNC.out]
       rw [e5, List.map_append (f := gI)]
       refine Hp.perm ?_ perm_new
       show Hp _ _ _ (_ :: _ :: gI (some ⟨gc, 0, none⟩, cc, xc) :: _)
       rw [e6]
       exact h1
     case measure => simp [intOf]; omega
  ·obtain rfl : j = n := by omega
   rcases hcase with ⟨rfl, _, _⟩ | ⟨k, D, cu, gO, cO, rfl, HDL, hkj, HCON, HMEM, HCU, hS⟩
   ·omega
   ·((try clear hF); refine hfI ?_; intro hF)
    go_wp2_with (first | ((with_reducible first | refine nhLa ?_ | refine nhLd ?_ | refine nhCa ?_ | refine nhCd ?_ | refine nhPa ?_ | refine nhPd ?_ | refine nhKa ?_ | refine nhKd ?_); (try clear hF); clear hS; intro wk hS; refine hfI ?_; intro hF) | fail)
    go_ret
    have hc : (D ++ [cu]).map conG = TG := by
     rw [HCON.out, ← HYM.out, List.take_of_length_le (by rw [List.length_map, HYN.out]; exact Nat.le_refl _)]
    have hlen : TG.length = k + 1 := by rw [← hc, List.length_map, List.length_append, HDL.out]; rfl
    refine ⟨_, _, _, rfl, hlen, by rw [← hlen]; exact HTL.out, hS.ext, ?_⟩
    rw [← hc]
    refine rgr_of hS (fun g hg => ?_) (fun g hg y hy => (HRV.out y (HMEM.out g hg y hy)).ext hS.ext)
    rcases List.mem_append.1 hg with hg | hg
    ·exact List.mem_cons_of_mem _ (List.mem_cons_of_mem _ (List.mem_cons_of_mem _ (List.mem_map.2 ⟨g, hg, rfl⟩)))
    ·obtain rfl : g = cu := by simpa using hg
     exact List.mem_cons_self
end Go.Proofs.YtlaldfkeaalnhaaGreatDoor

/- query.Run: the walk. -/
namespace Go.Proofs.YtlaldfkeaalnhaaGreatDoor
set_option linter.unusedSimpArgs false
set_option linter.unusedVariables false
open Go.RowKit
set_option linter.all false
set_option maxRecDepth 100000 in
set_option maxHeartbeats 8000000 in
theorem qrun1_any (x : IT) (w : World) : Calls Tryz.prog 48 #[.agg #[.string x.fn, .string x.col]] w fun e w' => e = .returned (.bool (fnB x)) ∧ Ext w w' := by
 obtain ⟨b, hb⟩ : ∃ b, b = fnB x := ⟨_, rfl⟩
 rw [← hb]
 unfold fnB at hb
 obtain ⟨fn, col⟩ := x
 simp only at hb
 have hS := Hp.init w
 have hR := Reads.nil w
 by_cases h : fn = noS
 ·subst h
  obtain rfl : b = false := by rw [hb]; simp
  unfold noS
  clear hb
  go_enter Tryz.func48, Tryz.ntmps48
  go_wp2_with (first | (refine hab ?_; (try clear hF); clear hS; intro wk hS; (try simp only [List.set_cons_zero, List.set_cons_succ, heap_size, heap_set_size] at hS); ((try clear hF); refine hfI ?_; intro hF)) | fail)
  go_ret
  exact ⟨rfl, hS.ext⟩
 ·obtain rfl : b = true := by rw [hb]; simpa using h
  have hl : (fn.toList == []) = false := str_ne h
  have hl2 : (fn.toList != []) = true := by rw [bne, hl]; rfl
  clear hb h
  go_enter Tryz.func48, Tryz.ntmps48
  go_wp2_with (first | (refine hab ?_; (try clear hF); clear hS; intro wk hS; (try simp only [List.set_cons_zero, List.set_cons_succ, heap_size, heap_set_size] at hS); ((try clear hF); refine hfI ?_; intro hF)) | fail)
  go_ret
  exact ⟨rfl, hS.ext⟩
theorem eg_qrun1 : ∀ args w, (callFunc 48 args).run Tryz.prog w = .ok (.enter 48 args) w := fun _ _ => by kernel_rfl
theorem eg_qrun2 : ∀ args w, (callFunc 53 args).run Tryz.prog w = .ok (.enter 53 args) w := fun _ _ => by kernel_rfl
/-- rows that a call has made -/
def RunOwn (w : World) (R : List (List GV)) (e : Ending) (w' : World) : Prop :=
 ∃ (gO n' c' : Nat) (ys : List Mx) (K : List Item), e = .returned (.tuple #[.slice (some ⟨gO, 0, none⟩) n' c', .nilIface]) ∧ Hid (ys.map (·.2.2) = R ∧ ys.length = n' ∧ n' ≤ 1000 ∧ n' ≤ c' ∧ ∀ y ∈ ys, rowI y ∈ K) ∧ Hp w.heap.size w w' (rowsI gO n' c' ys :: K)
def RunRes (w : World) (r : Int × List (List GV)) (e : Ending) (w' : World) : Prop :=
 if r.1 = 0 then RunOwn w r.2 e w'
 else e = .returned (.tuple #[.slice none 0 0, .iface 101 (.int .i64 r.1)]) ∧ Ext w w'
theorem Hp.rowTake {B : Nat} {w0 w : World} {L : List Item} {e : TypeId} {g n cap m : Nat} {xs : List Value} (h : Hp B w0 w (.row e 1 (some ⟨g, 0, none⟩) n cap xs :: L)) (hm : m ≤ n) : Hp B w0 w (.row e 1 (some ⟨g, 0, none⟩) m cap (xs.take m) :: L) := by
 refine h.turn ((Ext.refl w).grownBy none) (.inl rfl) ?_ (.inl rfl)
 have ho : w.ownsRow B e 1 (.slice (some ⟨g, 0, none⟩) n cap) n xs := h.head
 rcases ho.2 with ⟨hv, _⟩ | ⟨g', cp, cur, hv, hbase, hgb, r1, r2, r3, r4⟩
 ·cases hv
 ·obtain ⟨rfl, rfl⟩ : g = g' ∧ cap = cp := by simpa using hv
  have hl : xs.length = n := by simpa using ho.1
  refine ⟨by rw [List.length_take, hl]; omega, .inr ⟨g, cap, cur, rfl, hbase, hgb, by omega, r2, r3, ?_⟩⟩
  rw [Nat.mul_one] at r4 ⊢
  rw [← r4, List.take_take, Nat.min_eq_left hm]
theorem Hp.rebase {B : Nat} {w w1 w' : World} {L : List Item} (hx : Ext w w1) (h : Hp w1.heap.size w1 w' L) : Hp w.heap.size w w' L :=
 ⟨(hx.trans h.ext).out, Nat.le_trans hx.size h.base, h.apart, fun x hm => (h.own x hm).mono hx.size⟩
theorem own_of {w wB w' : World} (hx : Ext w wB) {gO k cO L : Nat} {xs ys : List Mx} (hyx : ∀ y ∈ ys, y ∈ xs) (hyl : ys.length = k) (hL : L ≤ k) (hk : k ≤ 1000) (hS : Hp wB.heap.size wB w' (rowsI gO k cO ys :: xs.map rowI)) :
  RunOwn w ((ys.map (·.2.2)).take L) (.returned (.tuple #[.slice (some ⟨gO, 0, none⟩) L cO, .nilIface])) w' := by
 have h1 := hS.rowTake hL
 rw [← List.map_take] at h1
 refine ⟨gO, L, cO, ys.take L, xs.map rowI, rfl, Lib.hid ⟨List.map_take, by rw [List.length_take, hyl]; omega, by omega, ?_, fun y hy => List.mem_map.2 ⟨y, hyx y (List.mem_of_mem_take hy), rfl⟩⟩, h1.rebase (B := 0) hx⟩
 have := (hS.rowLen 0 rfl).2
 omega
theorem byE_len (cs : List CG) : ∀ (l : List ByteArray) (bs : List Int), byE cs l = some bs → bs.length = l.length ∧ ∀ k ∈ bs, 0 ≤ k ∧ k < cs.length
 | [], bs, h => by
  obtain rfl : [] = bs := by simpa [byE] using h
  exact ⟨rfl, fun k h => by simp at h⟩
 | n :: l, bs, h => by
  rw [byE] at h
  split at h
  ·cases h
  ·rename_i hn
   cases h1 : byE cs l with
   | none => rw [h1] at h; cases h
   | some b2 =>
    rw [h1] at h
    obtain rfl : idxC (nmEq n) 0 cs :: b2 = bs := by simpa using h
    obtain ⟨e1, e2⟩ := byE_len cs l b2 h1
    refine ⟨by simp [e1], fun k hk => ?_⟩
    rcases List.mem_cons.1 hk with rfl | hk
    ·obtain ⟨q, c, h2, h3, _⟩ := idxQ_some (nmEq n) cs 0 (by omega)
     have := (List.getElem?_eq_some_iff.1 h3).1
     rw [h2]; omega
    ·exact e2 k hk
theorem place_in (cs : List CG) (x : IT) (h : (placeE cs x).2 = 0) : -1 ≤ (placeE cs x).1 ∧ (placeE cs x).1 < cs.length ∧ ((placeE cs x).1 < 0 → x.col = starS) := by
 unfold placeE at h ⊢
 split
 ·rename_i h0
  exact ⟨by simp, by simp only; omega, fun _ => h0⟩
 ·rename_i h0
  rw [if_neg h0] at h
  split
  ·rename_i h1
   rw [if_pos h1] at h
   cases h
  ·rename_i h1
   rw [if_neg h1] at h
   obtain ⟨q, c, h2, h3, _⟩ := idxQ_some (nmEq x.col) cs 0 (by omega)
   have hq := (List.getElem?_eq_some_iff.1 h3).1
   rw [h2] at h ⊢
   simp only [Nat.zero_add, Int.toNat_natCast, h3] at h ⊢
   split
   ·rename_i h4
    rw [if_pos h4] at h
    cases h
   ·exact ⟨by omega, by omega, fun h => by omega⟩
theorem itemsE_ok (cs : List CG) (s : Bool) (bs : List Int) : ∀ (l : List IT), (itemsE cs s bs l).1 = 0 → (itemsE cs s bs l).2.length = l.length ∧ ∀ (i : Nat) (x : IT) (k : Int), l[i]? = some x → (itemsE cs s bs l).2[i]? = some k → -1 ≤ k ∧ k < cs.length ∧ (s = false → x.fn = noS → True) ∧ (k < 0 → x.col = starS) ∧ (s = true → x.fn = noS → k ∈ bs)
 | [], h => ⟨rfl, fun i x k h => by simp at h⟩
 | y :: l, h => by
  rw [itemsE] at h ⊢
  split
  ·rename_i h1; rw [if_pos h1] at h; exact absurd h h1
  ·rename_i h1
   rw [if_neg h1] at h
   split
   ·rename_i h2; rw [if_pos h2] at h; cases h
   ·rename_i h2
    rw [if_neg h2] at h
    split
    ·rename_i h3; rw [if_pos h3] at h; exact absurd h h3
    ·rename_i h3
     obtain ⟨e1, e2⟩ := itemsE_ok cs s bs l (by simpa using h3)
     refine ⟨by simp [e1], fun i x k hx hk => ?_⟩
     cases i with
     | succ i => exact e2 i x k (by simpa using hx) (by simpa using hk)
     | zero =>
      obtain rfl : y = x := by simpa using hx
      obtain rfl : (placeE cs y).1 = k := by simpa using hk
      obtain ⟨p1, p2, p3⟩ := place_in cs y (by simpa using h1)
      refine ⟨p1, p2, fun _ _ => trivial, p3, fun h4 h5 => ?_⟩
      by_cases h6 : (placeE cs y).1 ∈ bs
      ·exact h6
      ·exact absurd ⟨h4, h5, h6⟩ h2
theorem rr_rows {B : Nat} {w0 w : World} {L : List Item} {g n cap : Nat} {ys : List Mx} (h : Hp B w0 w (rowsI g n cap ys :: L)) (hv : ∀ y ∈ ys, RV w y.1 y.2.2) : RR w (some ⟨g, 0, none⟩) (ys.map (·.2.2)) := fun i r hi => by
 rw [List.getElem?_map] at hi
 cases hxi : ys[i]? with
 | none => rw [hxi] at hi; cases hi
 | some y =>
  rw [hxi] at hi
  obtain rfl : y.2.2 = r := by simpa using hi
  obtain ⟨g1, hg, c0, _⟩ := h.rowCell 0 rfl (j := i) (u := hdV y) (by rw [List.getElem?_map, hxi]; rfl)
  obtain rfl : g = g1 := by simpa using hg
  exact ⟨g, 0, y.1, y.2.1, rfl, by simpa using c0, hv y (List.mem_of_getElem? hxi)⟩
theorem RunOwn.rr {w w' : World} {R : List (List GV)} {e : Ending} (h : RunOwn w R e w') : ∃ A' n' c', e = .returned (.tuple #[.slice A' n' c', .nilIface]) ∧ Hid (R.length = n' ∧ n' ≤ 1000 ∧ n' ≤ c') ∧ Ext w w' ∧ RR w' A' R := by
 obtain ⟨gO, n', c', ys, K, rfl, h1, hS⟩ := h
 obtain ⟨k1, k2, k3, k4, k5⟩ := h1.out
 refine ⟨_, _, _, rfl, Lib.hid ⟨by rw [← k1, List.length_map, k2], k3, k4⟩, hS.ext, ?_⟩
 rw [← k1]
 exact rr_rows hS (fun y hy => (hp_of_at (hS.tail.own _ (k5 y hy))).rv 0 rfl)
theorem RR.take {w : World} {A : Option Addr} {rs : List (List GV)} (h : RR w A rs) (k : Nat) : RR w A (rs.take k) := fun i r hi => by
 rw [List.getElem?_take] at hi
 split at hi
 ·exact h i r hi
 ·cases hi
theorem rowI_rv {B : Nat} {w0 w : World} {L : List Item} (h : Hp B w0 w L) {x : Mx} (hx : rowI x ∈ L) : RV w x.1 x.2.2 := (hp_of_at (h.own _ hx)).rv 0 rfl
theorem rowQ_len {items : List IT} {is : List Int} (h : is.length = items.length) (part : List (List GV)) : (rowQ items is part).length = items.length := by
 unfold rowQ
 rw [List.length_map, List.length_zip, h, Nat.min_self]
theorem zip_take {items : List IT} {is : List Int} {j : Nat} {x : IT} {k : Int} (hx : items[j]? = some x) (hk : is[j]? = some k) (part : List (List GV)) : ((items.zip is).take (j + 1)).map (fun x => ofQ x.1 x.2 part) = ((items.zip is).take j).map (fun x => ofQ x.1 x.2 part) ++ [ofQ x k part] := by
 rw [List.take_add_one, show (items.zip is)[j]? = some (x, k) from List.getElem?_zip_eq_some.2 ⟨hx, hk⟩, List.map_append]
 rfl
theorem grp_ne (ks : List Int) : ∀ (l : List (List GV)) (out : List (List (List GV))), (∀ g ∈ out, g ≠ []) → (∀ g ∈ l.foldl (grpStep ks) out, g ≠ []) ∧ (out ≠ [] ∨ l ≠ [] → l.foldl (grpStep ks) out ≠ [])
 | [], out, h => ⟨h, fun h => by rcases h with h | h; exact h; exact absurd rfl h⟩
 | r :: l, out, h => by
  rw [List.foldl_cons]
  have h2 : (∀ g ∈ grpStep ks out r, g ≠ []) ∧ grpStep ks out r ≠ [] := by
   unfold grpStep
   cases hl : out.getLast? with
   | none => simp
   | some g =>
    simp only
    split
    ·refine ⟨fun g' hg' => ?_, by simp⟩
     rcases List.mem_append.1 hg' with hg' | hg'
     ·exact h g' (List.dropLast_subset _ hg')
     ·obtain rfl : g' = g ++ [r] := by simpa using hg'
      simp
    ·refine ⟨fun g' hg' => ?_, by simp⟩
     rcases List.mem_append.1 hg' with hg' | hg'
     ·exact h g' hg'
     ·obtain rfl : g' = [r] := by simpa using hg'
      simp
  exact ⟨(grp_ne ks l _ h2.1).1, fun _ => (grp_ne ks l _ h2.1).2 (.inl h2.2)⟩
theorem grp_mem (ks : List Int) (P : List GV → Prop) : ∀ (l : List (List GV)) (out : List (List (List GV))), (∀ r ∈ l, P r) → (∀ g ∈ out, ∀ r ∈ g, P r) → ∀ g ∈ l.foldl (grpStep ks) out, ∀ r ∈ g, P r
 | [], out, _, h => h
 | r :: l, out, hl, h => by
  rw [List.foldl_cons]
  refine grp_mem ks P l _ (fun r hr => hl r (by simp [hr])) (fun g hg r' hr' => ?_)
  unfold grpStep at hg
  cases hla : out.getLast? with
  | none =>
   rw [hla] at hg
   obtain rfl : g = [r] := by simpa using hg
   obtain rfl : r' = r := by simpa using hr'
   exact hl r' (by simp)
  | some g0 =>
   rw [hla] at hg
   simp only at hg
   split at hg
   ·rcases List.mem_append.1 hg with hg | hg
    ·exact h g (List.dropLast_subset _ hg) r' hr'
    ·obtain rfl : g = g0 ++ [r] := by simpa using hg
     rcases List.mem_append.1 hr' with hr' | hr'
     ·exact h g0 (List.mem_of_getLast? hla) r' hr'
     ·obtain rfl : r' = r := by simpa using hr'
      exact hl r' (by simp)
   ·rcases List.mem_append.1 hg with hg | hg
    ·exact h g hg r' hr'
    ·obtain rfl : g = [r] := by simpa using hg
     obtain rfl : r' = r := by simpa using hr'
     exact hl r' (by simp)
theorem grp_flat (ks : List Int) : ∀ (l : List (List GV)) (out : List (List (List GV))), (l.foldl (grpStep ks) out).flatten = out.flatten ++ l
 | [], out => by simp
 | r :: l, out => by
  rw [List.foldl_cons, grp_flat ks l]
  have h2 : (grpStep ks out r).flatten = out.flatten ++ [r] := by
   unfold grpStep
   cases hl : out.getLast? with
   | none =>
    obtain rfl := List.getLast?_eq_none_iff.1 hl
    rfl
   | some g =>
    simp only
    have e : out = out.dropLast ++ [g] := (by obtain ⟨ys, e⟩ := List.getLast?_eq_some_iff.1 hl; rw [e]; simp)
    split
    ·conv => rhs; rw [e]
     simp
    ·simp
  rw [h2, List.append_assoc]
  rfl
theorem tog_flat (ks : List Int) (rs : List (List GV)) : (togG ks rs).flatten.Perm rs := by
 unfold togG
 split
 ·simp
 ·rw [grp_flat]
  exact srtR_perm _ _
theorem tog_plen (ks : List Int) (rs : List (List GV)) : ∀ g ∈ togG ks rs, g.length ≤ rs.length := fun g hg => by
 rw [← (tog_flat ks rs).length_eq]
 exact (List.sublist_flatten_of_mem hg).length_le
theorem tog_ok (ks : List Int) (rs : List (List GV)) (h0 : rs ≠ []) : togG ks rs ≠ [] ∧ ∀ g ∈ togG ks rs, g ≠ [] ∧ ∀ r ∈ g, r ∈ rs := by
 unfold togG
 split
 ·exact ⟨by simp, fun g hg => by (obtain rfl : g = rs := by simpa using hg); exact ⟨h0, fun r hr => hr⟩⟩
 ·have hp := srtR_perm (ordK ks) rs
  have hne : srtR (ordK ks) rs ≠ [] := fun e => h0 (by rw [e] at hp; exact (List.nil_perm.1 hp))
  obtain ⟨h1, h2⟩ := grp_ne ks (srtR (ordK ks) rs) [] (fun g hg => by simp at hg)
  exact ⟨h2 (.inr hne), fun g hg => ⟨h1 g hg, grp_mem ks (fun r => r ∈ rs) _ [] (fun r hr => hp.mem_iff.1 hr) (fun g hg => by simp at hg) g hg⟩⟩
end Go.Proofs.YtlaldfkeaalnhaaGreatDoor
