/- Texts joined: ask: the parser: one, and, or. ask: the parser: a condition of a column. ask: the parser: a column, a mark, a value. ask: the parser: and, or: all of it. ask: one, and, or, at all tokens. ask: the tokens' row. what file.Make makes: in plain words. slices.CompareFunc at rows, by value.Compare. slices.CompareFunc at rows, by value.Compare: nothing but new blocks and draws: for slices.SortFunc. -/
import Derived.Test.YtlaldfkeaalnhaaGreatDoorQA12
import Derived.Deep.CutBlock
import Derived.Test.YtlaldfkeaalnhaaGreatDoorQA10
import Derived.Test.YtlaldfkeaalnhaaGreatDoorQA14
import Derived.Test.YtlaldfkeaalnhaaGreatDoorQA15
import Derived.Test.YtlaldfkeaalnhaaGreatDoorQA01
import Derived.Test.YtlaldfkeaalnhaaGreatDoorQA05
import Derived.Test.YtlaldfkeaalnhaaGreatDoorQA11
import Derived.Sort.Grow
/- ask: the parser: one, and, or. -/
namespace Go.Proofs.YtlaldfkeaalnhaaGreatDoor
set_option linter.unusedSimpArgs false
set_option linter.unusedVariables false
open Go.RowKit
set_option linter.all false
/-- a condition lies at v, as long as K stands -/
def CondIn (B : Nat) (w0 : World) (K : List Item) (v : Value) (c : CT) : Prop := ∀ W, Hp B w0 W K → CondAt W v c
theorem CondIn.nil {B : Nat} {w0 : World} : CondIn B w0 [] (.pointer none) .nil := fun _ _ => rfl
theorem CondIn.node {B : Nat} {w0 : World} {Kl Kr : List Item} {lv rv : Value} {l r : CT} (hl : CondIn B w0 Kl lv l) (hr : CondIn B w0 Kr rv r) (g : Nat) (c : Int) (col : ByteArray) (k n : Int) (t : ByteArray) :
    CondIn B w0 (.blk g [.int .i64 c, .string col, .int .i64 k, .int .i64 n, .string t, lv, rv] 136 :: (Kl ++ Kr)) (.pointer (some ⟨g, 0, none⟩)) (.node c col ⟨k, n, t⟩ l r) := fun W hW =>
  ⟨g, lv, rv, rfl, hW.head.2, hl W (hW.tail.sub (List.sublist_append_left Kl Kr)), hr W (hW.tail.sub (List.sublist_append_right Kl Kr))⟩
def ParRes (B : Nat) (w0 : World) (R : Item) (gt gp : Nat) (M : List Item) (r : Option (CT × List Tk)) (e : Ending) (w' : World) : Prop := match r with
  | some (c, r) => ∃ v K y', e = .returned (.pointer v) ∧ CondIn B w0 K (.pointer v) c ∧ PAt B w0 R gt gp r y' ∧ Hp B w0 w' (y' :: R :: (K ++ M))
  | none => Fails e ∧ Hp B w0 w' M
def OneC (f : Nat) : Prop := ∀ {B : Nat} {w0 w : World} {R : Item} {gt gp : Nat} {l : List Tk} {y : Item} {M : List Item} (d : Nat), EnvA B w0 R → EndT l → (∀ t ∈ l, TkOk 5000 t) → 4 * l.length + 1 ≤ f → d ≤ 100 → PAt B w0 R gt gp l y → Hp B w0 w (y :: R :: M) →
  Calls Tryz.prog 104 #[.pointer (some ⟨gp, 0, none⟩), .int .i64 d] w (ParRes B w0 R gt gp M (oneP f d l))
def AndC (f : Nat) : Prop := ∀ {B : Nat} {w0 w : World} {R : Item} {gt gp : Nat} {l : List Tk} {y : Item} {M : List Item} (d : Nat), EnvA B w0 R → EndT l → (∀ t ∈ l, TkOk 5000 t) → 4 * l.length + 2 ≤ f → d ≤ 100 → PAt B w0 R gt gp l y → Hp B w0 w (y :: R :: M) →
  Calls Tryz.prog 72 #[.pointer (some ⟨gp, 0, none⟩), .int .i64 d] w (ParRes B w0 R gt gp M (andP f d l))
def OrC (f : Nat) : Prop := ∀ {B : Nat} {w0 w : World} {R : Item} {gt gp : Nat} {l : List Tk} {y : Item} {M : List Item} (d : Nat), EnvA B w0 R → EndT l → (∀ t ∈ l, TkOk 5000 t) → 4 * l.length + 3 ≤ f → d ≤ 100 → PAt B w0 R gt gp l y → Hp B w0 w (y :: R :: M) →
  Calls Tryz.prog 40 #[.pointer (some ⟨gp, 0, none⟩), .int .i64 d] w (ParRes B w0 R gt gp M (orP f d l))
theorem third {B : Nat} {w0 W : World} {x y R : Item} {L : List Item} (h : Hp B w0 W (x :: y :: R :: L)) : Hp B w0 W (y :: R :: x :: L) :=
  h.perm ((List.Perm.cons y (List.Perm.swap x R L)).trans (List.Perm.swap x y (R :: L)))
section
variable {B : Nat} {w0 w : World} {R : Item} {gt gp : Nat} {l : List Tk} {y : Item} {M : List Item}
set_option maxRecDepth 100000 in
set_option maxHeartbeats 8000000 in
theorem one_deep (d : Nat) (hl : EndT l) (hd : 6 < d) (hd2 : d ≤ 100) (hP : PAt B w0 R gt gp l y) (hS : Hp B w0 w (y :: R :: M)) :
    Calls Tryz.prog 104 #[.pointer (some ⟨gp, 0, none⟩), .int .i64 d] w (ParRes B w0 R gt gp M none) := by
  have HFL := Lib.hid (fun (W : World) (h : Hp B w0 W (y :: R :: M)) => fail_any 4 hl.ne hP h)
  go_enter Tryz.func104, Tryz.ntmps104
  go_wp2_with (first | (refine hab ?_; (try clear hF); clear hS; intro wk hS; (try simp only [List.set_cons_zero, List.set_cons_succ, heap_size, heap_set_size] at hS); ((try clear hF); refine hfI ?_; intro hF)) | (go_at_call 70; (with_reducible refine (HFL.out _ hS).mono ?_); rintro e wk ⟨⟨tp, pv, rfl⟩, hX⟩; replace hS := hS.step hX; clear hX))
  exact ⟨rfl, ⟨_, _, rfl⟩, grest1 hS⟩
/-- take, as a walk takes it: what it answers is known -/
theorem take_yes (s : ByteArray) (hl : EndT l) (hP : PAt B w0 R gt gp l y) (hb : seeT l s.data.toList = true) {W : World} (hS : Hp B w0 W (y :: R :: M)) :
    Calls Tryz.prog 39 #[.pointer (some ⟨gp, 0, none⟩), .string s] W fun e w' => e = .returned (.bool true) ∧ ∃ y', PAt B w0 R gt gp l.tail y' ∧ Hp B w0 w' (y' :: R :: M) := by
  have := take_any s hl hP hS
  rw [hb] at this
  exact this
theorem take_no (s : ByteArray) (hl : EndT l) (hP : PAt B w0 R gt gp l y) (hb : seeT l s.data.toList = false) {W : World} (hS : Hp B w0 W (y :: R :: M)) :
    Calls Tryz.prog 39 #[.pointer (some ⟨gp, 0, none⟩), .string s] W fun e w' => e = .returned (.bool false) ∧ ∃ y', PAt B w0 R gt gp l y' ∧ Hp B w0 w' (y' :: R :: M) := by
  have := take_any s hl hP hS
  rw [hb] at this
  exact this
theorem EndT.tail {l : List Tk} {s : List UInt8} (h : EndT l) (hs : seeT l s = true) : EndT l.tail := by
  cases l with
  | nil => exact absurd rfl h.ne
  | cons t l => exact h.tl (seeT_kind hs)
set_option maxRecDepth 100000 in
set_option maxHeartbeats 8000000 in
theorem one_not (f : Nat) (hI : OneC f) (d : Nat) (hE : EnvA B w0 R) (hl : EndT l) (hok : ∀ t ∈ l, TkOk 5000 t) (hf : 4 * l.length + 1 ≤ f + 1) (hd : ¬ 6 < d) (hb : seeT l notL = true) (hP : PAt B w0 R gt gp l y) (hS : Hp B w0 w (y :: R :: M)) :
    Calls Tryz.prog 104 #[.pointer (some ⟨gp, 0, none⟩), .int .i64 d] w (ParRes B w0 R gt gp M (oneP (f + 1) d l)) := by
  have hlen := see_tail hb
  have hE2 := hl.tail hb
  have hok2 : ∀ t ∈ l.tail, TkOk 5000 t := fun t ht => hok t (List.mem_of_mem_tail ht)
  have HT := Lib.hid (fun (W : World) (h : Hp B w0 W (y :: R :: M)) => take_yes ⟨#[110, 111, 116]⟩ hl hP hb h)
  have HO := Lib.hid (fun (y' : Item) (h' : PAt B w0 R gt gp l.tail y') (W : World) (h : Hp B w0 W (y' :: R :: M)) => show Calls Tryz.prog 104 #[.pointer (some ⟨gp, 0, none⟩), .int .i64 ((d : Int) + 1)] W _ from hI (d + 1) hE hE2 hok2 (by omega) (by omega) h' h)
  obtain ⟨D, hD⟩ : ∃ D, D = oneP (f + 1) d l := ⟨_, rfl⟩
  rw [← hD]
  simp only [oneP] at hD
  rw [if_neg hd, if_pos hb] at hD
  clear hI hE hl hok hf hb hP hlen hE2 hok2
  cases hr : oneP f (d + 1) l.tail with
  | some x =>
    obtain ⟨c, r⟩ := x
    rw [hr] at hD HO
    simp only at hD
    subst hD
    clear hr
    go_enter Tryz.func104, Tryz.ntmps104
    go_wp2_with (first | (refine hab ?_; (try clear hF); clear hS; intro wk hS; (try simp only [List.set_cons_zero, List.set_cons_succ, heap_size, heap_set_size] at hS); ((try clear hF); refine hfI ?_; intro hF)) | (go_at_call 39; (with_reducible refine Calls.mono (HT.out _ hS) ?_); clear hS; rintro e wk ⟨rfl, y', HY, hS⟩) | (go_at_call 104; (with_reducible refine Calls.mono (HO.out _ HY _ hS) ?_); clear hS; rintro e wk ⟨v, K, y2, rfl, HC, HY2, hS⟩; clear HY))
    go_ret
    refine ⟨_, .blk _ [.int .i64 11, .string ⟨#[]⟩, .int .i64 0, .int .i64 0, .string ⟨#[]⟩, .pointer v, .pointer none] 136 :: (K ++ []), y2, rfl, CondIn.node HC CondIn.nil _ _ _ _ _ _, HY2, ?_⟩
    rw [List.append_nil]
    exact third hS
  | none =>
    rw [hr] at hD HO
    simp only at hD
    subst hD
    clear hr
    go_enter Tryz.func104, Tryz.ntmps104
    go_wp2_with (first | (refine hab ?_; (try clear hF); clear hS; intro wk hS; (try simp only [List.set_cons_zero, List.set_cons_succ, heap_size, heap_set_size] at hS); ((try clear hF); refine hfI ?_; intro hF)) | (go_at_call 39; (with_reducible refine Calls.mono (HT.out _ hS) ?_); clear hS; rintro e wk ⟨rfl, y', HY, hS⟩) | (go_at_call 104; (with_reducible refine Calls.mono (HO.out _ HY _ hS) ?_); clear hS; rintro e wk ⟨⟨tp, pv, rfl⟩, hS⟩; clear HY))
    exact ⟨rfl, ⟨_, _, rfl⟩, hS⟩
set_option maxRecDepth 100000 in
set_option maxHeartbeats 8000000 in
theorem one_par (f : Nat) (hI : OrC f) (hEnd : ∀ d c r, orP f d l.tail = some (c, r) → EndT r) (d : Nat) (hE : EnvA B w0 R) (hl : EndT l) (hok : ∀ t ∈ l, TkOk 5000 t) (hf : 4 * l.length + 1 ≤ f + 1) (hd : ¬ 6 < d) (hn : seeT l notL = false) (hb : seeT l [40] = true) (hP : PAt B w0 R gt gp l y) (hS : Hp B w0 w (y :: R :: M)) :
    Calls Tryz.prog 104 #[.pointer (some ⟨gp, 0, none⟩), .int .i64 d] w (ParRes B w0 R gt gp M (oneP (f + 1) d l)) := by
  have hlen := see_tail hb
  have hE2 := hl.tail hb
  have hok2 : ∀ t ∈ l.tail, TkOk 5000 t := fun t ht => hok t (List.mem_of_mem_tail ht)
  have HT0 := Lib.hid (fun (W : World) (h : Hp B w0 W (y :: R :: M)) => take_no ⟨#[110, 111, 116]⟩ hl hP hn h)
  have HT := Lib.hid (fun (y' : Item) (h' : PAt B w0 R gt gp l y') (W : World) (h : Hp B w0 W (y' :: R :: M)) => take_yes ⟨#[40]⟩ hl h' hb h)
  have HO := Lib.hid (fun (y' : Item) (h' : PAt B w0 R gt gp l.tail y') (W : World) (h : Hp B w0 W (y' :: R :: M)) => show Calls Tryz.prog 40 #[.pointer (some ⟨gp, 0, none⟩), .int .i64 ((d : Int) + 1)] W _ from hI (d + 1) hE hE2 hok2 (by omega) (by omega) h' h)
  obtain ⟨D, hD⟩ : ∃ D, D = oneP (f + 1) d l := ⟨_, rfl⟩
  rw [← hD]
  simp only [oneP] at hD
  rw [if_neg hd, if_neg (by rw [hn]; decide), if_pos hb] at hD
  clear hI hE hl hok hf hb hP hlen hE2 hok2 hn
  cases hr : orP f (d + 1) l.tail with
  | some x =>
    obtain ⟨c, r⟩ := x
    have hEr := hEnd _ _ _ hr
    rw [hr] at hD HO
    simp only at hD
    have HM := Lib.hid (fun (y' : Item) (K : List Item) (h' : PAt B w0 R gt gp r y') (W : World) (h : Hp B w0 W (y' :: R :: (K ++ M))) => must_any ⟨#[41]⟩ hEr h' h)
    clear hr hEnd hEr
    cases hs : seeT r [41] with
    | true =>
      rw [hs] at hD HM
      simp only [if_true] at hD HM
      subst hD
      clear hs
      go_enter Tryz.func104, Tryz.ntmps104
      go_wp2_with (first | (refine hab ?_; (try clear hF); clear hS; intro wk hS; (try simp only [List.set_cons_zero, List.set_cons_succ, heap_size, heap_set_size] at hS); ((try clear hF); refine hfI ?_; intro hF)) | (go_at_call 39; first | ((with_reducible refine Calls.mono (HT0.out _ hS) ?_); clear hS HT0; rintro e wk ⟨rfl, y', HY, hS⟩) | ((with_reducible refine Calls.mono (HT.out _ HY _ hS) ?_); clear hS HY; rintro e wk ⟨rfl, y', HY, hS⟩)) | (go_at_call 40; (with_reducible refine Calls.mono (HO.out _ HY _ hS) ?_); clear hS; rintro e wk ⟨v, K, y2, rfl, HC, HY2, hS⟩; clear HY) | (go_at_call 36; (with_reducible refine Calls.mono (HM.out _ _ HY2 _ hS) ?_); clear hS; rintro e wk ⟨rfl, y3, HY3, hS⟩))
      go_ret
      exact ⟨_, K, y3, rfl, HC, HY3, hS⟩
    | false =>
      rw [hs] at hD HM
      simp only [Bool.false_eq_true, if_false] at hD HM
      subst hD
      clear hs
      go_enter Tryz.func104, Tryz.ntmps104
      go_wp2_with (first | (refine hab ?_; (try clear hF); clear hS; intro wk hS; (try simp only [List.set_cons_zero, List.set_cons_succ, heap_size, heap_set_size] at hS); ((try clear hF); refine hfI ?_; intro hF)) | (go_at_call 39; first | ((with_reducible refine Calls.mono (HT0.out _ hS) ?_); clear hS HT0; rintro e wk ⟨rfl, y', HY, hS⟩) | ((with_reducible refine Calls.mono (HT.out _ HY _ hS) ?_); clear hS HY; rintro e wk ⟨rfl, y', HY, hS⟩)) | (go_at_call 40; (with_reducible refine Calls.mono (HO.out _ HY _ hS) ?_); clear hS; rintro e wk ⟨v, K, y2, rfl, HC, HY2, hS⟩; clear HY) | (go_at_call 36; (with_reducible refine Calls.mono (HM.out _ _ HY2 _ hS) ?_); clear hS; rintro e wk ⟨⟨tp, pv, rfl⟩, hS⟩))
      exact ⟨rfl, ⟨_, _, rfl⟩, hS.sub (List.sublist_append_right K M)⟩
  | none =>
    rw [hr] at hD HO
    simp only at hD
    subst hD
    clear hr hEnd
    go_enter Tryz.func104, Tryz.ntmps104
    go_wp2_with (first | (refine hab ?_; (try clear hF); clear hS; intro wk hS; (try simp only [List.set_cons_zero, List.set_cons_succ, heap_size, heap_set_size] at hS); ((try clear hF); refine hfI ?_; intro hF)) | (go_at_call 39; first | ((with_reducible refine Calls.mono (HT0.out _ hS) ?_); clear hS HT0; rintro e wk ⟨rfl, y', HY, hS⟩) | ((with_reducible refine Calls.mono (HT.out _ HY _ hS) ?_); clear hS HY; rintro e wk ⟨rfl, y', HY, hS⟩)) | (go_at_call 40; (with_reducible refine Calls.mono (HO.out _ HY _ hS) ?_); clear hS; rintro e wk ⟨⟨tp, pv, rfl⟩, hS⟩; clear HY))
    exact ⟨rfl, ⟨_, _, rfl⟩, hS⟩
end
end Go.Proofs.YtlaldfkeaalnhaaGreatDoor

/- ask: the parser: a condition of a column. -/
namespace Go.Proofs.YtlaldfkeaalnhaaGreatDoor
set_option linter.unusedSimpArgs false
set_option linter.unusedVariables false
open Go.RowKit
set_option linter.all false
theorem NameRes.some_end {l r : List Tk} {n : ByteArray} (hl : EndT l) (h : nameP l = some (n, r)) : EndT r ∧ (∀ t ∈ r, t ∈ l) ∧ r.length + 1 = l.length := by
  cases l with
  | nil => simp [nameP] at h
  | cons t l =>
    simp only [nameP] at h
    split at h
    · rename_i hn
      obtain ⟨rfl, rfl⟩ := Prod.mk.inj (Option.some.inj h)
      have hk : t.kind ≠ 5 := by
        unfold nameT at hn
        simp only [Bool.and_eq_true, beq_iff_eq] at hn
        omega
      exact ⟨hl.tl hk, fun x hx => List.mem_cons_of_mem _ hx, rfl⟩
    · cases h
section
variable {B : Nat} {w0 w : World} {R : Item} {gt gp : Nat} {l : List Tk} {y : Item} {M : List Item}
set_option maxRecDepth 100000 in
set_option maxHeartbeats 8000000 in
theorem leaf_noname (d : Nat) (hE : EnvA B w0 R) (hl : EndT l) (hok : ∀ t ∈ l, TkOk 5000 t) (hd : ¬ 6 < d) (hn : seeT l notL = false) (hb : seeT l [40] = false) (h1 : nameP l = none) (hP : PAt B w0 R gt gp l y) (hS : Hp B w0 w (y :: R :: M)) :
    Calls Tryz.prog 104 #[.pointer (some ⟨gp, 0, none⟩), .int .i64 d] w (ParRes B w0 R gt gp M none) := by
  have HT0 := Lib.hid (fun (W : World) (h : Hp B w0 W (y :: R :: M)) => take_no ⟨#[110, 111, 116]⟩ hl hP hn h)
  have HT := Lib.hid (fun (y' : Item) (h' : PAt B w0 R gt gp l y') (W : World) (h : Hp B w0 W (y' :: R :: M)) => take_no ⟨#[40]⟩ hl h' hb h)
  have HN := Lib.hid (fun (y' : Item) (h' : PAt B w0 R gt gp l y') (W : World) (h : Hp B w0 W (y' :: R :: M)) => name_par hE hl h' h)
  rw [h1] at HN
  clear hE hl hok hP hn hb h1
  go_enter Tryz.func104, Tryz.ntmps104
  go_wp2_with (first | (refine hab ?_; (try clear hF); clear hS; intro wk hS; (try simp only [List.set_cons_zero, List.set_cons_succ, heap_size, heap_set_size] at hS); ((try clear hF); refine hfI ?_; intro hF)) | (go_at_call 39; first | ((with_reducible refine Calls.mono (HT0.out _ hS) ?_); clear hS HT0; rintro e wk ⟨rfl, y', HY, hS⟩) | ((with_reducible refine Calls.mono (HT.out _ HY _ hS) ?_); clear hS HY HT; rintro e wk ⟨rfl, y', HY, hS⟩)) | (go_at_call 42; (with_reducible refine Calls.mono (HN.out _ HY _ hS) ?_); clear hS HY HN; rintro e wk ⟨⟨tp, pv, rfl⟩, hS⟩))
  exact ⟨rfl, ⟨_, _, rfl⟩, hS⟩
set_option maxRecDepth 100000 in
set_option maxHeartbeats 8000000 in
theorem leaf_isnull (d : Nat) (hE : EnvA B w0 R) (hl : EndT l) (hok : ∀ t ∈ l, TkOk 5000 t) (hd : ¬ 6 < d) (hn : seeT l notL = false) (hb : seeT l [40] = false) (n : ByteArray) (r : List Tk) (h1 : nameP l = some (n, r)) (h2 : seeT r isL = true) (h3 : seeT r.tail notL = false) (h4 : seeT r.tail nullL = true) (hP : PAt B w0 R gt gp l y) (hS : Hp B w0 w (y :: R :: M)) :
    Calls Tryz.prog 104 #[.pointer (some ⟨gp, 0, none⟩), .int .i64 d] w (ParRes B w0 R gt gp M (some (.node 7 n zV .nil .nil, r.tail.tail))) := by
  have HT0 := Lib.hid (fun (W : World) (h : Hp B w0 W (y :: R :: M)) => take_no ⟨#[110, 111, 116]⟩ hl hP hn h)
  have HT := Lib.hid (fun (y' : Item) (h' : PAt B w0 R gt gp l y') (W : World) (h : Hp B w0 W (y' :: R :: M)) => take_no ⟨#[40]⟩ hl h' hb h)
  have HN := Lib.hid (fun (y' : Item) (h' : PAt B w0 R gt gp l y') (W : World) (h : Hp B w0 W (y' :: R :: M)) => name_par hE hl h' h)
  rw [h1] at HN
  obtain ⟨hEr, _, _⟩ := NameRes.some_end hl h1
  have hE1 := hEr.tail h2
  have HI := Lib.hid (fun (X : Item) (y' : Item) (h' : PAt B w0 R gt gp r y') (W : World) (h : Hp B w0 W (y' :: R :: X :: M)) => take_yes ⟨#[105, 115]⟩ hEr h' h2 h)
  have HI2 := Lib.hid (fun (X : Item) (y' : Item) (h' : PAt B w0 R gt gp r.tail y') (W : World) (h : Hp B w0 W (y' :: R :: X :: M)) => take_no ⟨#[110, 111, 116]⟩ hE1 h' h3 h)
  have HMU := Lib.hid (fun (X : Item) (y' : Item) (h' : PAt B w0 R gt gp r.tail y') (W : World) (h : Hp B w0 W (y' :: R :: X :: M)) => must_any ⟨#[110, 117, 108, 108]⟩ hE1 h' h)
  rw [show seeT r.tail (⟨#[110, 117, 108, 108]⟩ : ByteArray).data.toList = true from h4] at HMU
  simp only [if_true] at HMU
  clear hE hl hok hP hn hb h1 h2 h3 h4 hEr hE1
  go_enter Tryz.func104, Tryz.ntmps104
  go_wp2_with (first | (refine hab ?_; (try clear hF); clear hS; intro wk hS; (try simp only [List.set_cons_zero, List.set_cons_succ, heap_size, heap_set_size] at hS); ((try clear hF); refine hfI ?_; intro hF)) | (go_at_call 39; first | ((with_reducible refine Calls.mono (HT0.out _ hS) ?_); clear hS HT0; rintro e wk ⟨rfl, y', HY, hS⟩) | ((with_reducible refine Calls.mono (HT.out _ HY _ hS) ?_); clear hS HY HT; rintro e wk ⟨rfl, y', HY, hS⟩) | ((with_reducible refine Calls.mono (HI.out _ _ HY _ (third hS)) ?_); clear hS HY HI; rintro e wk ⟨rfl, y', HY, hS⟩; replace hS := hS.front 2 rfl; (try simp only [List.eraseIdx_cons_zero, List.eraseIdx_cons_succ, List.set_cons_zero, List.set_cons_succ] at hS); ((try clear hF); refine hfI ?_; intro hF)) | ((with_reducible refine Calls.mono (HI2.out _ _ HY _ (third hS)) ?_); clear hS HY HI2; rintro e wk ⟨rfl, y', HY, hS⟩; replace hS := hS.front 2 rfl; (try simp only [List.eraseIdx_cons_zero, List.eraseIdx_cons_succ, List.set_cons_zero, List.set_cons_succ] at hS); ((try clear hF); refine hfI ?_; intro hF))) | (go_at_call 42; (with_reducible refine Calls.mono (HN.out _ HY _ hS) ?_); clear hS HY HN; rintro e wk ⟨rfl, y', HY, hS⟩) | (go_at_call 36; (with_reducible refine Calls.mono (HMU.out _ _ HY _ (third hS)) ?_); clear hS HY HMU; rintro e wk ⟨rfl, y', HY, hS⟩))
  go_ret
  exact ⟨_, .blk _ [.int .i64 7, .string n, .int .i64 0, .int .i64 0, .string ⟨#[]⟩, .pointer none, .pointer none] 136 :: ([] ++ []), y', rfl, CondIn.node CondIn.nil CondIn.nil _ _ _ _ _ _, HY, hS⟩
set_option maxRecDepth 100000 in
set_option maxHeartbeats 8000000 in
theorem leaf_isnull_no (d : Nat) (hE : EnvA B w0 R) (hl : EndT l) (hok : ∀ t ∈ l, TkOk 5000 t) (hd : ¬ 6 < d) (hn : seeT l notL = false) (hb : seeT l [40] = false) (n : ByteArray) (r : List Tk) (h1 : nameP l = some (n, r)) (h2 : seeT r isL = true) (h3 : seeT r.tail notL = false) (h4 : seeT r.tail nullL = false) (hP : PAt B w0 R gt gp l y) (hS : Hp B w0 w (y :: R :: M)) :
    Calls Tryz.prog 104 #[.pointer (some ⟨gp, 0, none⟩), .int .i64 d] w (ParRes B w0 R gt gp M none) := by
  have HT0 := Lib.hid (fun (W : World) (h : Hp B w0 W (y :: R :: M)) => take_no ⟨#[110, 111, 116]⟩ hl hP hn h)
  have HT := Lib.hid (fun (y' : Item) (h' : PAt B w0 R gt gp l y') (W : World) (h : Hp B w0 W (y' :: R :: M)) => take_no ⟨#[40]⟩ hl h' hb h)
  have HN := Lib.hid (fun (y' : Item) (h' : PAt B w0 R gt gp l y') (W : World) (h : Hp B w0 W (y' :: R :: M)) => name_par hE hl h' h)
  rw [h1] at HN
  obtain ⟨hEr, _, _⟩ := NameRes.some_end hl h1
  have hE1 := hEr.tail h2
  have HI := Lib.hid (fun (X : Item) (y' : Item) (h' : PAt B w0 R gt gp r y') (W : World) (h : Hp B w0 W (y' :: R :: X :: M)) => take_yes ⟨#[105, 115]⟩ hEr h' h2 h)
  have HI2 := Lib.hid (fun (X : Item) (y' : Item) (h' : PAt B w0 R gt gp r.tail y') (W : World) (h : Hp B w0 W (y' :: R :: X :: M)) => take_no ⟨#[110, 111, 116]⟩ hE1 h' h3 h)
  have HMU := Lib.hid (fun (X : Item) (y' : Item) (h' : PAt B w0 R gt gp r.tail y') (W : World) (h : Hp B w0 W (y' :: R :: X :: M)) => must_any ⟨#[110, 117, 108, 108]⟩ hE1 h' h)
  rw [show seeT r.tail (⟨#[110, 117, 108, 108]⟩ : ByteArray).data.toList = false from h4] at HMU
  simp only [Bool.false_eq_true, if_false] at HMU
  clear hE hl hok hP hn hb h1 h2 h3 h4 hEr hE1
  go_enter Tryz.func104, Tryz.ntmps104
  go_wp2_with (first | (refine hab ?_; (try clear hF); clear hS; intro wk hS; (try simp only [List.set_cons_zero, List.set_cons_succ, heap_size, heap_set_size] at hS); ((try clear hF); refine hfI ?_; intro hF)) | (go_at_call 39; first | ((with_reducible refine Calls.mono (HT0.out _ hS) ?_); clear hS HT0; rintro e wk ⟨rfl, y', HY, hS⟩) | ((with_reducible refine Calls.mono (HT.out _ HY _ hS) ?_); clear hS HY HT; rintro e wk ⟨rfl, y', HY, hS⟩) | ((with_reducible refine Calls.mono (HI.out _ _ HY _ (third hS)) ?_); clear hS HY HI; rintro e wk ⟨rfl, y', HY, hS⟩; replace hS := hS.front 2 rfl; (try simp only [List.eraseIdx_cons_zero, List.eraseIdx_cons_succ, List.set_cons_zero, List.set_cons_succ] at hS); ((try clear hF); refine hfI ?_; intro hF)) | ((with_reducible refine Calls.mono (HI2.out _ _ HY _ (third hS)) ?_); clear hS HY HI2; rintro e wk ⟨rfl, y', HY, hS⟩; replace hS := hS.front 2 rfl; (try simp only [List.eraseIdx_cons_zero, List.eraseIdx_cons_succ, List.set_cons_zero, List.set_cons_succ] at hS); ((try clear hF); refine hfI ?_; intro hF))) | (go_at_call 42; (with_reducible refine Calls.mono (HN.out _ HY _ hS) ?_); clear hS HY HN; rintro e wk ⟨rfl, y', HY, hS⟩) | (go_at_call 36; (with_reducible refine Calls.mono (HMU.out _ _ HY _ (third hS)) ?_); clear hS HY HMU; rintro e wk ⟨⟨tp, pv, rfl⟩, hS⟩))
  exact ⟨rfl, ⟨_, _, rfl⟩, hS.tail⟩
set_option maxRecDepth 100000 in
set_option maxHeartbeats 8000000 in
theorem leaf_isnot (d : Nat) (hE : EnvA B w0 R) (hl : EndT l) (hok : ∀ t ∈ l, TkOk 5000 t) (hd : ¬ 6 < d) (hn : seeT l notL = false) (hb : seeT l [40] = false) (n : ByteArray) (r : List Tk) (h1 : nameP l = some (n, r)) (h2 : seeT r isL = true) (h3 : seeT r.tail notL = true) (h4 : seeT r.tail.tail nullL = true) (hP : PAt B w0 R gt gp l y) (hS : Hp B w0 w (y :: R :: M)) :
    Calls Tryz.prog 104 #[.pointer (some ⟨gp, 0, none⟩), .int .i64 d] w (ParRes B w0 R gt gp M (some (.node 8 n zV .nil .nil, r.tail.tail.tail))) := by
  have HT0 := Lib.hid (fun (W : World) (h : Hp B w0 W (y :: R :: M)) => take_no ⟨#[110, 111, 116]⟩ hl hP hn h)
  have HT := Lib.hid (fun (y' : Item) (h' : PAt B w0 R gt gp l y') (W : World) (h : Hp B w0 W (y' :: R :: M)) => take_no ⟨#[40]⟩ hl h' hb h)
  have HN := Lib.hid (fun (y' : Item) (h' : PAt B w0 R gt gp l y') (W : World) (h : Hp B w0 W (y' :: R :: M)) => name_par hE hl h' h)
  rw [h1] at HN
  obtain ⟨hEr, _, _⟩ := NameRes.some_end hl h1
  have hE1 := hEr.tail h2
  have HI := Lib.hid (fun (X : Item) (y' : Item) (h' : PAt B w0 R gt gp r y') (W : World) (h : Hp B w0 W (y' :: R :: X :: M)) => take_yes ⟨#[105, 115]⟩ hEr h' h2 h)
  have HI2 := Lib.hid (fun (X : Item) (y' : Item) (h' : PAt B w0 R gt gp r.tail y') (W : World) (h : Hp B w0 W (y' :: R :: X :: M)) => take_yes ⟨#[110, 111, 116]⟩ hE1 h' h3 h)
  have hE2 := hE1.tail h3
  have HMU := Lib.hid (fun (X : Item) (y' : Item) (h' : PAt B w0 R gt gp r.tail.tail y') (W : World) (h : Hp B w0 W (y' :: R :: X :: M)) => must_any ⟨#[110, 117, 108, 108]⟩ hE2 h' h)
  rw [show seeT r.tail.tail (⟨#[110, 117, 108, 108]⟩ : ByteArray).data.toList = true from h4] at HMU
  simp only [if_true] at HMU
  clear hE hl hok hP hn hb h1 h2 h3 h4 hEr hE1 hE2
  go_enter Tryz.func104, Tryz.ntmps104
  go_wp2_with (first | (refine hab ?_; (try clear hF); clear hS; intro wk hS; (try simp only [List.set_cons_zero, List.set_cons_succ, heap_size, heap_set_size] at hS); ((try clear hF); refine hfI ?_; intro hF)) | (go_at_call 39; first | ((with_reducible refine Calls.mono (HT0.out _ hS) ?_); clear hS HT0; rintro e wk ⟨rfl, y', HY, hS⟩) | ((with_reducible refine Calls.mono (HT.out _ HY _ hS) ?_); clear hS HY HT; rintro e wk ⟨rfl, y', HY, hS⟩) | ((with_reducible refine Calls.mono (HI.out _ _ HY _ (third hS)) ?_); clear hS HY HI; rintro e wk ⟨rfl, y', HY, hS⟩; replace hS := hS.front 2 rfl; (try simp only [List.eraseIdx_cons_zero, List.eraseIdx_cons_succ, List.set_cons_zero, List.set_cons_succ] at hS); ((try clear hF); refine hfI ?_; intro hF)) | ((with_reducible refine Calls.mono (HI2.out _ _ HY _ (third hS)) ?_); clear hS HY HI2; rintro e wk ⟨rfl, y', HY, hS⟩; replace hS := hS.front 2 rfl; (try simp only [List.eraseIdx_cons_zero, List.eraseIdx_cons_succ, List.set_cons_zero, List.set_cons_succ] at hS); ((try clear hF); refine hfI ?_; intro hF))) | (go_at_call 42; (with_reducible refine Calls.mono (HN.out _ HY _ hS) ?_); clear hS HY HN; rintro e wk ⟨rfl, y', HY, hS⟩) | (go_at_call 36; (with_reducible refine Calls.mono (HMU.out _ _ HY _ (third hS)) ?_); clear hS HY HMU; rintro e wk ⟨rfl, y', HY, hS⟩))
  go_ret
  exact ⟨_, .blk _ [.int .i64 8, .string n, .int .i64 0, .int .i64 0, .string ⟨#[]⟩, .pointer none, .pointer none] 136 :: ([] ++ []), y', rfl, CondIn.node CondIn.nil CondIn.nil _ _ _ _ _ _, HY, hS⟩
set_option maxRecDepth 100000 in
set_option maxHeartbeats 8000000 in
theorem leaf_isnot_no (d : Nat) (hE : EnvA B w0 R) (hl : EndT l) (hok : ∀ t ∈ l, TkOk 5000 t) (hd : ¬ 6 < d) (hn : seeT l notL = false) (hb : seeT l [40] = false) (n : ByteArray) (r : List Tk) (h1 : nameP l = some (n, r)) (h2 : seeT r isL = true) (h3 : seeT r.tail notL = true) (h4 : seeT r.tail.tail nullL = false) (hP : PAt B w0 R gt gp l y) (hS : Hp B w0 w (y :: R :: M)) :
    Calls Tryz.prog 104 #[.pointer (some ⟨gp, 0, none⟩), .int .i64 d] w (ParRes B w0 R gt gp M none) := by
  have HT0 := Lib.hid (fun (W : World) (h : Hp B w0 W (y :: R :: M)) => take_no ⟨#[110, 111, 116]⟩ hl hP hn h)
  have HT := Lib.hid (fun (y' : Item) (h' : PAt B w0 R gt gp l y') (W : World) (h : Hp B w0 W (y' :: R :: M)) => take_no ⟨#[40]⟩ hl h' hb h)
  have HN := Lib.hid (fun (y' : Item) (h' : PAt B w0 R gt gp l y') (W : World) (h : Hp B w0 W (y' :: R :: M)) => name_par hE hl h' h)
  rw [h1] at HN
  obtain ⟨hEr, _, _⟩ := NameRes.some_end hl h1
  have hE1 := hEr.tail h2
  have HI := Lib.hid (fun (X : Item) (y' : Item) (h' : PAt B w0 R gt gp r y') (W : World) (h : Hp B w0 W (y' :: R :: X :: M)) => take_yes ⟨#[105, 115]⟩ hEr h' h2 h)
  have HI2 := Lib.hid (fun (X : Item) (y' : Item) (h' : PAt B w0 R gt gp r.tail y') (W : World) (h : Hp B w0 W (y' :: R :: X :: M)) => take_yes ⟨#[110, 111, 116]⟩ hE1 h' h3 h)
  have hE2 := hE1.tail h3
  have HMU := Lib.hid (fun (X : Item) (y' : Item) (h' : PAt B w0 R gt gp r.tail.tail y') (W : World) (h : Hp B w0 W (y' :: R :: X :: M)) => must_any ⟨#[110, 117, 108, 108]⟩ hE2 h' h)
  rw [show seeT r.tail.tail (⟨#[110, 117, 108, 108]⟩ : ByteArray).data.toList = false from h4] at HMU
  simp only [Bool.false_eq_true, if_false] at HMU
  clear hE hl hok hP hn hb h1 h2 h3 h4 hEr hE1 hE2
  go_enter Tryz.func104, Tryz.ntmps104
  go_wp2_with (first | (refine hab ?_; (try clear hF); clear hS; intro wk hS; (try simp only [List.set_cons_zero, List.set_cons_succ, heap_size, heap_set_size] at hS); ((try clear hF); refine hfI ?_; intro hF)) | (go_at_call 39; first | ((with_reducible refine Calls.mono (HT0.out _ hS) ?_); clear hS HT0; rintro e wk ⟨rfl, y', HY, hS⟩) | ((with_reducible refine Calls.mono (HT.out _ HY _ hS) ?_); clear hS HY HT; rintro e wk ⟨rfl, y', HY, hS⟩) | ((with_reducible refine Calls.mono (HI.out _ _ HY _ (third hS)) ?_); clear hS HY HI; rintro e wk ⟨rfl, y', HY, hS⟩; replace hS := hS.front 2 rfl; (try simp only [List.eraseIdx_cons_zero, List.eraseIdx_cons_succ, List.set_cons_zero, List.set_cons_succ] at hS); ((try clear hF); refine hfI ?_; intro hF)) | ((with_reducible refine Calls.mono (HI2.out _ _ HY _ (third hS)) ?_); clear hS HY HI2; rintro e wk ⟨rfl, y', HY, hS⟩; replace hS := hS.front 2 rfl; (try simp only [List.eraseIdx_cons_zero, List.eraseIdx_cons_succ, List.set_cons_zero, List.set_cons_succ] at hS); ((try clear hF); refine hfI ?_; intro hF))) | (go_at_call 42; (with_reducible refine Calls.mono (HN.out _ HY _ hS) ?_); clear hS HY HN; rintro e wk ⟨rfl, y', HY, hS⟩) | (go_at_call 36; (with_reducible refine Calls.mono (HMU.out _ _ HY _ (third hS)) ?_); clear hS HY HMU; rintro e wk ⟨⟨tp, pv, rfl⟩, hS⟩))
  exact ⟨rfl, ⟨_, _, rfl⟩, hS.tail⟩
end
end Go.Proofs.YtlaldfkeaalnhaaGreatDoor

/- ask: the parser: a column, a mark, a value. -/
namespace Go.Proofs.YtlaldfkeaalnhaaGreatDoor
set_option linter.unusedSimpArgs false
set_option linter.unusedVariables false
open Go.RowKit
set_option linter.all false
theorem third2 {B : Nat} {w0 W : World} {a b y R : Item} {L : List Item} (h : Hp B w0 W (a :: b :: y :: R :: L)) : Hp B w0 W (y :: R :: a :: b :: L) := by
  have h1 := third (x := b) (y := y) (R := R) (L := L) h.tail
  refine h.perm ?_
  have p1 : (y :: R :: b :: L).Perm (b :: y :: R :: L) := (List.Perm.cons y (List.Perm.swap b R L)).trans (List.Perm.swap b y (R :: L))
  have p2 : (y :: R :: a :: b :: L).Perm (a :: y :: R :: b :: L) := (List.Perm.cons y (List.Perm.swap a R (b :: L))).trans (List.Perm.swap a y (R :: b :: L))
  exact p2.trans (List.Perm.cons a p1)
section
variable {B : Nat} {w0 w : World} {R : Item} {gt gp : Nat} {l : List Tk} {y : Item} {M : List Item}
set_option maxRecDepth 100000 in
set_option maxHeartbeats 8000000 in
theorem leaf_cmp (d : Nat) (hE : EnvA B w0 R) (hl : EndT l) (hok : ∀ t ∈ l, TkOk 5000 t) (hd : ¬ 6 < d) (hn : seeT l notL = false) (hb : seeT l [40] = false) (n : ByteArray) (r : List Tk) (h1 : nameP l = some (n, r)) (h2 : seeT r isL = false) (hP : PAt B w0 R gt gp l y) (hS : Hp B w0 w (y :: R :: M)) :
    Calls Tryz.prog 104 #[.pointer (some ⟨gp, 0, none⟩), .int .i64 d] w (ParRes B w0 R gt gp M (restP n r)) := by
  have HT0 := Lib.hid (fun (W : World) (h : Hp B w0 W (y :: R :: M)) => take_no ⟨#[110, 111, 116]⟩ hl hP hn h)
  have HT := Lib.hid (fun (y' : Item) (h' : PAt B w0 R gt gp l y') (W : World) (h : Hp B w0 W (y' :: R :: M)) => take_no ⟨#[40]⟩ hl h' hb h)
  have HN := Lib.hid (fun (y' : Item) (h' : PAt B w0 R gt gp l y') (W : World) (h : Hp B w0 W (y' :: R :: M)) => name_par hE hl h' h)
  rw [h1] at HN
  obtain ⟨hEr, hin, _⟩ := NameRes.some_end hl h1
  have hok2 : ∀ t ∈ r, TkOk 5000 t := fun t ht => hok t (hin t ht)
  have HI := Lib.hid (fun (X : Item) (y' : Item) (h' : PAt B w0 R gt gp r y') (W : World) (h : Hp B w0 W (y' :: R :: X :: M)) => take_no ⟨#[105, 115]⟩ hEr h' h2 h)
  obtain ⟨D, hD⟩ : ∃ D, D = restP n r := ⟨_, rfl⟩
  rw [← hD]
  unfold restP at hD
  rw [if_neg (by rw [h2]; decide)] at hD
  clear hl hok hP hn hb h1 h2 hin
  have HEV := Lib.hid hE
  clear hE
  go_enter Tryz.func104, Tryz.ntmps104
  go_upto_region 16 with (first | (refine hab ?_; (try clear hF); clear hS; intro wk hS; (try simp only [List.set_cons_zero, List.set_cons_succ, heap_size, heap_set_size] at hS); ((try clear hF); refine hfI ?_; intro hF)) | (go_at_call 39; first | ((with_reducible refine Calls.mono (HT0.out _ hS) ?_); clear hS HT0; rintro e wk ⟨rfl, y', HY, hS⟩) | ((with_reducible refine Calls.mono (HT.out _ HY _ hS) ?_); clear hS HY HT; rintro e wk ⟨rfl, y', HY, hS⟩) | ((with_reducible refine Calls.mono (HI.out _ _ HY _ (third hS)) ?_); clear hS HY HI; rintro e wk ⟨rfl, y', HY, hS⟩; replace hS := hS.front 2 rfl; (try simp only [List.eraseIdx_cons_zero, List.eraseIdx_cons_succ, List.set_cons_zero, List.set_cons_succ] at hS); ((try clear hF); refine hfI ?_; intro hF))) | (go_at_call 42; (with_reducible refine Calls.mono (HN.out _ HY _ hS) ?_); clear hS HY HN; rintro e wk ⟨rfl, y', HY, hS⟩))
  have HFL := Lib.hid (fun (X Z : Item) (W : World) (h : Hp B w0 W (y' :: R :: X :: Z :: M)) => fail_any 3 hEr.ne HY h)
  obtain ⟨off, m, cap, q, rfl, hm, hc, hc2, rfl, hT⟩ := HY
  cases q with
  | nil => exact absurd rfl hEr.ne
  | cons x q =>
    have HRD := Lib.hid hT.hd
    have HTL := Lib.hid hT.tl
    have hm0 : 0 < m := by rw [← hm]; simp
    have hq : q.length = m - 1 := by rw [← hm]; simp
    have HEE := Lib.hid (fun h : x.1.kind ≠ 5 => show EndT (q.map (·.1)) from EndT.tl (by simpa using hEr) h)
    have HOK := Lib.hid (show ∀ t ∈ q.map (·.1), TkOk 5000 t from fun t ht => hok2 t (by simp only [List.map_cons, List.mem_cons]; exact .inr ht))
    have HCO := Lib.hid (fun W => code_any x.1.text W)
    clear hT hm hEr hok2
    obtain ⟨⟨kd, tx⟩, pos⟩ := x
    simp only [List.map_cons] at HRD HCO HEE hD
    by_cases h4 : kd = 4
    · have hE1 := HEE.out (by omega)
      have hq1 : 1 ≤ q.length := by
        cases q with
        | nil => exact absurd rfl hE1.ne
        | cons _ _ => simp
      have h1m : 1 ≤ m := by omega
      have h1c : 1 ≤ cap := by omega
      subst h4
      have hcd : codeT ⟨4, tx⟩ = Lib.idxOfS codesS tx + 1 := by unfold codeT; rw [if_pos rfl]
      rw [hcd] at hD
      obtain ⟨hr1, hr2⟩ := idx_range tx
      obtain ⟨ix, hix⟩ : ∃ ix, ix = Lib.idxOfS codesS tx := ⟨_, rfl⟩
      rw [← hix] at HCO hD hr1 hr2
      clear hcd hix
      by_cases hlt : ix + 1 < 1
      · rw [if_pos hlt] at hD
        subst hD
        clear HEE HOK HTL hE1 HEV
        ((try clear hF); refine hfI ?_; intro hF)
        go_wp2_with (first | (refine hab ?_; (try clear hF); clear hS; intro wk hS; (try simp only [List.set_cons_zero, List.set_cons_succ, heap_size, heap_set_size] at hS); ((try clear hF); refine hfI ?_; intro hF)) | (go_at_call 133; (with_reducible refine (HCO.out _).mono ?_); rintro e wk ⟨rfl, hX⟩; replace hS := hS.step hX; clear hX; ((try clear hF); refine hfI ?_; intro hF)) | (go_at_call 70; (with_reducible refine (HFL.out _ _ _ (third2 hS)).mono ?_); rintro e wk ⟨⟨tp, pv, rfl⟩, hX⟩; replace hS := hS.step hX; clear hX))
        exact ⟨rfl, ⟨_, _, rfl⟩, g4 hS.tail⟩
      · rw [if_neg hlt] at hD
        have HLI := Lib.hid (fun (X Z : Item) (W : World) (h : Hp B w0 W (.blk gp [.slice (some ⟨gt, off + 3, none⟩) (m - 1) (cap - 1)] 130 :: R :: X :: Z :: M)) => lit_any HEV.out hE1 HOK.out ⟨off + 3, m - 1, cap - 1, q, rfl, hq, by omega, by omega, rfl, HTL.out⟩ h)
        clear HEE HFL hE1 HTL HOK HEV
        cases hli : litP (q.map (·.1)) with
        | none =>
          rw [hli] at hD HLI
          simp only at hD
          subst hD
          clear hli
          ((try clear hF); refine hfI ?_; intro hF)
          go_wp2_with (first | (refine hab ?_; (try clear hF); clear hS; intro wk hS; (try simp only [List.set_cons_zero, List.set_cons_succ, heap_size, heap_set_size] at hS); ((try clear hF); refine hfI ?_; intro hF)) | (go_at_call 133; (with_reducible refine (HCO.out _).mono ?_); rintro e wk ⟨rfl, hX⟩; replace hS := hS.step hX; clear hX; ((try clear hF); refine hfI ?_; intro hF)) | (go_at_call 134; (with_reducible refine Calls.mono (HLI.out _ _ _ (third2 hS)) ?_); clear hS; rintro e wk ⟨⟨tp, pv, rfl⟩, hS⟩))
          exact ⟨rfl, ⟨_, _, rfl⟩, hS.tail.tail⟩
        | some z =>
          obtain ⟨v, r2⟩ := z
          rw [hli] at hD HLI
          simp only at hD
          subst hD
          clear hli
          ((try clear hF); refine hfI ?_; intro hF)
          go_wp2_with (first | (refine hab ?_; (try clear hF); clear hS; intro wk hS; (try simp only [List.set_cons_zero, List.set_cons_succ, heap_size, heap_set_size] at hS); ((try clear hF); refine hfI ?_; intro hF)) | (go_at_call 133; (with_reducible refine (HCO.out _).mono ?_); rintro e wk ⟨rfl, hX⟩; replace hS := hS.step hX; clear hX; ((try clear hF); refine hfI ?_; intro hF)) | (go_at_call 134; (with_reducible refine Calls.mono (HLI.out _ _ _ (third2 hS)) ?_); clear hS; rintro e wk ⟨rfl, y3, HY3, hS⟩; replace hS := hS.front 3 rfl; (try simp only [List.eraseIdx_cons_zero, List.eraseIdx_cons_succ, List.set_cons_zero, List.set_cons_succ] at hS); ((try clear hF); refine hfI ?_; intro hF)))
          go_ret
          refine ⟨_, .blk _ [.int .i64 (ix + 1), .string n, .int .i64 v.kind, .int .i64 v.num, .string v.text, .pointer none, .pointer none] 136 :: ([] ++ []), y3, rfl, CondIn.node CondIn.nil CondIn.nil _ _ _ _ _ _, HY3, ?_⟩
          exact third (hS.drop 3)
    · have q4 : (kd == 4) = false := by simp [h4]
      have hcd : codeT ⟨kd, tx⟩ = 0 := by unfold codeT; rw [if_neg h4]
      rw [hcd, if_pos (by omega)] at hD
      subst hD
      clear HEE HOK HCO HTL h4 hcd HEV
      ((try clear hF); refine hfI ?_; intro hF)
      go_wp2_with (first | (refine hab ?_; (try clear hF); clear hS; intro wk hS; (try simp only [List.set_cons_zero, List.set_cons_succ, heap_size, heap_set_size] at hS); ((try clear hF); refine hfI ?_; intro hF)) | (go_at_call 70; (with_reducible refine (HFL.out _ _ _ (third2 hS)).mono ?_); rintro e wk ⟨⟨tp, pv, rfl⟩, hX⟩; replace hS := hS.step hX; clear hX))
      exact ⟨rfl, ⟨_, _, rfl⟩, g4 hS.tail⟩
end
end Go.Proofs.YtlaldfkeaalnhaaGreatDoor

/- ask: the parser: and, or: all of it. -/
namespace Go.Proofs.YtlaldfkeaalnhaaGreatDoor
set_option linter.unusedSimpArgs false
set_option linter.unusedVariables false
open Go.RowKit
set_option linter.all false
theorem lit_end {l r : List Tk} {v : GV} (hl : EndT l) (h : litP l = some (v, r)) : EndT r ∧ (∀ t ∈ r, t ∈ l) ∧ r.length + 1 = l.length := by
  cases l with
  | nil => simp [litP] at h
  | cons t l =>
    simp only [litP] at h
    cases hv : litT t with
    | none => rw [hv] at h; cases h
    | some x =>
      rw [hv] at h
      obtain ⟨rfl, rfl⟩ := Prod.mk.inj (Option.some.inj h)
      have hk : t.kind ≠ 5 := by
        unfold litT at hv
        split at hv
        · omega
        · split at hv
          · omega
          · split at hv
            · rename_i hs
              exact seeT_kind hs
            · cases hv
      exact ⟨hl.tl hk, fun x hx => List.mem_cons_of_mem _ hx, rfl⟩
theorem see_end {l : List Tk} {s : List UInt8} (hl : EndT l) (h : seeT l s = true) : EndT l.tail ∧ (∀ t ∈ l.tail, t ∈ l) ∧ l.tail.length + 1 = l.length :=
  ⟨hl.tail h, fun t ht => List.mem_of_mem_tail ht, (see_tail h).symm⟩
theorem restP_end {n : ByteArray} {l r : List Tk} {c : CT} (hl : EndT l) (h : restP n l = some (c, r)) : EndT r ∧ (∀ t ∈ r, t ∈ l) ∧ r.length + 1 ≤ l.length := by
  unfold restP at h
  split at h
  · rename_i h1
    obtain ⟨a1, a2, a3⟩ := see_end hl h1
    split at h
    · rename_i h2
      obtain ⟨b1, b2, b3⟩ := see_end a1 h2
      split at h
      · rename_i h3
        obtain ⟨c1, c2, c3⟩ := see_end b1 h3
        obtain ⟨rfl, rfl⟩ := Prod.mk.inj (Option.some.inj h)
        exact ⟨c1, fun t ht => a2 t (b2 t (c2 t ht)), by omega⟩
      · cases h
    · split at h
      · rename_i h3
        obtain ⟨c1, c2, c3⟩ := see_end a1 h3
        obtain ⟨rfl, rfl⟩ := Prod.mk.inj (Option.some.inj h)
        exact ⟨c1, fun t ht => a2 t (c2 t ht), by omega⟩
      · cases h
  · cases l with
    | nil => cases h
    | cons t l =>
      simp only at h
      split at h
      · cases h
      · rename_i hc
        have hk : t.kind ≠ 5 := by
          intro e
          unfold codeT at hc
          rw [if_neg (by omega)] at hc
          omega
        cases hv : litP l with
        | none => rw [hv] at h; cases h
        | some z =>
          obtain ⟨v, r2⟩ := z
          rw [hv] at h
          obtain ⟨rfl, rfl⟩ := Prod.mk.inj (Option.some.inj h)
          obtain ⟨d1, d2, d3⟩ := lit_end (hl.tl hk) hv
          exact ⟨d1, fun t ht => List.mem_cons_of_mem _ (d2 t ht), by simp only [List.length_cons]; omega⟩
theorem leaf_end {l r : List Tk} {c : CT} (hl : EndT l) (h : leafP l = some (c, r)) : EndT r ∧ (∀ t ∈ r, t ∈ l) ∧ r.length + 1 ≤ l.length := by
  unfold leafP at h
  cases hn : nameP l with
  | none => rw [hn] at h; cases h
  | some z =>
    obtain ⟨n, r1⟩ := z
    rw [hn] at h
    obtain ⟨a1, a2, a3⟩ := NameRes.some_end hl hn
    obtain ⟨b1, b2, b3⟩ := restP_end a1 h
    exact ⟨b1, fun t ht => a2 t (b2 t ht), by omega⟩
theorem of_end : ∀ (f d : Nat) (l : List Tk), EndT l →
    (∀ c r, oneP f d l = some (c, r) → EndT r ∧ (∀ t ∈ r, t ∈ l) ∧ r.length + 1 ≤ l.length) ∧
    (∀ c r, andP f d l = some (c, r) → EndT r ∧ (∀ t ∈ r, t ∈ l) ∧ r.length + 1 ≤ l.length) ∧
    (∀ a c r, andQ f d a l = some (c, r) → EndT r ∧ (∀ t ∈ r, t ∈ l) ∧ r.length ≤ l.length) ∧
    (∀ c r, orP f d l = some (c, r) → EndT r ∧ (∀ t ∈ r, t ∈ l) ∧ r.length + 1 ≤ l.length) ∧
    (∀ a c r, orQ f d a l = some (c, r) → EndT r ∧ (∀ t ∈ r, t ∈ l) ∧ r.length ≤ l.length)
  | 0, d, l, hl => by
    refine ⟨fun c r h => ?_, fun c r h => ?_, fun a c r h => ?_, fun c r h => ?_, fun a c r h => ?_⟩
    · simp [oneP] at h
    · simp [andP] at h
    · simp [andQ] at h
    · simp [orP] at h
    · simp [orQ] at h
  | f + 1, d, l, hl => by
    refine ⟨fun c r h => ?_, fun c r h => ?_, fun a c r h => ?_, fun c r h => ?_, fun a c r h => ?_⟩
    · simp only [oneP] at h
      split at h
      · cases h
      split at h
      · rename_i hs
        obtain ⟨a1, a2, a3⟩ := see_end hl hs
        cases h1 : oneP f (d + 1) l.tail with
        | none => rw [h1] at h; cases h
        | some x =>
          obtain ⟨c1, r1⟩ := x
          rw [h1] at h
          obtain ⟨rfl, rfl⟩ := Prod.mk.inj (Option.some.inj h)
          obtain ⟨b1, b2, b3⟩ := (of_end f (d + 1) l.tail a1).1 c1 r1 h1
          exact ⟨b1, fun t ht => a2 t (b2 t ht), by omega⟩
      split at h
      · rename_i hs
        obtain ⟨a1, a2, a3⟩ := see_end hl hs
        cases h1 : orP f (d + 1) l.tail with
        | none => rw [h1] at h; cases h
        | some x =>
          obtain ⟨c1, r1⟩ := x
          rw [h1] at h
          simp only at h
          obtain ⟨b1, b2, b3⟩ := (of_end f (d + 1) l.tail a1).2.2.2.1 c1 r1 h1
          split at h
          · rename_i hs2
            obtain ⟨c1, c2, c3⟩ := see_end b1 hs2
            obtain ⟨rfl, rfl⟩ := Prod.mk.inj (Option.some.inj h)
            exact ⟨c1, fun t ht => a2 t (b2 t (c2 t ht)), by omega⟩
          · cases h
      · exact leaf_end hl h
    · simp only [andP] at h
      cases h1 : oneP f d l with
      | none => rw [h1] at h; cases h
      | some x =>
        obtain ⟨c1, r1⟩ := x
        rw [h1] at h
        obtain ⟨a1, a2, a3⟩ := (of_end f d l hl).1 c1 r1 h1
        obtain ⟨b1, b2, b3⟩ := (of_end f d r1 a1).2.2.1 c1 c r h
        exact ⟨b1, fun t ht => a2 t (b2 t ht), by omega⟩
    · simp only [andQ] at h
      split at h
      · rename_i hs
        obtain ⟨a1, a2, a3⟩ := see_end hl hs
        cases h1 : oneP f d l.tail with
        | none => rw [h1] at h; cases h
        | some x =>
          obtain ⟨c1, r1⟩ := x
          rw [h1] at h
          obtain ⟨b1, b2, b3⟩ := (of_end f d l.tail a1).1 c1 r1 h1
          obtain ⟨d1, d2, d3⟩ := (of_end f d r1 b1).2.2.1 _ c r h
          exact ⟨d1, fun t ht => a2 t (b2 t (d2 t ht)), by omega⟩
      · obtain ⟨rfl, rfl⟩ := Prod.mk.inj (Option.some.inj h)
        exact ⟨hl, fun t ht => ht, Nat.le_refl _⟩
    · simp only [orP] at h
      cases h1 : andP f d l with
      | none => rw [h1] at h; cases h
      | some x =>
        obtain ⟨c1, r1⟩ := x
        rw [h1] at h
        obtain ⟨a1, a2, a3⟩ := (of_end f d l hl).2.1 c1 r1 h1
        obtain ⟨b1, b2, b3⟩ := (of_end f d r1 a1).2.2.2.2 c1 c r h
        exact ⟨b1, fun t ht => a2 t (b2 t ht), by omega⟩
    · simp only [orQ] at h
      split at h
      · rename_i hs
        obtain ⟨a1, a2, a3⟩ := see_end hl hs
        cases h1 : andP f d l.tail with
        | none => rw [h1] at h; cases h
        | some x =>
          obtain ⟨c1, r1⟩ := x
          rw [h1] at h
          obtain ⟨b1, b2, b3⟩ := (of_end f d l.tail a1).2.1 c1 r1 h1
          obtain ⟨d1, d2, d3⟩ := (of_end f d r1 b1).2.2.2.2 _ c r h
          exact ⟨d1, fun t ht => a2 t (b2 t (d2 t ht)), by omega⟩
      · obtain ⟨rfl, rfl⟩ := Prod.mk.inj (Option.some.inj h)
        exact ⟨hl, fun t ht => ht, Nat.le_refl _⟩
theorem one_end {f d : Nat} {l r : List Tk} {c : CT} (hl : EndT l) (h : oneP f d l = some (c, r)) : EndT r ∧ (∀ t ∈ r, t ∈ l) ∧ r.length + 1 ≤ l.length := (of_end f d l hl).1 c r h
theorem and_end {f d : Nat} {l r : List Tk} {c : CT} (hl : EndT l) (h : andP f d l = some (c, r)) : EndT r ∧ (∀ t ∈ r, t ∈ l) ∧ r.length + 1 ≤ l.length := (of_end f d l hl).2.1 c r h
/-- how many tokens are left -/
def lenAt (gp : Nat) (w : World) : Nat := match w.cell? ⟨gp, 0, none⟩ with
  | some (.slice _ n _) => n
  | _ => 0
theorem lenAt_of {B : Nat} {w0 W : World} {R : Item} {gt gp : Nat} {l : List Tk} {y : Item} {L : List Item} (hP : PAt B w0 R gt gp l y) (hS : Hp B w0 W (y :: L)) : lenAt gp W = l.length := by
  obtain ⟨off, n, cap, q, rfl, hn, hc, hc2, rfl, hT⟩ := hP
  have hF := hS.facts
  simp only [HFacts, cellFacts, RFacts, cellOnly, and_true, true_and, Nat.zero_add, Nat.reduceAdd] at hF
  unfold lenAt
  rw [hF.1.1]
  simp [hn]
theorem grow_perm {B : Nat} {w0 W : World} {x y R : Item} {K1 K2 M : List Item} (h : Hp B w0 W (x :: y :: R :: (K2 ++ (K1 ++ M)))) : Hp B w0 W (y :: R :: ((x :: (K1 ++ K2)) ++ M)) := by
  refine h.perm ?_
  have p1 : ((K1 ++ K2) ++ M).Perm (K2 ++ (K1 ++ M)) := by
    rw [← List.append_assoc]
    exact List.Perm.append_right M List.perm_append_comm
  have p2 : (y :: R :: x :: ((K1 ++ K2) ++ M)).Perm (x :: y :: R :: ((K1 ++ K2) ++ M)) := (List.Perm.cons y (List.Perm.swap x R _)).trans (List.Perm.swap x y _)
  rw [List.cons_append]
  exact p2.trans (List.Perm.cons x (List.Perm.cons y (List.Perm.cons R p1)))
set_option maxRecDepth 100000 in
set_option maxHeartbeats 8000000 in
theorem and_any (f : Nat) (hI : ∀ g, g ≤ f → OneC g) : AndC (f + 1) := by
  intro B w0 w R gt gp l y M d hE hl hok hf hd hP hS
  have HO1 := Lib.hid (fun (W : World) (h : Hp B w0 W (y :: R :: M)) => hI f (Nat.le_refl _) d hE hl hok (by omega) hd hP h)
  have HI := Lib.hid hI
  have HEV := Lib.hid hE
  obtain ⟨D, hD⟩ : ∃ D, D = andP (f + 1) d l := ⟨_, rfl⟩
  rw [← hD]
  simp only [andP] at hD
  cases h1 : oneP f d l with
  | none =>
    rw [h1] at hD HO1
    simp only at hD
    subst hD
    clear hI hE hl hok hf hP h1
    go_enter Tryz.func72, Tryz.ntmps72
    go_wp2_with (first | (refine hab ?_; (try clear hF); clear hS; intro wk hS; (try simp only [List.set_cons_zero, List.set_cons_succ, heap_size, heap_set_size] at hS); ((try clear hF); refine hfI ?_; intro hF)) | (go_at_call 104; (with_reducible refine Calls.mono (HO1.out _ hS) ?_); clear hS; rintro e wk ⟨⟨tp, pv, rfl⟩, hS⟩))
    exact ⟨rfl, ⟨_, _, rfl⟩, hS⟩
  | some x =>
    obtain ⟨c1, r1⟩ := x
    obtain ⟨e1, e2, e3⟩ := one_end hl h1
    have hok1 : ∀ t ∈ r1, TkOk 5000 t := fun t ht => hok t (e2 t ht)
    rw [h1] at hD HO1
    simp only at hD
    have HD := Lib.hid hD
    have hf1 : 4 * r1.length + 1 + 0 ≤ f := by omega
    clear hI hE hl hok hf hP h1 hD e2 e3
    go_enter Tryz.func72, Tryz.ntmps72
    go_wp2_with (first | (refine hab ?_; (try clear hF); clear hS; intro wk hS; (try simp only [List.set_cons_zero, List.set_cons_succ, heap_size, heap_set_size] at hS); ((try clear hF); refine hfI ?_; intro hF)) | (go_at_call 104; (with_reducible refine Calls.mono (HO1.out _ hS) ?_); clear hS; rintro e wk ⟨v, K, y2, rfl, HC, HY2, hS⟩))
    go_loopw [5] (fun c wr => ∃ (v : Option Addr) (K : List Item) (ct : CT) (l1 : List Tk) (y1 : Item) (f1 : Nat), c = .pointer v ∧ Hid (D = andQ f1 d ct l1) ∧ 4 * l1.length + 1 + 0 ≤ f1 ∧ f1 ≤ f ∧ EndT l1 ∧ (∀ t ∈ l1, TkOk 5000 t) ∧ CondIn B w0 K (.pointer v) ct ∧ PAt B w0 R gt gp l1 y1 ∧ Hp B w0 wr (y1 :: R :: (K ++ M))) (fun _ wr => lenAt gp wr)
    case atStart => exact ⟨v, K, c1, r1, y2, f, rfl, HD, hf1, Nat.le_refl _, e1, hok1, HC, HY2, hS⟩
    case round =>
      clear hS HD HO1 HC HY2 hf1 e1 hok1
      obtain ⟨v, K, ct, l1, y1, f1, rfl, HD, hf1, hff, e1, hok1, HC, HY, hS⟩ := hrel
      have HLN := Lib.hid (lenAt_of HY hS)
      obtain ⟨f1, rfl⟩ : ∃ g, f1 = g + 1 := ⟨f1 - 1, by omega⟩
      cases hb : seeT l1 andL with
      | false =>
        have HT := Lib.hid (fun (W : World) (h : Hp B w0 W (y1 :: R :: (K ++ M))) => take_no ⟨#[97, 110, 100]⟩ e1 HY hb h)
        have HD2 := Lib.hid (show D = some (ct, l1) by rw [HD.out]; simp only [andQ, hb, Bool.false_eq_true, if_false])
        clear HD hb HLN HI HEV hf1 hff e1 hok1
        have HD3 := HD2.out
        subst HD3
        go_wp2_with (first | (refine hab ?_; (try clear hF); clear hS; intro wk hS; (try simp only [List.set_cons_zero, List.set_cons_succ, heap_size, heap_set_size] at hS); ((try clear hF); refine hfI ?_; intro hF)) | (go_at_call 39; (with_reducible refine Calls.mono (HT.out _ hS) ?_); clear hS; rintro e wk ⟨rfl, y', HY', hS⟩))
        go_ret
        exact ⟨v, K, y', rfl, HC, HY', hS⟩
      | true =>
        have hE2 := e1.tail hb
        have hlen := see_tail hb
        have hok2 : ∀ t ∈ l1.tail, TkOk 5000 t := fun t ht => hok1 t (List.mem_of_mem_tail ht)
        have HT := Lib.hid (fun (W : World) (h : Hp B w0 W (y1 :: R :: (K ++ M))) => take_yes ⟨#[97, 110, 100]⟩ e1 HY hb h)
        have HO := Lib.hid (fun (y' : Item) (h' : PAt B w0 R gt gp l1.tail y') (W : World) (h : Hp B w0 W (y' :: R :: (K ++ M))) => HI.out f1 (by omega) d HEV.out hE2 hok2 (by omega) hd h' h)
        cases h1 : oneP f1 d l1.tail with
        | none =>
          have HD1 : D = none := by rw [HD.out]; simp only [andQ, hb, if_true, h1]
          rw [h1] at HO
          clear HD
          clear HI HEV hf1 hff e1 hok1 hb hE2 hlen hok2 h1 HLN
          subst HD1
          go_wp2_with (first | (refine hab ?_; (try clear hF); clear hS; intro wk hS; (try simp only [List.set_cons_zero, List.set_cons_succ, heap_size, heap_set_size] at hS); ((try clear hF); refine hfI ?_; intro hF)) | (go_at_call 39; (with_reducible refine Calls.mono (HT.out _ hS) ?_); clear hS; rintro e wk ⟨rfl, y', HY', hS⟩) | (go_at_call 104; (with_reducible refine Calls.mono (HO.out _ HY' _ hS) ?_); clear hS; rintro e wk ⟨⟨tp, pv, rfl⟩, hS⟩))
          exact ⟨rfl, ⟨_, _, rfl⟩, hS.sub (List.sublist_append_right K M)⟩
        | some x =>
          obtain ⟨c2, r2⟩ := x
          obtain ⟨k1, k2, k3⟩ := one_end hE2 h1
          have hok3 : ∀ t ∈ r2, TkOk 5000 t := fun t ht => hok2 t (k2 t ht)
          have hf2 : 4 * r2.length + 1 + 0 ≤ f1 := by omega
          have hlt : r2.length < l1.length := by omega
          have HD1 : D = andQ f1 d (opA 9 ct c2) r2 := by rw [HD.out]; simp only [andQ, hb, if_true, h1]
          rw [h1] at HO
          clear HD
          have HD := Lib.hid HD1
          have hff2 : f1 ≤ f := by omega
          clear HD1 HI HEV hf1 hff e1 hok1 hb hE2 hlen hok2 h1 k2 k3
          go_wp2_with (first | (refine hab ?_; (try clear hF); clear hS; intro wk hS; (try simp only [List.set_cons_zero, List.set_cons_succ, heap_size, heap_set_size] at hS); ((try clear hF); refine hfI ?_; intro hF)) | (go_at_call 39; (with_reducible refine Calls.mono (HT.out _ hS) ?_); clear hS; rintro e wk ⟨rfl, y', HY', hS⟩) | (go_at_call 104; (with_reducible refine Calls.mono (HO.out _ HY' _ hS) ?_); clear hS; rintro e wk ⟨v2, K2, y2, rfl, HC2, HY2, hS⟩))
          have HFIN := grow_perm (hS.alloc [.int .i64 9, .string ⟨#[]⟩, .int .i64 0, .int .i64 0, .string ⟨#[]⟩, .pointer v, .pointer v2] 136)
          go_roundw
          case rel => exact ⟨_, _, _, r2, y2, f1, rfl, HD, hf2, hff2, k1, hok3, CondIn.node HC HC2 _ _ _ _ _ _, HY2, HFIN⟩
          case measure => rw [HLN.out, lenAt_of HY2 HFIN]; exact hlt
set_option maxRecDepth 100000 in
set_option maxHeartbeats 8000000 in
theorem or_any (f : Nat) (hI : ∀ g, g ≤ f → AndC g) : OrC (f + 1) := by
  intro B w0 w R gt gp l y M d hE hl hok hf hd hP hS
  have HO1 := Lib.hid (fun (W : World) (h : Hp B w0 W (y :: R :: M)) => hI f (Nat.le_refl _) d hE hl hok (by omega) hd hP h)
  have HI := Lib.hid hI
  have HEV := Lib.hid hE
  obtain ⟨D, hD⟩ : ∃ D, D = orP (f + 1) d l := ⟨_, rfl⟩
  rw [← hD]
  simp only [orP] at hD
  cases h1 : andP f d l with
  | none =>
    rw [h1] at hD HO1
    simp only at hD
    subst hD
    clear hI hE hl hok hf hP h1
    go_enter Tryz.func40, Tryz.ntmps40
    go_wp2_with (first | (refine hab ?_; (try clear hF); clear hS; intro wk hS; (try simp only [List.set_cons_zero, List.set_cons_succ, heap_size, heap_set_size] at hS); ((try clear hF); refine hfI ?_; intro hF)) | (go_at_call 72; (with_reducible refine Calls.mono (HO1.out _ hS) ?_); clear hS; rintro e wk ⟨⟨tp, pv, rfl⟩, hS⟩))
    exact ⟨rfl, ⟨_, _, rfl⟩, hS⟩
  | some x =>
    obtain ⟨c1, r1⟩ := x
    obtain ⟨e1, e2, e3⟩ := and_end hl h1
    have hok1 : ∀ t ∈ r1, TkOk 5000 t := fun t ht => hok t (e2 t ht)
    rw [h1] at hD HO1
    simp only at hD
    have HD := Lib.hid hD
    have hf1 : 4 * r1.length + 1 + 1 ≤ f := by omega
    clear hI hE hl hok hf hP h1 hD e2 e3
    go_enter Tryz.func40, Tryz.ntmps40
    go_wp2_with (first | (refine hab ?_; (try clear hF); clear hS; intro wk hS; (try simp only [List.set_cons_zero, List.set_cons_succ, heap_size, heap_set_size] at hS); ((try clear hF); refine hfI ?_; intro hF)) | (go_at_call 72; (with_reducible refine Calls.mono (HO1.out _ hS) ?_); clear hS; rintro e wk ⟨v, K, y2, rfl, HC, HY2, hS⟩))
    go_loopw [5] (fun c wr => ∃ (v : Option Addr) (K : List Item) (ct : CT) (l1 : List Tk) (y1 : Item) (f1 : Nat), c = .pointer v ∧ Hid (D = orQ f1 d ct l1) ∧ 4 * l1.length + 1 + 1 ≤ f1 ∧ f1 ≤ f ∧ EndT l1 ∧ (∀ t ∈ l1, TkOk 5000 t) ∧ CondIn B w0 K (.pointer v) ct ∧ PAt B w0 R gt gp l1 y1 ∧ Hp B w0 wr (y1 :: R :: (K ++ M))) (fun _ wr => lenAt gp wr)
    case atStart => exact ⟨v, K, c1, r1, y2, f, rfl, HD, hf1, Nat.le_refl _, e1, hok1, HC, HY2, hS⟩
    case round =>
      clear hS HD HO1 HC HY2 hf1 e1 hok1
      obtain ⟨v, K, ct, l1, y1, f1, rfl, HD, hf1, hff, e1, hok1, HC, HY, hS⟩ := hrel
      have HLN := Lib.hid (lenAt_of HY hS)
      obtain ⟨f1, rfl⟩ : ∃ g, f1 = g + 1 := ⟨f1 - 1, by omega⟩
      cases hb : seeT l1 orL with
      | false =>
        have HT := Lib.hid (fun (W : World) (h : Hp B w0 W (y1 :: R :: (K ++ M))) => take_no ⟨#[111, 114]⟩ e1 HY hb h)
        have HD2 := Lib.hid (show D = some (ct, l1) by rw [HD.out]; simp only [orQ, hb, Bool.false_eq_true, if_false])
        clear HD hb HLN HI HEV hf1 hff e1 hok1
        have HD3 := HD2.out
        subst HD3
        go_wp2_with (first | (refine hab ?_; (try clear hF); clear hS; intro wk hS; (try simp only [List.set_cons_zero, List.set_cons_succ, heap_size, heap_set_size] at hS); ((try clear hF); refine hfI ?_; intro hF)) | (go_at_call 39; (with_reducible refine Calls.mono (HT.out _ hS) ?_); clear hS; rintro e wk ⟨rfl, y', HY', hS⟩))
        go_ret
        exact ⟨v, K, y', rfl, HC, HY', hS⟩
      | true =>
        have hE2 := e1.tail hb
        have hlen := see_tail hb
        have hok2 : ∀ t ∈ l1.tail, TkOk 5000 t := fun t ht => hok1 t (List.mem_of_mem_tail ht)
        have HT := Lib.hid (fun (W : World) (h : Hp B w0 W (y1 :: R :: (K ++ M))) => take_yes ⟨#[111, 114]⟩ e1 HY hb h)
        have HO := Lib.hid (fun (y' : Item) (h' : PAt B w0 R gt gp l1.tail y') (W : World) (h : Hp B w0 W (y' :: R :: (K ++ M))) => HI.out f1 (by omega) d HEV.out hE2 hok2 (by omega) hd h' h)
        cases h1 : andP f1 d l1.tail with
        | none =>
          have HD1 : D = none := by rw [HD.out]; simp only [orQ, hb, if_true, h1]
          rw [h1] at HO
          clear HD
          clear HI HEV hf1 hff e1 hok1 hb hE2 hlen hok2 h1 HLN
          subst HD1
          go_wp2_with (first | (refine hab ?_; (try clear hF); clear hS; intro wk hS; (try simp only [List.set_cons_zero, List.set_cons_succ, heap_size, heap_set_size] at hS); ((try clear hF); refine hfI ?_; intro hF)) | (go_at_call 39; (with_reducible refine Calls.mono (HT.out _ hS) ?_); clear hS; rintro e wk ⟨rfl, y', HY', hS⟩) | (go_at_call 72; (with_reducible refine Calls.mono (HO.out _ HY' _ hS) ?_); clear hS; rintro e wk ⟨⟨tp, pv, rfl⟩, hS⟩))
          exact ⟨rfl, ⟨_, _, rfl⟩, hS.sub (List.sublist_append_right K M)⟩
        | some x =>
          obtain ⟨c2, r2⟩ := x
          obtain ⟨k1, k2, k3⟩ := and_end hE2 h1
          have hok3 : ∀ t ∈ r2, TkOk 5000 t := fun t ht => hok2 t (k2 t ht)
          have hf2 : 4 * r2.length + 1 + 1 ≤ f1 := by omega
          have hlt : r2.length < l1.length := by omega
          have HD1 : D = orQ f1 d (opA 10 ct c2) r2 := by rw [HD.out]; simp only [orQ, hb, if_true, h1]
          rw [h1] at HO
          clear HD
          have HD := Lib.hid HD1
          have hff2 : f1 ≤ f := by omega
          clear HD1 HI HEV hf1 hff e1 hok1 hb hE2 hlen hok2 h1 k2 k3
          go_wp2_with (first | (refine hab ?_; (try clear hF); clear hS; intro wk hS; (try simp only [List.set_cons_zero, List.set_cons_succ, heap_size, heap_set_size] at hS); ((try clear hF); refine hfI ?_; intro hF)) | (go_at_call 39; (with_reducible refine Calls.mono (HT.out _ hS) ?_); clear hS; rintro e wk ⟨rfl, y', HY', hS⟩) | (go_at_call 72; (with_reducible refine Calls.mono (HO.out _ HY' _ hS) ?_); clear hS; rintro e wk ⟨v2, K2, y2, rfl, HC2, HY2, hS⟩))
          have HFIN := grow_perm (hS.alloc [.int .i64 10, .string ⟨#[]⟩, .int .i64 0, .int .i64 0, .string ⟨#[]⟩, .pointer v, .pointer v2] 136)
          go_roundw
          case rel => exact ⟨_, _, _, r2, y2, f1, rfl, HD, hf2, hff2, k1, hok3, CondIn.node HC HC2 _ _ _ _ _ _, HY2, HFIN⟩
          case measure => rw [HLN.out, lenAt_of HY2 HFIN]; exact hlt
end Go.Proofs.YtlaldfkeaalnhaaGreatDoor

/- ask: one, and, or, at all tokens. -/
namespace Go.Proofs.YtlaldfkeaalnhaaGreatDoor
set_option linter.unusedSimpArgs false
set_option linter.unusedVariables false
open Go.RowKit
set_option linter.all false
theorem all_any : ∀ f, OneC f ∧ AndC f ∧ OrC f
  | 0 => ⟨fun d _ _ _ h => by omega, fun d _ _ _ h => by omega, fun d _ _ _ h => by omega⟩
  | f + 1 => by
    have hI : ∀ g, g ≤ f → OneC g ∧ AndC g ∧ OrC g := fun g _ => all_any g
    refine ⟨?_, and_any f fun g hg => (hI g hg).1, or_any f fun g hg => (hI g hg).2.1⟩
    intro B w0 w R gt gp l y M d hE hl hok hf hd hP hS
    by_cases h6 : 6 < d
    · have e : oneP (f + 1) d l = none := by simp only [oneP]; rw [if_pos h6]
      rw [e]
      exact one_deep d hl h6 hd hP hS
    cases hn : seeT l notL with
    | true => exact one_not f (hI f (Nat.le_refl _)).1 d hE hl hok hf h6 hn hP hS
    | false =>
      cases hb : seeT l [40] with
      | true => exact one_par f (hI f (Nat.le_refl _)).2.2 (fun d c r h => ((of_end f d l.tail (hl.tail hb)).2.2.2.1 c r h).1) d hE hl hok hf h6 hn hb hP hS
      | false =>
        have e : oneP (f + 1) d l = leafP l := by simp only [oneP]; rw [if_neg h6, if_neg (by rw [hn]; decide), if_neg (by rw [hb]; decide)]
        rw [e]
        unfold leafP
        cases h1 : nameP l with
        | none => exact leaf_noname d hE hl hok h6 hn hb h1 hP hS
        | some z =>
          obtain ⟨n, r⟩ := z
          cases h2 : seeT r isL with
          | false => exact leaf_cmp d hE hl hok h6 hn hb n r h1 h2 hP hS
          | true =>
            simp only
            unfold restP
            rw [if_pos h2]
            cases h3 : seeT r.tail notL with
            | true =>
              rw [if_pos rfl]
              cases h4 : seeT r.tail.tail nullL with
              | true => rw [if_pos rfl]; exact leaf_isnot d hE hl hok h6 hn hb n r h1 h2 h3 h4 hP hS
              | false => rw [if_neg (by decide)]; exact leaf_isnot_no d hE hl hok h6 hn hb n r h1 h2 h3 h4 hP hS
            | false =>
              rw [if_neg (by decide)]
              cases h4 : seeT r.tail nullL with
              | true => rw [if_pos rfl]; exact leaf_isnull d hE hl hok h6 hn hb n r h1 h2 h3 h4 hP hS
              | false => rw [if_neg (by decide)]; exact leaf_isnull_no d hE hl hok h6 hn hb n r h1 h2 h3 h4 hP hS
end Go.Proofs.YtlaldfkeaalnhaaGreatDoor

/- ask: the tokens' row. -/
namespace Go.Proofs.YtlaldfkeaalnhaaGreatDoor
set_option linter.unusedSimpArgs false
set_option linter.unusedVariables false
open Go.RowKit
set_option linter.all false
theorem tkV_get : ∀ (q : List (Tk × Nat)) (i : Nat) (x : Tk × Nat), q[i]? = some x → (tkV q)[i * 3]? = some (.int .i64 x.1.kind) ∧ (tkV q)[i * 3 + 1]? = some (.string x.1.text) ∧ (tkV q)[i * 3 + 2]? = some (.int .i64 x.2)
  | [], i, x, h => by simp at h
  | y :: q, 0, x, h => by
    simp at h
    subst h
    exact ⟨rfl, rfl, rfl⟩
  | y :: q, i + 1, x, h => by
    have := tkV_get q i x (by simpa using h)
    rw [show (i + 1) * 3 = i * 3 + 3 by omega, show i * 3 + 3 + 1 = (i * 3 + 1) + 3 by omega, show i * 3 + 3 + 2 = (i * 3 + 2) + 3 by omega]
    exact this
theorem tkIn_row {B : Nat} {w0 : World} {gt n cap : Nat} {q : List (Tk × Nat)} : TkIn B w0 (.row 132 3 (some ⟨gt, 0, none⟩) n cap (tkV q)) gt 0 q := fun W hW i x hi => by
  obtain ⟨h1, h2, h3⟩ := tkV_get q i x hi
  obtain ⟨g1, e1, c1, _⟩ := hW.rowCell 0 rfl h1
  obtain ⟨g2, e2, c2, _⟩ := hW.rowCell 0 rfl h2
  obtain ⟨g3, e3, c3, _⟩ := hW.rowCell 0 rfl h3
  simp only [Option.some.injEq, Addr.mk.injEq, and_true] at e1 e2 e3
  subst e1 e2 e3
  simp only [Nat.zero_add]
  exact ⟨c1, c2, c3⟩
theorem Hp.ne {B : Nat} {w0 W : World} {a b : Nat} {x y : List Value} {t u : TypeId} {L : List Item} (h : Hp B w0 W (.blk a x t :: .blk b y u :: L)) : a ≠ b := by
  intro e
  have := List.pairwise_cons.1 h.apart
  rcases this.1 (.blk b y u) (by simp) with h | h
  · cases h
  · exact h (by simp [Item.block, e])
theorem toks_ok {bs : List UInt8} {l : List Tk} {f : Nat} (h : tokL f bs 0 = some l) (hb : bs.length ≤ 5000) : EndT l ∧ (∀ t ∈ l, TkOk 5000 t) ∧ l.length ≤ 81 := by
  obtain ⟨ts, rfl, hx, hk⟩ := of_tokL f bs 0 l h
  refine ⟨⟨ts, rfl⟩, fun t ht => ?_, ?_⟩
  · rcases List.mem_append.1 ht with h | h
    · exact (lx_ok hx 5000 hb t h).1
    · simp at h
      subst h
      exact ⟨by decide, by decide, by decide, fun h => by cases h⟩
  · have := hk (by omega)
    simp only [List.length_append, List.length_cons, List.length_nil]
    omega
end Go.Proofs.YtlaldfkeaalnhaaGreatDoor

/- what file.Make makes: in plain words. -/
namespace Go.Proofs.YtlaldfkeaalnhaaGreatDoor
set_option linter.all false
set_option linter.unusedSimpArgs false
set_option linter.unusedVariables false
open Go.RowKit
def nextM (l : List CG) : Int := l.foldl (fun n c => max n (min c.id 1099511627776 + 1)) 1
def statsM (part : List (List GV)) : Nat → List CG → List ST
  | _, [] => []
  | j, _ :: cs => ofS (colL part j) :: statsM part (j + 1) cs
def bytesM (part : List (List GV)) : Nat → List CG → List ByteArray
  | _, [] => []
  | j, c :: cs => ⟨(encOut c.kind (colL part j)).toArray⟩ :: bytesM part (j + 1) cs
def grpM (cs : List CG) (part : List (List GV)) : GG := ⟨part.length, statsM part 0 cs, bytesM part 0 cs⟩
def partM (rs : List (List GV)) (k : Nat) : List (List GV) := (rs.drop (6 * k)).take 6
def makeF (cs : List CG) (rs : List (List GV)) : FG := ⟨cs, (List.range ((rs.length + 5) / 6)).map fun k => grpM cs (partM rs k)⟩
def rowsE (cs : List CG) : List (List GV) → Int
  | [] => 0
  | r :: t => if rowE cs r = 0 then rowsE cs t else rowE cs r
def mkE (cs : List CG) (rs : List (List GV)) : Int := if rightC cs (nextM cs) = false then 1 else if rs.length < 1 ∨ 60 < rs.length then 4 else rowsE cs rs
theorem statsM_len (part : List (List GV)) : ∀ (cs : List CG) (j : Nat), (statsM part j cs).length = cs.length
  | [], _ => rfl
  | _ :: cs, j => by rw [statsM, List.length_cons, statsM_len part cs (j + 1), List.length_cons]
theorem bytesM_len (part : List (List GV)) : ∀ (cs : List CG) (j : Nat), (bytesM part j cs).length = cs.length
  | [], _ => rfl
  | _ :: cs, j => by rw [bytesM, List.length_cons, bytesM_len part cs (j + 1), List.length_cons]
theorem statsM_snoc (part : List (List GV)) : ∀ (cs : List CG) (j : Nat) (c : CG), statsM part j (cs ++ [c]) = statsM part j cs ++ [ofS (colL part (j + cs.length))]
  | [], j, c => rfl
  | d :: cs, j, c => by
    rw [List.cons_append, statsM, statsM, statsM_snoc part cs (j + 1) c, List.length_cons, show j + 1 + cs.length = j + (cs.length + 1) by omega]
    rfl
theorem bytesM_snoc (part : List (List GV)) : ∀ (cs : List CG) (j : Nat) (c : CG), bytesM part j (cs ++ [c]) = bytesM part j cs ++ [⟨(encOut c.kind (colL part (j + cs.length))).toArray⟩]
  | [], j, c => rfl
  | d :: cs, j, c => by
    rw [List.cons_append, bytesM, bytesM, bytesM_snoc part cs (j + 1) c, List.length_cons, show j + 1 + cs.length = j + (cs.length + 1) by omega]
    rfl
theorem takeC_succ {cs : List CG} {k : Nat} {c : CG} (h : cs[k]? = some c) : cs.take (k + 1) = cs.take k ++ [c] := by rw [List.take_add_one, h]; rfl
theorem nextM_take {cs : List CG} {k : Nat} {c : CG} (h : cs[k]? = some c) : (cs.take (k + 1)).foldl (fun n c => max n (min c.id 1099511627776 + 1)) 1 = max ((cs.take k).foldl (fun n c => max n (min c.id 1099511627776 + 1)) 1) (min c.id 1099511627776 + 1) := by
  rw [takeC_succ h, List.foldl_append]
  rfl
theorem mk_rows {cs : List CG} : ∀ {rs : List (List GV)}, rowsE cs rs = 0 → ∀ r ∈ rs, rowE cs r = 0
  | [], _ => fun _ h => by cases h
  | r :: t, h => by
    unfold rowsE at h
    split at h
    · rename_i h0
      intro x hx
      rcases List.mem_cons.1 hx with rfl | hx
      · exact h0
      · exact mk_rows h x hx
    · rename_i h0; exact absurd h h0
theorem row_len {cs : List CG} {r : List GV} (h : rowE cs r = 0) : r.length = cs.length := by
  unfold rowE at h
  split at h
  · rename_i e; exact e
  · cases h
theorem rowF_cell : ∀ {cs : List CG} {r : List GV} {j : Nat} {c : CG} {v : GV}, rowF cs r = 0 → cs[j]? = some c → r[j]? = some v → cellE c v = 0
  | [], _, j, c, v, _, h, _ => by simp at h
  | _ :: _, [], j, c, v, _, _, h => by simp at h
  | d :: cs, y :: r, 0, c, v, h, h1, h2 => by
    simp at h1 h2
    subst h1 h2
    unfold rowF at h
    split at h
    · rename_i e; exact e
    · rename_i e; exact absurd h e
  | d :: cs, y :: r, j + 1, c, v, h, h1, h2 => by
    unfold rowF at h
    split at h
    · exact rowF_cell (j := j) h (by simpa using h1) (by simpa using h2)
    · rename_i e; exact absurd h e
theorem row_cell {cs : List CG} {r : List GV} {j : Nat} {c : CG} {v : GV} (h : rowE cs r = 0) (h1 : cs[j]? = some c) (h2 : r[j]? = some v) : cellE c v = 0 := by
  unfold rowE at h
  split at h
  · exact rowF_cell h h1 h2
  · cases h
theorem cellE_bad {c : CG} {v : GV} (h : cellE c v = 0) : badIn c.kind v = false := by
  unfold cellE at h
  unfold badIn
  split at h
  · cases h
  · rename_i h1
    have h1 : rightB v.kind v.num v.text = true := by simpa using h1
    rw [h1]
    split at h
    · rename_i h2
      simp [h2]
    · split at h
      · rename_i h3
        simp [h3]
      · cases h
theorem colL_mem {part : List (List GV)} {j : Nat} {x : GV} (hx : x ∈ colL part j) : ∃ r ∈ part, x = r.getD j gv00 := by
  unfold colL at hx
  obtain ⟨r, h1, h2⟩ := List.mem_map.1 hx
  exact ⟨r, h1, h2.symm⟩
theorem col_enc {cs : List CG} {part : List (List GV)} {j : Nat} {c : CG} (h : ∀ r ∈ part, rowE cs r = 0) (h1 : cs[j]? = some c) (hk : c.kind = 1 ∨ c.kind = 2) (hl : part.length ≤ 60) : encErr c.kind (colL part j) = 0 := by
  have hjl := (List.getElem?_eq_some_iff.1 h1).1
  have hb : (colL part j).any (badIn c.kind) = false := by
    rw [List.any_eq_false]
    intro x hx
    obtain ⟨r, hr, rfl⟩ := colL_mem hx
    have hlen := row_len (h r hr)
    have hg : r[j]? = some (r.getD j gv00) := by rw [List.getD_eq_getElem?_getD, List.getElem?_eq_getElem (by omega)]; rfl
    rw [cellE_bad (row_cell (h r hr) h1 hg)]
    simp
  unfold encErr
  rw [if_neg, if_neg]
  · unfold colL; simpa using hl
  · rw [hb]
    simp
    omega
theorem partM_mem {rs : List (List GV)} {k : Nat} {r : List GV} (h : r ∈ partM rs k) : r ∈ rs := by
  unfold partM at h
  exact List.mem_of_mem_drop (List.mem_of_mem_take h)
theorem partM_len (rs : List (List GV)) (k : Nat) : (partM rs k).length = min 6 (rs.length - 6 * k) := by unfold partM; rw [List.length_take, List.length_drop]
theorem RR.part {w : World} {b o : Nat} {rs : List (List GV)} (h : RR w (some ⟨b, o, none⟩) rs) (k : Nat) : RR w (some ⟨b, o + 6 * k, none⟩) (partM rs k) := fun i r hi => by
  unfold partM at hi
  have h6 : i < 6 := by
    have := (List.getElem?_eq_some_iff.1 hi).1
    rw [List.length_take] at this
    omega
  rw [List.getElem?_take_of_lt h6, List.getElem?_drop] at hi
  obtain ⟨b', o', A1, c1, e, h0, h1⟩ := h _ r hi
  obtain ⟨rfl, rfl⟩ : b = b' ∧ o = o' := by simpa using e
  exact ⟨b, o + 6 * k, A1, c1, rfl, by rw [Nat.add_assoc]; exact h0, h1⟩
end Go.Proofs.YtlaldfkeaalnhaaGreatDoor

/- slices.CompareFunc at rows, by value.Compare. -/
namespace Go.Proofs.YtlaldfkeaalnhaaGreatDoor
set_option linter.unusedSimpArgs false
set_option linter.unusedVariables false
open Go.RowKit
set_option linter.all false
/-- which row is ahead -/
def cmpL : List GV → List GV → Int
  | [], [] => 0
  | [], _ :: _ => -1
  | _ :: _, [] => 1
  | x :: l, y :: m => if cmpG x y ≠ 0 then cmpG x y else cmpL l m
theorem cmpL_drop {l m : List GV} {k : Nat} {x y : GV} (hx : l[k]? = some x) (hy : m[k]? = some y) : cmpL (l.drop k) (m.drop k) = if cmpG x y ≠ 0 then cmpG x y else cmpL (l.drop (k + 1)) (m.drop (k + 1)) := by
  obtain ⟨h1, rfl⟩ := List.getElem?_eq_some_iff.1 hx
  obtain ⟨h2, rfl⟩ := List.getElem?_eq_some_iff.1 hy
  rw [List.drop_eq_getElem_cons h1, List.drop_eq_getElem_cons h2, cmpL]
theorem cmpL_left {l m : List GV} {k : Nat} (h1 : k < l.length) (h2 : ¬ k < m.length) : cmpL (l.drop k) (m.drop k) = 1 := by
  rw [List.drop_eq_getElem_cons h1, List.drop_eq_nil_of_le (by omega : m.length ≤ k), cmpL]
theorem cmpL_end {l m : List GV} {k : Nat} (h1 : ¬ k < l.length) : cmpL (l.drop k) (m.drop k) = if k < m.length then -1 else 0 := by
  rw [List.drop_eq_nil_of_le (by omega : l.length ≤ k)]
  split
  · rename_i h; rw [List.drop_eq_getElem_cons h, cmpL]
  · rename_i h; rw [List.drop_eq_nil_of_le (by omega : m.length ≤ k), cmpL]
theorem eg_cmp : ∀ args w, (callFunc 12 args).run Tryz.prog w = .ok (.enter 12 args) w := fun _ _ => by kernel_rfl
set_option maxRecDepth 100000 in
set_option maxHeartbeats 8000000 in
theorem cmpFunc_any (l m : List GV) (A : Option Addr) (n cap : Nat) (A2 : Option Addr) (n2 cap2 : Nat) (w : World) (hn : l.length = n) (hn2 : m.length = n2) (hr : RV w A l) (hr2 : RV w A2 m) (hl : n ≤ 1000) (hl2 : n2 ≤ 1000) :
    Calls Tryz.prog 33 #[.slice A n cap, .slice A2 n2 cap2, .func (.func 12) #[] #[]] w fun e w' => e = .returned (.int .i64 (cmpL l m)) ∧ Ext w w' := by
  have Hn := Lib.hid hn
  have Hn2 := Lib.hid hn2
  have eg := eg_cmp
  have HC := Lib.hid (fun (x y : GV) (W : World) => compare_any x.kind x.num x.text y.kind y.num y.text W)
  clear hn hn2
  have hS := Hp.init w
  have hR := Reads.nil w
  go_enter Tryz.func33, Tryz.ntmps33
  go_wp2_with (first | (refine hab ?_; (try clear hF); clear hS; intro wk hS; (try simp only [List.set_cons_zero, List.set_cons_succ, heap_size, heap_set_size] at hS); ((try clear hF); refine hfI ?_; intro hF)) | fail)
  go_loopw [13] (fun i wr => ∃ (j : Nat), i = .int .i64 j ∧ j ≤ n ∧ Hid (cmpL (l.drop j) (m.drop j) = cmpL l m) ∧ Hp w.heap.size w wr []) (fun i _ => n - (intOf i).toNat)
  case atStart => exact ⟨0, rfl, Nat.zero_le _, Lib.hid rfl, hS⟩
  case round =>
    clear hS
    obtain ⟨j, rfl, hj, HE, hS⟩ := hrel
    by_cases hlt : j < n
    · obtain ⟨v, hv⟩ : ∃ v, l[j]? = some v := ⟨l[j]'(by rw [Hn.out]; exact hlt), List.getElem?_eq_getElem _⟩
      obtain ⟨b1, o1, rfl, d0, d1, d2⟩ := hr j v hv
      by_cases hlt2 : j < n2
      · obtain ⟨u, hu⟩ : ∃ v, m[j]? = some v := ⟨m[j]'(by rw [Hn2.out]; exact hlt2), List.getElem?_eq_getElem _⟩
        obtain ⟨b2, o2, rfl, f0, f1, f2⟩ := hr2 j u hu
        have hR := Reads.cell d0 (Reads.cell d1 (Reads.cell d2 (Reads.cell f0 (Reads.cell f1 (Reads.cell f2 (Reads.nil w))))))
        have HE2 := HE.out
        rw [cmpL_drop hv hu] at HE2
        obtain ⟨cv, hcv⟩ : ∃ cv, cv = cmpG v u := ⟨_, rfl⟩
        rw [← hcv] at HE2
        have HCV := Lib.hid (fun (W : World) => show Calls Tryz.prog 12 #[.agg #[.int .i64 v.kind, .int .i64 v.num, .string v.text], .agg #[.int .i64 u.kind, .int .i64 u.num, .string u.text]] W fun e w' => e = .returned (.int .i64 cv) ∧ Ext W w' from by rw [hcv]; exact HC.out v u W)
        have hge : ¬ ((n2 : Int) ≤ (j : Int)) := by omega
        clear hv hu d0 d1 d2 f0 f1 f2 hr hr2 hcv HE
        by_cases hc : cv = 0
        · subst hc
          have HE3 := Lib.hid (show cmpL (l.drop (j + 1)) (m.drop (j + 1)) = cmpL l m from by rw [← HE2]; simp)
          clear HE2
          ((try clear hF); refine hfI ?_; intro hF)
          go_wp2_with (first | (refine hab ?_; (try clear hF); clear hS; intro wk hS; (try simp only [List.set_cons_zero, List.set_cons_succ, heap_size, heap_set_size] at hS); ((try clear hF); refine hfI ?_; intro hF)) | (go_at_call 12; (with_reducible refine (HCV.out _).mono ?_); rintro e wk ⟨rfl, hX⟩; replace hS := hS.step hX; clear hX; ((try clear hF); refine hfI ?_; intro hF)))
          go_roundw
          case rel => exact ⟨j + 1, by go_num, by omega, HE3, hS.tail.tail⟩
          case measure => simp [intOf]; omega
        · rw [if_pos hc] at HE2
          have HE3 := Lib.hid HE2
          have hcb : (cv != 0) = true := by simp [hc]
          clear HE2
          ((try clear hF); refine hfI ?_; intro hF)
          go_wp2_with (first | (refine hab ?_; (try clear hF); clear hS; intro wk hS; (try simp only [List.set_cons_zero, List.set_cons_succ, heap_size, heap_set_size] at hS); ((try clear hF); refine hfI ?_; intro hF)) | (go_at_call 12; (with_reducible refine (HCV.out _).mono ?_); rintro e wk ⟨rfl, hX⟩; replace hS := hS.step hX; clear hX; ((try clear hF); refine hfI ?_; intro hF)))
          go_ret
          exact ⟨by rw [HE3.out]; first | done | rfl, hS.ext⟩
      · have hge : (n2 : Int) ≤ (j : Int) := by omega
        have HE3 := Lib.hid (show cmpL l m = 1 from by rw [← HE.out]; exact cmpL_left (by rw [Hn.out]; exact hlt) (by rw [Hn2.out]; exact hlt2))
        have hR := Reads.cell d0 (Reads.cell d1 (Reads.cell d2 (Reads.nil w)))
        clear hv d0 d1 d2 hr hr2 HE
        ((try clear hF); refine hfI ?_; intro hF)
        go_wp2_with (first | (refine hab ?_; (try clear hF); clear hS; intro wk hS; (try simp only [List.set_cons_zero, List.set_cons_succ, heap_size, heap_set_size] at hS); ((try clear hF); refine hfI ?_; intro hF)) | fail)
        go_ret
        exact ⟨by rw [HE3.out]; first | done | rfl, hS.ext⟩
    · obtain rfl : n = j := by omega
      have HE3 := HE.out
      rw [cmpL_end (by rw [Hn.out]; exact hlt), Hn2.out] at HE3
      clear HE hr hr2
      by_cases h2 : n < n2
      · rw [if_pos h2] at HE3
        have h2' : (n : Int) < (n2 : Int) := by omega
        have HE3 := Lib.hid HE3
        ((try clear hF); refine hfI ?_; intro hF)
        go_wp2_with (first | (refine hab ?_; (try clear hF); clear hS; intro wk hS; (try simp only [List.set_cons_zero, List.set_cons_succ, heap_size, heap_set_size] at hS); ((try clear hF); refine hfI ?_; intro hF)) | fail)
        go_ret
        exact ⟨by rw [← HE3.out]; first | done | rfl, hS.ext⟩
      · rw [if_neg h2] at HE3
        have h2' : ¬ ((n : Int) < (n2 : Int)) := by omega
        have HE3 := Lib.hid HE3
        ((try clear hF); refine hfI ?_; intro hF)
        go_wp2_with (first | (refine hab ?_; (try clear hF); clear hS; intro wk hS; (try simp only [List.set_cons_zero, List.set_cons_succ, heap_size, heap_set_size] at hS); ((try clear hF); refine hfI ?_; intro hF)) | fail)
        go_ret
        exact ⟨by rw [← HE3.out]; first | done | rfl, hS.ext⟩
end Go.Proofs.YtlaldfkeaalnhaaGreatDoor

/- slices.CompareFunc at rows, by value.Compare: nothing but new blocks and draws: for slices.SortFunc. -/
namespace Go.Proofs.YtlaldfkeaalnhaaGreatDoor
set_option linter.unusedSimpArgs false
set_option linter.unusedVariables false
open Go.RowKit
set_option linter.all false
/-- w' is w with new blocks, and draws -/
structure ExtD (w w' : World) : Prop where
  ext : Ext w w'
  dr : w.drawn ≤ w'.drawn
theorem ExtD.refl (w : World) : ExtD w w := ⟨Ext.refl w, Nat.le_refl _⟩
theorem ExtD.trans {a b c : World} (h : ExtD a b) (k : ExtD b c) : ExtD a c := ⟨h.ext.trans k.ext, Nat.le_trans h.dr k.dr⟩
theorem ExtD.drew {a w : World} (h : ExtD a w) : ExtD a w.drew := ⟨h.ext.drew, Nat.le_trans h.dr (Nat.le_add_right _ _)⟩
theorem ExtD.drewN {a w : World} (h : ExtD a w) (n : Nat) : ExtD a (w.drewN n) := ⟨h.ext.drewN n, Nat.le_trans h.dr (Nat.le_add_right _ _)⟩
theorem ExtD.alloc {a w : World} (h : ExtD a w) (o : Obj) : ExtD a (w.alloc o) := ⟨h.ext.alloc o, h.dr⟩
theorem ExtD.setCell {a w : World} (h : ExtD a w) {p : Addr} (hp : a.heap.size ≤ p.block) (u : Value) : ExtD a (w.setCell p u) := ⟨h.ext.setCell hp u, h.dr⟩
theorem ExtD.grow {w w' : World} (h : ExtD w w') : ∃ q os, w' = Go.Sort.grow (w.drewN q) os := by
  obtain ⟨⟨h1, h2, h3, h4, h5⟩, h6⟩ := h
  obtain ⟨hp, tp, dr, os, ou⟩ := w
  obtain ⟨hp', tp', dr', os', ou'⟩ := w'
  simp only at h1 h2 h3 h4 h5 h6
  subst h1 h2 h3
  refine ⟨dr' - dr, hp'.extract hp.size hp'.size, ?_⟩
  unfold Go.Sort.grow World.drewN
  simp only [World.mk.injEq, and_true, true_and]
  refine ⟨?_, by omega⟩
  apply Array.ext_getElem?
  intro k
  rw [Array.getElem?_append]
  split
  · rename_i hk; exact h5 k hk
  · rename_i hk
    rw [Array.getElem?_extract]
    by_cases hk2 : k < hp'.size
    · rw [if_pos (by omega)]; congr 1; omega
    · rw [if_neg (by omega), Array.getElem?_eq_none (by omega)]
set_option maxHeartbeats 8000000 in
theorem compareD_any (k n : Int) (s : ByteArray) (k' n' : Int) (s' : ByteArray) (w : World) :
    Calls Tryz.prog 12 #[.agg #[.int .i64 k, .int .i64 n, .string s], .agg #[.int .i64 k', .int .i64 n', .string s']] w fun e w' => e = .returned (.int .i64 (cmpV k n s k' n' s')) ∧ ExtD w w' := by
  go_enter Tryz.func12, Tryz.ntmps12
  go_wp2_with fail
  go_region_held3 (fun w' => w'.cell? ⟨w.heap.size, 0, none⟩ = some (.int .i64 k) ∧ w'.cell? ⟨w.heap.size, 1, none⟩ = some (.int .i64 n) ∧ w'.cell? ⟨w.heap.size, 2, none⟩ = some (.string s) ∧ w'.cell? ⟨w.heap.size+1, 0, none⟩ = some (.int .i64 k') ∧ w'.cell? ⟨w.heap.size+1, 1, none⟩ = some (.int .i64 n') ∧ w'.cell? ⟨w.heap.size+1, 2, none⟩ = some (.string s') ∧ ExtD w w') (((try dsimp only); (repeat' apply And.intro) <;> (first | (go_keep; done) | (repeat (first | with_reducible exact ExtD.refl _ | with_reducible assumption | with_reducible refine ExtD.drew ?_ | with_reducible refine ExtD.alloc ?_ _ | with_reducible refine ExtD.drewN ?_ _ | refine ExtD.trans ?_ (by with_reducible assumption)))))) (first | (go_at_call 25; refine (cmp_int _ _ _).mono ?_; rintro e w' ⟨rfl, rfl⟩) | (go_at_call 26; refine (cmp_int64 _ _ _).mono ?_; rintro e w' ⟨rfl, rfl⟩) | (go_at_call 27; refine (Tryz.strings_Compare _ _ _).mono ?_; rintro e w' ⟨rfl, rfl⟩) | (go_at_call 24; refine (or_int (cmpI k k') (cmpI n n') (Lib.compareBytes s.data.toList s'.data.toList) _ _ (by go_simp) (by go_simp) (by go_simp)).mono ?_; rintro e w' ⟨rfl, rfl⟩))
  go_wp2
  go_ret
  refine ⟨rfl, ?_⟩
  (repeat (first | with_reducible exact ExtD.refl _ | with_reducible assumption | with_reducible refine ExtD.drew ?_ | with_reducible refine ExtD.alloc ?_ _ | with_reducible refine ExtD.drewN ?_ _ | refine ExtD.trans ?_ (by with_reducible assumption)))
set_option maxRecDepth 100000 in
set_option maxHeartbeats 8000000 in
theorem cmpFuncD_any (l m : List GV) (A : Option Addr) (n cap : Nat) (A2 : Option Addr) (n2 cap2 : Nat) (w : World) (hn : l.length = n) (hn2 : m.length = n2) (hr : RV w A l) (hr2 : RV w A2 m) (hl : n ≤ 1000) (hl2 : n2 ≤ 1000) :
    Calls Tryz.prog 33 #[.slice A n cap, .slice A2 n2 cap2, .func (.func 12) #[] #[]] w fun e w' => e = .returned (.int .i64 (cmpL l m)) ∧ ExtD w w' := by
  have Hn := Lib.hid hn
  have Hn2 := Lib.hid hn2
  have eg := eg_cmp
  have HC := Lib.hid (fun (x y : GV) (W : World) => compareD_any x.kind x.num x.text y.kind y.num y.text W)
  clear hn hn2
  go_enter Tryz.func33, Tryz.ntmps33
  go_wp2_with fail
  go_loopw [13] (fun i wr => ∃ (j : Nat), i = .int .i64 j ∧ j ≤ n ∧ Hid (cmpL (l.drop j) (m.drop j) = cmpL l m) ∧ Hid (ExtD w wr)) (fun i _ => n - (intOf i).toNat)
  case atStart => exact ⟨0, rfl, Nat.zero_le _, Lib.hid rfl, Lib.hid (ExtD.refl w)⟩
  case round =>
    obtain ⟨j, rfl, hj, HE, HX⟩ := hrel
    have hx := HX.out
    by_cases hlt : j < n
    · obtain ⟨v, hv⟩ : ∃ v, l[j]? = some v := ⟨l[j]'(by rw [Hn.out]; exact hlt), List.getElem?_eq_getElem _⟩
      obtain ⟨b1, o1, rfl, d0, d1, d2⟩ := hr j v hv
      replace d0 := hx.ext.keeps d0
      replace d1 := hx.ext.keeps d1
      replace d2 := hx.ext.keeps d2
      have hb1 := lt_of_cell d0
      by_cases hlt2 : j < n2
      · obtain ⟨u, hu⟩ : ∃ v, m[j]? = some v := ⟨m[j]'(by rw [Hn2.out]; exact hlt2), List.getElem?_eq_getElem _⟩
        obtain ⟨b2, o2, rfl, f0, f1, f2⟩ := hr2 j u hu
        replace f0 := hx.ext.keeps f0
        replace f1 := hx.ext.keeps f1
        replace f2 := hx.ext.keeps f2
        have hb2 := lt_of_cell f0
        dsimp only at hb1 hb2
        have HE2 := HE.out
        rw [cmpL_drop hv hu] at HE2
        obtain ⟨cv, hcv⟩ : ∃ cv, cv = cmpG v u := ⟨_, rfl⟩
        rw [← hcv] at HE2
        have HCV := Lib.hid (fun (W : World) => show Calls Tryz.prog 12 #[.agg #[.int .i64 v.kind, .int .i64 v.num, .string v.text], .agg #[.int .i64 u.kind, .int .i64 u.num, .string u.text]] W fun e w' => e = .returned (.int .i64 cv) ∧ ExtD W w' from by rw [hcv]; exact HC.out v u W)
        have hge : ¬ ((n2 : Int) ≤ (j : Int)) := by omega
        clear hv hu hr hr2 hcv HE hx
        by_cases hc : cv = 0
        · subst hc
          have HE3 := Lib.hid (show cmpL (l.drop (j + 1)) (m.drop (j + 1)) = cmpL l m from by rw [← HE2]; simp)
          clear HE2
          go_wp2_with (go_at_call 12; (with_reducible refine (HCV.out _).mono ?_); rintro e wk ⟨rfl, hX⟩)
          go_roundw
          case rel => exact ⟨j + 1, by go_num, by omega, HE3, Lib.hid (by have hx := HX.out; (repeat (first | with_reducible exact ExtD.refl _ | with_reducible assumption | with_reducible refine ExtD.drew ?_ | with_reducible refine ExtD.alloc ?_ _ | with_reducible refine ExtD.drewN ?_ _ | refine ExtD.setCell ?_ (by have := hx.ext.size; simp only [heap_size, heap_set_size]; omega) _ | refine ExtD.trans ?_ (by with_reducible assumption))))⟩
          case measure => simp [intOf]; omega
        · rw [if_pos hc] at HE2
          have HE3 := Lib.hid HE2
          have hcb : (cv != 0) = true := by simp [hc]
          clear HE2
          go_wp2_with (go_at_call 12; (with_reducible refine (HCV.out _).mono ?_); rintro e wk ⟨rfl, hX⟩)
          go_ret
          exact ⟨by rw [HE3.out]; first | done | rfl, by have hx := HX.out; (repeat (first | with_reducible exact ExtD.refl _ | with_reducible assumption | with_reducible refine ExtD.drew ?_ | with_reducible refine ExtD.alloc ?_ _ | with_reducible refine ExtD.drewN ?_ _ | refine ExtD.setCell ?_ (by have := hx.ext.size; simp only [heap_size, heap_set_size]; omega) _ | refine ExtD.trans ?_ (by with_reducible assumption)))⟩
      · have hge : (n2 : Int) ≤ (j : Int) := by omega
        have HE3 := Lib.hid (show cmpL l m = 1 from by rw [← HE.out]; exact cmpL_left (by rw [Hn.out]; exact hlt) (by rw [Hn2.out]; exact hlt2))
        clear hv hr hr2 HE hx
        go_wp2_with fail
        go_ret
        exact ⟨by rw [HE3.out]; first | done | rfl, by have hx := HX.out; (repeat (first | with_reducible exact ExtD.refl _ | with_reducible assumption | with_reducible refine ExtD.drew ?_ | with_reducible refine ExtD.alloc ?_ _ | with_reducible refine ExtD.drewN ?_ _ | refine ExtD.setCell ?_ (by have := hx.ext.size; simp only [heap_size, heap_set_size]; omega) _ | refine ExtD.trans ?_ (by with_reducible assumption)))⟩
    · obtain rfl : n = j := by omega
      have HE3 := HE.out
      rw [cmpL_end (by rw [Hn.out]; exact hlt), Hn2.out] at HE3
      clear HE hr hr2 hx
      by_cases h2 : n < n2
      · rw [if_pos h2] at HE3
        have h2' : (n : Int) < (n2 : Int) := by omega
        have HE3 := Lib.hid HE3
        go_wp2_with fail
        go_ret
        exact ⟨by rw [← HE3.out]; first | done | rfl, by have hx := HX.out; (repeat (first | with_reducible exact ExtD.refl _ | with_reducible assumption | with_reducible refine ExtD.drew ?_ | with_reducible refine ExtD.alloc ?_ _ | with_reducible refine ExtD.drewN ?_ _ | refine ExtD.setCell ?_ (by have := hx.ext.size; simp only [heap_size, heap_set_size]; omega) _ | refine ExtD.trans ?_ (by with_reducible assumption)))⟩
      · rw [if_neg h2] at HE3
        have h2' : ¬ ((n : Int) < (n2 : Int)) := by omega
        have HE3 := Lib.hid HE3
        go_wp2_with fail
        go_ret
        exact ⟨by rw [← HE3.out]; first | done | rfl, by have hx := HX.out; (repeat (first | with_reducible exact ExtD.refl _ | with_reducible assumption | with_reducible refine ExtD.drew ?_ | with_reducible refine ExtD.alloc ?_ _ | with_reducible refine ExtD.drewN ?_ _ | refine ExtD.setCell ?_ (by have := hx.ext.size; simp only [heap_size, heap_set_size]; omega) _ | refine ExtD.trans ?_ (by with_reducible assumption)))⟩
set_option maxRecDepth 100000 in
set_option maxHeartbeats 8000000 in
theorem sorted1_any (x y : Mx) (w : World) (hx1 : RV w x.1 x.2.2) (hy1 : RV w y.1 y.2.2) (hl : x.2.2.length ≤ 1000) (hl2 : y.2.2.length ≤ 1000) :
    Calls Tryz.prog 32 #[hdV x, hdV y] w fun e w' => e = .returned (.int .i64 (cmpL x.2.2 y.2.2)) ∧ ExtD w w' := by
  have HC := Lib.hid (cmpFuncD_any x.2.2 y.2.2 x.1 _ x.2.1 y.1 _ y.2.1 w rfl rfl hx1 hy1 hl hl2)
  clear hx1 hy1 hl hl2
  go_enter Tryz.func32, Tryz.ntmps32
  go_wp2_with (go_at_call 33; (with_reducible refine (HC.out).mono ?_); rintro e wk ⟨rfl, hX⟩)
  go_ret
  exact ⟨rfl, hX⟩
end Go.Proofs.YtlaldfkeaalnhaaGreatDoor
