/- Texts joined: ask: the parser: one, and, or. ask: the parser: a condition of a column. ask: the parser: a column, a mark, a value. ask: the parser: and, or: all of it. ask.whole: what is thrown is caught. -/
import Derived.Test.YtmfilblbofkmcaaDoorAX08
import Derived.Deep.CutBlock
import Derived.Defers
import Derived.Recover
import Derived.RegionTactic
/- ask: the parser: one, and, or. -/
namespace Go.Proofs.YtmfilblbofkmcaaDoor
set_option linter.unusedSimpArgs false
set_option linter.unusedVariables false
open Go.RowKit
set_option linter.all false
/-- a condition lies at v, as long as K stands -/
def CondIn (B : Nat) (w0 : World) (K : List Item) (v : Value) (c : CT) : Prop := ∀ W, Hp B w0 W K → CondAt W v c
theorem CondIn.nil {B : Nat} {w0 : World} : CondIn B w0 [] (.pointer none) .nil := fun _ _ => rfl
theorem CondIn.node {B : Nat} {w0 : World} {Kl Kr : List Item} {lv rv : Value} {l r : CT} (hl : CondIn B w0 Kl lv l) (hr : CondIn B w0 Kr rv r) (g : Nat) (c : Int) (col : ByteArray) (k n : Int) (t : ByteArray) :
    CondIn B w0 (.blk g [.int .i64 c, .string col, .int .i64 k, .int .i64 n, .string t, lv, rv] 49 :: (Kl ++ Kr)) (.pointer (some ⟨g, 0, none⟩)) (.node c col ⟨k, n, t⟩ l r) := fun W hW =>
  ⟨g, lv, rv, rfl, hW.head.2, hl W (hW.tail.sub (List.sublist_append_left Kl Kr)), hr W (hW.tail.sub (List.sublist_append_right Kl Kr))⟩
def ParRes (B : Nat) (w0 : World) (R : Item) (gt gp : Nat) (M : List Item) (r : Option (CT × List Tk)) (e : Ending) (w' : World) : Prop := match r with
  | some (c, r) => ∃ v K y', e = .returned (.pointer v) ∧ CondIn B w0 K (.pointer v) c ∧ PAt B w0 R gt gp r y' ∧ Hp B w0 w' (y' :: R :: (K ++ M))
  | none => Fails e ∧ Hp B w0 w' M
def OneC (f : Nat) : Prop := ∀ {B : Nat} {w0 w : World} {R : Item} {gt gp : Nat} {l : List Tk} {y : Item} {M : List Item} (d : Nat), EnvA B w0 R → EndT l → (∀ t ∈ l, TkOk 5000 t) → 4 * l.length + 1 ≤ f → d ≤ 100 → PAt B w0 R gt gp l y → Hp B w0 w (y :: R :: M) →
  Calls Tryd.prog 39 #[.pointer (some ⟨gp, 0, none⟩), .int .i64 d] w (ParRes B w0 R gt gp M (oneP f d l))
def AndC (f : Nat) : Prop := ∀ {B : Nat} {w0 w : World} {R : Item} {gt gp : Nat} {l : List Tk} {y : Item} {M : List Item} (d : Nat), EnvA B w0 R → EndT l → (∀ t ∈ l, TkOk 5000 t) → 4 * l.length + 2 ≤ f → d ≤ 100 → PAt B w0 R gt gp l y → Hp B w0 w (y :: R :: M) →
  Calls Tryd.prog 29 #[.pointer (some ⟨gp, 0, none⟩), .int .i64 d] w (ParRes B w0 R gt gp M (andP f d l))
def OrC (f : Nat) : Prop := ∀ {B : Nat} {w0 w : World} {R : Item} {gt gp : Nat} {l : List Tk} {y : Item} {M : List Item} (d : Nat), EnvA B w0 R → EndT l → (∀ t ∈ l, TkOk 5000 t) → 4 * l.length + 3 ≤ f → d ≤ 100 → PAt B w0 R gt gp l y → Hp B w0 w (y :: R :: M) →
  Calls Tryd.prog 14 #[.pointer (some ⟨gp, 0, none⟩), .int .i64 d] w (ParRes B w0 R gt gp M (orP f d l))
theorem third {B : Nat} {w0 W : World} {x y R : Item} {L : List Item} (h : Hp B w0 W (x :: y :: R :: L)) : Hp B w0 W (y :: R :: x :: L) :=
  h.perm ((List.Perm.cons y (List.Perm.swap x R L)).trans (List.Perm.swap x y (R :: L)))
section
variable {B : Nat} {w0 w : World} {R : Item} {gt gp : Nat} {l : List Tk} {y : Item} {M : List Item}
set_option maxRecDepth 100000 in
set_option maxHeartbeats 8000000 in
theorem one_deep (d : Nat) (hl : EndT l) (hd : 6 < d) (hd2 : d ≤ 100) (hP : PAt B w0 R gt gp l y) (hS : Hp B w0 w (y :: R :: M)) :
    Calls Tryd.prog 39 #[.pointer (some ⟨gp, 0, none⟩), .int .i64 d] w (ParRes B w0 R gt gp M none) := by
  have HFL := Lib.hid (fun (W : World) (h : Hp B w0 W (y :: R :: M)) => fail_any 4 hl.ne hP h)
  go_enter Tryd.func39, Tryd.ntmps39
  go_wp2_with (first | ((with_reducible first | refine nhLa ?_ | refine nhLs ?_ | refine nhLd ?_ | refine nhCa ?_ | refine nhCs ?_ | refine nhCd ?_ | refine nhPa ?_ | refine nhPs ?_ | refine nhPd ?_ | refine nhKa ?_ | refine nhKs ?_ | refine nhKd ?_); ((try clear hF); clear hS; intro wk hS; (try simp only [List.set_cons_zero, List.set_cons_succ, heap_size, heap_set_size] at hS); ((try clear hF); (first | have hF := And.intro hS.facts (HRD.out _ (hS.sub (by first | simp | ((repeat (first | exact List.nil_sublist _ | exact List.Sublist.refl _ | with_reducible apply List.Sublist.cons₂ | apply List.Sublist.cons)))))) | have hF := And.intro hS.facts (hR.at hS.ext) | have hF := hS.facts); simp only [HFacts, cellFacts, RFacts, cellOnly, and_true, true_and, Nat.zero_add, Nat.reduceAdd] at hF))) | (go_at_call 28; (with_reducible refine (HFL.out _ hS).mono ?_); rintro e wk ⟨⟨tp, pv, rfl⟩, hX⟩; replace hS := hS.step hX; clear hX))
  exact ⟨rfl, ⟨_, _, rfl⟩, grest1 hS⟩
/-- take, as a walk takes it: what it answers is known -/
theorem take_yes (s : ByteArray) (hl : EndT l) (hP : PAt B w0 R gt gp l y) (hb : seeT l s.data.toList = true) {W : World} (hS : Hp B w0 W (y :: R :: M)) :
    Calls Tryd.prog 30 #[.pointer (some ⟨gp, 0, none⟩), .string s] W fun e w' => e = .returned (.bool true) ∧ ∃ y', PAt B w0 R gt gp l.tail y' ∧ Hp B w0 w' (y' :: R :: M) := by
  have := take_any s hl hP hS
  rw [hb] at this
  exact this
theorem take_no (s : ByteArray) (hl : EndT l) (hP : PAt B w0 R gt gp l y) (hb : seeT l s.data.toList = false) {W : World} (hS : Hp B w0 W (y :: R :: M)) :
    Calls Tryd.prog 30 #[.pointer (some ⟨gp, 0, none⟩), .string s] W fun e w' => e = .returned (.bool false) ∧ ∃ y', PAt B w0 R gt gp l y' ∧ Hp B w0 w' (y' :: R :: M) := by
  have := take_any s hl hP hS
  rw [hb] at this
  exact this
theorem EndT.tail {l : List Tk} {s : List UInt8} (h : EndT l) (hs : seeT l s = true) : EndT l.tail := by
  cases l with
  | nil => exact absurd rfl h.ne
  | cons t l => exact h.tl (seeT_kind hs)
set_option maxRecDepth 100000 in
set_option maxHeartbeats 8000000 in
theorem one_not (f : Nat) (hI : OneC f) (d : Nat) (hE : EnvA B w0 R) (hl : EndT l) (hok : ∀ t ∈ l, TkOk 5000 t) (hf : 4 * l.length + 1 ≤ f + 1) (hd : ¬ 6 < d) (hb : seeT l notL = true) (hP : PAt B w0 R gt gp l y) (hS : Hp B w0 w (y :: R :: M)) :
    Calls Tryd.prog 39 #[.pointer (some ⟨gp, 0, none⟩), .int .i64 d] w (ParRes B w0 R gt gp M (oneP (f + 1) d l)) := by
  have hlen := see_tail hb
  have hE2 := hl.tail hb
  have hok2 : ∀ t ∈ l.tail, TkOk 5000 t := fun t ht => hok t (List.mem_of_mem_tail ht)
  have HT := Lib.hid (fun (W : World) (h : Hp B w0 W (y :: R :: M)) => take_yes ⟨#[110, 111, 116]⟩ hl hP hb h)
  have HO := Lib.hid (fun (y' : Item) (h' : PAt B w0 R gt gp l.tail y') (W : World) (h : Hp B w0 W (y' :: R :: M)) => show Calls Tryd.prog 39 #[.pointer (some ⟨gp, 0, none⟩), .int .i64 ((d : Int) + 1)] W _ from hI (d + 1) hE hE2 hok2 (by omega) (by omega) h' h)
  obtain ⟨D, hD⟩ : ∃ D, D = oneP (f + 1) d l := ⟨_, rfl⟩
  rw [← hD]
  simp only [oneP] at hD
  rw [if_neg hd, if_pos hb] at hD
  clear hI hE hl hok hf hb hP hlen hE2 hok2
  cases hr : oneP f (d + 1) l.tail with
  | some x =>
    obtain ⟨c, r⟩ := x
    rw [hr] at hD HO
    simp only at hD
    subst hD
    clear hr
    go_enter Tryd.func39, Tryd.ntmps39
    go_wp2_with (first | ((with_reducible first | refine nhLa ?_ | refine nhLs ?_ | refine nhLd ?_ | refine nhCa ?_ | refine nhCs ?_ | refine nhCd ?_ | refine nhPa ?_ | refine nhPs ?_ | refine nhPd ?_ | refine nhKa ?_ | refine nhKs ?_ | refine nhKd ?_); ((try clear hF); clear hS; intro wk hS; (try simp only [List.set_cons_zero, List.set_cons_succ, heap_size, heap_set_size] at hS); ((try clear hF); (first | have hF := And.intro hS.facts (HRD.out _ (hS.sub (by first | simp | ((repeat (first | exact List.nil_sublist _ | exact List.Sublist.refl _ | with_reducible apply List.Sublist.cons₂ | apply List.Sublist.cons)))))) | have hF := And.intro hS.facts (hR.at hS.ext) | have hF := hS.facts); simp only [HFacts, cellFacts, RFacts, cellOnly, and_true, true_and, Nat.zero_add, Nat.reduceAdd] at hF))) | (go_at_call 30; (with_reducible refine Calls.mono (HT.out _ hS) ?_); clear hS; rintro e wk ⟨rfl, y', HY, hS⟩) | (go_at_call 39; (with_reducible refine Calls.mono (HO.out _ HY _ hS) ?_); clear hS; rintro e wk ⟨v, K, y2, rfl, HC, HY2, hS⟩; clear HY))
    go_ret
    refine ⟨_, .blk _ [.int .i64 11, .string ⟨#[]⟩, .int .i64 0, .int .i64 0, .string ⟨#[]⟩, .pointer v, .pointer none] 49 :: (K ++ []), y2, rfl, CondIn.node HC CondIn.nil _ _ _ _ _ _, HY2, ?_⟩
    rw [List.append_nil]
    exact third hS
  | none =>
    rw [hr] at hD HO
    simp only at hD
    subst hD
    clear hr
    go_enter Tryd.func39, Tryd.ntmps39
    go_wp2_with (first | ((with_reducible first | refine nhLa ?_ | refine nhLs ?_ | refine nhLd ?_ | refine nhCa ?_ | refine nhCs ?_ | refine nhCd ?_ | refine nhPa ?_ | refine nhPs ?_ | refine nhPd ?_ | refine nhKa ?_ | refine nhKs ?_ | refine nhKd ?_); ((try clear hF); clear hS; intro wk hS; (try simp only [List.set_cons_zero, List.set_cons_succ, heap_size, heap_set_size] at hS); ((try clear hF); (first | have hF := And.intro hS.facts (HRD.out _ (hS.sub (by first | simp | ((repeat (first | exact List.nil_sublist _ | exact List.Sublist.refl _ | with_reducible apply List.Sublist.cons₂ | apply List.Sublist.cons)))))) | have hF := And.intro hS.facts (hR.at hS.ext) | have hF := hS.facts); simp only [HFacts, cellFacts, RFacts, cellOnly, and_true, true_and, Nat.zero_add, Nat.reduceAdd] at hF))) | (go_at_call 30; (with_reducible refine Calls.mono (HT.out _ hS) ?_); clear hS; rintro e wk ⟨rfl, y', HY, hS⟩) | (go_at_call 39; (with_reducible refine Calls.mono (HO.out _ HY _ hS) ?_); clear hS; rintro e wk ⟨⟨tp, pv, rfl⟩, hS⟩; clear HY))
    exact ⟨rfl, ⟨_, _, rfl⟩, hS⟩
set_option maxRecDepth 100000 in
set_option maxHeartbeats 8000000 in
theorem one_par (f : Nat) (hI : OrC f) (hEnd : ∀ d c r, orP f d l.tail = some (c, r) → EndT r) (d : Nat) (hE : EnvA B w0 R) (hl : EndT l) (hok : ∀ t ∈ l, TkOk 5000 t) (hf : 4 * l.length + 1 ≤ f + 1) (hd : ¬ 6 < d) (hn : seeT l notL = false) (hb : seeT l [40] = true) (hP : PAt B w0 R gt gp l y) (hS : Hp B w0 w (y :: R :: M)) :
    Calls Tryd.prog 39 #[.pointer (some ⟨gp, 0, none⟩), .int .i64 d] w (ParRes B w0 R gt gp M (oneP (f + 1) d l)) := by
  have hlen := see_tail hb
  have hE2 := hl.tail hb
  have hok2 : ∀ t ∈ l.tail, TkOk 5000 t := fun t ht => hok t (List.mem_of_mem_tail ht)
  have HT0 := Lib.hid (fun (W : World) (h : Hp B w0 W (y :: R :: M)) => take_no ⟨#[110, 111, 116]⟩ hl hP hn h)
  have HT := Lib.hid (fun (y' : Item) (h' : PAt B w0 R gt gp l y') (W : World) (h : Hp B w0 W (y' :: R :: M)) => take_yes ⟨#[40]⟩ hl h' hb h)
  have HO := Lib.hid (fun (y' : Item) (h' : PAt B w0 R gt gp l.tail y') (W : World) (h : Hp B w0 W (y' :: R :: M)) => show Calls Tryd.prog 14 #[.pointer (some ⟨gp, 0, none⟩), .int .i64 ((d : Int) + 1)] W _ from hI (d + 1) hE hE2 hok2 (by omega) (by omega) h' h)
  obtain ⟨D, hD⟩ : ∃ D, D = oneP (f + 1) d l := ⟨_, rfl⟩
  rw [← hD]
  simp only [oneP] at hD
  rw [if_neg hd, if_neg (by rw [hn]; decide), if_pos hb] at hD
  clear hI hE hl hok hf hb hP hlen hE2 hok2 hn
  cases hr : orP f (d + 1) l.tail with
  | some x =>
    obtain ⟨c, r⟩ := x
    have hEr := hEnd _ _ _ hr
    rw [hr] at hD HO
    simp only at hD
    have HM := Lib.hid (fun (y' : Item) (K : List Item) (h' : PAt B w0 R gt gp r y') (W : World) (h : Hp B w0 W (y' :: R :: (K ++ M))) => must_any ⟨#[41]⟩ hEr h' h)
    clear hr hEnd hEr
    cases hs : seeT r [41] with
    | true =>
      rw [hs] at hD HM
      simp only [if_true] at hD HM
      subst hD
      clear hs
      go_enter Tryd.func39, Tryd.ntmps39
      go_wp2_with (first | ((with_reducible first | refine nhLa ?_ | refine nhLs ?_ | refine nhLd ?_ | refine nhCa ?_ | refine nhCs ?_ | refine nhCd ?_ | refine nhPa ?_ | refine nhPs ?_ | refine nhPd ?_ | refine nhKa ?_ | refine nhKs ?_ | refine nhKd ?_); ((try clear hF); clear hS; intro wk hS; (try simp only [List.set_cons_zero, List.set_cons_succ, heap_size, heap_set_size] at hS); ((try clear hF); (first | have hF := And.intro hS.facts (HRD.out _ (hS.sub (by first | simp | ((repeat (first | exact List.nil_sublist _ | exact List.Sublist.refl _ | with_reducible apply List.Sublist.cons₂ | apply List.Sublist.cons)))))) | have hF := And.intro hS.facts (hR.at hS.ext) | have hF := hS.facts); simp only [HFacts, cellFacts, RFacts, cellOnly, and_true, true_and, Nat.zero_add, Nat.reduceAdd] at hF))) | (go_at_call 30; first | ((with_reducible refine Calls.mono (HT0.out _ hS) ?_); clear hS HT0; rintro e wk ⟨rfl, y', HY, hS⟩) | ((with_reducible refine Calls.mono (HT.out _ HY _ hS) ?_); clear hS HY; rintro e wk ⟨rfl, y', HY, hS⟩)) | (go_at_call 14; (with_reducible refine Calls.mono (HO.out _ HY _ hS) ?_); clear hS; rintro e wk ⟨v, K, y2, rfl, HC, HY2, hS⟩; clear HY) | (go_at_call 55; (with_reducible refine Calls.mono (HM.out _ _ HY2 _ hS) ?_); clear hS; rintro e wk ⟨rfl, y3, HY3, hS⟩))
      go_ret
      exact ⟨_, K, y3, rfl, HC, HY3, hS⟩
    | false =>
      rw [hs] at hD HM
      simp only [Bool.false_eq_true, if_false] at hD HM
      subst hD
      clear hs
      go_enter Tryd.func39, Tryd.ntmps39
      go_wp2_with (first | ((with_reducible first | refine nhLa ?_ | refine nhLs ?_ | refine nhLd ?_ | refine nhCa ?_ | refine nhCs ?_ | refine nhCd ?_ | refine nhPa ?_ | refine nhPs ?_ | refine nhPd ?_ | refine nhKa ?_ | refine nhKs ?_ | refine nhKd ?_); ((try clear hF); clear hS; intro wk hS; (try simp only [List.set_cons_zero, List.set_cons_succ, heap_size, heap_set_size] at hS); ((try clear hF); (first | have hF := And.intro hS.facts (HRD.out _ (hS.sub (by first | simp | ((repeat (first | exact List.nil_sublist _ | exact List.Sublist.refl _ | with_reducible apply List.Sublist.cons₂ | apply List.Sublist.cons)))))) | have hF := And.intro hS.facts (hR.at hS.ext) | have hF := hS.facts); simp only [HFacts, cellFacts, RFacts, cellOnly, and_true, true_and, Nat.zero_add, Nat.reduceAdd] at hF))) | (go_at_call 30; first | ((with_reducible refine Calls.mono (HT0.out _ hS) ?_); clear hS HT0; rintro e wk ⟨rfl, y', HY, hS⟩) | ((with_reducible refine Calls.mono (HT.out _ HY _ hS) ?_); clear hS HY; rintro e wk ⟨rfl, y', HY, hS⟩)) | (go_at_call 14; (with_reducible refine Calls.mono (HO.out _ HY _ hS) ?_); clear hS; rintro e wk ⟨v, K, y2, rfl, HC, HY2, hS⟩; clear HY) | (go_at_call 55; (with_reducible refine Calls.mono (HM.out _ _ HY2 _ hS) ?_); clear hS; rintro e wk ⟨⟨tp, pv, rfl⟩, hS⟩))
      exact ⟨rfl, ⟨_, _, rfl⟩, hS.sub (List.sublist_append_right K M)⟩
  | none =>
    rw [hr] at hD HO
    simp only at hD
    subst hD
    clear hr hEnd
    go_enter Tryd.func39, Tryd.ntmps39
    go_wp2_with (first | ((with_reducible first | refine nhLa ?_ | refine nhLs ?_ | refine nhLd ?_ | refine nhCa ?_ | refine nhCs ?_ | refine nhCd ?_ | refine nhPa ?_ | refine nhPs ?_ | refine nhPd ?_ | refine nhKa ?_ | refine nhKs ?_ | refine nhKd ?_); ((try clear hF); clear hS; intro wk hS; (try simp only [List.set_cons_zero, List.set_cons_succ, heap_size, heap_set_size] at hS); ((try clear hF); (first | have hF := And.intro hS.facts (HRD.out _ (hS.sub (by first | simp | ((repeat (first | exact List.nil_sublist _ | exact List.Sublist.refl _ | with_reducible apply List.Sublist.cons₂ | apply List.Sublist.cons)))))) | have hF := And.intro hS.facts (hR.at hS.ext) | have hF := hS.facts); simp only [HFacts, cellFacts, RFacts, cellOnly, and_true, true_and, Nat.zero_add, Nat.reduceAdd] at hF))) | (go_at_call 30; first | ((with_reducible refine Calls.mono (HT0.out _ hS) ?_); clear hS HT0; rintro e wk ⟨rfl, y', HY, hS⟩) | ((with_reducible refine Calls.mono (HT.out _ HY _ hS) ?_); clear hS HY; rintro e wk ⟨rfl, y', HY, hS⟩)) | (go_at_call 14; (with_reducible refine Calls.mono (HO.out _ HY _ hS) ?_); clear hS; rintro e wk ⟨⟨tp, pv, rfl⟩, hS⟩; clear HY))
    exact ⟨rfl, ⟨_, _, rfl⟩, hS⟩
end
end Go.Proofs.YtmfilblbofkmcaaDoor

/- ask: the parser: a condition of a column. -/
namespace Go.Proofs.YtmfilblbofkmcaaDoor
set_option linter.unusedSimpArgs false
set_option linter.unusedVariables false
open Go.RowKit
set_option linter.all false
theorem NameRes.some_end {l r : List Tk} {n : ByteArray} (hl : EndT l) (h : nameP l = some (n, r)) : EndT r ∧ (∀ t ∈ r, t ∈ l) ∧ r.length + 1 = l.length := by
  cases l with
  | nil => simp [nameP] at h
  | cons t l =>
    simp only [nameP] at h
    split at h
    · rename_i hn
      obtain ⟨rfl, rfl⟩ := Prod.mk.inj (Option.some.inj h)
      have hk : t.kind ≠ 5 := by
        unfold nameT at hn
        simp only [Bool.and_eq_true, beq_iff_eq] at hn
        omega
      exact ⟨hl.tl hk, fun x hx => List.mem_cons_of_mem _ hx, rfl⟩
    · cases h
section
variable {B : Nat} {w0 w : World} {R : Item} {gt gp : Nat} {l : List Tk} {y : Item} {M : List Item}
set_option maxRecDepth 100000 in
set_option maxHeartbeats 8000000 in
theorem leaf_noname (d : Nat) (hE : EnvA B w0 R) (hl : EndT l) (hok : ∀ t ∈ l, TkOk 5000 t) (hd : ¬ 6 < d) (hn : seeT l notL = false) (hb : seeT l [40] = false) (h1 : nameP l = none) (hP : PAt B w0 R gt gp l y) (hS : Hp B w0 w (y :: R :: M)) :
    Calls Tryd.prog 39 #[.pointer (some ⟨gp, 0, none⟩), .int .i64 d] w (ParRes B w0 R gt gp M none) := by
  have HT0 := Lib.hid (fun (W : World) (h : Hp B w0 W (y :: R :: M)) => take_no ⟨#[110, 111, 116]⟩ hl hP hn h)
  have HT := Lib.hid (fun (y' : Item) (h' : PAt B w0 R gt gp l y') (W : World) (h : Hp B w0 W (y' :: R :: M)) => take_no ⟨#[40]⟩ hl h' hb h)
  have HN := Lib.hid (fun (y' : Item) (h' : PAt B w0 R gt gp l y') (W : World) (h : Hp B w0 W (y' :: R :: M)) => name_par hE hl h' h)
  rw [h1] at HN
  clear hE hl hok hP hn hb h1
  go_enter Tryd.func39, Tryd.ntmps39
  go_wp2_with (first | ((with_reducible first | refine nhLa ?_ | refine nhLs ?_ | refine nhLd ?_ | refine nhCa ?_ | refine nhCs ?_ | refine nhCd ?_ | refine nhPa ?_ | refine nhPs ?_ | refine nhPd ?_ | refine nhKa ?_ | refine nhKs ?_ | refine nhKd ?_); ((try clear hF); clear hS; intro wk hS; (try simp only [List.set_cons_zero, List.set_cons_succ, heap_size, heap_set_size] at hS); ((try clear hF); (first | have hF := And.intro hS.facts (HRD.out _ (hS.sub (by first | simp | ((repeat (first | exact List.nil_sublist _ | exact List.Sublist.refl _ | with_reducible apply List.Sublist.cons₂ | apply List.Sublist.cons)))))) | have hF := And.intro hS.facts (hR.at hS.ext) | have hF := hS.facts); simp only [HFacts, cellFacts, RFacts, cellOnly, and_true, true_and, Nat.zero_add, Nat.reduceAdd] at hF))) | (go_at_call 30; first | ((with_reducible refine Calls.mono (HT0.out _ hS) ?_); clear hS HT0; rintro e wk ⟨rfl, y', HY, hS⟩) | ((with_reducible refine Calls.mono (HT.out _ HY _ hS) ?_); clear hS HY HT; rintro e wk ⟨rfl, y', HY, hS⟩)) | (go_at_call 56; (with_reducible refine Calls.mono (HN.out _ HY _ hS) ?_); clear hS HY HN; rintro e wk ⟨⟨tp, pv, rfl⟩, hS⟩))
  exact ⟨rfl, ⟨_, _, rfl⟩, hS⟩
set_option maxRecDepth 100000 in
set_option maxHeartbeats 8000000 in
theorem leaf_isnull (d : Nat) (hE : EnvA B w0 R) (hl : EndT l) (hok : ∀ t ∈ l, TkOk 5000 t) (hd : ¬ 6 < d) (hn : seeT l notL = false) (hb : seeT l [40] = false) (n : ByteArray) (r : List Tk) (h1 : nameP l = some (n, r)) (h2 : seeT r isL = true) (h3 : seeT r.tail notL = false) (h4 : seeT r.tail nullL = true) (hP : PAt B w0 R gt gp l y) (hS : Hp B w0 w (y :: R :: M)) :
    Calls Tryd.prog 39 #[.pointer (some ⟨gp, 0, none⟩), .int .i64 d] w (ParRes B w0 R gt gp M (some (.node 7 n zV .nil .nil, r.tail.tail))) := by
  have HT0 := Lib.hid (fun (W : World) (h : Hp B w0 W (y :: R :: M)) => take_no ⟨#[110, 111, 116]⟩ hl hP hn h)
  have HT := Lib.hid (fun (y' : Item) (h' : PAt B w0 R gt gp l y') (W : World) (h : Hp B w0 W (y' :: R :: M)) => take_no ⟨#[40]⟩ hl h' hb h)
  have HN := Lib.hid (fun (y' : Item) (h' : PAt B w0 R gt gp l y') (W : World) (h : Hp B w0 W (y' :: R :: M)) => name_par hE hl h' h)
  rw [h1] at HN
  obtain ⟨hEr, _, _⟩ := NameRes.some_end hl h1
  have hE1 := hEr.tail h2
  have HI := Lib.hid (fun (X : Item) (y' : Item) (h' : PAt B w0 R gt gp r y') (W : World) (h : Hp B w0 W (y' :: R :: X :: M)) => take_yes ⟨#[105, 115]⟩ hEr h' h2 h)
  have HI2 := Lib.hid (fun (X : Item) (y' : Item) (h' : PAt B w0 R gt gp r.tail y') (W : World) (h : Hp B w0 W (y' :: R :: X :: M)) => take_no ⟨#[110, 111, 116]⟩ hE1 h' h3 h)
  have HMU := Lib.hid (fun (X : Item) (y' : Item) (h' : PAt B w0 R gt gp r.tail y') (W : World) (h : Hp B w0 W (y' :: R :: X :: M)) => must_any ⟨#[110, 117, 108, 108]⟩ hE1 h' h)
  rw [show seeT r.tail (⟨#[110, 117, 108, 108]⟩ : ByteArray).data.toList = true from h4] at HMU
  simp only [if_true] at HMU
  clear hE hl hok hP hn hb h1 h2 h3 h4 hEr hE1
  go_enter Tryd.func39, Tryd.ntmps39
  go_wp2_with (first | ((with_reducible first | refine nhLa ?_ | refine nhLs ?_ | refine nhLd ?_ | refine nhCa ?_ | refine nhCs ?_ | refine nhCd ?_ | refine nhPa ?_ | refine nhPs ?_ | refine nhPd ?_ | refine nhKa ?_ | refine nhKs ?_ | refine nhKd ?_); ((try clear hF); clear hS; intro wk hS; (try simp only [List.set_cons_zero, List.set_cons_succ, heap_size, heap_set_size] at hS); ((try clear hF); (first | have hF := And.intro hS.facts (HRD.out _ (hS.sub (by first | simp | ((repeat (first | exact List.nil_sublist _ | exact List.Sublist.refl _ | with_reducible apply List.Sublist.cons₂ | apply List.Sublist.cons)))))) | have hF := And.intro hS.facts (hR.at hS.ext) | have hF := hS.facts); simp only [HFacts, cellFacts, RFacts, cellOnly, and_true, true_and, Nat.zero_add, Nat.reduceAdd] at hF))) | (go_at_call 30; first | ((with_reducible refine Calls.mono (HT0.out _ hS) ?_); clear hS HT0; rintro e wk ⟨rfl, y', HY, hS⟩) | ((with_reducible refine Calls.mono (HT.out _ HY _ hS) ?_); clear hS HY HT; rintro e wk ⟨rfl, y', HY, hS⟩) | ((with_reducible refine Calls.mono (HI.out _ _ HY _ (third hS)) ?_); clear hS HY HI; rintro e wk ⟨rfl, y', HY, hS⟩; replace hS := hS.front 2 rfl; (try simp only [List.eraseIdx_cons_zero, List.eraseIdx_cons_succ, List.set_cons_zero, List.set_cons_succ] at hS); ((try clear hF); (first | have hF := And.intro hS.facts (HRD.out _ (hS.sub (by first | simp | ((repeat (first | exact List.nil_sublist _ | exact List.Sublist.refl _ | with_reducible apply List.Sublist.cons₂ | apply List.Sublist.cons)))))) | have hF := And.intro hS.facts (hR.at hS.ext) | have hF := hS.facts); simp only [HFacts, cellFacts, RFacts, cellOnly, and_true, true_and, Nat.zero_add, Nat.reduceAdd] at hF)) | ((with_reducible refine Calls.mono (HI2.out _ _ HY _ (third hS)) ?_); clear hS HY HI2; rintro e wk ⟨rfl, y', HY, hS⟩; replace hS := hS.front 2 rfl; (try simp only [List.eraseIdx_cons_zero, List.eraseIdx_cons_succ, List.set_cons_zero, List.set_cons_succ] at hS); ((try clear hF); (first | have hF := And.intro hS.facts (HRD.out _ (hS.sub (by first | simp | ((repeat (first | exact List.nil_sublist _ | exact List.Sublist.refl _ | with_reducible apply List.Sublist.cons₂ | apply List.Sublist.cons)))))) | have hF := And.intro hS.facts (hR.at hS.ext) | have hF := hS.facts); simp only [HFacts, cellFacts, RFacts, cellOnly, and_true, true_and, Nat.zero_add, Nat.reduceAdd] at hF))) | (go_at_call 56; (with_reducible refine Calls.mono (HN.out _ HY _ hS) ?_); clear hS HY HN; rintro e wk ⟨rfl, y', HY, hS⟩) | (go_at_call 55; (with_reducible refine Calls.mono (HMU.out _ _ HY _ (third hS)) ?_); clear hS HY HMU; rintro e wk ⟨rfl, y', HY, hS⟩))
  go_ret
  exact ⟨_, .blk _ [.int .i64 7, .string n, .int .i64 0, .int .i64 0, .string ⟨#[]⟩, .pointer none, .pointer none] 49 :: ([] ++ []), y', rfl, CondIn.node CondIn.nil CondIn.nil _ _ _ _ _ _, HY, hS⟩
set_option maxRecDepth 100000 in
set_option maxHeartbeats 8000000 in
theorem leaf_isnull_no (d : Nat) (hE : EnvA B w0 R) (hl : EndT l) (hok : ∀ t ∈ l, TkOk 5000 t) (hd : ¬ 6 < d) (hn : seeT l notL = false) (hb : seeT l [40] = false) (n : ByteArray) (r : List Tk) (h1 : nameP l = some (n, r)) (h2 : seeT r isL = true) (h3 : seeT r.tail notL = false) (h4 : seeT r.tail nullL = false) (hP : PAt B w0 R gt gp l y) (hS : Hp B w0 w (y :: R :: M)) :
    Calls Tryd.prog 39 #[.pointer (some ⟨gp, 0, none⟩), .int .i64 d] w (ParRes B w0 R gt gp M none) := by
  have HT0 := Lib.hid (fun (W : World) (h : Hp B w0 W (y :: R :: M)) => take_no ⟨#[110, 111, 116]⟩ hl hP hn h)
  have HT := Lib.hid (fun (y' : Item) (h' : PAt B w0 R gt gp l y') (W : World) (h : Hp B w0 W (y' :: R :: M)) => take_no ⟨#[40]⟩ hl h' hb h)
  have HN := Lib.hid (fun (y' : Item) (h' : PAt B w0 R gt gp l y') (W : World) (h : Hp B w0 W (y' :: R :: M)) => name_par hE hl h' h)
  rw [h1] at HN
  obtain ⟨hEr, _, _⟩ := NameRes.some_end hl h1
  have hE1 := hEr.tail h2
  have HI := Lib.hid (fun (X : Item) (y' : Item) (h' : PAt B w0 R gt gp r y') (W : World) (h : Hp B w0 W (y' :: R :: X :: M)) => take_yes ⟨#[105, 115]⟩ hEr h' h2 h)
  have HI2 := Lib.hid (fun (X : Item) (y' : Item) (h' : PAt B w0 R gt gp r.tail y') (W : World) (h : Hp B w0 W (y' :: R :: X :: M)) => take_no ⟨#[110, 111, 116]⟩ hE1 h' h3 h)
  have HMU := Lib.hid (fun (X : Item) (y' : Item) (h' : PAt B w0 R gt gp r.tail y') (W : World) (h : Hp B w0 W (y' :: R :: X :: M)) => must_any ⟨#[110, 117, 108, 108]⟩ hE1 h' h)
  rw [show seeT r.tail (⟨#[110, 117, 108, 108]⟩ : ByteArray).data.toList = false from h4] at HMU
  simp only [Bool.false_eq_true, if_false] at HMU
  clear hE hl hok hP hn hb h1 h2 h3 h4 hEr hE1
  go_enter Tryd.func39, Tryd.ntmps39
  go_wp2_with (first | ((with_reducible first | refine nhLa ?_ | refine nhLs ?_ | refine nhLd ?_ | refine nhCa ?_ | refine nhCs ?_ | refine nhCd ?_ | refine nhPa ?_ | refine nhPs ?_ | refine nhPd ?_ | refine nhKa ?_ | refine nhKs ?_ | refine nhKd ?_); ((try clear hF); clear hS; intro wk hS; (try simp only [List.set_cons_zero, List.set_cons_succ, heap_size, heap_set_size] at hS); ((try clear hF); (first | have hF := And.intro hS.facts (HRD.out _ (hS.sub (by first | simp | ((repeat (first | exact List.nil_sublist _ | exact List.Sublist.refl _ | with_reducible apply List.Sublist.cons₂ | apply List.Sublist.cons)))))) | have hF := And.intro hS.facts (hR.at hS.ext) | have hF := hS.facts); simp only [HFacts, cellFacts, RFacts, cellOnly, and_true, true_and, Nat.zero_add, Nat.reduceAdd] at hF))) | (go_at_call 30; first | ((with_reducible refine Calls.mono (HT0.out _ hS) ?_); clear hS HT0; rintro e wk ⟨rfl, y', HY, hS⟩) | ((with_reducible refine Calls.mono (HT.out _ HY _ hS) ?_); clear hS HY HT; rintro e wk ⟨rfl, y', HY, hS⟩) | ((with_reducible refine Calls.mono (HI.out _ _ HY _ (third hS)) ?_); clear hS HY HI; rintro e wk ⟨rfl, y', HY, hS⟩; replace hS := hS.front 2 rfl; (try simp only [List.eraseIdx_cons_zero, List.eraseIdx_cons_succ, List.set_cons_zero, List.set_cons_succ] at hS); ((try clear hF); (first | have hF := And.intro hS.facts (HRD.out _ (hS.sub (by first | simp | ((repeat (first | exact List.nil_sublist _ | exact List.Sublist.refl _ | with_reducible apply List.Sublist.cons₂ | apply List.Sublist.cons)))))) | have hF := And.intro hS.facts (hR.at hS.ext) | have hF := hS.facts); simp only [HFacts, cellFacts, RFacts, cellOnly, and_true, true_and, Nat.zero_add, Nat.reduceAdd] at hF)) | ((with_reducible refine Calls.mono (HI2.out _ _ HY _ (third hS)) ?_); clear hS HY HI2; rintro e wk ⟨rfl, y', HY, hS⟩; replace hS := hS.front 2 rfl; (try simp only [List.eraseIdx_cons_zero, List.eraseIdx_cons_succ, List.set_cons_zero, List.set_cons_succ] at hS); ((try clear hF); (first | have hF := And.intro hS.facts (HRD.out _ (hS.sub (by first | simp | ((repeat (first | exact List.nil_sublist _ | exact List.Sublist.refl _ | with_reducible apply List.Sublist.cons₂ | apply List.Sublist.cons)))))) | have hF := And.intro hS.facts (hR.at hS.ext) | have hF := hS.facts); simp only [HFacts, cellFacts, RFacts, cellOnly, and_true, true_and, Nat.zero_add, Nat.reduceAdd] at hF))) | (go_at_call 56; (with_reducible refine Calls.mono (HN.out _ HY _ hS) ?_); clear hS HY HN; rintro e wk ⟨rfl, y', HY, hS⟩) | (go_at_call 55; (with_reducible refine Calls.mono (HMU.out _ _ HY _ (third hS)) ?_); clear hS HY HMU; rintro e wk ⟨⟨tp, pv, rfl⟩, hS⟩))
  exact ⟨rfl, ⟨_, _, rfl⟩, hS.tail⟩
set_option maxRecDepth 100000 in
set_option maxHeartbeats 8000000 in
theorem leaf_isnot (d : Nat) (hE : EnvA B w0 R) (hl : EndT l) (hok : ∀ t ∈ l, TkOk 5000 t) (hd : ¬ 6 < d) (hn : seeT l notL = false) (hb : seeT l [40] = false) (n : ByteArray) (r : List Tk) (h1 : nameP l = some (n, r)) (h2 : seeT r isL = true) (h3 : seeT r.tail notL = true) (h4 : seeT r.tail.tail nullL = true) (hP : PAt B w0 R gt gp l y) (hS : Hp B w0 w (y :: R :: M)) :
    Calls Tryd.prog 39 #[.pointer (some ⟨gp, 0, none⟩), .int .i64 d] w (ParRes B w0 R gt gp M (some (.node 8 n zV .nil .nil, r.tail.tail.tail))) := by
  have HT0 := Lib.hid (fun (W : World) (h : Hp B w0 W (y :: R :: M)) => take_no ⟨#[110, 111, 116]⟩ hl hP hn h)
  have HT := Lib.hid (fun (y' : Item) (h' : PAt B w0 R gt gp l y') (W : World) (h : Hp B w0 W (y' :: R :: M)) => take_no ⟨#[40]⟩ hl h' hb h)
  have HN := Lib.hid (fun (y' : Item) (h' : PAt B w0 R gt gp l y') (W : World) (h : Hp B w0 W (y' :: R :: M)) => name_par hE hl h' h)
  rw [h1] at HN
  obtain ⟨hEr, _, _⟩ := NameRes.some_end hl h1
  have hE1 := hEr.tail h2
  have HI := Lib.hid (fun (X : Item) (y' : Item) (h' : PAt B w0 R gt gp r y') (W : World) (h : Hp B w0 W (y' :: R :: X :: M)) => take_yes ⟨#[105, 115]⟩ hEr h' h2 h)
  have HI2 := Lib.hid (fun (X : Item) (y' : Item) (h' : PAt B w0 R gt gp r.tail y') (W : World) (h : Hp B w0 W (y' :: R :: X :: M)) => take_yes ⟨#[110, 111, 116]⟩ hE1 h' h3 h)
  have hE2 := hE1.tail h3
  have HMU := Lib.hid (fun (X : Item) (y' : Item) (h' : PAt B w0 R gt gp r.tail.tail y') (W : World) (h : Hp B w0 W (y' :: R :: X :: M)) => must_any ⟨#[110, 117, 108, 108]⟩ hE2 h' h)
  rw [show seeT r.tail.tail (⟨#[110, 117, 108, 108]⟩ : ByteArray).data.toList = true from h4] at HMU
  simp only [if_true] at HMU
  clear hE hl hok hP hn hb h1 h2 h3 h4 hEr hE1 hE2
  go_enter Tryd.func39, Tryd.ntmps39
  go_wp2_with (first | ((with_reducible first | refine nhLa ?_ | refine nhLs ?_ | refine nhLd ?_ | refine nhCa ?_ | refine nhCs ?_ | refine nhCd ?_ | refine nhPa ?_ | refine nhPs ?_ | refine nhPd ?_ | refine nhKa ?_ | refine nhKs ?_ | refine nhKd ?_); ((try clear hF); clear hS; intro wk hS; (try simp only [List.set_cons_zero, List.set_cons_succ, heap_size, heap_set_size] at hS); ((try clear hF); (first | have hF := And.intro hS.facts (HRD.out _ (hS.sub (by first | simp | ((repeat (first | exact List.nil_sublist _ | exact List.Sublist.refl _ | with_reducible apply List.Sublist.cons₂ | apply List.Sublist.cons)))))) | have hF := And.intro hS.facts (hR.at hS.ext) | have hF := hS.facts); simp only [HFacts, cellFacts, RFacts, cellOnly, and_true, true_and, Nat.zero_add, Nat.reduceAdd] at hF))) | (go_at_call 30; first | ((with_reducible refine Calls.mono (HT0.out _ hS) ?_); clear hS HT0; rintro e wk ⟨rfl, y', HY, hS⟩) | ((with_reducible refine Calls.mono (HT.out _ HY _ hS) ?_); clear hS HY HT; rintro e wk ⟨rfl, y', HY, hS⟩) | ((with_reducible refine Calls.mono (HI.out _ _ HY _ (third hS)) ?_); clear hS HY HI; rintro e wk ⟨rfl, y', HY, hS⟩; replace hS := hS.front 2 rfl; (try simp only [List.eraseIdx_cons_zero, List.eraseIdx_cons_succ, List.set_cons_zero, List.set_cons_succ] at hS); ((try clear hF); (first | have hF := And.intro hS.facts (HRD.out _ (hS.sub (by first | simp | ((repeat (first | exact List.nil_sublist _ | exact List.Sublist.refl _ | with_reducible apply List.Sublist.cons₂ | apply List.Sublist.cons)))))) | have hF := And.intro hS.facts (hR.at hS.ext) | have hF := hS.facts); simp only [HFacts, cellFacts, RFacts, cellOnly, and_true, true_and, Nat.zero_add, Nat.reduceAdd] at hF)) | ((with_reducible refine Calls.mono (HI2.out _ _ HY _ (third hS)) ?_); clear hS HY HI2; rintro e wk ⟨rfl, y', HY, hS⟩; replace hS := hS.front 2 rfl; (try simp only [List.eraseIdx_cons_zero, List.eraseIdx_cons_succ, List.set_cons_zero, List.set_cons_succ] at hS); ((try clear hF); (first | have hF := And.intro hS.facts (HRD.out _ (hS.sub (by first | simp | ((repeat (first | exact List.nil_sublist _ | exact List.Sublist.refl _ | with_reducible apply List.Sublist.cons₂ | apply List.Sublist.cons)))))) | have hF := And.intro hS.facts (hR.at hS.ext) | have hF := hS.facts); simp only [HFacts, cellFacts, RFacts, cellOnly, and_true, true_and, Nat.zero_add, Nat.reduceAdd] at hF))) | (go_at_call 56; (with_reducible refine Calls.mono (HN.out _ HY _ hS) ?_); clear hS HY HN; rintro e wk ⟨rfl, y', HY, hS⟩) | (go_at_call 55; (with_reducible refine Calls.mono (HMU.out _ _ HY _ (third hS)) ?_); clear hS HY HMU; rintro e wk ⟨rfl, y', HY, hS⟩))
  go_ret
  exact ⟨_, .blk _ [.int .i64 8, .string n, .int .i64 0, .int .i64 0, .string ⟨#[]⟩, .pointer none, .pointer none] 49 :: ([] ++ []), y', rfl, CondIn.node CondIn.nil CondIn.nil _ _ _ _ _ _, HY, hS⟩
set_option maxRecDepth 100000 in
set_option maxHeartbeats 8000000 in
theorem leaf_isnot_no (d : Nat) (hE : EnvA B w0 R) (hl : EndT l) (hok : ∀ t ∈ l, TkOk 5000 t) (hd : ¬ 6 < d) (hn : seeT l notL = false) (hb : seeT l [40] = false) (n : ByteArray) (r : List Tk) (h1 : nameP l = some (n, r)) (h2 : seeT r isL = true) (h3 : seeT r.tail notL = true) (h4 : seeT r.tail.tail nullL = false) (hP : PAt B w0 R gt gp l y) (hS : Hp B w0 w (y :: R :: M)) :
    Calls Tryd.prog 39 #[.pointer (some ⟨gp, 0, none⟩), .int .i64 d] w (ParRes B w0 R gt gp M none) := by
  have HT0 := Lib.hid (fun (W : World) (h : Hp B w0 W (y :: R :: M)) => take_no ⟨#[110, 111, 116]⟩ hl hP hn h)
  have HT := Lib.hid (fun (y' : Item) (h' : PAt B w0 R gt gp l y') (W : World) (h : Hp B w0 W (y' :: R :: M)) => take_no ⟨#[40]⟩ hl h' hb h)
  have HN := Lib.hid (fun (y' : Item) (h' : PAt B w0 R gt gp l y') (W : World) (h : Hp B w0 W (y' :: R :: M)) => name_par hE hl h' h)
  rw [h1] at HN
  obtain ⟨hEr, _, _⟩ := NameRes.some_end hl h1
  have hE1 := hEr.tail h2
  have HI := Lib.hid (fun (X : Item) (y' : Item) (h' : PAt B w0 R gt gp r y') (W : World) (h : Hp B w0 W (y' :: R :: X :: M)) => take_yes ⟨#[105, 115]⟩ hEr h' h2 h)
  have HI2 := Lib.hid (fun (X : Item) (y' : Item) (h' : PAt B w0 R gt gp r.tail y') (W : World) (h : Hp B w0 W (y' :: R :: X :: M)) => take_yes ⟨#[110, 111, 116]⟩ hE1 h' h3 h)
  have hE2 := hE1.tail h3
  have HMU := Lib.hid (fun (X : Item) (y' : Item) (h' : PAt B w0 R gt gp r.tail.tail y') (W : World) (h : Hp B w0 W (y' :: R :: X :: M)) => must_any ⟨#[110, 117, 108, 108]⟩ hE2 h' h)
  rw [show seeT r.tail.tail (⟨#[110, 117, 108, 108]⟩ : ByteArray).data.toList = false from h4] at HMU
  simp only [Bool.false_eq_true, if_false] at HMU
  clear hE hl hok hP hn hb h1 h2 h3 h4 hEr hE1 hE2
  go_enter Tryd.func39, Tryd.ntmps39
  go_wp2_with (first | ((with_reducible first | refine nhLa ?_ | refine nhLs ?_ | refine nhLd ?_ | refine nhCa ?_ | refine nhCs ?_ | refine nhCd ?_ | refine nhPa ?_ | refine nhPs ?_ | refine nhPd ?_ | refine nhKa ?_ | refine nhKs ?_ | refine nhKd ?_); ((try clear hF); clear hS; intro wk hS; (try simp only [List.set_cons_zero, List.set_cons_succ, heap_size, heap_set_size] at hS); ((try clear hF); (first | have hF := And.intro hS.facts (HRD.out _ (hS.sub (by first | simp | ((repeat (first | exact List.nil_sublist _ | exact List.Sublist.refl _ | with_reducible apply List.Sublist.cons₂ | apply List.Sublist.cons)))))) | have hF := And.intro hS.facts (hR.at hS.ext) | have hF := hS.facts); simp only [HFacts, cellFacts, RFacts, cellOnly, and_true, true_and, Nat.zero_add, Nat.reduceAdd] at hF))) | (go_at_call 30; first | ((with_reducible refine Calls.mono (HT0.out _ hS) ?_); clear hS HT0; rintro e wk ⟨rfl, y', HY, hS⟩) | ((with_reducible refine Calls.mono (HT.out _ HY _ hS) ?_); clear hS HY HT; rintro e wk ⟨rfl, y', HY, hS⟩) | ((with_reducible refine Calls.mono (HI.out _ _ HY _ (third hS)) ?_); clear hS HY HI; rintro e wk ⟨rfl, y', HY, hS⟩; replace hS := hS.front 2 rfl; (try simp only [List.eraseIdx_cons_zero, List.eraseIdx_cons_succ, List.set_cons_zero, List.set_cons_succ] at hS); ((try clear hF); (first | have hF := And.intro hS.facts (HRD.out _ (hS.sub (by first | simp | ((repeat (first | exact List.nil_sublist _ | exact List.Sublist.refl _ | with_reducible apply List.Sublist.cons₂ | apply List.Sublist.cons)))))) | have hF := And.intro hS.facts (hR.at hS.ext) | have hF := hS.facts); simp only [HFacts, cellFacts, RFacts, cellOnly, and_true, true_and, Nat.zero_add, Nat.reduceAdd] at hF)) | ((with_reducible refine Calls.mono (HI2.out _ _ HY _ (third hS)) ?_); clear hS HY HI2; rintro e wk ⟨rfl, y', HY, hS⟩; replace hS := hS.front 2 rfl; (try simp only [List.eraseIdx_cons_zero, List.eraseIdx_cons_succ, List.set_cons_zero, List.set_cons_succ] at hS); ((try clear hF); (first | have hF := And.intro hS.facts (HRD.out _ (hS.sub (by first | simp | ((repeat (first | exact List.nil_sublist _ | exact List.Sublist.refl _ | with_reducible apply List.Sublist.cons₂ | apply List.Sublist.cons)))))) | have hF := And.intro hS.facts (hR.at hS.ext) | have hF := hS.facts); simp only [HFacts, cellFacts, RFacts, cellOnly, and_true, true_and, Nat.zero_add, Nat.reduceAdd] at hF))) | (go_at_call 56; (with_reducible refine Calls.mono (HN.out _ HY _ hS) ?_); clear hS HY HN; rintro e wk ⟨rfl, y', HY, hS⟩) | (go_at_call 55; (with_reducible refine Calls.mono (HMU.out _ _ HY _ (third hS)) ?_); clear hS HY HMU; rintro e wk ⟨⟨tp, pv, rfl⟩, hS⟩))
  exact ⟨rfl, ⟨_, _, rfl⟩, hS.tail⟩
end
end Go.Proofs.YtmfilblbofkmcaaDoor

/- ask: the parser: a column, a mark, a value. -/
namespace Go.Proofs.YtmfilblbofkmcaaDoor
set_option linter.unusedSimpArgs false
set_option linter.unusedVariables false
open Go.RowKit
set_option linter.all false
theorem third2 {B : Nat} {w0 W : World} {a b y R : Item} {L : List Item} (h : Hp B w0 W (a :: b :: y :: R :: L)) : Hp B w0 W (y :: R :: a :: b :: L) := by
  have h1 := third (x := b) (y := y) (R := R) (L := L) h.tail
  refine h.perm ?_
  have p1 : (y :: R :: b :: L).Perm (b :: y :: R :: L) := (List.Perm.cons y (List.Perm.swap b R L)).trans (List.Perm.swap b y (R :: L))
  have p2 : (y :: R :: a :: b :: L).Perm (a :: y :: R :: b :: L) := (List.Perm.cons y (List.Perm.swap a R (b :: L))).trans (List.Perm.swap a y (R :: b :: L))
  exact p2.trans (List.Perm.cons a p1)
section
variable {B : Nat} {w0 w : World} {R : Item} {gt gp : Nat} {l : List Tk} {y : Item} {M : List Item}
set_option maxRecDepth 100000 in
set_option maxHeartbeats 8000000 in
theorem leaf_cmp (d : Nat) (hE : EnvA B w0 R) (hl : EndT l) (hok : ∀ t ∈ l, TkOk 5000 t) (hd : ¬ 6 < d) (hn : seeT l notL = false) (hb : seeT l [40] = false) (n : ByteArray) (r : List Tk) (h1 : nameP l = some (n, r)) (h2 : seeT r isL = false) (hP : PAt B w0 R gt gp l y) (hS : Hp B w0 w (y :: R :: M)) :
    Calls Tryd.prog 39 #[.pointer (some ⟨gp, 0, none⟩), .int .i64 d] w (ParRes B w0 R gt gp M (restP n r)) := by
  have HT0 := Lib.hid (fun (W : World) (h : Hp B w0 W (y :: R :: M)) => take_no ⟨#[110, 111, 116]⟩ hl hP hn h)
  have HT := Lib.hid (fun (y' : Item) (h' : PAt B w0 R gt gp l y') (W : World) (h : Hp B w0 W (y' :: R :: M)) => take_no ⟨#[40]⟩ hl h' hb h)
  have HN := Lib.hid (fun (y' : Item) (h' : PAt B w0 R gt gp l y') (W : World) (h : Hp B w0 W (y' :: R :: M)) => name_par hE hl h' h)
  rw [h1] at HN
  obtain ⟨hEr, hin, _⟩ := NameRes.some_end hl h1
  have hok2 : ∀ t ∈ r, TkOk 5000 t := fun t ht => hok t (hin t ht)
  have HI := Lib.hid (fun (X : Item) (y' : Item) (h' : PAt B w0 R gt gp r y') (W : World) (h : Hp B w0 W (y' :: R :: X :: M)) => take_no ⟨#[105, 115]⟩ hEr h' h2 h)
  obtain ⟨D, hD⟩ : ∃ D, D = restP n r := ⟨_, rfl⟩
  rw [← hD]
  unfold restP at hD
  rw [if_neg (by rw [h2]; decide)] at hD
  clear hl hok hP hn hb h1 h2 hin
  have HEV := Lib.hid hE
  clear hE
  go_enter Tryd.func39, Tryd.ntmps39
  go_upto_region 16 with (first | ((with_reducible first | refine nhLa ?_ | refine nhLs ?_ | refine nhLd ?_ | refine nhCa ?_ | refine nhCs ?_ | refine nhCd ?_ | refine nhPa ?_ | refine nhPs ?_ | refine nhPd ?_ | refine nhKa ?_ | refine nhKs ?_ | refine nhKd ?_); ((try clear hF); clear hS; intro wk hS; (try simp only [List.set_cons_zero, List.set_cons_succ, heap_size, heap_set_size] at hS); ((try clear hF); (first | have hF := And.intro hS.facts (HRD.out _ (hS.sub (by first | simp | ((repeat (first | exact List.nil_sublist _ | exact List.Sublist.refl _ | with_reducible apply List.Sublist.cons₂ | apply List.Sublist.cons)))))) | have hF := And.intro hS.facts (hR.at hS.ext) | have hF := hS.facts); simp only [HFacts, cellFacts, RFacts, cellOnly, and_true, true_and, Nat.zero_add, Nat.reduceAdd] at hF))) | (go_at_call 30; first | ((with_reducible refine Calls.mono (HT0.out _ hS) ?_); clear hS HT0; rintro e wk ⟨rfl, y', HY, hS⟩) | ((with_reducible refine Calls.mono (HT.out _ HY _ hS) ?_); clear hS HY HT; rintro e wk ⟨rfl, y', HY, hS⟩) | ((with_reducible refine Calls.mono (HI.out _ _ HY _ (third hS)) ?_); clear hS HY HI; rintro e wk ⟨rfl, y', HY, hS⟩; replace hS := hS.front 2 rfl; (try simp only [List.eraseIdx_cons_zero, List.eraseIdx_cons_succ, List.set_cons_zero, List.set_cons_succ] at hS); ((try clear hF); (first | have hF := And.intro hS.facts (HRD.out _ (hS.sub (by first | simp | ((repeat (first | exact List.nil_sublist _ | exact List.Sublist.refl _ | with_reducible apply List.Sublist.cons₂ | apply List.Sublist.cons)))))) | have hF := And.intro hS.facts (hR.at hS.ext) | have hF := hS.facts); simp only [HFacts, cellFacts, RFacts, cellOnly, and_true, true_and, Nat.zero_add, Nat.reduceAdd] at hF))) | (go_at_call 56; (with_reducible refine Calls.mono (HN.out _ HY _ hS) ?_); clear hS HY HN; rintro e wk ⟨rfl, y', HY, hS⟩))
  have HFL := Lib.hid (fun (X Z : Item) (W : World) (h : Hp B w0 W (y' :: R :: X :: Z :: M)) => fail_any 3 hEr.ne HY h)
  obtain ⟨off, m, cap, q, rfl, hm, hc, hc2, rfl, hT⟩ := HY
  cases q with
  | nil => exact absurd rfl hEr.ne
  | cons x q =>
    have HRD := Lib.hid hT.hd
    have HTL := Lib.hid hT.tl
    have hm0 : 0 < m := by rw [← hm]; simp
    have hq : q.length = m - 1 := by rw [← hm]; simp
    have HEE := Lib.hid (fun h : x.1.kind ≠ 5 => show EndT (q.map (·.1)) from EndT.tl (by simpa using hEr) h)
    have HOK := Lib.hid (show ∀ t ∈ q.map (·.1), TkOk 5000 t from fun t ht => hok2 t (by simp only [List.map_cons, List.mem_cons]; exact .inr ht))
    have HCO := Lib.hid (fun W => code_any x.1.text W)
    clear hT hm hEr hok2
    obtain ⟨⟨kd, tx⟩, pos⟩ := x
    simp only [List.map_cons] at HRD HCO HEE hD
    by_cases h4 : kd = 4
    · have hE1 := HEE.out (by omega)
      have hq1 : 1 ≤ q.length := by
        cases q with
        | nil => exact absurd rfl hE1.ne
        | cons _ _ => simp
      have h1m : 1 ≤ m := by omega
      have h1c : 1 ≤ cap := by omega
      subst h4
      have hcd : codeT ⟨4, tx⟩ = Lib.idxOfS codesS tx + 1 := by unfold codeT; rw [if_pos rfl]
      rw [hcd] at hD
      obtain ⟨hr1, hr2⟩ := idx_range tx
      obtain ⟨ix, hix⟩ : ∃ ix, ix = Lib.idxOfS codesS tx := ⟨_, rfl⟩
      rw [← hix] at HCO hD hr1 hr2
      clear hcd hix
      by_cases hlt : ix + 1 < 1
      · rw [if_pos hlt] at hD
        subst hD
        clear HEE HOK HTL hE1 HEV
        ((try clear hF); (first | have hF := And.intro hS.facts (HRD.out _ (hS.sub (by first | simp | ((repeat (first | exact List.nil_sublist _ | exact List.Sublist.refl _ | with_reducible apply List.Sublist.cons₂ | apply List.Sublist.cons)))))) | have hF := And.intro hS.facts (hR.at hS.ext) | have hF := hS.facts); simp only [HFacts, cellFacts, RFacts, cellOnly, and_true, true_and, Nat.zero_add, Nat.reduceAdd] at hF)
        go_wp2_with (first | ((with_reducible first | refine nhLa ?_ | refine nhLs ?_ | refine nhLd ?_ | refine nhCa ?_ | refine nhCs ?_ | refine nhCd ?_ | refine nhPa ?_ | refine nhPs ?_ | refine nhPd ?_ | refine nhKa ?_ | refine nhKs ?_ | refine nhKd ?_); ((try clear hF); clear hS; intro wk hS; (try simp only [List.set_cons_zero, List.set_cons_succ, heap_size, heap_set_size] at hS); ((try clear hF); (first | have hF := And.intro hS.facts (HRD.out _ (hS.sub (by first | simp | ((repeat (first | exact List.nil_sublist _ | exact List.Sublist.refl _ | with_reducible apply List.Sublist.cons₂ | apply List.Sublist.cons)))))) | have hF := And.intro hS.facts (hR.at hS.ext) | have hF := hS.facts); simp only [HFacts, cellFacts, RFacts, cellOnly, and_true, true_and, Nat.zero_add, Nat.reduceAdd] at hF))) | (go_at_call 57; (with_reducible refine (HCO.out _).mono ?_); rintro e wk ⟨rfl, hX⟩; replace hS := hS.step hX; clear hX; ((try clear hF); (first | have hF := And.intro hS.facts (HRD.out _ (hS.sub (by first | simp | ((repeat (first | exact List.nil_sublist _ | exact List.Sublist.refl _ | with_reducible apply List.Sublist.cons₂ | apply List.Sublist.cons)))))) | have hF := And.intro hS.facts (hR.at hS.ext) | have hF := hS.facts); simp only [HFacts, cellFacts, RFacts, cellOnly, and_true, true_and, Nat.zero_add, Nat.reduceAdd] at hF)) | (go_at_call 28; (with_reducible refine (HFL.out _ _ _ (third2 hS)).mono ?_); rintro e wk ⟨⟨tp, pv, rfl⟩, hX⟩; replace hS := hS.step hX; clear hX))
        exact ⟨rfl, ⟨_, _, rfl⟩, g4 hS.tail⟩
      · rw [if_neg hlt] at hD
        have HLI := Lib.hid (fun (X Z : Item) (W : World) (h : Hp B w0 W (.blk gp [.slice (some ⟨gt, off + 3, none⟩) (m - 1) (cap - 1)] 44 :: R :: X :: Z :: M)) => lit_any HEV.out hE1 HOK.out ⟨off + 3, m - 1, cap - 1, q, rfl, hq, by omega, by omega, rfl, HTL.out⟩ h)
        clear HEE HFL hE1 HTL HOK HEV
        cases hli : litP (q.map (·.1)) with
        | none =>
          rw [hli] at hD HLI
          simp only at hD
          subst hD
          clear hli
          ((try clear hF); (first | have hF := And.intro hS.facts (HRD.out _ (hS.sub (by first | simp | ((repeat (first | exact List.nil_sublist _ | exact List.Sublist.refl _ | with_reducible apply List.Sublist.cons₂ | apply List.Sublist.cons)))))) | have hF := And.intro hS.facts (hR.at hS.ext) | have hF := hS.facts); simp only [HFacts, cellFacts, RFacts, cellOnly, and_true, true_and, Nat.zero_add, Nat.reduceAdd] at hF)
          go_wp2_with (first | ((with_reducible first | refine nhLa ?_ | refine nhLs ?_ | refine nhLd ?_ | refine nhCa ?_ | refine nhCs ?_ | refine nhCd ?_ | refine nhPa ?_ | refine nhPs ?_ | refine nhPd ?_ | refine nhKa ?_ | refine nhKs ?_ | refine nhKd ?_); ((try clear hF); clear hS; intro wk hS; (try simp only [List.set_cons_zero, List.set_cons_succ, heap_size, heap_set_size] at hS); ((try clear hF); (first | have hF := And.intro hS.facts (HRD.out _ (hS.sub (by first | simp | ((repeat (first | exact List.nil_sublist _ | exact List.Sublist.refl _ | with_reducible apply List.Sublist.cons₂ | apply List.Sublist.cons)))))) | have hF := And.intro hS.facts (hR.at hS.ext) | have hF := hS.facts); simp only [HFacts, cellFacts, RFacts, cellOnly, and_true, true_and, Nat.zero_add, Nat.reduceAdd] at hF))) | (go_at_call 57; (with_reducible refine (HCO.out _).mono ?_); rintro e wk ⟨rfl, hX⟩; replace hS := hS.step hX; clear hX; ((try clear hF); (first | have hF := And.intro hS.facts (HRD.out _ (hS.sub (by first | simp | ((repeat (first | exact List.nil_sublist _ | exact List.Sublist.refl _ | with_reducible apply List.Sublist.cons₂ | apply List.Sublist.cons)))))) | have hF := And.intro hS.facts (hR.at hS.ext) | have hF := hS.facts); simp only [HFacts, cellFacts, RFacts, cellOnly, and_true, true_and, Nat.zero_add, Nat.reduceAdd] at hF)) | (go_at_call 58; (with_reducible refine Calls.mono (HLI.out _ _ _ (third2 hS)) ?_); clear hS; rintro e wk ⟨⟨tp, pv, rfl⟩, hS⟩))
          exact ⟨rfl, ⟨_, _, rfl⟩, hS.tail.tail⟩
        | some z =>
          obtain ⟨v, r2⟩ := z
          rw [hli] at hD HLI
          simp only at hD
          subst hD
          clear hli
          ((try clear hF); (first | have hF := And.intro hS.facts (HRD.out _ (hS.sub (by first | simp | ((repeat (first | exact List.nil_sublist _ | exact List.Sublist.refl _ | with_reducible apply List.Sublist.cons₂ | apply List.Sublist.cons)))))) | have hF := And.intro hS.facts (hR.at hS.ext) | have hF := hS.facts); simp only [HFacts, cellFacts, RFacts, cellOnly, and_true, true_and, Nat.zero_add, Nat.reduceAdd] at hF)
          go_wp2_with (first | ((with_reducible first | refine nhLa ?_ | refine nhLs ?_ | refine nhLd ?_ | refine nhCa ?_ | refine nhCs ?_ | refine nhCd ?_ | refine nhPa ?_ | refine nhPs ?_ | refine nhPd ?_ | refine nhKa ?_ | refine nhKs ?_ | refine nhKd ?_); ((try clear hF); clear hS; intro wk hS; (try simp only [List.set_cons_zero, List.set_cons_succ, heap_size, heap_set_size] at hS); ((try clear hF); (first | have hF := And.intro hS.facts (HRD.out _ (hS.sub (by first | simp | ((repeat (first | exact List.nil_sublist _ | exact List.Sublist.refl _ | with_reducible apply List.Sublist.cons₂ | apply List.Sublist.cons)))))) | have hF := And.intro hS.facts (hR.at hS.ext) | have hF := hS.facts); simp only [HFacts, cellFacts, RFacts, cellOnly, and_true, true_and, Nat.zero_add, Nat.reduceAdd] at hF))) | (go_at_call 57; (with_reducible refine (HCO.out _).mono ?_); rintro e wk ⟨rfl, hX⟩; replace hS := hS.step hX; clear hX; ((try clear hF); (first | have hF := And.intro hS.facts (HRD.out _ (hS.sub (by first | simp | ((repeat (first | exact List.nil_sublist _ | exact List.Sublist.refl _ | with_reducible apply List.Sublist.cons₂ | apply List.Sublist.cons)))))) | have hF := And.intro hS.facts (hR.at hS.ext) | have hF := hS.facts); simp only [HFacts, cellFacts, RFacts, cellOnly, and_true, true_and, Nat.zero_add, Nat.reduceAdd] at hF)) | (go_at_call 58; (with_reducible refine Calls.mono (HLI.out _ _ _ (third2 hS)) ?_); clear hS; rintro e wk ⟨rfl, y3, HY3, hS⟩; replace hS := hS.front 3 rfl; (try simp only [List.eraseIdx_cons_zero, List.eraseIdx_cons_succ, List.set_cons_zero, List.set_cons_succ] at hS); ((try clear hF); (first | have hF := And.intro hS.facts (HRD.out _ (hS.sub (by first | simp | ((repeat (first | exact List.nil_sublist _ | exact List.Sublist.refl _ | with_reducible apply List.Sublist.cons₂ | apply List.Sublist.cons)))))) | have hF := And.intro hS.facts (hR.at hS.ext) | have hF := hS.facts); simp only [HFacts, cellFacts, RFacts, cellOnly, and_true, true_and, Nat.zero_add, Nat.reduceAdd] at hF)))
          go_ret
          refine ⟨_, .blk _ [.int .i64 (ix + 1), .string n, .int .i64 v.kind, .int .i64 v.num, .string v.text, .pointer none, .pointer none] 49 :: ([] ++ []), y3, rfl, CondIn.node CondIn.nil CondIn.nil _ _ _ _ _ _, HY3, ?_⟩
          exact third (hS.drop 3)
    · have q4 : (kd == 4) = false := by simp [h4]
      have hcd : codeT ⟨kd, tx⟩ = 0 := by unfold codeT; rw [if_neg h4]
      rw [hcd, if_pos (by omega)] at hD
      subst hD
      clear HEE HOK HCO HTL h4 hcd HEV
      ((try clear hF); (first | have hF := And.intro hS.facts (HRD.out _ (hS.sub (by first | simp | ((repeat (first | exact List.nil_sublist _ | exact List.Sublist.refl _ | with_reducible apply List.Sublist.cons₂ | apply List.Sublist.cons)))))) | have hF := And.intro hS.facts (hR.at hS.ext) | have hF := hS.facts); simp only [HFacts, cellFacts, RFacts, cellOnly, and_true, true_and, Nat.zero_add, Nat.reduceAdd] at hF)
      go_wp2_with (first | ((with_reducible first | refine nhLa ?_ | refine nhLs ?_ | refine nhLd ?_ | refine nhCa ?_ | refine nhCs ?_ | refine nhCd ?_ | refine nhPa ?_ | refine nhPs ?_ | refine nhPd ?_ | refine nhKa ?_ | refine nhKs ?_ | refine nhKd ?_); ((try clear hF); clear hS; intro wk hS; (try simp only [List.set_cons_zero, List.set_cons_succ, heap_size, heap_set_size] at hS); ((try clear hF); (first | have hF := And.intro hS.facts (HRD.out _ (hS.sub (by first | simp | ((repeat (first | exact List.nil_sublist _ | exact List.Sublist.refl _ | with_reducible apply List.Sublist.cons₂ | apply List.Sublist.cons)))))) | have hF := And.intro hS.facts (hR.at hS.ext) | have hF := hS.facts); simp only [HFacts, cellFacts, RFacts, cellOnly, and_true, true_and, Nat.zero_add, Nat.reduceAdd] at hF))) | (go_at_call 28; (with_reducible refine (HFL.out _ _ _ (third2 hS)).mono ?_); rintro e wk ⟨⟨tp, pv, rfl⟩, hX⟩; replace hS := hS.step hX; clear hX))
      exact ⟨rfl, ⟨_, _, rfl⟩, g4 hS.tail⟩
end
end Go.Proofs.YtmfilblbofkmcaaDoor

/- ask: the parser: and, or: all of it. -/
namespace Go.Proofs.YtmfilblbofkmcaaDoor
set_option linter.unusedSimpArgs false
set_option linter.unusedVariables false
open Go.RowKit
set_option linter.all false
theorem lit_end {l r : List Tk} {v : GV} (hl : EndT l) (h : litP l = some (v, r)) : EndT r ∧ (∀ t ∈ r, t ∈ l) ∧ r.length + 1 = l.length := by
  cases l with
  | nil => simp [litP] at h
  | cons t l =>
    simp only [litP] at h
    cases hv : litT t with
    | none => rw [hv] at h; cases h
    | some x =>
      rw [hv] at h
      obtain ⟨rfl, rfl⟩ := Prod.mk.inj (Option.some.inj h)
      have hk : t.kind ≠ 5 := by
        unfold litT at hv
        split at hv
        · omega
        · split at hv
          · omega
          · split at hv
            · rename_i hs
              exact seeT_kind hs
            · cases hv
      exact ⟨hl.tl hk, fun x hx => List.mem_cons_of_mem _ hx, rfl⟩
theorem see_end {l : List Tk} {s : List UInt8} (hl : EndT l) (h : seeT l s = true) : EndT l.tail ∧ (∀ t ∈ l.tail, t ∈ l) ∧ l.tail.length + 1 = l.length :=
  ⟨hl.tail h, fun t ht => List.mem_of_mem_tail ht, (see_tail h).symm⟩
theorem restP_end {n : ByteArray} {l r : List Tk} {c : CT} (hl : EndT l) (h : restP n l = some (c, r)) : EndT r ∧ (∀ t ∈ r, t ∈ l) ∧ r.length + 1 ≤ l.length := by
  unfold restP at h
  split at h
  · rename_i h1
    obtain ⟨a1, a2, a3⟩ := see_end hl h1
    split at h
    · rename_i h2
      obtain ⟨b1, b2, b3⟩ := see_end a1 h2
      split at h
      · rename_i h3
        obtain ⟨c1, c2, c3⟩ := see_end b1 h3
        obtain ⟨rfl, rfl⟩ := Prod.mk.inj (Option.some.inj h)
        exact ⟨c1, fun t ht => a2 t (b2 t (c2 t ht)), by omega⟩
      · cases h
    · split at h
      · rename_i h3
        obtain ⟨c1, c2, c3⟩ := see_end a1 h3
        obtain ⟨rfl, rfl⟩ := Prod.mk.inj (Option.some.inj h)
        exact ⟨c1, fun t ht => a2 t (c2 t ht), by omega⟩
      · cases h
  · cases l with
    | nil => cases h
    | cons t l =>
      simp only at h
      split at h
      · cases h
      · rename_i hc
        have hk : t.kind ≠ 5 := by
          intro e
          unfold codeT at hc
          rw [if_neg (by omega)] at hc
          omega
        cases hv : litP l with
        | none => rw [hv] at h; cases h
        | some z =>
          obtain ⟨v, r2⟩ := z
          rw [hv] at h
          obtain ⟨rfl, rfl⟩ := Prod.mk.inj (Option.some.inj h)
          obtain ⟨d1, d2, d3⟩ := lit_end (hl.tl hk) hv
          exact ⟨d1, fun t ht => List.mem_cons_of_mem _ (d2 t ht), by simp only [List.length_cons]; omega⟩
theorem leaf_end {l r : List Tk} {c : CT} (hl : EndT l) (h : leafP l = some (c, r)) : EndT r ∧ (∀ t ∈ r, t ∈ l) ∧ r.length + 1 ≤ l.length := by
  unfold leafP at h
  cases hn : nameP l with
  | none => rw [hn] at h; cases h
  | some z =>
    obtain ⟨n, r1⟩ := z
    rw [hn] at h
    obtain ⟨a1, a2, a3⟩ := NameRes.some_end hl hn
    obtain ⟨b1, b2, b3⟩ := restP_end a1 h
    exact ⟨b1, fun t ht => a2 t (b2 t ht), by omega⟩
theorem of_end : ∀ (f d : Nat) (l : List Tk), EndT l →
    (∀ c r, oneP f d l = some (c, r) → EndT r ∧ (∀ t ∈ r, t ∈ l) ∧ r.length + 1 ≤ l.length) ∧
    (∀ c r, andP f d l = some (c, r) → EndT r ∧ (∀ t ∈ r, t ∈ l) ∧ r.length + 1 ≤ l.length) ∧
    (∀ a c r, andQ f d a l = some (c, r) → EndT r ∧ (∀ t ∈ r, t ∈ l) ∧ r.length ≤ l.length) ∧
    (∀ c r, orP f d l = some (c, r) → EndT r ∧ (∀ t ∈ r, t ∈ l) ∧ r.length + 1 ≤ l.length) ∧
    (∀ a c r, orQ f d a l = some (c, r) → EndT r ∧ (∀ t ∈ r, t ∈ l) ∧ r.length ≤ l.length)
  | 0, d, l, hl => by
    refine ⟨fun c r h => ?_, fun c r h => ?_, fun a c r h => ?_, fun c r h => ?_, fun a c r h => ?_⟩
    · simp [oneP] at h
    · simp [andP] at h
    · simp [andQ] at h
    · simp [orP] at h
    · simp [orQ] at h
  | f + 1, d, l, hl => by
    refine ⟨fun c r h => ?_, fun c r h => ?_, fun a c r h => ?_, fun c r h => ?_, fun a c r h => ?_⟩
    · simp only [oneP] at h
      split at h
      · cases h
      split at h
      · rename_i hs
        obtain ⟨a1, a2, a3⟩ := see_end hl hs
        cases h1 : oneP f (d + 1) l.tail with
        | none => rw [h1] at h; cases h
        | some x =>
          obtain ⟨c1, r1⟩ := x
          rw [h1] at h
          obtain ⟨rfl, rfl⟩ := Prod.mk.inj (Option.some.inj h)
          obtain ⟨b1, b2, b3⟩ := (of_end f (d + 1) l.tail a1).1 c1 r1 h1
          exact ⟨b1, fun t ht => a2 t (b2 t ht), by omega⟩
      split at h
      · rename_i hs
        obtain ⟨a1, a2, a3⟩ := see_end hl hs
        cases h1 : orP f (d + 1) l.tail with
        | none => rw [h1] at h; cases h
        | some x =>
          obtain ⟨c1, r1⟩ := x
          rw [h1] at h
          simp only at h
          obtain ⟨b1, b2, b3⟩ := (of_end f (d + 1) l.tail a1).2.2.2.1 c1 r1 h1
          split at h
          · rename_i hs2
            obtain ⟨c1, c2, c3⟩ := see_end b1 hs2
            obtain ⟨rfl, rfl⟩ := Prod.mk.inj (Option.some.inj h)
            exact ⟨c1, fun t ht => a2 t (b2 t (c2 t ht)), by omega⟩
          · cases h
      · exact leaf_end hl h
    · simp only [andP] at h
      cases h1 : oneP f d l with
      | none => rw [h1] at h; cases h
      | some x =>
        obtain ⟨c1, r1⟩ := x
        rw [h1] at h
        obtain ⟨a1, a2, a3⟩ := (of_end f d l hl).1 c1 r1 h1
        obtain ⟨b1, b2, b3⟩ := (of_end f d r1 a1).2.2.1 c1 c r h
        exact ⟨b1, fun t ht => a2 t (b2 t ht), by omega⟩
    · simp only [andQ] at h
      split at h
      · rename_i hs
        obtain ⟨a1, a2, a3⟩ := see_end hl hs
        cases h1 : oneP f d l.tail with
        | none => rw [h1] at h; cases h
        | some x =>
          obtain ⟨c1, r1⟩ := x
          rw [h1] at h
          obtain ⟨b1, b2, b3⟩ := (of_end f d l.tail a1).1 c1 r1 h1
          obtain ⟨d1, d2, d3⟩ := (of_end f d r1 b1).2.2.1 _ c r h
          exact ⟨d1, fun t ht => a2 t (b2 t (d2 t ht)), by omega⟩
      · obtain ⟨rfl, rfl⟩ := Prod.mk.inj (Option.some.inj h)
        exact ⟨hl, fun t ht => ht, Nat.le_refl _⟩
    · simp only [orP] at h
      cases h1 : andP f d l with
      | none => rw [h1] at h; cases h
      | some x =>
        obtain ⟨c1, r1⟩ := x
        rw [h1] at h
        obtain ⟨a1, a2, a3⟩ := (of_end f d l hl).2.1 c1 r1 h1
        obtain ⟨b1, b2, b3⟩ := (of_end f d r1 a1).2.2.2.2 c1 c r h
        exact ⟨b1, fun t ht => a2 t (b2 t ht), by omega⟩
    · simp only [orQ] at h
      split at h
      · rename_i hs
        obtain ⟨a1, a2, a3⟩ := see_end hl hs
        cases h1 : andP f d l.tail with
        | none => rw [h1] at h; cases h
        | some x =>
          obtain ⟨c1, r1⟩ := x
          rw [h1] at h
          obtain ⟨b1, b2, b3⟩ := (of_end f d l.tail a1).2.1 c1 r1 h1
          obtain ⟨d1, d2, d3⟩ := (of_end f d r1 b1).2.2.2.2 _ c r h
          exact ⟨d1, fun t ht => a2 t (b2 t (d2 t ht)), by omega⟩
      · obtain ⟨rfl, rfl⟩ := Prod.mk.inj (Option.some.inj h)
        exact ⟨hl, fun t ht => ht, Nat.le_refl _⟩
theorem one_end {f d : Nat} {l r : List Tk} {c : CT} (hl : EndT l) (h : oneP f d l = some (c, r)) : EndT r ∧ (∀ t ∈ r, t ∈ l) ∧ r.length + 1 ≤ l.length := (of_end f d l hl).1 c r h
theorem and_end {f d : Nat} {l r : List Tk} {c : CT} (hl : EndT l) (h : andP f d l = some (c, r)) : EndT r ∧ (∀ t ∈ r, t ∈ l) ∧ r.length + 1 ≤ l.length := (of_end f d l hl).2.1 c r h
/-- how many tokens are left -/
def lenAt (gp : Nat) (w : World) : Nat := match w.cell? ⟨gp, 0, none⟩ with
  | some (.slice _ n _) => n
  | _ => 0
theorem lenAt_of {B : Nat} {w0 W : World} {R : Item} {gt gp : Nat} {l : List Tk} {y : Item} {L : List Item} (hP : PAt B w0 R gt gp l y) (hS : Hp B w0 W (y :: L)) : lenAt gp W = l.length := by
  obtain ⟨off, n, cap, q, rfl, hn, hc, hc2, rfl, hT⟩ := hP
  have hF := hS.facts
  simp only [HFacts, cellFacts, RFacts, cellOnly, and_true, true_and, Nat.zero_add, Nat.reduceAdd] at hF
  unfold lenAt
  rw [hF.1.1]
  simp [hn]
theorem grow_perm {B : Nat} {w0 W : World} {x y R : Item} {K1 K2 M : List Item} (h : Hp B w0 W (x :: y :: R :: (K2 ++ (K1 ++ M)))) : Hp B w0 W (y :: R :: ((x :: (K1 ++ K2)) ++ M)) := by
  refine h.perm ?_
  have p1 : ((K1 ++ K2) ++ M).Perm (K2 ++ (K1 ++ M)) := by
    rw [← List.append_assoc]
    exact List.Perm.append_right M List.perm_append_comm
  have p2 : (y :: R :: x :: ((K1 ++ K2) ++ M)).Perm (x :: y :: R :: ((K1 ++ K2) ++ M)) := (List.Perm.cons y (List.Perm.swap x R _)).trans (List.Perm.swap x y _)
  rw [List.cons_append]
  exact p2.trans (List.Perm.cons x (List.Perm.cons y (List.Perm.cons R p1)))
set_option maxRecDepth 100000 in
set_option maxHeartbeats 8000000 in
theorem and_any (f : Nat) (hI : ∀ g, g ≤ f → OneC g) : AndC (f + 1) := by
  intro B w0 w R gt gp l y M d hE hl hok hf hd hP hS
  have HO1 := Lib.hid (fun (W : World) (h : Hp B w0 W (y :: R :: M)) => hI f (Nat.le_refl _) d hE hl hok (by omega) hd hP h)
  have HI := Lib.hid hI
  have HEV := Lib.hid hE
  obtain ⟨D, hD⟩ : ∃ D, D = andP (f + 1) d l := ⟨_, rfl⟩
  rw [← hD]
  simp only [andP] at hD
  cases h1 : oneP f d l with
  | none =>
    rw [h1] at hD HO1
    simp only at hD
    subst hD
    clear hI hE hl hok hf hP h1
    go_enter Tryd.func29, Tryd.ntmps29
    go_wp2_with (first | ((with_reducible first | refine nhLa ?_ | refine nhLs ?_ | refine nhLd ?_ | refine nhCa ?_ | refine nhCs ?_ | refine nhCd ?_ | refine nhPa ?_ | refine nhPs ?_ | refine nhPd ?_ | refine nhKa ?_ | refine nhKs ?_ | refine nhKd ?_); ((try clear hF); clear hS; intro wk hS; (try simp only [List.set_cons_zero, List.set_cons_succ, heap_size, heap_set_size] at hS); ((try clear hF); (first | have hF := And.intro hS.facts (HRD.out _ (hS.sub (by first | simp | ((repeat (first | exact List.nil_sublist _ | exact List.Sublist.refl _ | with_reducible apply List.Sublist.cons₂ | apply List.Sublist.cons)))))) | have hF := And.intro hS.facts (hR.at hS.ext) | have hF := hS.facts); simp only [HFacts, cellFacts, RFacts, cellOnly, and_true, true_and, Nat.zero_add, Nat.reduceAdd] at hF))) | (go_at_call 39; (with_reducible refine Calls.mono (HO1.out _ hS) ?_); clear hS; rintro e wk ⟨⟨tp, pv, rfl⟩, hS⟩))
    exact ⟨rfl, ⟨_, _, rfl⟩, hS⟩
  | some x =>
    obtain ⟨c1, r1⟩ := x
    obtain ⟨e1, e2, e3⟩ := one_end hl h1
    have hok1 : ∀ t ∈ r1, TkOk 5000 t := fun t ht => hok t (e2 t ht)
    rw [h1] at hD HO1
    simp only at hD
    have HD := Lib.hid hD
    have hf1 : 4 * r1.length + 1 + 0 ≤ f := by omega
    clear hI hE hl hok hf hP h1 hD e2 e3
    go_enter Tryd.func29, Tryd.ntmps29
    go_wp2_with (first | ((with_reducible first | refine nhLa ?_ | refine nhLs ?_ | refine nhLd ?_ | refine nhCa ?_ | refine nhCs ?_ | refine nhCd ?_ | refine nhPa ?_ | refine nhPs ?_ | refine nhPd ?_ | refine nhKa ?_ | refine nhKs ?_ | refine nhKd ?_); ((try clear hF); clear hS; intro wk hS; (try simp only [List.set_cons_zero, List.set_cons_succ, heap_size, heap_set_size] at hS); ((try clear hF); (first | have hF := And.intro hS.facts (HRD.out _ (hS.sub (by first | simp | ((repeat (first | exact List.nil_sublist _ | exact List.Sublist.refl _ | with_reducible apply List.Sublist.cons₂ | apply List.Sublist.cons)))))) | have hF := And.intro hS.facts (hR.at hS.ext) | have hF := hS.facts); simp only [HFacts, cellFacts, RFacts, cellOnly, and_true, true_and, Nat.zero_add, Nat.reduceAdd] at hF))) | (go_at_call 39; (with_reducible refine Calls.mono (HO1.out _ hS) ?_); clear hS; rintro e wk ⟨v, K, y2, rfl, HC, HY2, hS⟩))
    go_loopw [5] (fun c wr => ∃ (v : Option Addr) (K : List Item) (ct : CT) (l1 : List Tk) (y1 : Item) (f1 : Nat), c = .pointer v ∧ Hid (D = andQ f1 d ct l1) ∧ 4 * l1.length + 1 + 0 ≤ f1 ∧ f1 ≤ f ∧ EndT l1 ∧ (∀ t ∈ l1, TkOk 5000 t) ∧ CondIn B w0 K (.pointer v) ct ∧ PAt B w0 R gt gp l1 y1 ∧ Hp B w0 wr (y1 :: R :: (K ++ M))) (fun _ wr => lenAt gp wr)
    case atStart => exact ⟨v, K, c1, r1, y2, f, rfl, HD, hf1, Nat.le_refl _, e1, hok1, HC, HY2, hS⟩
    case round =>
      clear hS HD HO1 HC HY2 hf1 e1 hok1
      obtain ⟨v, K, ct, l1, y1, f1, rfl, HD, hf1, hff, e1, hok1, HC, HY, hS⟩ := hrel
      have HLN := Lib.hid (lenAt_of HY hS)
      obtain ⟨f1, rfl⟩ : ∃ g, f1 = g + 1 := ⟨f1 - 1, by omega⟩
      cases hb : seeT l1 andL with
      | false =>
        have HT := Lib.hid (fun (W : World) (h : Hp B w0 W (y1 :: R :: (K ++ M))) => take_no ⟨#[97, 110, 100]⟩ e1 HY hb h)
        have HD2 := Lib.hid (show D = some (ct, l1) by rw [HD.out]; simp only [andQ, hb, Bool.false_eq_true, if_false])
        clear HD hb HLN HI HEV hf1 hff e1 hok1
        have HD3 := HD2.out
        subst HD3
        go_wp2_with (first | ((with_reducible first | refine nhLa ?_ | refine nhLs ?_ | refine nhLd ?_ | refine nhCa ?_ | refine nhCs ?_ | refine nhCd ?_ | refine nhPa ?_ | refine nhPs ?_ | refine nhPd ?_ | refine nhKa ?_ | refine nhKs ?_ | refine nhKd ?_); ((try clear hF); clear hS; intro wk hS; (try simp only [List.set_cons_zero, List.set_cons_succ, heap_size, heap_set_size] at hS); ((try clear hF); (first | have hF := And.intro hS.facts (HRD.out _ (hS.sub (by first | simp | ((repeat (first | exact List.nil_sublist _ | exact List.Sublist.refl _ | with_reducible apply List.Sublist.cons₂ | apply List.Sublist.cons)))))) | have hF := And.intro hS.facts (hR.at hS.ext) | have hF := hS.facts); simp only [HFacts, cellFacts, RFacts, cellOnly, and_true, true_and, Nat.zero_add, Nat.reduceAdd] at hF))) | (go_at_call 30; (with_reducible refine Calls.mono (HT.out _ hS) ?_); clear hS; rintro e wk ⟨rfl, y', HY', hS⟩))
        go_ret
        exact ⟨v, K, y', rfl, HC, HY', hS⟩
      | true =>
        have hE2 := e1.tail hb
        have hlen := see_tail hb
        have hok2 : ∀ t ∈ l1.tail, TkOk 5000 t := fun t ht => hok1 t (List.mem_of_mem_tail ht)
        have HT := Lib.hid (fun (W : World) (h : Hp B w0 W (y1 :: R :: (K ++ M))) => take_yes ⟨#[97, 110, 100]⟩ e1 HY hb h)
        have HO := Lib.hid (fun (y' : Item) (h' : PAt B w0 R gt gp l1.tail y') (W : World) (h : Hp B w0 W (y' :: R :: (K ++ M))) => HI.out f1 (by omega) d HEV.out hE2 hok2 (by omega) hd h' h)
        cases h1 : oneP f1 d l1.tail with
        | none =>
          have HD1 : D = none := by rw [HD.out]; simp only [andQ, hb, if_true, h1]
          rw [h1] at HO
          clear HD
          clear HI HEV hf1 hff e1 hok1 hb hE2 hlen hok2 h1 HLN
          subst HD1
          go_wp2_with (first | ((with_reducible first | refine nhLa ?_ | refine nhLs ?_ | refine nhLd ?_ | refine nhCa ?_ | refine nhCs ?_ | refine nhCd ?_ | refine nhPa ?_ | refine nhPs ?_ | refine nhPd ?_ | refine nhKa ?_ | refine nhKs ?_ | refine nhKd ?_); ((try clear hF); clear hS; intro wk hS; (try simp only [List.set_cons_zero, List.set_cons_succ, heap_size, heap_set_size] at hS); ((try clear hF); (first | have hF := And.intro hS.facts (HRD.out _ (hS.sub (by first | simp | ((repeat (first | exact List.nil_sublist _ | exact List.Sublist.refl _ | with_reducible apply List.Sublist.cons₂ | apply List.Sublist.cons)))))) | have hF := And.intro hS.facts (hR.at hS.ext) | have hF := hS.facts); simp only [HFacts, cellFacts, RFacts, cellOnly, and_true, true_and, Nat.zero_add, Nat.reduceAdd] at hF))) | (go_at_call 30; (with_reducible refine Calls.mono (HT.out _ hS) ?_); clear hS; rintro e wk ⟨rfl, y', HY', hS⟩) | (go_at_call 39; (with_reducible refine Calls.mono (HO.out _ HY' _ hS) ?_); clear hS; rintro e wk ⟨⟨tp, pv, rfl⟩, hS⟩))
          exact ⟨rfl, ⟨_, _, rfl⟩, hS.sub (List.sublist_append_right K M)⟩
        | some x =>
          obtain ⟨c2, r2⟩ := x
          obtain ⟨k1, k2, k3⟩ := one_end hE2 h1
          have hok3 : ∀ t ∈ r2, TkOk 5000 t := fun t ht => hok2 t (k2 t ht)
          have hf2 : 4 * r2.length + 1 + 0 ≤ f1 := by omega
          have hlt : r2.length < l1.length := by omega
          have HD1 : D = andQ f1 d (opA 9 ct c2) r2 := by rw [HD.out]; simp only [andQ, hb, if_true, h1]
          rw [h1] at HO
          clear HD
          have HD := Lib.hid HD1
          have hff2 : f1 ≤ f := by omega
          clear HD1 HI HEV hf1 hff e1 hok1 hb hE2 hlen hok2 h1 k2 k3
          go_wp2_with (first | ((with_reducible first | refine nhLa ?_ | refine nhLs ?_ | refine nhLd ?_ | refine nhCa ?_ | refine nhCs ?_ | refine nhCd ?_ | refine nhPa ?_ | refine nhPs ?_ | refine nhPd ?_ | refine nhKa ?_ | refine nhKs ?_ | refine nhKd ?_); ((try clear hF); clear hS; intro wk hS; (try simp only [List.set_cons_zero, List.set_cons_succ, heap_size, heap_set_size] at hS); ((try clear hF); (first | have hF := And.intro hS.facts (HRD.out _ (hS.sub (by first | simp | ((repeat (first | exact List.nil_sublist _ | exact List.Sublist.refl _ | with_reducible apply List.Sublist.cons₂ | apply List.Sublist.cons)))))) | have hF := And.intro hS.facts (hR.at hS.ext) | have hF := hS.facts); simp only [HFacts, cellFacts, RFacts, cellOnly, and_true, true_and, Nat.zero_add, Nat.reduceAdd] at hF))) | (go_at_call 30; (with_reducible refine Calls.mono (HT.out _ hS) ?_); clear hS; rintro e wk ⟨rfl, y', HY', hS⟩) | (go_at_call 39; (with_reducible refine Calls.mono (HO.out _ HY' _ hS) ?_); clear hS; rintro e wk ⟨v2, K2, y2, rfl, HC2, HY2, hS⟩))
          have HFIN := grow_perm (hS.alloc [.int .i64 9, .string ⟨#[]⟩, .int .i64 0, .int .i64 0, .string ⟨#[]⟩, .pointer v, .pointer v2] 49)
          go_roundw
          case rel => exact ⟨_, _, _, r2, y2, f1, rfl, HD, hf2, hff2, k1, hok3, CondIn.node HC HC2 _ _ _ _ _ _, HY2, HFIN⟩
          case measure => rw [HLN.out, lenAt_of HY2 HFIN]; exact hlt
set_option maxRecDepth 100000 in
set_option maxHeartbeats 8000000 in
theorem or_any (f : Nat) (hI : ∀ g, g ≤ f → AndC g) : OrC (f + 1) := by
  intro B w0 w R gt gp l y M d hE hl hok hf hd hP hS
  have HO1 := Lib.hid (fun (W : World) (h : Hp B w0 W (y :: R :: M)) => hI f (Nat.le_refl _) d hE hl hok (by omega) hd hP h)
  have HI := Lib.hid hI
  have HEV := Lib.hid hE
  obtain ⟨D, hD⟩ : ∃ D, D = orP (f + 1) d l := ⟨_, rfl⟩
  rw [← hD]
  simp only [orP] at hD
  cases h1 : andP f d l with
  | none =>
    rw [h1] at hD HO1
    simp only at hD
    subst hD
    clear hI hE hl hok hf hP h1
    go_enter Tryd.func14, Tryd.ntmps14
    go_wp2_with (first | ((with_reducible first | refine nhLa ?_ | refine nhLs ?_ | refine nhLd ?_ | refine nhCa ?_ | refine nhCs ?_ | refine nhCd ?_ | refine nhPa ?_ | refine nhPs ?_ | refine nhPd ?_ | refine nhKa ?_ | refine nhKs ?_ | refine nhKd ?_); ((try clear hF); clear hS; intro wk hS; (try simp only [List.set_cons_zero, List.set_cons_succ, heap_size, heap_set_size] at hS); ((try clear hF); (first | have hF := And.intro hS.facts (HRD.out _ (hS.sub (by first | simp | ((repeat (first | exact List.nil_sublist _ | exact List.Sublist.refl _ | with_reducible apply List.Sublist.cons₂ | apply List.Sublist.cons)))))) | have hF := And.intro hS.facts (hR.at hS.ext) | have hF := hS.facts); simp only [HFacts, cellFacts, RFacts, cellOnly, and_true, true_and, Nat.zero_add, Nat.reduceAdd] at hF))) | (go_at_call 29; (with_reducible refine Calls.mono (HO1.out _ hS) ?_); clear hS; rintro e wk ⟨⟨tp, pv, rfl⟩, hS⟩))
    exact ⟨rfl, ⟨_, _, rfl⟩, hS⟩
  | some x =>
    obtain ⟨c1, r1⟩ := x
    obtain ⟨e1, e2, e3⟩ := and_end hl h1
    have hok1 : ∀ t ∈ r1, TkOk 5000 t := fun t ht => hok t (e2 t ht)
    rw [h1] at hD HO1
    simp only at hD
    have HD := Lib.hid hD
    have hf1 : 4 * r1.length + 1 + 1 ≤ f := by omega
    clear hI hE hl hok hf hP h1 hD e2 e3
    go_enter Tryd.func14, Tryd.ntmps14
    go_wp2_with (first | ((with_reducible first | refine nhLa ?_ | refine nhLs ?_ | refine nhLd ?_ | refine nhCa ?_ | refine nhCs ?_ | refine nhCd ?_ | refine nhPa ?_ | refine nhPs ?_ | refine nhPd ?_ | refine nhKa ?_ | refine nhKs ?_ | refine nhKd ?_); ((try clear hF); clear hS; intro wk hS; (try simp only [List.set_cons_zero, List.set_cons_succ, heap_size, heap_set_size] at hS); ((try clear hF); (first | have hF := And.intro hS.facts (HRD.out _ (hS.sub (by first | simp | ((repeat (first | exact List.nil_sublist _ | exact List.Sublist.refl _ | with_reducible apply List.Sublist.cons₂ | apply List.Sublist.cons)))))) | have hF := And.intro hS.facts (hR.at hS.ext) | have hF := hS.facts); simp only [HFacts, cellFacts, RFacts, cellOnly, and_true, true_and, Nat.zero_add, Nat.reduceAdd] at hF))) | (go_at_call 29; (with_reducible refine Calls.mono (HO1.out _ hS) ?_); clear hS; rintro e wk ⟨v, K, y2, rfl, HC, HY2, hS⟩))
    go_loopw [5] (fun c wr => ∃ (v : Option Addr) (K : List Item) (ct : CT) (l1 : List Tk) (y1 : Item) (f1 : Nat), c = .pointer v ∧ Hid (D = orQ f1 d ct l1) ∧ 4 * l1.length + 1 + 1 ≤ f1 ∧ f1 ≤ f ∧ EndT l1 ∧ (∀ t ∈ l1, TkOk 5000 t) ∧ CondIn B w0 K (.pointer v) ct ∧ PAt B w0 R gt gp l1 y1 ∧ Hp B w0 wr (y1 :: R :: (K ++ M))) (fun _ wr => lenAt gp wr)
    case atStart => exact ⟨v, K, c1, r1, y2, f, rfl, HD, hf1, Nat.le_refl _, e1, hok1, HC, HY2, hS⟩
    case round =>
      clear hS HD HO1 HC HY2 hf1 e1 hok1
      obtain ⟨v, K, ct, l1, y1, f1, rfl, HD, hf1, hff, e1, hok1, HC, HY, hS⟩ := hrel
      have HLN := Lib.hid (lenAt_of HY hS)
      obtain ⟨f1, rfl⟩ : ∃ g, f1 = g + 1 := ⟨f1 - 1, by omega⟩
      cases hb : seeT l1 orL with
      | false =>
        have HT := Lib.hid (fun (W : World) (h : Hp B w0 W (y1 :: R :: (K ++ M))) => take_no ⟨#[111, 114]⟩ e1 HY hb h)
        have HD2 := Lib.hid (show D = some (ct, l1) by rw [HD.out]; simp only [orQ, hb, Bool.false_eq_true, if_false])
        clear HD hb HLN HI HEV hf1 hff e1 hok1
        have HD3 := HD2.out
        subst HD3
        go_wp2_with (first | ((with_reducible first | refine nhLa ?_ | refine nhLs ?_ | refine nhLd ?_ | refine nhCa ?_ | refine nhCs ?_ | refine nhCd ?_ | refine nhPa ?_ | refine nhPs ?_ | refine nhPd ?_ | refine nhKa ?_ | refine nhKs ?_ | refine nhKd ?_); ((try clear hF); clear hS; intro wk hS; (try simp only [List.set_cons_zero, List.set_cons_succ, heap_size, heap_set_size] at hS); ((try clear hF); (first | have hF := And.intro hS.facts (HRD.out _ (hS.sub (by first | simp | ((repeat (first | exact List.nil_sublist _ | exact List.Sublist.refl _ | with_reducible apply List.Sublist.cons₂ | apply List.Sublist.cons)))))) | have hF := And.intro hS.facts (hR.at hS.ext) | have hF := hS.facts); simp only [HFacts, cellFacts, RFacts, cellOnly, and_true, true_and, Nat.zero_add, Nat.reduceAdd] at hF))) | (go_at_call 30; (with_reducible refine Calls.mono (HT.out _ hS) ?_); clear hS; rintro e wk ⟨rfl, y', HY', hS⟩))
        go_ret
        exact ⟨v, K, y', rfl, HC, HY', hS⟩
      | true =>
        have hE2 := e1.tail hb
        have hlen := see_tail hb
        have hok2 : ∀ t ∈ l1.tail, TkOk 5000 t := fun t ht => hok1 t (List.mem_of_mem_tail ht)
        have HT := Lib.hid (fun (W : World) (h : Hp B w0 W (y1 :: R :: (K ++ M))) => take_yes ⟨#[111, 114]⟩ e1 HY hb h)
        have HO := Lib.hid (fun (y' : Item) (h' : PAt B w0 R gt gp l1.tail y') (W : World) (h : Hp B w0 W (y' :: R :: (K ++ M))) => HI.out f1 (by omega) d HEV.out hE2 hok2 (by omega) hd h' h)
        cases h1 : andP f1 d l1.tail with
        | none =>
          have HD1 : D = none := by rw [HD.out]; simp only [orQ, hb, if_true, h1]
          rw [h1] at HO
          clear HD
          clear HI HEV hf1 hff e1 hok1 hb hE2 hlen hok2 h1 HLN
          subst HD1
          go_wp2_with (first | ((with_reducible first | refine nhLa ?_ | refine nhLs ?_ | refine nhLd ?_ | refine nhCa ?_ | refine nhCs ?_ | refine nhCd ?_ | refine nhPa ?_ | refine nhPs ?_ | refine nhPd ?_ | refine nhKa ?_ | refine nhKs ?_ | refine nhKd ?_); ((try clear hF); clear hS; intro wk hS; (try simp only [List.set_cons_zero, List.set_cons_succ, heap_size, heap_set_size] at hS); ((try clear hF); (first | have hF := And.intro hS.facts (HRD.out _ (hS.sub (by first | simp | ((repeat (first | exact List.nil_sublist _ | exact List.Sublist.refl _ | with_reducible apply List.Sublist.cons₂ | apply List.Sublist.cons)))))) | have hF := And.intro hS.facts (hR.at hS.ext) | have hF := hS.facts); simp only [HFacts, cellFacts, RFacts, cellOnly, and_true, true_and, Nat.zero_add, Nat.reduceAdd] at hF))) | (go_at_call 30; (with_reducible refine Calls.mono (HT.out _ hS) ?_); clear hS; rintro e wk ⟨rfl, y', HY', hS⟩) | (go_at_call 29; (with_reducible refine Calls.mono (HO.out _ HY' _ hS) ?_); clear hS; rintro e wk ⟨⟨tp, pv, rfl⟩, hS⟩))
          exact ⟨rfl, ⟨_, _, rfl⟩, hS.sub (List.sublist_append_right K M)⟩
        | some x =>
          obtain ⟨c2, r2⟩ := x
          obtain ⟨k1, k2, k3⟩ := and_end hE2 h1
          have hok3 : ∀ t ∈ r2, TkOk 5000 t := fun t ht => hok2 t (k2 t ht)
          have hf2 : 4 * r2.length + 1 + 1 ≤ f1 := by omega
          have hlt : r2.length < l1.length := by omega
          have HD1 : D = orQ f1 d (opA 10 ct c2) r2 := by rw [HD.out]; simp only [orQ, hb, if_true, h1]
          rw [h1] at HO
          clear HD
          have HD := Lib.hid HD1
          have hff2 : f1 ≤ f := by omega
          clear HD1 HI HEV hf1 hff e1 hok1 hb hE2 hlen hok2 h1 k2 k3
          go_wp2_with (first | ((with_reducible first | refine nhLa ?_ | refine nhLs ?_ | refine nhLd ?_ | refine nhCa ?_ | refine nhCs ?_ | refine nhCd ?_ | refine nhPa ?_ | refine nhPs ?_ | refine nhPd ?_ | refine nhKa ?_ | refine nhKs ?_ | refine nhKd ?_); ((try clear hF); clear hS; intro wk hS; (try simp only [List.set_cons_zero, List.set_cons_succ, heap_size, heap_set_size] at hS); ((try clear hF); (first | have hF := And.intro hS.facts (HRD.out _ (hS.sub (by first | simp | ((repeat (first | exact List.nil_sublist _ | exact List.Sublist.refl _ | with_reducible apply List.Sublist.cons₂ | apply List.Sublist.cons)))))) | have hF := And.intro hS.facts (hR.at hS.ext) | have hF := hS.facts); simp only [HFacts, cellFacts, RFacts, cellOnly, and_true, true_and, Nat.zero_add, Nat.reduceAdd] at hF))) | (go_at_call 30; (with_reducible refine Calls.mono (HT.out _ hS) ?_); clear hS; rintro e wk ⟨rfl, y', HY', hS⟩) | (go_at_call 29; (with_reducible refine Calls.mono (HO.out _ HY' _ hS) ?_); clear hS; rintro e wk ⟨v2, K2, y2, rfl, HC2, HY2, hS⟩))
          have HFIN := grow_perm (hS.alloc [.int .i64 10, .string ⟨#[]⟩, .int .i64 0, .int .i64 0, .string ⟨#[]⟩, .pointer v, .pointer v2] 49)
          go_roundw
          case rel => exact ⟨_, _, _, r2, y2, f1, rfl, HD, hf2, hff2, k1, hok3, CondIn.node HC HC2 _ _ _ _ _ _, HY2, HFIN⟩
          case measure => rw [HLN.out, lenAt_of HY2 HFIN]; exact hlt
end Go.Proofs.YtmfilblbofkmcaaDoor

/- ask.whole: what is thrown is caught. -/
namespace Go.Proofs.YtmfilblbofkmcaaDoor
set_option linter.unusedSimpArgs false
set_option linter.unusedVariables false
open Go.RowKit
set_option linter.all false
def wrongV (tp : TypeId) (pv : Value) : Value := .iface 61 (.agg #[.iface tp pv])
@[go_sem] theorem run_assert_wrong (xT tp : TypeId) (pv : Value) (w : World) : (Instr.typeAssert (.iface 61 (.agg #[.iface tp pv])) xT 61 true).run Tryd.prog w = .ok (.tuple #[.agg #[.iface tp pv], .bool true]) w := by kernel_rfl
theorem wp_post {P : Program} {c : Code} {Q : Exit → Act → World → Prop} {a : Act} {w : World} (I : Act → World → Prop) (hI : ∀ a' w', I a' w' → Q .normal a' w') (h : ∀ Q' : Exit → Act → World → Prop, (∀ a' w', I a' w' → Q' .normal a' w') → Code.wp P c Q' a w) : Code.wp P c Q a w := h Q hI
set_option maxRecDepth 100000 in
set_option maxHeartbeats 8000000 in
theorem catch_pan {B : Nat} {w0 w : World} {L : List Item} (go ge : Nat) (ov ev : Value) (tp : TypeId) (pv : Value) (hS : Hp B w0 w (.blk ge [ev] 28 :: .blk go [ov] 26 :: L)) :
    CallsD Tryd.prog 26 #[.pointer (some ⟨go, 0, none⟩), .pointer (some ⟨ge, 0, none⟩)] (.panicking ({ v := wrongV tp pv, recovered := false } :: [])) w fun e u' w' =>
      e = .returned (.tuple #[]) ∧ u' = .panicking ({ v := wrongV tp pv, recovered := true } :: []) ∧ Hp B w0 w' (.blk ge [.iface tp pv] 28 :: .blk go [.pointer none] 26 :: L) := by
  have hR := Reads.nil w
  unfold wrongV
  refine callsD_of_wpS Tryd.func26 rfl fun c₀ cs hu => ?_
  simp only [Tryd.ntmps26, List.size_toArray, List.length_cons, List.length_nil, Nat.reduceAdd, Nat.reduceSub, Array.replicate_succ, Array.replicate_zero, List.push_toArray, List.append_toArray, List.nil_append, List.cons_append]
  apply wpS_seq
  apply wpS_region
  simp [wpOpsS, go_sem, recoverD, hu, Exit.thenS]
  refine wpS_of_wp ?_
  refine wp_post (fun a' w' => a'.defers = [] ∧ Hp B w0 w' (.blk ge [.iface tp pv] 28 :: .blk go [.pointer none] 26 :: L)) ?_ ?_
  · rintro a' w' ⟨hd, hw⟩
    simp [bodyPostS, results, Tryd.results26, hd, hw]
  intro QQ hQQ
  ((try clear hF); (first | have hF := And.intro hS.facts (HRD.out _ (hS.sub (by first | simp | ((repeat (first | exact List.nil_sublist _ | exact List.Sublist.refl _ | with_reducible apply List.Sublist.cons₂ | apply List.Sublist.cons)))))) | have hF := And.intro hS.facts (hR.at hS.ext) | have hF := hS.facts); simp only [HFacts, cellFacts, RFacts, cellOnly, and_true, true_and, Nat.zero_add, Nat.reduceAdd] at hF)
  go_wp2_with (first | ((with_reducible first | refine nhLa ?_ | refine nhLs ?_ | refine nhLd ?_ | refine nhCa ?_ | refine nhCs ?_ | refine nhCd ?_ | refine nhPa ?_ | refine nhPs ?_ | refine nhPd ?_ | refine nhKa ?_ | refine nhKs ?_ | refine nhKd ?_); ((try clear hF); clear hS; intro wk hS; (try simp only [List.set_cons_zero, List.set_cons_succ, heap_size, heap_set_size] at hS); ((try clear hF); (first | have hF := And.intro hS.facts (HRD.out _ (hS.sub (by first | simp | ((repeat (first | exact List.nil_sublist _ | exact List.Sublist.refl _ | with_reducible apply List.Sublist.cons₂ | apply List.Sublist.cons)))))) | have hF := And.intro hS.facts (hR.at hS.ext) | have hF := hS.facts); simp only [HFacts, cellFacts, RFacts, cellOnly, and_true, true_and, Nat.zero_add, Nat.reduceAdd] at hF))) | fail)
  have n1 : go ≠ ge := by
    intro e
    have := List.pairwise_cons.1 hS.tail.apart
    rcases this.1 (.blk go [ov] 26) (by simp) with h | h
    · cases h
    · exact h (by simp [Item.block, e])
  have n1' : ge ≠ go := fun e => n1 e.symm
  have n2 : w.heap.size ≠ go := by
    intro e
    have := List.pairwise_cons.1 hS.apart
    rcases this.1 (.blk go [ov] 26) (by simp) with h | h
    · cases h
    · exact h (by simp [Item.block, e])
  have n3 : w.heap.size ≠ ge := by
    intro e
    have := List.pairwise_cons.1 hS.apart
    rcases this.1 (.blk ge [ev] 28) (by simp) with h | h
    · cases h
    · exact h (by simp [Item.block, e])
  have n2' : go ≠ w.heap.size := fun e => n2 e.symm
  have n3' : ge ≠ w.heap.size := fun e => n3 e.symm
  go_region
  refine hQQ _ _ ⟨rfl, ?_⟩
  exact (((hS.put (i := 2) (j := 0) (u := .pointer none) rfl).put (i := 1) (j := 0) (u := .iface tp pv) rfl).drew).tail
set_option maxRecDepth 100000 in
set_option maxHeartbeats 8000000 in
theorem catch_idle (go ge : Nat) (w : World) :
    CallsD Tryd.prog 26 #[.pointer (some ⟨go, 0, none⟩), .pointer (some ⟨ge, 0, none⟩)] .returning w fun e u' w' => e = .returned (.tuple #[]) ∧ u' = .returning ∧ w' = w := by
  refine callsD_of_wpS Tryd.func26 rfl fun c₀ cs hu => ?_
  simp only [Tryd.ntmps26, List.size_toArray, List.length_cons, List.length_nil, Nat.reduceAdd, Nat.reduceSub, Array.replicate_succ, Array.replicate_zero, List.push_toArray, List.append_toArray, List.nil_append, List.cons_append]
  apply wpS_seq
  apply wpS_region
  simp [wpOpsS, go_sem, recoverD, hu, Exit.thenS]
  refine wpS_of_wp ?_
  refine wp_post (fun a' w' => a'.defers = [] ∧ w' = w) ?_ ?_
  · rintro a' w' ⟨hd, rfl⟩
    cases c₀
    simp_all [bodyPostS, results, Tryd.results26]
  intro QQ hQQ
  go_wp2
end Go.Proofs.YtmfilblbofkmcaaDoor
