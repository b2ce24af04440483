/- Texts joined: ask.Parse's closure: what tokens ask. (Printed by genquery.py.) query.plan: where all columns stand. -/
import Derived.Test.YtlaldfkeaalnhaaGreatDoorQA22
import Derived.Test.YtlaldfkeaalnhaaGreatDoorQA16
import Derived.Deep.DeepCutAuto
import Derived.Test.YtlaldfkeaalnhaaGreatDoorQA15
/- ask.Parse's closure: what tokens ask. (Printed by genquery.py.) -/
namespace Go.Proofs.YtlaldfkeaalnhaaGreatDoor
set_option linter.unusedSimpArgs false
set_option linter.unusedVariables false
open Go.RowKit
set_option linter.all false
theorem Hp.nameQ {B : Nat} {w0 w : World} {L : List Item} (_ : Hp B w0 w L) {g : Nat} {cs : List Value} {T : TypeId} (i : Nat) (_ : L[i]? = some (.blk g cs T)) : ∃ g', g' = g := ⟨g, rfl⟩
def RIt (w : World) (A : Option Addr) (l : List IT) : Prop := ∀ (k : Nat) (x : IT), l[k]? = some x → ∃ b o : Nat, A = some ⟨b, o, none⟩ ∧ w.cell? ⟨b, o + k * 2, none⟩ = some (.string x.fn) ∧ w.cell? ⟨b, o + k * 2 + 1, none⟩ = some (.string x.col)
def RTx (w : World) (A : Option Addr) (l : List ByteArray) : Prop := ∀ (k : Nat) (x : ByteArray), l[k]? = some x → ∃ b o : Nat, A = some ⟨b, o, none⟩ ∧ w.cell? ⟨b, o + k, none⟩ = some (.string x)
def ROr (w : World) (A : Option Addr) (l : List (Int × Bool)) : Prop := ∀ (k : Nat) (x : Int × Bool), l[k]? = some x → ∃ b o : Nat, A = some ⟨b, o, none⟩ ∧ w.cell? ⟨b, o + k * 2, none⟩ = some (.int .i64 x.1) ∧ w.cell? ⟨b, o + k * 2 + 1, none⟩ = some (.bool x.2)
theorem RIt.ext {w w' : World} {A : Option Addr} {l : List IT} (h : RIt w A l) (hx : Ext w w') : RIt w' A l := fun k x hk => by
  obtain ⟨b, o, e, c0, c1⟩ := h k x hk
  exact ⟨b, o, e, hx.keeps c0, hx.keeps c1⟩
theorem RTx.ext {w w' : World} {A : Option Addr} {l : List ByteArray} (h : RTx w A l) (hx : Ext w w') : RTx w' A l := fun k x hk => by
  obtain ⟨b, o, e, c0⟩ := h k x hk
  exact ⟨b, o, e, hx.keeps c0⟩
theorem ROr.ext {w w' : World} {A : Option Addr} {l : List (Int × Bool)} (h : ROr w A l) (hx : Ext w w') : ROr w' A l := fun k x hk => by
  obtain ⟨b, o, e, c0, c1⟩ := h k x hk
  exact ⟨b, o, e, hx.keeps c0, hx.keeps c1⟩
/-- where a question lies -/
structure QV where
  ia : Option Addr
  im : Nat
  ic : Nat
  wp : Option Addr
  ba : Option Addr
  bn : Nat
  bc : Nat
  oa : Option Addr
  om : Nat
  oc : Nat
  lim : Int
abbrev qC (v : QV) : List Value := [.slice v.ia v.im v.ic, .pointer v.wp, .slice v.ba v.bn v.bc, .slice v.oa v.om v.oc, .int .i64 v.lim]
abbrev qV (v : QV) : Value := .agg #[.slice v.ia v.im v.ic, .pointer v.wp, .slice v.ba v.bn v.bc, .slice v.oa v.om v.oc, .int .i64 v.lim]
structure QRead (w : World) (v : QV) (q : QG) : Prop where
  il : q.items.length = v.im
  ir : RIt w v.ia q.items
  ib : v.im ≤ 1000
  wr : CondAt w (.pointer v.wp) q.whr
  bl : q.by_.length = v.bn
  br : RTx w v.ba q.by_
  bb : v.bn ≤ 1000
  ol : q.ord.length = v.om
  or_ : ROr w v.oa q.ord
  ob : v.om ≤ 1000
  lm : v.lim = q.limit
theorem QRead.ext {w w' : World} {v : QV} {q : QG} (h : QRead w v q) (hx : Ext w w') : QRead w' v q := ⟨h.il, h.ir.ext hx, h.ib, h.wr.ext hx, h.bl, h.br.ext hx, h.bb, h.ol, h.or_.ext hx, h.ob, h.lm⟩
def QIn (B : Nat) (w0 : World) (X : List Item) (v : QV) (q : QG) : Prop := ∀ W, Hp B w0 W X → QRead W v q
theorem cellsQI_at : ∀ (l : List IT) (k : Nat) (x : IT), l[k]? = some x → (cellsQI l)[k * 2]? = some (.string x.fn) ∧ (cellsQI l)[k * 2 + 1]? = some (.string x.col)
  | [], k, x, h => by simp at h
  | y :: l, 0, x, h => by simp at h; subst h; simp [cellsQI]
  | y :: l, k + 1, x, h => by
    have := cellsQI_at l k x (by simpa using h)
    rw [show (k + 1) * 2 = k * 2 + 2 by omega]
    simpa [cellsQI] using this
theorem cellsQS_at : ∀ (l : List ByteArray) (k : Nat) (x : ByteArray), l[k]? = some x → (cellsQS l)[k]? = some (.string x)
  | [], k, x, h => by simp at h
  | y :: l, 0, x, h => by simp at h; subst h; simp [cellsQS]
  | y :: l, k + 1, x, h => by
    have := cellsQS_at l k x (by simpa using h)
    simpa [cellsQS] using this
theorem cellsQO_at : ∀ (l : List (Int × Bool)) (k : Nat) (x : Int × Bool), l[k]? = some x → (cellsQO l)[k * 2]? = some (.int .i64 x.1) ∧ (cellsQO l)[k * 2 + 1]? = some (.bool x.2)
  | [], k, x, h => by simp at h
  | y :: l, 0, x, h => by simp at h; subst h; simp [cellsQO]
  | y :: l, k + 1, x, h => by
    have := cellsQO_at l k x (by simpa using h)
    rw [show (k + 1) * 2 = k * 2 + 2 by omega]
    simpa [cellsQO] using this
section
variable {B : Nat} {w0 W : World} {X K L M Z : List Item} {v : QV} {q : QG} {A : Option Addr} {n cap : Nat}
theorem Hp.rit {l : List IT} {T : TypeId} (h : Hp B w0 W (.row T 2 A n cap (cellsQI l) :: L)) : RIt W A l := fun k x hk => by
  obtain ⟨h1, h2⟩ := cellsQI_at l k x hk
  obtain ⟨g, rfl, c1, _⟩ := h.rowCell 0 rfl h1
  obtain ⟨g2, e, c2, _⟩ := h.rowCell 0 rfl h2
  obtain rfl : g = g2 := by simpa using e
  exact ⟨g, 0, rfl, by rw [Nat.zero_add]; exact c1, by rw [Nat.zero_add]; exact c2⟩
theorem Hp.rst {l : List ByteArray} {T : TypeId} (h : Hp B w0 W (.row T 1 A n cap (cellsQS l) :: L)) : RTx W A l := fun k x hk => by
  obtain ⟨g, rfl, c1, _⟩ := h.rowCell 0 rfl (cellsQS_at l k x hk)
  exact ⟨g, 0, rfl, by rw [Nat.zero_add]; exact c1⟩
theorem Hp.ror {l : List (Int × Bool)} {T : TypeId} (h : Hp B w0 W (.row T 2 A n cap (cellsQO l) :: L)) : ROr W A l := fun k x hk => by
  obtain ⟨h1, h2⟩ := cellsQO_at l k x hk
  obtain ⟨g, rfl, c1, _⟩ := h.rowCell 0 rfl h1
  obtain ⟨g2, e, c2, _⟩ := h.rowCell 0 rfl h2
  obtain rfl : g = g2 := by simpa using e
  exact ⟨g, 0, rfl, by rw [Nat.zero_add]; exact c1, by rw [Nat.zero_add]; exact c2⟩
theorem QIn.start {l : List IT} {T : TypeId} (hn : l.length = n) (hb : n ≤ 1000) : QIn B w0 [.row T 2 A n cap (cellsQI l)] ⟨A, n, cap, none, none, 0, 0, none, 0, 0, 0⟩ ⟨l, .nil, [], [], 0⟩ := fun W h =>
  ⟨hn, h.rit, hb, rfl, rfl, fun k x h => by simp at h, Nat.zero_le _, rfl, fun k x h => by simp at h, Nat.zero_le _, rfl⟩
theorem QIn.whr {p : Option Addr} {c : CT} (h : QIn B w0 X v q) (hc : CondIn B w0 K (.pointer p) c) : QIn B w0 (K ++ X) { v with wp := p } { q with whr := c } := fun W hW =>
  let r := h W (hW.sub (List.sublist_append_right K X))
  ⟨r.il, r.ir, r.ib, hc W (hW.sub (List.sublist_append_left K X)), r.bl, r.br, r.bb, r.ol, r.or_, r.ob, r.lm⟩
theorem QIn.by {l : List ByteArray} {T : TypeId} (h : QIn B w0 X v q) (hn : l.length = n) (hb : n ≤ 1000) : QIn B w0 (.row T 1 A n cap (cellsQS l) :: X) { v with ba := A, bn := n, bc := cap } { q with by_ := l } := fun W hW =>
  let r := h W hW.tail
  ⟨r.il, r.ir, r.ib, r.wr, hn, hW.rst, hb, r.ol, r.or_, r.ob, r.lm⟩
theorem QIn.ord {l : List (Int × Bool)} {T : TypeId} (h : QIn B w0 X v q) (hn : l.length = n) (hb : n ≤ 1000) : QIn B w0 (.row T 2 A n cap (cellsQO l) :: X) { v with oa := A, om := n, oc := cap } { q with ord := l } := fun W hW =>
  let r := h W hW.tail
  ⟨r.il, r.ir, r.ib, r.wr, r.bl, r.br, r.bb, hn, hW.ror, hb, r.lm⟩
theorem QIn.limit (h : QIn B w0 X v q) (n : Int) : QIn B w0 X { v with lim := n } { q with limit := n } := fun W hW =>
  let r := h W hW
  ⟨r.il, r.ir, r.ib, r.wr, r.bl, r.br, r.bb, r.ol, r.or_, r.ob, rfl⟩
variable {a b c d y R : Item}
theorem rot3 (h : Hp B w0 W (a :: b :: c :: y :: R :: Z)) : Hp B w0 W (y :: R :: a :: b :: c :: Z) := h.perm (List.perm_append_comm_assoc [a, b, c] [y, R] Z).symm
theorem un3 (h : Hp B w0 W (y :: R :: a :: b :: c :: Z)) : Hp B w0 W (a :: b :: c :: y :: R :: Z) := h.perm (List.perm_append_comm_assoc [a, b, c] [y, R] Z)
theorem un3K (h : Hp B w0 W (y :: R :: (K ++ (a :: b :: c :: (X ++ M))))) : Hp B w0 W (a :: b :: c :: y :: R :: ((K ++ X) ++ M)) := by
  rw [List.append_assoc]
  refine un3 (h.perm ?_)
  exact ((List.perm_append_comm_assoc K [a, b, c] (X ++ M)).symm.cons R).cons y
theorem un3L (h : Hp B w0 W (d :: y :: R :: a :: b :: c :: (X ++ M))) : Hp B w0 W (a :: b :: c :: y :: R :: ((d :: X) ++ M)) := by
  have h1 : Hp B w0 W (y :: R :: a :: b :: c :: d :: (X ++ M)) := h.perm (List.perm_append_comm_assoc [d] [y, R, a, b, c] (X ++ M)).symm
  exact un3 h1
end
/-- the end -/
def qEnd (q : QG) (l : List Tk) : Option (QG × List Tk) := some (q, l)
theorem unL2 {B : Nat} {w0 W : World} {a b d y R : Item} {M : List Item} (h : Hp B w0 W (d :: y :: R :: a :: b :: M)) : Hp B w0 W (a :: b :: y :: R :: ([d] ++ M)) := by
  have h1 : Hp B w0 W (y :: R :: a :: b :: d :: M) := h.perm (List.perm_append_comm_assoc [d] [y, R, a, b] M).symm
  exact unB h1
theorem listQ_end {α : Type} {f : List Tk → Option (α × List Tk)} (hf : ∀ l x r, EndT l → f l = some (x, r) → EndT r ∧ (∀ t ∈ r, t ∈ l) ∧ r.length < l.length) : ∀ (k : Nat) (acc xs : List α) (l r : List Tk), EndT l → listQ f k acc l = some (xs, r) → EndT r ∧ (∀ t ∈ r, t ∈ l) ∧ r.length ≤ l.length
  | 0, acc, xs, l, r, hl, h => by simp [listQ] at h
  | k + 1, acc, xs, l, r, hl, h => by
    rw [listQ] at h
    cases hs : seeT l [44] with
    | false =>
      rw [hs] at h
      simp only [Bool.false_eq_true, if_false, Option.some.injEq, Prod.mk.injEq] at h
      obtain ⟨_, rfl⟩ := h
      exact ⟨hl, fun t h => h, Nat.le_refl _⟩
    | true =>
      rw [hs] at h
      simp only [if_true] at h
      cases h1 : f l.tail with
      | none => rw [h1] at h; cases h
      | some z =>
        obtain ⟨x, r1⟩ := z
        rw [h1] at h
        obtain ⟨e1, e2, e3⟩ := hf _ _ _ (hl.tail hs) h1
        obtain ⟨k1, k2, k3⟩ := listQ_end hf k _ _ _ _ e1 h
        exact ⟨k1, fun t ht => List.mem_of_mem_tail (e2 t (k2 t ht)), by rw [List.length_tail] at e3; omega⟩
theorem listP_end {α : Type} {f : List Tk → Option (α × List Tk)} (hf : ∀ l x r, EndT l → f l = some (x, r) → EndT r ∧ (∀ t ∈ r, t ∈ l) ∧ r.length < l.length) {xs : List α} {l r : List Tk} (hl : EndT l) (h : listP f l = some (xs, r)) : EndT r ∧ (∀ t ∈ r, t ∈ l) ∧ r.length < l.length := by
  unfold listP at h
  cases h1 : f l with
  | none => rw [h1] at h; cases h
  | some z =>
    obtain ⟨x, r1⟩ := z
    rw [h1] at h
    obtain ⟨e1, e2, e3⟩ := hf _ _ _ hl h1
    obtain ⟨k1, k2, k3⟩ := listQ_end hf _ _ _ _ _ e1 h
    exact ⟨k1, fun t ht => e2 t (k2 t ht), by omega⟩
def QuRes (B : Nat) (w0 : World) (R : Item) (gt gp : Nat) (M : List Item) (r : Option (QG × List Tk)) (e : Ending) (w' : World) : Prop := match r with
  | some (q, r) => ∃ v X y', e = .returned (qV v) ∧ Hid (QIn B w0 X v q) ∧ Hid (EndT r) ∧ PAt B w0 R gt gp r y' ∧ Hp B w0 w' (y' :: R :: (X ++ M))
  | none => Fails e ∧ Hp B w0 w' M
theorem take_kw {B : Nat} {w0 w : World} {R : Item} {gt gp : Nat} {l : List Tk} {y : Item} {M : List Item} (b : Bool) (kw : List UInt8) (hb : b = seeT l kw) (hl : EndT l) (hP : PAt B w0 R gt gp l y) (hS : Hp B w0 w (y :: R :: M)) :
    Calls Tryz.prog 39 #[.pointer (some ⟨gp, 0, none⟩), .string ⟨kw.toArray⟩] w fun e w' => e = .returned (.bool b) ∧ ∃ y', Hid (PAt B w0 R gt gp (if b then l.tail else l) y') ∧ Hp B w0 w' (y' :: R :: M) := by
  subst hb
  exact (take_any ⟨kw.toArray⟩ hl hP hS).mono fun e w' ⟨h1, y', h2, h3⟩ => ⟨h1, y', Lib.hid h2, h3⟩
set_option maxRecDepth 100000 in
set_option maxHeartbeats 16000000 in
theorem query_par {B : Nat} {w0 w : World} {R : Item} {gt gp : Nat} {l : List Tk} {y : Item} {M : List Item} (hE : EnvQ B w0 R) (hl : EndT l) (hok : ∀ t ∈ l, TkOk 5000 t) (hln : l.length ≤ 900) (hP : PAt B w0 R gt gp l y) (hS : Hp B w0 w (y :: R :: M)) :
    Calls Tryz.prog 35 #[.pointer (some ⟨gp, 0, none⟩)] w (QuRes B w0 R gt gp M (queryP l)) := by
  have HOK := Lib.hid hok
  have HE := Lib.hid hE
  obtain ⟨D, hD⟩ : ∃ D, D = queryP l := ⟨_, rfl⟩
  rw [← hD]
  unfold queryP at hD
  have HM := Lib.hid (fun (L : List Item) (W : World) (h : Hp B w0 W (y :: R :: L)) => must_any ⟨#[115, 101, 108, 101, 99, 116]⟩ hl hP h)
  clear hE hok hP
  have hR := Reads.nil w
  go_enter Tryz.func35, Tryz.ntmps35
  go_upto_region 1 with (first | (refine hab ?_; (try clear hF); clear hS; intro wk hS; (try simp only [List.set_cons_zero, List.set_cons_succ, heap_size, heap_set_size] at hS); ((try clear hF); refine hfI ?_; intro hF)) | fail)
  cases h1 : seeT l selL with
  | false => as_aux_lemma =>
    have h1' : seeT l (⟨#[115, 101, 108, 101, 99, 116]⟩ : ByteArray).data.toList = false := h1
    rw [h1'] at HM
    rw [h1] at hD
    simp only [Bool.false_eq_true, if_false] at HM hD
    subst hD
    clear h1 h1'
    go_wp2_with (first | (refine hab ?_; (try clear hF); clear hS; intro wk hS; (try simp only [List.set_cons_zero, List.set_cons_succ, heap_size, heap_set_size] at hS); ((try clear hF); refine hfI ?_; intro hF)) | (go_at_call 36; (with_reducible refine Calls.mono (HM.out _ _ (rotB hS)) ?_); clear hS; rintro e wk ⟨⟨tp, pv, rfl⟩, hS⟩))
    exact ⟨rfl, ⟨_, _, rfl⟩, hS.tail.tail⟩
  | true =>
    have h1' : seeT l (⟨#[115, 101, 108, 101, 99, 116]⟩ : ByteArray).data.toList = true := h1
    rw [h1'] at HM
    rw [h1] at hD
    simp only [if_true] at HM hD
    have hl1 := hl.tail h1
    have hlt : l.tail.length ≤ l.length := by rw [List.length_tail]; omega
    have hok1 : ∀ t ∈ l.tail, t ∈ l := fun t h => List.mem_of_mem_tail h
    obtain ⟨l1, hl1e⟩ : ∃ x, x = l.tail := ⟨_, rfl⟩
    rw [← hl1e] at HM hD hl1 hlt hok1
    clear h1 h1' hl1e
    go_upto_region 2 with (first | (refine hab ?_; (try clear hF); clear hS; intro wk hS; (try simp only [List.set_cons_zero, List.set_cons_succ, heap_size, heap_set_size] at hS); ((try clear hF); refine hfI ?_; intro hF)) | (go_at_call 36; (with_reducible refine Calls.mono (HM.out _ _ (rotB hS)) ?_); clear hS; rintro e wk ⟨rfl, y1, HY1, hS⟩; replace hS := unB hS; ((try clear hF); refine hfI ?_; intro hF)))
    have HLI := Lib.hid (fun (L : List Item) (W : World) (h : Hp B w0 W (y1 :: R :: L)) => listI_any HE.out hl1 (fun t ht => HOK.out t (hok1 t ht)) (by omega) HY1 h)
    clear HM HY1
    cases h2 : listP itemP l1 with
    | none => as_aux_lemma =>
      rw [h2] at HLI hD
      simp only at hD
      subst hD
      clear h2
      go_wp2_with (first | (refine hab ?_; (try clear hF); clear hS; intro wk hS; (try simp only [List.set_cons_zero, List.set_cons_succ, heap_size, heap_set_size] at hS); ((try clear hF); refine hfI ?_; intro hF)) | (go_at_call 37; (with_reducible refine Calls.mono (HLI.out _ _ (rotB hS)) ?_); clear hS; rintro e wk ⟨⟨tp, pv, rfl⟩, hS⟩))
      exact ⟨rfl, ⟨_, _, rfl⟩, hS.tail.tail⟩
    | some z =>
      obtain ⟨xs, r⟩ := z
      obtain ⟨hr, hro, hrl⟩ := listP_end (fun l x r => itemP_end) hl1 h2
      rw [h2] at HLI hD
      simp only at hD
      have HD := Lib.hid hD
      have HR1 := Lib.hid hr
      have HO1 := Lib.hid (fun t (h : t ∈ r) => hok1 t (hro t h))
      have HL1 := Lib.hid (show r.length ≤ l.length by omega)
      clear h2 hD hr hro hrl hok1 hl1 hl
      go_upto_region 3 with (first | (refine hab ?_; (try clear hF); clear hS; intro wk hS; (try simp only [List.set_cons_zero, List.set_cons_succ, heap_size, heap_set_size] at hS); ((try clear hF); refine hfI ?_; intro hF)) | (go_at_call 37; (with_reducible refine Calls.mono (HLI.out _ _ (rotB hS)) ?_); clear hS; rintro e wk ⟨A, n, cap, rfl, HXN, hnb, y2, HY2, hS⟩; replace hS := unL2 hS; ((try clear hF); refine hfI ?_; intro hF)))
      obtain ⟨g1, hg1⟩ := hS.nameQ 2 rfl
      rw [← hg1] at hS hF ⊢
      clear hg1
      obtain ⟨g2, hg2⟩ := hS.nameQ 1 rfl
      rw [← hg2] at hS hF ⊢
      clear hg2
      obtain ⟨g3, hg3⟩ := hS.nameQ 0 rfl
      rw [← hg3] at hS hF ⊢
      clear hg3
      have HQ0 := Lib.hid (QIn.start (B := B) (w0 := w0) (A := A) (n := n) (cap := cap) (T := 79) HXN.out hnb)
      obtain ⟨v, hv⟩ : ∃ v : QV, v = ⟨A, n, cap, none, none, 0, 0, none, 0, 0, 0⟩ := ⟨_, rfl⟩
      obtain ⟨q, hq⟩ : ∃ q : QG, q = ⟨xs, .nil, [], [], 0⟩ := ⟨_, rfl⟩
      obtain ⟨X, hX⟩ : ∃ X : List Item, X = [.row 79 2 A n cap (cellsQI xs)] := ⟨_, rfl⟩
      rw [← hq] at HD HQ0
      rw [← hv, ← hX] at HQ0
      rw [show ([.slice A n cap, .pointer none, .slice none 0 0, .slice none 0 0, .int .i64 0] : List Value) = qC v from by rw [hv], ← hX] at hS
      have HY := Lib.hid HY2
      have HQ := HQ0
      obtain ⟨l2, hl2⟩ : ∃ x, x = r := ⟨_, rfl⟩
      subst hl2
      clear hF HLI HY2 HXN hnb hv hq hX HQ0 hlt
      obtain ⟨b, hb⟩ : ∃ b, b = seeT l2 whrL := ⟨_, rfl⟩
      have HB := Lib.hid hb
      have HTW := Lib.hid (fun (L : List Item) (W : World) (h : Hp B w0 W (y2 :: R :: L)) => show Calls Tryz.prog 39 #[.pointer (some ⟨gp, 0, none⟩), .string ⟨#[119, 104, 101, 114, 101]⟩] W _ from take_kw b whrL hb HR1.out HY.out h)
      clear hb
      ((try clear hF); refine hfI ?_; intro hF)
      go_upto_if 12 with (first | (refine hab ?_; (try clear hF); clear hS; intro wk hS; (try simp only [List.set_cons_zero, List.set_cons_succ, heap_size, heap_set_size] at hS); ((try clear hF); refine hfI ?_; intro hF)) | (go_at_call 39; (with_reducible refine Calls.mono (HTW.out _ _ (rot3 hS)) ?_); clear hS; rintro e wk ⟨rfl, y3, HY3, hS⟩; replace hS := un3 hS; ((try clear hF); refine hfI ?_; intro hF)))
      go_cut [] (fun wx => ∃ (v : QV) (q : QG) (l2 : List Tk) (y2 : Item) (X : List Item), Hid (D = q2P q l2) ∧ Hid (EndT l2) ∧ Hid (∀ t ∈ l2, t ∈ l) ∧ Hid (l2.length ≤ l.length) ∧ Hid (PAt B w0 R gt gp l2 y2) ∧ Hid (QIn B w0 X v q) ∧ Hp B w0 wx (.blk g3 (qC v) 49 :: .blk g2 [.slice none 0 0, .pointer none, .slice none 0 0, .slice none 0 0, .int .i64 0] 49 :: .blk g1 [.pointer (some ⟨gp, 0, none⟩)] 75 :: y2 :: R :: (X ++ M)))
      case first =>
        cases b with
        | false => as_aux_lemma =>
          have HD2 := Lib.hid (show D = q2P q l2 by rw [HD.out, q1P, ← HB.out]; rfl)
          have HY4 := Lib.hid (show PAt B w0 R gt gp l2 y3 from HY3.out)
          go_wp2_with (first | (refine hab ?_; (try clear hF); clear hS; intro wk hS; (try simp only [List.set_cons_zero, List.set_cons_succ, heap_size, heap_set_size] at hS); ((try clear hF); refine hfI ?_; intro hF)) | fail)
          go_meet
          case rel => exact ⟨v, q, l2, y3, X, HD2, HR1, HO1, HL1, HY4, HQ, hS⟩
        | true =>
          have hl3 := HR1.out.tail HB.out.symm
          have hlt : l2.tail.length + 1 = l2.length := by have := List.length_pos_iff.2 HR1.out.ne; rw [List.length_tail]; omega
          have hok3 : ∀ t ∈ l2.tail, t ∈ l := fun t h => HO1.out t (List.mem_of_mem_tail h)
          have hD := HD.out
          rw [q1P, ← HB.out] at hD
          simp only [if_true] at hD
          have hy3 : PAt B w0 R gt gp l2.tail y3 := HY3.out
          obtain ⟨l3, hl3e⟩ : ∃ x, x = l2.tail := ⟨_, rfl⟩
          rw [← hl3e] at hD hl3 hlt hok3 hy3
          have hln3 : l3.length ≤ 900 := by have := HL1.out; omega
          have HAC := Lib.hid (fun (L : List Item) (W : World) (h : Hp B w0 W (y3 :: R :: L)) => show Calls Tryz.prog 40 #[.pointer (some ⟨gp, 0, none⟩), .int .i64 0] W _ from (all_any (4 * l3.length + 3)).2.2 0 HE.out.1 hl3 (fun t ht => HOK.out t (hok3 t ht)) (Nat.le_refl _) (by omega) hy3 h)
          clear HTW HY3 hl3e
          cases h5 : orP (4 * l3.length + 3) 0 l3 with
          | none => as_aux_lemma =>
            rw [h5] at HAC hD
            simp only at hD
            subst hD
            clear h5
            go_wp2_with (first | (refine hab ?_; (try clear hF); clear hS; intro wk hS; (try simp only [List.set_cons_zero, List.set_cons_succ, heap_size, heap_set_size] at hS); ((try clear hF); refine hfI ?_; intro hF)) | (go_at_call 40; (with_reducible refine Calls.mono (HAC.out _ _ (rot3 hS)) ?_); clear hS; rintro e wk ⟨⟨tp, pv, rfl⟩, hS⟩))
            exact ⟨rfl, ⟨_, _, rfl⟩, hS.tail.tail.tail.sub (List.sublist_append_right X M)⟩
          | some z => as_aux_lemma =>
            obtain ⟨x, r⟩ := z
            rw [h5] at HAC hD
            simp only at hD
            obtain ⟨e1, e2, e3⟩ := (of_end _ 0 l3 hl3).2.2.2.1 x r h5
            have HD2 := Lib.hid hD
            have HR2 := Lib.hid e1
            have HO2 := Lib.hid (fun t (h : t ∈ r) => hok3 t (e2 t h))
            have HL2 := Lib.hid (show r.length ≤ l.length by have := HL1.out; omega)
            clear h5 hD e1 e2 e3
            go_wp2_with (first | (refine hab ?_; (try clear hF); clear hS; intro wk hS; (try simp only [List.set_cons_zero, List.set_cons_succ, heap_size, heap_set_size] at hS); ((try clear hF); refine hfI ?_; intro hF)) | (go_at_call 40; (with_reducible refine Calls.mono (HAC.out _ _ (rot3 hS)) ?_); clear hS; rintro e wk ⟨p, K, y4, rfl, HC, HY4, hS⟩; replace hS := un3K hS; ((try clear hF); refine hfI ?_; intro hF)))
            go_meet
            case rel => exact ⟨{ v with wp := p }, { q with whr := x }, r, y4, K ++ X, HD2, HR2, HO2, HL2, Lib.hid HY4, Lib.hid (HQ.out.whr HC), (hS.put (i := 0) (j := 1) (u := .pointer p) rfl)⟩
      case rest =>
        clear HTW HB HR1 HO1 HL1 HY HQ HD hS hF HY3
        clear v q l2 y2 X y3
        obtain ⟨v, q, l2, y2, X, HD, HR1, HO1, HL1, HY, HQ, hS⟩ := hcut
        obtain ⟨b, hb⟩ : ∃ b, b = seeT l2 byL := ⟨_, rfl⟩
        have HB := Lib.hid hb
        have HTW := Lib.hid (fun (L : List Item) (W : World) (h : Hp B w0 W (y2 :: R :: L)) => show Calls Tryz.prog 39 #[.pointer (some ⟨gp, 0, none⟩), .string ⟨#[98, 121]⟩] W _ from take_kw b byL hb HR1.out HY.out h)
        clear hb
        ((try clear hF); refine hfI ?_; intro hF)
        go_upto_if 17 with (first | (refine hab ?_; (try clear hF); clear hS; intro wk hS; (try simp only [List.set_cons_zero, List.set_cons_succ, heap_size, heap_set_size] at hS); ((try clear hF); refine hfI ?_; intro hF)) | (go_at_call 39; (with_reducible refine Calls.mono (HTW.out _ _ (rot3 hS)) ?_); clear hS; rintro e wk ⟨rfl, y3, HY3, hS⟩; replace hS := un3 hS; ((try clear hF); refine hfI ?_; intro hF)))
        go_cut [] (fun wx => ∃ (v : QV) (q : QG) (l2 : List Tk) (y2 : Item) (X : List Item), Hid (D = q3P q l2) ∧ Hid (EndT l2) ∧ Hid (∀ t ∈ l2, t ∈ l) ∧ Hid (l2.length ≤ l.length) ∧ Hid (PAt B w0 R gt gp l2 y2) ∧ Hid (QIn B w0 X v q) ∧ Hp B w0 wx (.blk g3 (qC v) 49 :: .blk g2 [.slice none 0 0, .pointer none, .slice none 0 0, .slice none 0 0, .int .i64 0] 49 :: .blk g1 [.pointer (some ⟨gp, 0, none⟩)] 75 :: y2 :: R :: (X ++ M)))
        case first =>
          cases b with
          | false => as_aux_lemma =>
            have HD2 := Lib.hid (show D = q3P q l2 by rw [HD.out, q2P, ← HB.out]; rfl)
            have HY4 := Lib.hid (show PAt B w0 R gt gp l2 y3 from HY3.out)
            go_wp2_with (first | (refine hab ?_; (try clear hF); clear hS; intro wk hS; (try simp only [List.set_cons_zero, List.set_cons_succ, heap_size, heap_set_size] at hS); ((try clear hF); refine hfI ?_; intro hF)) | fail)
            go_meet
            case rel => exact ⟨v, q, l2, y3, X, HD2, HR1, HO1, HL1, HY4, HQ, hS⟩
          | true =>
            have hl3 := HR1.out.tail HB.out.symm
            have hlt : l2.tail.length + 1 = l2.length := by have := List.length_pos_iff.2 HR1.out.ne; rw [List.length_tail]; omega
            have hok3 : ∀ t ∈ l2.tail, t ∈ l := fun t h => HO1.out t (List.mem_of_mem_tail h)
            have hD := HD.out
            rw [q2P, ← HB.out] at hD
            simp only [if_true] at hD
            have hy3 : PAt B w0 R gt gp l2.tail y3 := HY3.out
            obtain ⟨l3, hl3e⟩ : ∃ x, x = l2.tail := ⟨_, rfl⟩
            rw [← hl3e] at hD hl3 hlt hok3 hy3
            have hln3 : l3.length ≤ 900 := by have := HL1.out; omega
            have HAC := Lib.hid (fun (L : List Item) (W : World) (h : Hp B w0 W (y3 :: R :: L)) => listS_any HE.out hl3 (fun t ht => HOK.out t (hok3 t ht)) hln3 hy3 h)
            clear HTW HY3 hl3e
            cases h5 : listP nameP l3 with
            | none => as_aux_lemma =>
              rw [h5] at HAC hD
              simp only at hD
              subst hD
              clear h5
              go_wp2_with (first | (refine hab ?_; (try clear hF); clear hS; intro wk hS; (try simp only [List.set_cons_zero, List.set_cons_succ, heap_size, heap_set_size] at hS); ((try clear hF); refine hfI ?_; intro hF)) | (go_at_call 41; (with_reducible refine Calls.mono (HAC.out _ _ (rot3 hS)) ?_); clear hS; rintro e wk ⟨⟨tp, pv, rfl⟩, hS⟩))
              exact ⟨rfl, ⟨_, _, rfl⟩, hS.tail.tail.tail.sub (List.sublist_append_right X M)⟩
            | some z => as_aux_lemma =>
              obtain ⟨x, r⟩ := z
              rw [h5] at HAC hD
              simp only at hD
              obtain ⟨e1, e2, e3⟩ := listP_end (fun l x r => nameP_end) hl3 h5
              have HD2 := Lib.hid hD
              have HR2 := Lib.hid e1
              have HO2 := Lib.hid (fun t (h : t ∈ r) => hok3 t (e2 t h))
              have HL2 := Lib.hid (show r.length ≤ l.length by have := HL1.out; omega)
              clear h5 hD e1 e2 e3
              go_wp2_with (first | (refine hab ?_; (try clear hF); clear hS; intro wk hS; (try simp only [List.set_cons_zero, List.set_cons_succ, heap_size, heap_set_size] at hS); ((try clear hF); refine hfI ?_; intro hF)) | (go_at_call 41; (with_reducible refine Calls.mono (HAC.out _ _ (rot3 hS)) ?_); clear hS; rintro e wk ⟨A, n, cap, rfl, HXN, hnb, y4, HY4, hS⟩; replace hS := un3L hS; ((try clear hF); refine hfI ?_; intro hF)))
              go_meet
              case rel => exact ⟨{ v with ba := A, bn := n, bc := cap }, { q with by_ := x }, r, y4, .row 9 1 A n cap (cellsQS x) :: X, HD2, HR2, HO2, HL2, Lib.hid HY4, Lib.hid (HQ.out.by HXN.out hnb), (hS.put (i := 0) (j := 2) (u := .slice A n cap) rfl)⟩
        case rest =>
          clear HTW HB HR1 HO1 HL1 HY HQ HD hS hF HY3
          clear v q l2 y2 X y3
          obtain ⟨v, q, l2, y2, X, HD, HR1, HO1, HL1, HY, HQ, hS⟩ := hcut
          obtain ⟨b, hb⟩ : ∃ b, b = seeT l2 ordL := ⟨_, rfl⟩
          have HB := Lib.hid hb
          have HTW := Lib.hid (fun (L : List Item) (W : World) (h : Hp B w0 W (y2 :: R :: L)) => show Calls Tryz.prog 39 #[.pointer (some ⟨gp, 0, none⟩), .string ⟨#[111, 114, 100, 101, 114]⟩] W _ from take_kw b ordL hb HR1.out HY.out h)
          clear hb
          ((try clear hF); refine hfI ?_; intro hF)
          go_upto_if 24 with (first | (refine hab ?_; (try clear hF); clear hS; intro wk hS; (try simp only [List.set_cons_zero, List.set_cons_succ, heap_size, heap_set_size] at hS); ((try clear hF); refine hfI ?_; intro hF)) | (go_at_call 39; (with_reducible refine Calls.mono (HTW.out _ _ (rot3 hS)) ?_); clear hS; rintro e wk ⟨rfl, y3, HY3, hS⟩; replace hS := un3 hS; ((try clear hF); refine hfI ?_; intro hF)))
          go_cut [] (fun wx => ∃ (v : QV) (q : QG) (l2 : List Tk) (y2 : Item) (X : List Item), Hid (D = q4P q l2) ∧ Hid (EndT l2) ∧ Hid (∀ t ∈ l2, t ∈ l) ∧ Hid (l2.length ≤ l.length) ∧ Hid (PAt B w0 R gt gp l2 y2) ∧ Hid (QIn B w0 X v q) ∧ Hp B w0 wx (.blk g3 (qC v) 49 :: .blk g2 [.slice none 0 0, .pointer none, .slice none 0 0, .slice none 0 0, .int .i64 0] 49 :: .blk g1 [.pointer (some ⟨gp, 0, none⟩)] 75 :: y2 :: R :: (X ++ M)))
          case first =>
            cases b with
            | false => as_aux_lemma =>
              have HD2 := Lib.hid (show D = q4P q l2 by rw [HD.out, q3P, ← HB.out]; rfl)
              have HY4 := Lib.hid (show PAt B w0 R gt gp l2 y3 from HY3.out)
              go_wp2_with (first | (refine hab ?_; (try clear hF); clear hS; intro wk hS; (try simp only [List.set_cons_zero, List.set_cons_succ, heap_size, heap_set_size] at hS); ((try clear hF); refine hfI ?_; intro hF)) | fail)
              go_meet
              case rel => exact ⟨v, q, l2, y3, X, HD2, HR1, HO1, HL1, HY4, HQ, hS⟩
            | true =>
              have hl3 := HR1.out.tail HB.out.symm
              have hlt : l2.tail.length + 1 = l2.length := by have := List.length_pos_iff.2 HR1.out.ne; rw [List.length_tail]; omega
              have hok3 : ∀ t ∈ l2.tail, t ∈ l := fun t h => HO1.out t (List.mem_of_mem_tail h)
              have hD := HD.out
              rw [q3P, ← HB.out] at hD
              simp only [if_true] at hD
              have hy3 : PAt B w0 R gt gp l2.tail y3 := HY3.out
              obtain ⟨l3, hl3e⟩ : ∃ x, x = l2.tail := ⟨_, rfl⟩
              rw [← hl3e] at hD hl3 hlt hok3 hy3
              have hln3 : l3.length ≤ 900 := by have := HL1.out; omega
              have hqr := HQ.out
              have HIL := Lib.hid (show ∀ W, Hp B w0 W X → q.items.length = v.im ∧ v.im ≤ 1000 from fun W h => ⟨(hqr W h).il, (hqr W h).ib⟩)
              obtain ⟨him, hib⟩ := HIL.out _ (hS.tail.tail.tail.tail.tail.sub (List.sublist_append_left X M))
              rw [him] at hD
              clear hqr HIL him
              have HAC := Lib.hid (fun (W : World) (h : Hp B w0 W (y3 :: R :: .blk g3 (qC v) 49 :: .blk g2 [.slice none 0 0, .pointer none, .slice none 0 0, .slice none 0 0, .int .i64 0] 49 :: .blk g1 [.pointer (some ⟨gp, 0, none⟩)] 75 :: (X ++ M))) => listO_any (g1 := g1) (g3 := g3) (Aq := v.ia) (cq := v.ic) HE.out hl3 (fun t ht => HOK.out t (hok3 t ht)) hln3 hib (fun W h => by
                have hf := h.facts
                simp only [HFacts, cellFacts, RFacts, cellOnly, and_true, true_and, Nat.zero_add, Nat.reduceAdd] at hf
                exact ⟨hf.2.2.1.1, hf.1.1.1⟩) hy3 h)
              clear HTW HY3 hl3e
              cases h5 : listP (orderP v.im) l3 with
              | none => as_aux_lemma =>
                rw [h5] at HAC hD
                simp only at hD
                subst hD
                clear h5
                go_wp2_with (first | (refine hab ?_; (try clear hF); clear hS; intro wk hS; (try simp only [List.set_cons_zero, List.set_cons_succ, heap_size, heap_set_size] at hS); ((try clear hF); refine hfI ?_; intro hF)) | (go_at_call 43; (with_reducible refine Calls.mono (HAC.out _ (rot3 hS)) ?_); clear hS; rintro e wk ⟨⟨tp, pv, rfl⟩, hS⟩))
                exact ⟨rfl, ⟨_, _, rfl⟩, hS.tail.tail.tail.sub (List.sublist_append_right X M)⟩
              | some z => as_aux_lemma =>
                obtain ⟨x, r⟩ := z
                rw [h5] at HAC hD
                simp only at hD
                obtain ⟨e1, e2, e3⟩ := listP_end (fun l x r => orderP_end) hl3 h5
                have HD2 := Lib.hid hD
                have HR2 := Lib.hid e1
                have HO2 := Lib.hid (fun t (h : t ∈ r) => hok3 t (e2 t h))
                have HL2 := Lib.hid (show r.length ≤ l.length by have := HL1.out; omega)
                clear h5 hD e1 e2 e3
                go_wp2_with (first | (refine hab ?_; (try clear hF); clear hS; intro wk hS; (try simp only [List.set_cons_zero, List.set_cons_succ, heap_size, heap_set_size] at hS); ((try clear hF); refine hfI ?_; intro hF)) | (go_at_call 43; (with_reducible refine Calls.mono (HAC.out _ (rot3 hS)) ?_); clear hS; rintro e wk ⟨A, n, cap, rfl, HXN, hnb, y4, HY4, hS⟩; replace hS := un3L hS; ((try clear hF); refine hfI ?_; intro hF)))
                go_meet
                case rel => exact ⟨{ v with oa := A, om := n, oc := cap }, { q with ord := x }, r, y4, .row 87 2 A n cap (cellsQO x) :: X, HD2, HR2, HO2, HL2, Lib.hid HY4, Lib.hid (HQ.out.ord HXN.out hnb), (hS.put (i := 0) (j := 3) (u := .slice A n cap) rfl)⟩
          case rest =>
            clear HTW HB HR1 HO1 HL1 HY HQ HD hS hF HY3
            clear v q l2 y2 X y3
            obtain ⟨v, q, l2, y2, X, HD, HR1, HO1, HL1, HY, HQ, hS⟩ := hcut
            obtain ⟨b, hb⟩ : ∃ b, b = seeT l2 limL := ⟨_, rfl⟩
            have HB := Lib.hid hb
            have HTW := Lib.hid (fun (L : List Item) (W : World) (h : Hp B w0 W (y2 :: R :: L)) => show Calls Tryz.prog 39 #[.pointer (some ⟨gp, 0, none⟩), .string ⟨#[108, 105, 109, 105, 116]⟩] W _ from take_kw b limL hb HR1.out HY.out h)
            clear hb
            ((try clear hF); refine hfI ?_; intro hF)
            go_upto_if 30 with (first | (refine hab ?_; (try clear hF); clear hS; intro wk hS; (try simp only [List.set_cons_zero, List.set_cons_succ, heap_size, heap_set_size] at hS); ((try clear hF); refine hfI ?_; intro hF)) | (go_at_call 39; (with_reducible refine Calls.mono (HTW.out _ _ (rot3 hS)) ?_); clear hS; rintro e wk ⟨rfl, y3, HY3, hS⟩; replace hS := un3 hS; ((try clear hF); refine hfI ?_; intro hF)))
            go_cut [] (fun wx => ∃ (v : QV) (q : QG) (l2 : List Tk) (y2 : Item) (X : List Item), Hid (D = qEnd q l2) ∧ Hid (EndT l2) ∧ Hid (∀ t ∈ l2, t ∈ l) ∧ Hid (l2.length ≤ l.length) ∧ Hid (PAt B w0 R gt gp l2 y2) ∧ Hid (QIn B w0 X v q) ∧ Hp B w0 wx (.blk g3 (qC v) 49 :: .blk g2 [.slice none 0 0, .pointer none, .slice none 0 0, .slice none 0 0, .int .i64 0] 49 :: .blk g1 [.pointer (some ⟨gp, 0, none⟩)] 75 :: y2 :: R :: (X ++ M)))
            case first =>
              cases b with
              | false => as_aux_lemma =>
                have HD2 := Lib.hid (show D = qEnd q l2 by rw [HD.out, q4P, ← HB.out]; rfl)
                have HY4 := Lib.hid (show PAt B w0 R gt gp l2 y3 from HY3.out)
                go_wp2_with (first | (refine hab ?_; (try clear hF); clear hS; intro wk hS; (try simp only [List.set_cons_zero, List.set_cons_succ, heap_size, heap_set_size] at hS); ((try clear hF); refine hfI ?_; intro hF)) | fail)
                go_meet
                case rel => exact ⟨v, q, l2, y3, X, HD2, HR1, HO1, HL1, HY4, HQ, hS⟩
              | true =>
                have hl3 := HR1.out.tail HB.out.symm
                have hlt : l2.tail.length + 1 = l2.length := by have := List.length_pos_iff.2 HR1.out.ne; rw [List.length_tail]; omega
                have hok3 : ∀ t ∈ l2.tail, t ∈ l := fun t h => HO1.out t (List.mem_of_mem_tail h)
                have hD := HD.out
                rw [q4P, ← HB.out] at hD
                simp only [if_true] at hD
                have hy3 : PAt B w0 R gt gp l2.tail y3 := HY3.out
                obtain ⟨l3, hl3e⟩ : ∃ x, x = l2.tail := ⟨_, rfl⟩
                rw [← hl3e] at hD hl3 hlt hok3 hy3
                have hln3 : l3.length ≤ 900 := by have := HL1.out; omega
                have HAC := Lib.hid (fun (L : List Item) (W : World) (h : Hp B w0 W (y3 :: R :: L)) => size_any 1000000 HE.out.1 hl3 (fun t ht => HOK.out t (hok3 t ht)) hy3 h)
                clear HTW HY3 hl3e
                cases h5 : sizeP 1000000 l3 with
                | none => as_aux_lemma =>
                  rw [h5] at HAC hD
                  simp only at hD
                  subst hD
                  clear h5
                  go_wp2_with (first | (refine hab ?_; (try clear hF); clear hS; intro wk hS; (try simp only [List.set_cons_zero, List.set_cons_succ, heap_size, heap_set_size] at hS); ((try clear hF); refine hfI ?_; intro hF)) | (go_at_call 45; (with_reducible refine Calls.mono (HAC.out _ _ (rot3 hS)) ?_); clear hS; rintro e wk ⟨⟨tp, pv, rfl⟩, hS⟩))
                  exact ⟨rfl, ⟨_, _, rfl⟩, hS.tail.tail.tail.sub (List.sublist_append_right X M)⟩
                | some z => as_aux_lemma =>
                  obtain ⟨x, r⟩ := z
                  rw [h5] at HAC hD
                  simp only at hD
                  obtain ⟨e1, e2, e3, _⟩ := sizeP_end hl3 h5
                  have HD2 := Lib.hid hD
                  have HR2 := Lib.hid e1
                  have HO2 := Lib.hid (fun t (h : t ∈ r) => hok3 t (e2 t h))
                  have HL2 := Lib.hid (show r.length ≤ l.length by have := HL1.out; omega)
                  clear h5 hD e1 e2 e3
                  go_wp2_with (first | (refine hab ?_; (try clear hF); clear hS; intro wk hS; (try simp only [List.set_cons_zero, List.set_cons_succ, heap_size, heap_set_size] at hS); ((try clear hF); refine hfI ?_; intro hF)) | (go_at_call 45; (with_reducible refine Calls.mono (HAC.out _ _ (rot3 hS)) ?_); clear hS; rintro e wk ⟨rfl, y4, HY4, hS⟩; replace hS := un3 hS; ((try clear hF); refine hfI ?_; intro hF)))
                  go_meet
                  case rel => exact ⟨{ v with lim := x }, { q with limit := x }, r, y4, X, HD2, HR2, HO2, HL2, Lib.hid HY4, Lib.hid (HQ.out.limit x), (hS.put (i := 0) (j := 4) (u := .int .i64 x) rfl)⟩
            case rest =>
              clear HTW HB HR1 HO1 HL1 HY HQ HD hS hF HY3
              clear v q l2 y2 X y3
              obtain ⟨v, q, l2, y2, X, HD, HR1, HO1, HL1, HY, HQ, hS⟩ := hcut
              have hD := HD.out
              rw [qEnd] at hD
              subst hD
              ((try clear hF); refine hfI ?_; intro hF)
              go_wp2_with (first | (refine hab ?_; (try clear hF); clear hS; intro wk hS; (try simp only [List.set_cons_zero, List.set_cons_succ, heap_size, heap_set_size] at hS); ((try clear hF); refine hfI ?_; intro hF)) | fail)
              refine bodyPost_ret (v := qV v) (by simp [results, Tryz.results35, go_sem, hF]) rfl (by exact ⟨v, X, y2, rfl, HQ, HR1, HY.out, hS.tail.tail.tail⟩)
end Go.Proofs.YtlaldfkeaalnhaaGreatDoor

/- query.plan: where all columns stand. -/
namespace Go.Proofs.YtlaldfkeaalnhaaGreatDoor
set_option linter.unusedSimpArgs false
set_option linter.unusedVariables false
open Go.RowKit
set_option linter.all false
def idxI (p : IT → Bool) : Nat → List IT → Int
  | _, [] => -1
  | k, x :: l => if p x then k else idxI p (k + 1) l
theorem idxI_any (p : IT → Bool) : ∀ (l : List IT) (k : Nat), decide (0 ≤ idxI p k l) = l.any p
  | [], k => rfl
  | x :: l, k => by
    unfold idxI
    rw [List.any_cons]
    cases h : p x with
    | true => simp
    | false => simpa using idxI_any p l (k + 1)
theorem dropI_at {α : Type} {l : List α} {k : Nat} {x : α} (h : l[k]? = some x) : l.drop k = x :: l.drop (k + 1) := by
  obtain ⟨h1, e⟩ := List.getElem?_eq_some_iff.1 h
  rw [List.drop_eq_getElem_cons h1, e]
def PredI (w0 : World) (g : Nat) (lb : Array Value) (p : IT → Bool) : Prop :=
  ∀ W, Ext w0 W → ∀ c : IT, Calls Tryz.prog g (#[.agg #[.string c.fn, .string c.col]] ++ lb) W fun e w' => e = .returned (.bool (p c)) ∧ Ext W w'
theorem PredI.at {w0 : World} {g : Nat} {lb : Array Value} {p : IT → Bool} (h : PredI w0 g lb p) (W : World) (hx : Ext w0 W) (c : IT) : Calls Tryz.prog g (#[.agg #[.string c.fn, .string c.col]] ++ lb) W fun e w' => e = .returned (.bool (p c)) ∧ Ext W w' := h W hx c
set_option maxRecDepth 100000 in
set_option maxHeartbeats 8000000 in
theorem qindexFunc_any (l : List IT) (A : Option Addr) (n cap : Nat) (g : Nat) (lb : Array Value) (p : IT → Bool) (w : World) (hn : l.length = n) (hr : RIt w A l) (hl : n ≤ 1000) (eg : ∀ args w, (callFunc g args).run Tryz.prog w = .ok (.enter g args) w) (hp : PredI w g lb p) :
    Calls Tryz.prog 79 #[.slice A n cap, .func (.func g) #[] lb] w fun e w' => e = .returned (.int .i64 (idxI p 0 l)) ∧ Ext w w' := by
  have Hn := Lib.hid hn
  have HP := Lib.hid hp
  clear hp hn
  have hS := Hp.init w
  have hR := Reads.nil w
  go_enter Tryz.func79, Tryz.ntmps79
  go_wp2_with (first | (refine hab ?_; (try clear hF); clear hS; intro wk hS; (try simp only [List.set_cons_zero, List.set_cons_succ, heap_size, heap_set_size] at hS); ((try clear hF); refine hfI ?_; intro hF)) | fail)
  go_loopw [8, 5] (fun i _ wr => ∃ k : Nat, i = .int .i64 k ∧ k ≤ n ∧ Hid (idxI p 0 l = idxI p k (l.drop k)) ∧ Hp w.heap.size w wr []) (fun i _ _ => n - (intOf i).toNat)
  case atStart => exact ⟨0, rfl, Nat.zero_le _, Lib.hid rfl, hS⟩
  case round =>
    clear hS
    obtain ⟨k, rfl, hk, hf, hS⟩ := hrel
    by_cases hlt : k < n
    · have hlt' : k < l.length := by rw [Hn.out]; exact hlt
      obtain ⟨x, hx'⟩ : ∃ x, l[k]? = some x := ⟨l[k], List.getElem?_eq_getElem hlt'⟩
      obtain ⟨b, o, rfl, c0, c1⟩ := hr k x hx'
      have hR := Reads.cell c0 (Reads.cell c1 (Reads.nil w))
      have HD := Lib.hid (dropI_at hx')
      clear hx' hlt' c0 c1 hr
      ((try clear hF); refine hfI ?_; intro hF)
      go_wp2_with (first | (refine hab ?_; (try clear hF); clear hS; intro wk hS; (try simp only [List.set_cons_zero, List.set_cons_succ, heap_size, heap_set_size] at hS); ((try clear hF); refine hfI ?_; intro hF)) | ((with_reducible refine (HP.out.at _ hS.ext x).mono ?_); rintro e wk ⟨rfl, hX⟩; replace hS := hS.step hX; clear hX; ((try clear hF); refine hfI ?_; intro hF)))
      · go_ret
        refine ⟨?_, hS.ext⟩
        have hc : p x = true := by assumption
        rw [hf.out, HD.out, idxI, if_pos hc]; first | done | rfl
      · go_roundw
        case rel =>
          have hc : p x = false := by assumption
          exact ⟨k + 1, by go_num, by omega, Lib.hid (by rw [hf.out, HD.out, idxI, if_neg (by rw [hc]; simp)]), hS⟩
        case measure => simp [intOf]; omega
    · obtain rfl : n = k := by omega
      ((try clear hF); refine hfI ?_; intro hF)
      go_wp2_with (first | (refine hab ?_; (try clear hF); clear hS; intro wk hS; (try simp only [List.set_cons_zero, List.set_cons_succ, heap_size, heap_set_size] at hS); ((try clear hF); refine hfI ?_; intro hF)) | fail)
      go_ret
      exact ⟨by rw [hf.out, ← Hn.out, List.drop_length]; rfl, hS.ext⟩
set_option maxRecDepth 100000 in
set_option maxHeartbeats 8000000 in
theorem qcontainsFunc_any (l : List IT) (A : Option Addr) (n cap : Nat) (g : Nat) (lb : Array Value) (p : IT → Bool) (w : World) (hn : l.length = n) (hr : RIt w A l) (hl : n ≤ 1000) (eg : ∀ args w, (callFunc g args).run Tryz.prog w = .ok (.enter g args) w) (hp : PredI w g lb p) :
    Calls Tryz.prog 47 #[.slice A n cap, .func (.func g) #[] lb] w fun e w' => e = .returned (.bool (l.any p)) ∧ Ext w w' := by
  have HI := Lib.hid (fun (W : World) (hx : Ext w W) => qindexFunc_any l A n cap g lb p W hn (hr.ext hx) hl eg (fun W' hx' => hp W' (hx.trans hx')))
  have HA := Lib.hid (idxI_any p l 0)
  clear hr hp hn
  have hS := Hp.init w
  have hR := Reads.nil w
  go_enter Tryz.func47, Tryz.ntmps47
  go_wp2_with (first | (refine hab ?_; (try clear hF); clear hS; intro wk hS; (try simp only [List.set_cons_zero, List.set_cons_succ, heap_size, heap_set_size] at hS); ((try clear hF); refine hfI ?_; intro hF)) | (go_at_call 79; (with_reducible refine (HI.out _ hS.ext).mono ?_); rintro e wk ⟨rfl, hX⟩; replace hS := hS.step hX; clear hX; ((try clear hF); refine hfI ?_; intro hF)))
  go_ret
  exact ⟨by rw [HA.out]; first | done | rfl, hS.ext⟩
def fnB (x : IT) : Bool := decide (x.fn ≠ noS)
set_option maxRecDepth 100000 in
set_option maxHeartbeats 8000000 in
theorem plan1_any (x : IT) (w : World) : Calls Tryz.prog 76 #[.agg #[.string x.fn, .string x.col]] w fun e w' => e = .returned (.bool (fnB x)) ∧ Ext w w' := by
  obtain ⟨b, hb⟩ : ∃ b, b = fnB x := ⟨_, rfl⟩
  rw [← hb]
  unfold fnB at hb
  obtain ⟨fn, col⟩ := x
  simp only at hb
  have hS := Hp.init w
  have hR := Reads.nil w
  by_cases h : fn = noS
  · subst h
    obtain rfl : b = false := by rw [hb]; simp
    unfold noS
    clear hb
    go_enter Tryz.func76, Tryz.ntmps76
    go_wp2_with (first | (refine hab ?_; (try clear hF); clear hS; intro wk hS; (try simp only [List.set_cons_zero, List.set_cons_succ, heap_size, heap_set_size] at hS); ((try clear hF); refine hfI ?_; intro hF)) | fail)
    go_ret
    exact ⟨rfl, hS.ext⟩
  · obtain rfl : b = true := by rw [hb]; simpa using h
    have hl : (fn.toList == []) = false := str_ne h
    have hl2 : (fn.toList != []) = true := by rw [bne, hl]; rfl
    clear hb h
    go_enter Tryz.func76, Tryz.ntmps76
    go_wp2_with (first | (refine hab ?_; (try clear hF); clear hS; intro wk hS; (try simp only [List.set_cons_zero, List.set_cons_succ, heap_size, heap_set_size] at hS); ((try clear hF); refine hfI ?_; intro hF)) | fail)
    go_ret
    exact ⟨rfl, hS.ext⟩
theorem eg_plan1 : ∀ args w, (callFunc 76 args).run Tryz.prog w = .ok (.enter 76 args) w := fun _ _ => by kernel_rfl
theorem icont_any (ks : List Int) (A : Option Addr) (n cap : Nat) (k : Int) (w : World) (hn : ks.length = n) (hr : RI w A ks) (hl : n ≤ 1000) :
    Calls Tryz.prog 78 #[.slice A n cap, .int .i64 k] w fun e w' => e = .returned (.bool (decide (k ∈ ks))) ∧ Ext w w' := by
  subst hn
  cases ks with
  | nil => exact (Tryz.slices_Contains_int_empty A cap k w).mono fun e w' ⟨h1, h2⟩ => ⟨by rw [h1]; rfl, by rw [h2]; exact Ext.refl _⟩
  | cons x l =>
    obtain ⟨b, o, rfl, _⟩ := hr 0 x rfl
    refine (Tryz.slices_Contains_int b o (x :: l).length cap (x :: l) k w (Nat.le_refl _) (by omega) (fun j hj => ?_)).mono fun e w' ⟨h1, h2⟩ => ⟨?_, by rw [h2]; exact Ext.refl _⟩
    · obtain ⟨y, hy⟩ : ∃ y, (x :: l)[j]? = some y := ⟨_, List.getElem?_eq_getElem hj⟩
      obtain ⟨b2, o2, e, c⟩ := hr j y hy
      simp only [Option.some.injEq, Addr.mk.injEq, and_true] at e
      obtain ⟨rfl, rfl⟩ := e
      rw [c, List.getD_eq_getElem?_getD, hy]
      rfl
    · rw [h1, List.take_length]
      congr 2
      rw [Bool.eq_iff_iff]
      simp
end Go.Proofs.YtlaldfkeaalnhaaGreatDoor
