/- Texts joined: ask: tokens, conditions as text, what is written: plain. ask: what is written is read: tokens (plain). ask: what is written is read: conditions (plain). ask: what is written is read: the parser (plain). ask: what is read is such as is written; what is written is read (plain). ask: the walk of the cut into tokens: letters, run, next. -/
import Derived.Test.YtmfilblbofkmcaaDoorAX04
import Derived.Test.YtmfilblbofkmcaaDoorAX02
import Derived.Test.YtmfilblbofkmcaaDoorAX03
import Derived.Test.YtmfilblbofkmcaaDoorAX01
/- ask: tokens, conditions as text, what is written: plain. -/
namespace Go.Proofs.YtmfilblbofkmcaaDoor
set_option linter.unusedSimpArgs false
set_option linter.unusedVariables false
open Go.RowKit
set_option linter.all false
/-- a token -/
structure Tk where
  kind : Int
  text : ByteArray
def smallB (c : UInt8) : Bool := decide (97 ≤ c.toNat) && decide (c.toNat ≤ 122)
def digitB (c : UInt8) : Bool := decide (48 ≤ c.toNat) && decide (c.toNat ≤ 57)
def wordB (c : UInt8) : Bool := smallB c || digitB c || c == 95
/-- how many letters from the first on are so -/
def runL (p : UInt8 → Bool) : List UInt8 → Nat
  | [] => 0
  | c :: l => if p c then runL p l + 1 else 0
def marksL : List (List UInt8) := [[60, 62], [60, 61], [62, 61], [61], [60], [62], [40], [41], [44], [42]]
def markIn : List (List UInt8) → List UInt8 → Nat
  | [], _ => 0
  | m :: ms, l => if Lib.hasPrefix l m then m.length else markIn ms l
/-- the token that stands first: its kind, how long (0: none) -/
def nextL : List UInt8 → Int × Nat
  | [] => (4, 0)
  | c :: r =>
    if smallB c then (1, runL wordB (c :: r))
    else if digitB c || (c == 45 && digitB (r.headD 0)) then (2, 1 + runL digitB r)
    else if c == 39 then (3, if 0 ≤ Lib.indexByte r 39 then (Lib.indexByte r 39).toNat + 2 else 0)
    else (4, markIn marksL (c :: r))
def endTk : Tk := ⟨5, ⟨#[]⟩⟩
/-- the tokens of a text, behind k others -/
def tokL : Nat → List UInt8 → Nat → Option (List Tk)
  | 0, _, _ => none
  | _ + 1, [], _ => some [endTk]
  | f + 1, c :: r, k =>
    if c == 32 then tokL f r k
    else if (nextL (c :: r)).2 = 0 ∨ k = 80 then none
    else match tokL f ((c :: r).drop (nextL (c :: r)).2) (k + 1) with
      | some l => some (⟨(nextL (c :: r)).1, ⟨((c :: r).take (nextL (c :: r)).2).toArray⟩⟩ :: l)
      | none => none
def kind1 : List Tk → Int
  | [] => 0
  | t :: _ => t.kind
def seeT (l : List Tk) (s : List UInt8) : Bool := match l with
  | [] => false
  | t :: _ => (t.text.data.toList == s) && (t.kind == 1 || t.kind == 4)
def kept11 : List ByteArray := [⟨#[97, 110, 100]⟩, ⟨#[105, 115]⟩, ⟨#[110, 111, 116]⟩, ⟨#[110, 117, 108, 108]⟩, ⟨#[111, 114]⟩, ⟨#[98, 121]⟩, ⟨#[100, 101, 115, 99]⟩, ⟨#[108, 105, 109, 105, 116]⟩, ⟨#[111, 114, 100, 101, 114]⟩, ⟨#[115, 101, 108, 101, 99, 116]⟩, ⟨#[119, 104, 101, 114, 101]⟩]
def nameT (t : Tk) : Bool := (t.kind == 1) && !Lib.containsS kept11 t.text && nameB t.text
def nameP : List Tk → Option (ByteArray × List Tk)
  | [] => none
  | t :: r => if nameT t then some (t.text, r) else none
def nullL : List UInt8 := [110, 117, 108, 108]
def notL : List UInt8 := [110, 111, 116]
def isL : List UInt8 := [105, 115]
def andL : List UInt8 := [97, 110, 100]
def orL : List UInt8 := [111, 114]
def midS (s : ByteArray) : ByteArray := s.extract 1 (s.size - 1)
/-- the value that a token is -/
def litT (t : Tk) : Option GV :=
  if t.kind = 2 then (match int64 t.text with | some n => some ⟨1, n, ⟨#[]⟩⟩ | none => none)
  else if t.kind = 3 then (if rightB 2 0 (midS t.text) then some ⟨2, 0, midS t.text⟩ else none)
  else if seeT [t] nullL then some ⟨0, 0, ⟨#[]⟩⟩ else none
def litP : List Tk → Option (GV × List Tk)
  | [] => none
  | t :: r => match litT t with | some v => some (v, r) | none => none
def codesS : List ByteArray := [⟨#[61]⟩, ⟨#[60, 62]⟩, ⟨#[60]⟩, ⟨#[60, 61]⟩, ⟨#[62]⟩, ⟨#[62, 61]⟩]
def codeT (t : Tk) : Int := if t.kind = 4 then Lib.idxOfS codesS t.text + 1 else 0
def zV : GV := ⟨0, 0, ⟨#[]⟩⟩
def opA (c : Int) (l r : CT) : CT := .node c ⟨#[]⟩ zV l r
/-- what stands behind a name -/
def restP (n : ByteArray) (l : List Tk) : Option (CT × List Tk) :=
  if seeT l isL then
    if seeT l.tail notL then (if seeT l.tail.tail nullL then some (.node 8 n zV .nil .nil, l.tail.tail.tail) else none)
    else if seeT l.tail nullL then some (.node 7 n zV .nil .nil, l.tail.tail) else none
  else match l with
    | [] => none
    | t :: r => if codeT t < 1 then none else match litP r with
      | some (v, r2) => some (.node (codeT t) n v .nil .nil, r2)
      | none => none
def leafP (l : List Tk) : Option (CT × List Tk) := match nameP l with
  | some (n, r) => restP n r
  | none => none
mutual
def oneP : Nat → Nat → List Tk → Option (CT × List Tk)
  | 0, _, _ => none
  | f + 1, d, l =>
    if 6 < d then none
    else if seeT l notL then (match oneP f (d + 1) l.tail with | some (c, r) => some (opA 11 c .nil, r) | none => none)
    else if seeT l [40] then (match orP f (d + 1) l.tail with | some (c, r) => if seeT r [41] then some (c, r.tail) else none | none => none)
    else leafP l
def andP : Nat → Nat → List Tk → Option (CT × List Tk)
  | 0, _, _ => none
  | f + 1, d, l => match oneP f d l with | some (c, r) => andQ f d c r | none => none
def andQ : Nat → Nat → CT → List Tk → Option (CT × List Tk)
  | 0, _, _, _ => none
  | f + 1, d, c, l => if seeT l andL then (match oneP f d l.tail with | some (e, r) => andQ f d (opA 9 c e) r | none => none) else some (c, l)
def orP : Nat → Nat → List Tk → Option (CT × List Tk)
  | 0, _, _ => none
  | f + 1, d, l => match andP f d l with | some (c, r) => orQ f d c r | none => none
def orQ : Nat → Nat → CT → List Tk → Option (CT × List Tk)
  | 0, _, _, _ => none
  | f + 1, d, c, l => if seeT l orL then (match andP f d l.tail with | some (e, r) => orQ f d (opA 10 c e) r | none => none) else some (c, l)
end
/-- the condition that tokens are (nil: none) -/
def wholeP (l : List Tk) : Option (CT × List Tk) := if kind1 l = 5 then some (.nil, l) else orP (4 * l.length + 3) 0 l
/-- the condition that a text is -/
def condP (s : List UInt8) : Option CT := match tokL (s.length + 1) s 0 with
  | none => none
  | some l => match wholeP l with
    | some (c, r) => if kind1 r = 5 then some c else none
    | none => none
def opL (c : Int) : List UInt8 := if c = 1 then [61] else if c = 2 then [60, 62] else if c = 3 then [60] else if c = 4 then [60, 61] else if c = 5 then [62] else [62, 61]
def parL (n least : Nat) (s : List UInt8) : List UInt8 := if n < least then [40] ++ s ++ [41] else s
/-- what ask.written writes -/
def writL : CT → Nat → List UInt8
  | .nil, _ => []
  | .node c col x l r, least =>
    if c = 11 then parL 2 least ([110, 111, 116, 32] ++ writL l 2)
    else if c = 9 then parL 1 least (writL l 1 ++ [32, 97, 110, 100, 32] ++ writL r 2)
    else if c = 10 then parL 0 least (writL l 0 ++ [32, 111, 114, 32] ++ writL r 1)
    else if c = 7 then parL 2 least (col.data.toList ++ [32, 105, 115, 32, 110, 117, 108, 108])
    else if c = 8 then parL 2 least (col.data.toList ++ [32, 105, 115, 32, 110, 111, 116, 32, 110, 117, 108, 108])
    else parL 2 least (col.data.toList ++ [32] ++ opL c ++ [32] ++ printL x.kind x.num x.text)
def condW (c : CT) : List UInt8 := match c with | .nil => [] | c => writL c 0
/-- which conditions ask.written writes: codes from 1 to 6 at the leaves, nothing nil below -/
def okW : CT → Prop
  | .nil => False
  | .node c _ x l r => if c = 11 then okW l else if c = 9 ∨ c = 10 then okW l ∧ okW r else 1 ≤ c ∧ c ≤ 8 ∧ i64 x.num ∧ x.text.size ≤ 1000
end Go.Proofs.YtmfilblbofkmcaaDoor

/- ask: what is written is read: tokens (plain). -/
namespace Go.Proofs.YtmfilblbofkmcaaDoor
set_option linter.unusedSimpArgs false
set_option linter.unusedVariables false
open Go.RowKit
set_option linter.all false
theorem runL_le (p : UInt8 → Bool) : ∀ l, runL p l ≤ l.length
  | [] => Nat.le_refl _
  | c :: l => by
    unfold runL
    have := runL_le p l
    split
    · simp only [List.length_cons]; omega
    · simp
theorem runL_app (p : UInt8 → Bool) : ∀ (a b : List UInt8), (∀ c ∈ a, p c = true) → (p (b.headD 0) = false) → runL p (a ++ b) = a.length
  | [], [], _, _ => rfl
  | [], c :: b, _, h => by
    simp at h
    simp [runL, h]
  | c :: a, b, ha, hb => by
    have h1 := ha c (by simp)
    simp only [List.cons_append, runL, h1, if_true, List.length_cons]
    rw [runL_app p a b (fun c hc => ha c (by simp [hc])) hb]
theorem markIn_le : ∀ (ms : List (List UInt8)) (l : List UInt8), markIn ms l ≤ l.length
  | [], _ => Nat.zero_le _
  | m :: ms, l => by
    unfold markIn
    split
    · rename_i h
      unfold Lib.hasPrefix at h
      exact (List.isPrefixOf_iff_prefix.1 h).length_le
    · exact markIn_le ms l
theorem nextL_le : ∀ l, (nextL l).2 ≤ l.length
  | [] => Nat.le_refl _
  | c :: r => by
    simp only [nextL]
    have h1 := runL_le wordB (c :: r)
    have h2 := runL_le digitB r
    have h3 := markIn_le marksL (c :: r)
    split
    · exact h1
    split
    · simp only [List.length_cons]; omega
    split
    · simp only [List.length_cons]
      split
      · rename_i h
        obtain ⟨m, hm⟩ := Int.eq_ofNat_of_zero_le h
        have := (idx_cut hm).1
        omega
      · omega
    · exact h3
inductive Lx : List UInt8 → List Tk → Prop
  | nil : Lx [] []
  | sp {r : List UInt8} {ts : List Tk} (h : Lx r ts) : Lx (32 :: r) ts
  | tk {c : UInt8} {r : List UInt8} {ts : List Tk} (hc : c ≠ 32) (hn : 0 < (nextL (c :: r)).2) (h : Lx ((c :: r).drop (nextL (c :: r)).2) ts) :
      Lx (c :: r) (⟨(nextL (c :: r)).1, ⟨((c :: r).take (nextL (c :: r)).2).toArray⟩⟩ :: ts)
theorem tokL_of {bs : List UInt8} {ts : List Tk} (h : Lx bs ts) : ∀ f k, bs.length < f → ts.length + k ≤ 80 → tokL f bs k = some (ts ++ [endTk]) := by
  induction h with
  | nil =>
    intro f k hf _
    cases f with
    | zero => omega
    | succ f => rfl
  | sp h ih =>
    intro f k hf hk
    cases f with
    | zero => omega
    | succ f =>
      simp only [List.length_cons] at hf
      unfold tokL
      simp only [beq_self_eq_true, if_true]
      exact ih f k (by omega) hk
  | @tk c r ts hc hn h ih =>
    intro f k hf hk
    cases f with
    | zero => omega
    | succ f =>
      simp only [List.length_cons] at hf hk
      have hc' : (c == 32) = false := by simp [hc]
      unfold tokL
      rw [if_neg (by simp [hc]), if_neg (by omega), ih f (k + 1) (by rw [List.length_drop, List.length_cons]; omega) (by omega)]
      rfl
theorem of_tokL : ∀ (f : Nat) (bs : List UInt8) (k : Nat) (l : List Tk), tokL f bs k = some l → ∃ ts, l = ts ++ [endTk] ∧ Lx bs ts ∧ (k ≤ 80 → ts.length + k ≤ 80)
  | 0, bs, k, l, h => by simp [tokL] at h
  | f + 1, [], k, l, h => by
    simp only [tokL, Option.some.injEq] at h
    exact ⟨[], h.symm, .nil, fun h => by simpa using h⟩
  | f + 1, c :: r, k, l, h => by
    unfold tokL at h
    by_cases hc : c = 32
    · subst hc
      simp only [beq_self_eq_true, if_true] at h
      obtain ⟨ts, h1, h2, h3⟩ := of_tokL f r k l h
      exact ⟨ts, h1, .sp h2, h3⟩
    rw [if_neg (by simp [hc])] at h
    split at h
    · cases h
    rename_i hx
    cases hm : tokL f ((c :: r).drop (nextL (c :: r)).2) (k + 1) with
    | none => rw [hm] at h; cases h
    | some m =>
      rw [hm] at h
      obtain ⟨ts, h1, h2, h3⟩ := of_tokL f _ (k + 1) m hm
      simp only [Option.some.injEq] at h
      refine ⟨_ :: ts, ?_, .tk hc (by omega) h2, fun hk => ?_⟩
      · rw [← h, h1]; rfl
      · have := h3 (by omega)
        simp only [List.length_cons]
        omega
/-- what may stand behind a token -/
def sepL (l : List UInt8) : Prop := l = [] ∨ ∃ r, l = 32 :: r ∨ l = 41 :: r
def mkT (k : Int) (l : List UInt8) : Tk := ⟨k, ⟨l.toArray⟩⟩
theorem lx_of {k : Int} {w rest : List UInt8} {ts : List Tk} (hw : w ≠ []) (h32 : w.head? ≠ some 32) (hn : nextL (w ++ rest) = (k, w.length)) (h : Lx rest ts) : Lx (w ++ rest) (mkT k w :: ts) := by
  cases w with
  | nil => exact absurd rfl hw
  | cons c w =>
    have h1 : (nextL ((c :: w) ++ rest)).2 = (c :: w).length := by rw [hn]
    have h2 : (nextL ((c :: w) ++ rest)).1 = k := by rw [hn]
    have h3 := @Lx.tk c (w ++ rest) ts (fun e => h32 (by rw [e]; rfl)) (by rw [← List.cons_append, h1]; simp) (by rw [← List.cons_append, h1, List.drop_left]; exact h)
    rw [← List.cons_append, h1, h2, List.take_left] at h3
    exact h3
theorem sep_word {l : List UInt8} (h : sepL l) : wordB (l.headD 0) = false := by
  rcases h with rfl | ⟨r, rfl | rfl⟩ <;> rfl
theorem sep_digit {l : List UInt8} (h : sepL l) : digitB (l.headD 0) = false := by
  rcases h with rfl | ⟨r, rfl | rfl⟩ <;> rfl
theorem small_ne {c : UInt8} (h : smallB c = true) : c ≠ 32 ∧ c ≠ 45 ∧ c ≠ 39 := by
  refine ⟨?_, ?_, ?_⟩ <;> (rintro rfl; simp [smallB] at h)
theorem lx_word {w rest : List UInt8} {ts : List Tk} (hw : ∃ c r, w = c :: r ∧ smallB c = true) (ha : ∀ c ∈ w, wordB c = true) (hs : wordB (rest.headD 0) = false) (h : Lx rest ts) : Lx (w ++ rest) (mkT 1 w :: ts) := by
  obtain ⟨c, r, rfl, hc⟩ := hw
  refine lx_of (by simp) (fun e => (small_ne hc).1 (by simpa using e)) ?_ h
  simp only [List.cons_append, nextL, hc, if_true]
  rw [← List.cons_append, runL_app wordB _ _ ha hs]
theorem digit_of {c : UInt8} (h : 48 ≤ c.toNat ∧ c.toNat ≤ 57) : digitB c = true := by simp [digitB, h.1, h.2]
theorem digit_small {c : UInt8} (h : digitB c = true) : smallB c = false := by
  simp only [digitB, Bool.and_eq_true, decide_eq_true_eq] at h
  simp only [smallB, Bool.and_eq_false_iff, decide_eq_false_iff_not]
  omega
theorem lx_num (n : Int) {rest : List UInt8} {ts : List Tk} (hs : digitB (rest.headD 0) = false) (h : Lx rest ts) : Lx (itoaL n ++ rest) (mkT 2 (itoaL n) :: ts) := by
  have key : ∀ u : Nat, ∃ c r, Lib.decDigits u = c :: r ∧ digitB c = true ∧ ∀ x ∈ r, digitB x = true := fun u => by
    obtain ⟨c, r, h1, h2, h3⟩ := dec_cons u
    refine ⟨c, r, h1, digit_of ⟨h2, h3⟩, fun x hx => digit_of (digits_plain u x (by rw [h1]; simp [hx]))⟩
  rw [itoaL_eq]
  unfold Lib.itoa
  split
  · rename_i hneg
    obtain ⟨c, r, h1, h2, h3⟩ := key n.natAbs
    rw [h1]
    refine lx_of (by simp) (by simp) ?_ h
    simp only [List.cons_append, nextL, show smallB 45 = false from rfl, Bool.false_eq_true, if_false, List.headD_cons, h2, beq_self_eq_true, Bool.and_self, Bool.or_true, if_true]
    rw [← List.cons_append, runL_app digitB _ _ (fun x hx => by rcases List.mem_cons.1 hx with rfl | hx; exact h2; exact h3 x hx) hs]
    simp only [List.length_cons]
    congr 1
    omega
  · obtain ⟨c, r, h1, h2, h3⟩ := key n.toNat
    rw [h1]
    refine lx_of (by simp) (fun e => ?_) ?_ h
    · have : c = 32 := by simpa using e
      subst this
      simp [digitB] at h2
    · simp only [List.cons_append, nextL, digit_small h2, Bool.false_eq_true, if_false, h2, Bool.true_or, if_true]
      rw [runL_app digitB _ _ h3 hs]
      simp only [List.length_cons]
      congr 1
      omega
theorem idx_hit : ∀ (t : List UInt8) (r : List UInt8), (∀ c ∈ t, c ≠ 39) → Lib.indexByte (t ++ 39 :: r) 39 = (t.length : Int)
  | [], r, _ => by simp [Lib.indexByte]
  | c :: t, r, h => by
    have hc := h c (by simp)
    have := idx_hit t r (fun x hx => h x (by simp [hx]))
    simp only [List.cons_append, Lib.indexByte, this, List.length_cons]
    rw [if_neg (by simp [hc]), if_neg (by simp)]
    omega
theorem lx_text {t rest : List UInt8} {ts : List Tk} (ht : ∀ c ∈ t, c ≠ 39) (h : Lx rest ts) : Lx ((39 :: t ++ [39]) ++ rest) (mkT 3 (39 :: t ++ [39]) :: ts) := by
  refine lx_of (by simp) (by simp) ?_ h
  have hi := idx_hit t rest ht
  simp only [List.cons_append, List.append_assoc, List.nil_append, List.singleton_append] at *
  simp only [nextL]
  rw [if_neg (by decide), if_neg (by simp [digitB]), if_pos (by decide), hi, if_pos (by omega)]
  simp
theorem lx_open {rest : List UInt8} {ts : List Tk} (h : Lx rest ts) : Lx ([40] ++ rest) (mkT 4 [40] :: ts) := by
  refine lx_of (by simp) (by simp) ?_ h
  simp [nextL, smallB, digitB, markIn, marksL, Lib.hasPrefix]
theorem lx_close {rest : List UInt8} {ts : List Tk} (h : Lx rest ts) : Lx ([41] ++ rest) (mkT 4 [41] :: ts) := by
  refine lx_of (by simp) (by simp) ?_ h
  simp [nextL, smallB, digitB, markIn, marksL, Lib.hasPrefix]
theorem lx_op {c : Int} {rest : List UInt8} {ts : List Tk} (h : Lx (32 :: rest) ts) : Lx (opL c ++ (32 :: rest)) (mkT 4 (opL c) :: ts) := by
  unfold opL
  repeat' split
  all_goals
    refine lx_of (by simp) (by simp) ?_ h
    simp [nextL, smallB, digitB, markIn, marksL, Lib.hasPrefix]
end Go.Proofs.YtmfilblbofkmcaaDoor

/- ask: what is written is read: conditions (plain). -/
namespace Go.Proofs.YtmfilblbofkmcaaDoor
set_option linter.unusedSimpArgs false
set_option linter.unusedVariables false
open Go.RowKit
set_option linter.all false
/-- a value as a condition has it -/
def valOk (x : GV) : Prop := (∃ n, x = ⟨1, n, ⟨#[]⟩⟩ ∧ i64 n) ∨ (∃ t, x = ⟨2, 0, t⟩ ∧ rightB 2 0 t = true) ∨ x = zV
def leafOk (c : Int) (col : ByteArray) (x : GV) (l r : CT) : Prop := l = .nil ∧ r = .nil ∧ nameT ⟨1, col⟩ = true ∧ (((c = 7 ∨ c = 8) ∧ x = zV) ∨ (1 ≤ c ∧ c ≤ 6 ∧ valOk x))
/-- a condition that may stand where so much is asked (0: or, 1: and, 2: one), so deep -/
def okL : Nat → Nat → CT → Prop
  | _, _, .nil => False
  | v, d, .node c col x l r =>
    if c = 11 then col = ⟨#[]⟩ ∧ x = zV ∧ r = .nil ∧ d ≤ 6 ∧ okL 2 (d + 1) l
    else if c = 9 then col = ⟨#[]⟩ ∧ x = zV ∧ (if v ≤ 1 then okL 1 d l ∧ okL 2 d r else d ≤ 6 ∧ okL 1 (d + 1) l ∧ okL 2 (d + 1) r)
    else if c = 10 then col = ⟨#[]⟩ ∧ x = zV ∧ (if v ≤ 0 then okL 0 d l ∧ okL 1 d r else d ≤ 6 ∧ okL 0 (d + 1) l ∧ okL 1 (d + 1) r)
    else d ≤ 6 ∧ leafOk c col x l r
theorem okL_mono : ∀ (c : CT) (v d v' d' : Nat), v' ≤ v → d' ≤ d → okL v d c → okL v' d' c
  | .nil, v, d, v', d', hv, hd, h => h
  | .node c col x l r, v, d, v', d', hv, hd, h => by
    unfold okL at h ⊢
    by_cases h11 : c = 11
    · rw [if_pos h11] at h ⊢
      exact ⟨h.1, h.2.1, h.2.2.1, by omega, okL_mono l _ _ _ _ (Nat.le_refl _) (by omega) h.2.2.2.2⟩
    rw [if_neg h11] at h ⊢
    by_cases h9 : c = 9
    · rw [if_pos h9] at h ⊢
      refine ⟨h.1, h.2.1, ?_⟩
      have h := h.2.2
      by_cases hv1 : v ≤ 1
      · rw [if_pos hv1] at h
        rw [if_pos (by omega)]
        exact ⟨okL_mono l _ _ _ _ (Nat.le_refl _) hd h.1, okL_mono r _ _ _ _ (Nat.le_refl _) hd h.2⟩
      · rw [if_neg hv1] at h
        split
        · exact ⟨okL_mono l _ _ _ _ (Nat.le_refl _) (by omega) h.2.1, okL_mono r _ _ _ _ (Nat.le_refl _) (by omega) h.2.2⟩
        · exact ⟨by omega, okL_mono l _ _ _ _ (Nat.le_refl _) (by omega) h.2.1, okL_mono r _ _ _ _ (Nat.le_refl _) (by omega) h.2.2⟩
    rw [if_neg h9] at h ⊢
    by_cases h10 : c = 10
    · rw [if_pos h10] at h ⊢
      refine ⟨h.1, h.2.1, ?_⟩
      have h := h.2.2
      by_cases hv1 : v ≤ 0
      · rw [if_pos hv1] at h
        rw [if_pos (by omega)]
        exact ⟨okL_mono l _ _ _ _ (Nat.le_refl _) hd h.1, okL_mono r _ _ _ _ (Nat.le_refl _) hd h.2⟩
      · rw [if_neg hv1] at h
        split
        · exact ⟨okL_mono l _ _ _ _ (Nat.le_refl _) (by omega) h.2.1, okL_mono r _ _ _ _ (Nat.le_refl _) (by omega) h.2.2⟩
        · exact ⟨by omega, okL_mono l _ _ _ _ (Nat.le_refl _) (by omega) h.2.1, okL_mono r _ _ _ _ (Nat.le_refl _) (by omega) h.2.2⟩
    rw [if_neg h10] at h ⊢
    exact ⟨by omega, h.2⟩
/-- what stands between ( and ) -/
theorem okL_par {c : CT} {d : Nat} (hd : d ≤ 6) (h : okL 0 (d + 1) c) : okL 2 d c := by
  cases c with
  | nil => exact h
  | node c col x l r =>
    unfold okL at h ⊢
    by_cases h11 : c = 11
    · rw [if_pos h11] at h ⊢
      exact ⟨h.1, h.2.1, h.2.2.1, hd, okL_mono l _ _ _ _ (Nat.le_refl _) (by omega) h.2.2.2.2⟩
    rw [if_neg h11] at h ⊢
    by_cases h9 : c = 9
    · rw [if_pos h9] at h ⊢
      refine ⟨h.1, h.2.1, ?_⟩
      have h := h.2.2
      rw [if_pos (by omega)] at h
      rw [if_neg (by omega)]
      exact ⟨hd, h⟩
    rw [if_neg h9] at h ⊢
    by_cases h10 : c = 10
    · rw [if_pos h10] at h ⊢
      refine ⟨h.1, h.2.1, ?_⟩
      have h := h.2.2
      rw [if_pos (by omega)] at h
      rw [if_neg (by omega)]
      exact ⟨hd, h⟩
    rw [if_neg h10] at h ⊢
    exact ⟨hd, h.2⟩
def parT (n least : Nat) (s : List Tk) : List Tk := if n < least then [mkT 4 [40]] ++ s ++ [mkT 4 [41]] else s
def litK (x : GV) : Tk := if x.kind = 1 then mkT 2 (itoaL x.num) else if x.kind = 2 then mkT 3 (39 :: x.text.data.toList ++ [39]) else mkT 1 nullL
/-- the tokens of what is written -/
def ptok : CT → Nat → List Tk
  | .nil, _ => []
  | .node c col x l r, least =>
    if c = 11 then parT 2 least (mkT 1 notL :: ptok l 2)
    else if c = 9 then parT 1 least (ptok l 1 ++ mkT 1 andL :: ptok r 2)
    else if c = 10 then parT 0 least (ptok l 0 ++ mkT 1 orL :: ptok r 1)
    else if c = 7 then parT 2 least [mkT 1 col.data.toList, mkT 1 isL, mkT 1 nullL]
    else if c = 8 then parT 2 least [mkT 1 col.data.toList, mkT 1 isL, mkT 1 notL, mkT 1 nullL]
    else parT 2 least [mkT 1 col.data.toList, mkT 4 (opL c), litK x]
theorem parT2 {v : Nat} (h : v ≤ 2) (s : List Tk) : parT 2 v s = s := by unfold parT; rw [if_neg (by omega)]
theorem parL2 {v : Nat} (h : v ≤ 2) (s : List UInt8) : parL 2 v s = s := by unfold parL; rw [if_neg (by omega)]
theorem sep_sp (r : List UInt8) : sepL (32 :: r) := .inr ⟨r, .inl rfl⟩
theorem sep_cl (r : List UInt8) : sepL (41 :: r) := .inr ⟨r, .inr rfl⟩
theorem name_word {col : ByteArray} (h : nameT ⟨1, col⟩ = true) : (∃ c r, col.data.toList = c :: r ∧ smallB c = true) ∧ ∀ c ∈ col.data.toList, wordB c = true := by
  unfold nameT at h
  simp only [Bool.and_eq_true] at h
  have h := h.2
  unfold nameB at h
  simp only [Bool.and_eq_true, decide_eq_true_eq] at h
  obtain ⟨⟨⟨h0, _⟩, h1⟩, h2⟩ := h
  have hm := trimS_nil h2
  have hin : ∀ c ∈ col.data.toList, wordB c = true := fun c hc => by
    have : ∀ x ∈ cutL, wordB x = true := by decide
    exact this c (hm c hc)
  refine ⟨?_, hin⟩
  cases hl : col.data.toList with
  | nil => have := Lib.size_eq col; rw [hl, List.length_nil] at this; omega
  | cons c r =>
    refine ⟨c, r, rfl, ?_⟩
    rw [hl, List.headD_cons] at h1
    have hmem : c ∈ lettersL := by
      by_cases hx : c ∈ lettersL
      · exact hx
      · exfalso
        have : ∀ (l : List UInt8), c ∉ l → Lib.indexByte l c = -1 := by
          intro l
          induction l with
          | nil => intro _; rfl
          | cons a l ih =>
            intro hn
            simp only [List.mem_cons, not_or] at hn
            unfold Lib.indexByte
            rw [if_neg (by simp; exact fun e => hn.1 e.symm), ih hn.2]
            rfl
        rw [this _ hx] at h1
        omega
    have : ∀ x ∈ lettersL, smallB x = true := by decide
    exact this c hmem
theorem lx_name {col : ByteArray} (h : nameT ⟨1, col⟩ = true) {rest : List UInt8} {ts : List Tk} (hs : sepL rest) (hr : Lx rest ts) : Lx (col.data.toList ++ rest) (mkT 1 col.data.toList :: ts) :=
  lx_word (name_word h).1 (name_word h).2 (sep_word hs) hr
theorem lx_kw {w : List UInt8} (h : ∃ c r, w = c :: r ∧ smallB c = true) (ha : (w.all wordB) = true) {rest : List UInt8} {ts : List Tk} (hs : sepL rest) (hr : Lx rest ts) : Lx (w ++ rest) (mkT 1 w :: ts) :=
  lx_word h (fun c hc => List.all_eq_true.1 ha c hc) (sep_word hs) hr
theorem text_ok {t : ByteArray} (h : rightB 2 0 t = true) : t.size ≤ 40 ∧ ∀ c ∈ t.data.toList, c ≠ 39 := by
  unfold rightB at h
  simp at h
  refine ⟨h.1, fun c hc => ?_⟩
  have h2 := h.2
  unfold okText at h2
  have := List.all_eq_true.1 h2 c hc
  rintro rfl
  simp [badL] at this
theorem lx_val {x : GV} (h : valOk x) {rest : List UInt8} {ts : List Tk} (hs : sepL rest) (hr : Lx rest ts) : Lx (printL x.kind x.num x.text ++ rest) (litK x :: ts) := by
  rcases h with ⟨n, rfl, hn⟩ | ⟨t, rfl, ht⟩ | rfl
  · exact lx_num n (sep_digit hs) hr
  · exact lx_text (text_ok ht).2 hr
  · exact lx_kw (w := nullL) ⟨110, _, rfl, rfl⟩ rfl hs hr
theorem lx_par {n v : Nat} {s : List UInt8} {p : List Tk} (h : ∀ rest ts, sepL rest → Lx rest ts → Lx (s ++ rest) (p ++ ts)) (rest : List UInt8) (ts : List Tk) (hs : sepL rest) (hr : Lx rest ts) :
    Lx (parL n v s ++ rest) (parT n v p ++ ts) := by
  unfold parL parT
  split
  · have := lx_open (h (41 :: rest) (mkT 4 [41] :: ts) (sep_cl _) (lx_close hr))
    simpa using this
  · exact h rest ts hs hr
theorem lx_writ : ∀ (c : CT) (v d : Nat), okL v d c → v ≤ 2 → ∀ rest ts, sepL rest → Lx rest ts → Lx (writL c v ++ rest) (ptok c v ++ ts)
  | .nil, v, d, h, _, _, _, _, _ => h.elim
  | .node c col x l r, v, d, h, hv, rest, ts, hs, hr => by
    unfold okL at h
    unfold writL ptok
    by_cases h11 : c = 11
    · rw [if_pos h11] at h ⊢
      rw [if_pos h11, parL2 hv, parT2 hv]
      have h1 := lx_writ l 2 _ h.2.2.2.2 (Nat.le_refl _) rest ts hs hr
      have h2 := lx_kw (w := notL) ⟨110, _, rfl, rfl⟩ rfl (sep_sp _) (Lx.sp h1)
      simpa [notL] using h2
    rw [if_neg h11] at h ⊢
    rw [if_neg h11]
    by_cases h9 : c = 9
    · rw [if_pos h9] at h ⊢
      rw [if_pos h9]
      obtain ⟨dl, dr, hl, hr1⟩ : ∃ dl dr, okL 1 dl l ∧ okL 2 dr r := by
        have h := h.2.2
        split at h
        · exact ⟨_, _, h.1, h.2⟩
        · exact ⟨_, _, h.2.1, h.2.2⟩
      refine lx_par (fun rest ts hs hr => ?_) rest ts hs hr
      have h1 := lx_writ r 2 _ hr1 (Nat.le_refl _) rest ts hs hr
      have h2 := lx_kw (w := andL) ⟨97, _, rfl, rfl⟩ rfl (sep_sp _) (Lx.sp h1)
      have h3 := lx_writ l 1 _ hl (by omega) _ _ (sep_sp _) (Lx.sp h2)
      simpa [andL] using h3
    rw [if_neg h9] at h ⊢
    rw [if_neg h9]
    by_cases h10 : c = 10
    · rw [if_pos h10] at h ⊢
      rw [if_pos h10]
      obtain ⟨dl, dr, hl, hr1⟩ : ∃ dl dr, okL 0 dl l ∧ okL 1 dr r := by
        have h := h.2.2
        split at h
        · exact ⟨_, _, h.1, h.2⟩
        · exact ⟨_, _, h.2.1, h.2.2⟩
      refine lx_par (fun rest ts hs hr => ?_) rest ts hs hr
      have h1 := lx_writ r 1 _ hr1 (by omega) rest ts hs hr
      have h2 := lx_kw (w := orL) ⟨111, _, rfl, rfl⟩ rfl (sep_sp _) (Lx.sp h1)
      have h3 := lx_writ l 0 _ hl (by omega) _ _ (sep_sp _) (Lx.sp h2)
      simpa [orL] using h3
    rw [if_neg h10] at h ⊢
    rw [if_neg h10]
    obtain ⟨_, _, _, hn, hc⟩ := h
    by_cases h7 : c = 7
    · rw [if_pos h7, if_pos h7, parL2 hv, parT2 hv]
      have h1 := lx_kw (w := nullL) ⟨110, _, rfl, rfl⟩ rfl hs hr
      have h2 := lx_kw (w := isL) ⟨105, _, rfl, rfl⟩ rfl (sep_sp _) (Lx.sp h1)
      have h3 := lx_name hn (sep_sp _) (Lx.sp h2)
      simpa [nullL, isL] using h3
    rw [if_neg h7, if_neg h7]
    by_cases h8 : c = 8
    · rw [if_pos h8, if_pos h8, parL2 hv, parT2 hv]
      have h1 := lx_kw (w := nullL) ⟨110, _, rfl, rfl⟩ rfl hs hr
      have h2 := lx_kw (w := notL) ⟨110, _, rfl, rfl⟩ rfl (sep_sp _) (Lx.sp h1)
      have h3 := lx_kw (w := isL) ⟨105, _, rfl, rfl⟩ rfl (sep_sp _) (Lx.sp h2)
      have h4 := lx_name hn (sep_sp _) (Lx.sp h3)
      simpa [nullL, isL, notL] using h4
    rw [if_neg h8, if_neg h8, parL2 hv, parT2 hv]
    have hval : valOk x := by
      rcases hc with ⟨h | h, _⟩ | h
      · exact absurd h h7
      · exact absurd h h8
      · exact h.2.2
    have h1 := lx_val hval hs hr
    have h2 := lx_op (c := c) (Lx.sp h1)
    have h3 := lx_name hn (sep_sp _) (Lx.sp h2)
    simpa using h3
end Go.Proofs.YtmfilblbofkmcaaDoor

/- ask: what is written is read: the parser (plain). -/
namespace Go.Proofs.YtmfilblbofkmcaaDoor
set_option linter.unusedSimpArgs false
set_option linter.unusedVariables false
open Go.RowKit
set_option linter.all false
theorem see_mk (k : Int) (w : List UInt8) (l : List Tk) (s : List UInt8) : seeT (mkT k w :: l) s = ((w == s) && (k == 1 || k == 4)) := by
  simp [seeT, mkT]
theorem tkeq {col : ByteArray} : mkT 1 col.data.toList = ⟨1, col⟩ := by simp [mkT]
theorem name_kept {col : ByteArray} (h : nameT ⟨1, col⟩ = true) : ∀ k ∈ kept11, col ≠ k := by
  unfold nameT at h
  simp only [Bool.and_eq_true, Bool.not_eq_true'] at h
  intro k hk e
  subst e
  have := (Lib.containsS_iff kept11 col).2 hk
  rw [h.1.2] at this
  cases this
theorem see_name {col : ByteArray} (h : nameT ⟨1, col⟩ = true) (l : List Tk) (k : List UInt8) (hk : (⟨k.toArray⟩ : ByteArray) ∈ kept11) : seeT (⟨1, col⟩ :: l) k = false := by
  have := name_kept h _ hk
  simp only [seeT, Bool.and_eq_false_iff]
  left
  rw [beq_eq_false_iff_ne]
  intro e
  exact this (ba_ext (by rw [e]))
theorem see_name_par {col : ByteArray} (h : nameT ⟨1, col⟩ = true) (l : List Tk) : seeT (⟨1, col⟩ :: l) [40] = false := by
  obtain ⟨⟨c, r, h1, h2⟩, _⟩ := name_word h
  simp only [seeT, Bool.and_eq_false_iff]
  left
  rw [beq_eq_false_iff_ne, h1]
  intro e
  have : c = 40 := by simpa using (List.cons.inj e).1
  subst this
  simp [smallB] at h2
theorem code_mk {c : Int} (h1 : 1 ≤ c) (h6 : c ≤ 6) : codeT (mkT 4 (opL c)) = c := by
  obtain rfl | rfl | rfl | rfl | rfl | rfl : c = 1 ∨ c = 2 ∨ c = 3 ∨ c = 4 ∨ c = 5 ∨ c = 6 := by omega
  all_goals (unfold codeT; decide +kernel)
theorem opL_is (c : Int) : (opL c == isL) = false := by
  unfold opL
  repeat' split
  all_goals rfl
theorem num_back {n : Int} (hn : i64 n) : int64 ⟨(itoaL n).toArray⟩ = some n := by
  unfold int64
  rw [itoaL_eq]
  have := parse_itoa n hn
  simp only [this]
theorem mid_mk (t : ByteArray) : midS ⟨(39 :: t.data.toList ++ [39]).toArray⟩ = t := by
  refine ba_ext ?_
  unfold midS
  rw [Lib.extract_data, Lib.size_eq]
  simp
theorem lit_mk {x : GV} (h : valOk x) : litT (litK x) = some x := by
  rcases h with ⟨n, rfl, hn⟩ | ⟨t, rfl, ht⟩ | rfl
  · simp only [litK, if_true, litT, mkT]
    rw [num_back hn]
  · have e : litK ⟨2, 0, t⟩ = mkT 3 (39 :: t.data.toList ++ [39]) := by unfold litK; rfl
    have e2 : midS (mkT 3 (39 :: t.data.toList ++ [39])).text = t := mid_mk t
    rw [e]
    unfold litT
    rw [if_neg (show ¬ (mkT 3 (39 :: t.data.toList ++ [39])).kind = 2 from (by decide : ¬ (3 : Int) = 2)), if_pos (show (mkT 3 (39 :: t.data.toList ++ [39])).kind = 3 from rfl), e2, if_pos ht]
  · rfl
theorem leaf_back {c : Int} {col : ByteArray} {x : GV} (hn : nameT ⟨1, col⟩ = true) (hc : ((c = 7 ∨ c = 8) ∧ x = zV) ∨ (1 ≤ c ∧ c ≤ 6 ∧ valOk x)) (h11 : c ≠ 11) (h9 : c ≠ 9) (h10 : c ≠ 10) (v : Nat) (hv : v ≤ 2) (rest : List Tk) :
    leafP (ptok (.node c col x .nil .nil) v ++ rest) = some (.node c col x .nil .nil, rest) ∧ ∃ l, ptok (.node c col x .nil .nil) v = ⟨1, col⟩ :: l := by
  unfold ptok
  rw [if_neg h11, if_neg h9, if_neg h10]
  by_cases h7 : c = 7
  · subst h7
    have hx : x = zV := by rcases hc with ⟨_, h⟩ | ⟨_, h, _⟩; exact h; omega
    subst hx
    rw [if_pos rfl, parT2 hv, tkeq]
    refine ⟨?_, _, rfl⟩
    simp only [List.cons_append, leafP, nameP, hn, if_true, restP, see_mk, List.tail_cons, beq_self_eq_true, Bool.true_or, Bool.and_self, Bool.and_true]
    rfl
  rw [if_neg h7]
  by_cases h8 : c = 8
  · subst h8
    have hx : x = zV := by rcases hc with ⟨_, h⟩ | ⟨_, h, _⟩; exact h; omega
    subst hx
    rw [if_pos rfl, parT2 hv, tkeq]
    refine ⟨?_, _, rfl⟩
    simp only [List.cons_append, leafP, nameP, hn, if_true, restP, see_mk, List.tail_cons, beq_self_eq_true, Bool.true_or, Bool.and_self, Bool.and_true]
    rfl
  rw [if_neg h8]
  have hv2 : 1 ≤ c ∧ c ≤ 6 ∧ valOk x := by
    rcases hc with ⟨h | h, _⟩ | h
    · exact absurd h h7
    · exact absurd h h8
    · exact h
  rw [parT2 hv, tkeq]
  refine ⟨?_, _, rfl⟩
  simp only [List.cons_append, leafP, nameP, hn, if_true, restP, see_mk, opL_is, Bool.false_and, Bool.false_eq_true, if_false, code_mk hv2.1 hv2.2.1]
  rw [if_neg (by omega)]
  simp only [List.nil_append, litP, lit_mk hv2.2.2]
def OneL (T : List Tk) (d : Nat) (c : CT) : Prop := ∀ f rest, 4 * T.length + 1 ≤ f → oneP f d (T ++ rest) = some (c, rest)
def AndL (T : List Tk) (d : Nat) (c : CT) : Prop := ∀ f rest, 4 * T.length + 2 ≤ f → ∃ f', f ≤ f' + 4 * T.length ∧ andP f d (T ++ rest) = andQ f' d c rest
def OrL (T : List Tk) (d : Nat) (c : CT) : Prop := ∀ f rest, seeT rest andL = false → 4 * T.length + 3 ≤ f → ∃ f', f ≤ f' + 4 * T.length ∧ orP f d (T ++ rest) = orQ f' d c rest
theorem and_of_one {T : List Tk} {d : Nat} {c : CT} (hT : 1 ≤ T.length) (h : OneL T d c) : AndL T d c := fun f rest hf => by
  obtain ⟨f, rfl⟩ : ∃ g, f = g + 1 := ⟨f - 1, by omega⟩
  refine ⟨f, by omega, ?_⟩
  simp only [andP]
  rw [h f rest (by omega)]
theorem andQ_end {f d : Nat} {c : CT} {rest : List Tk} (hf : 1 ≤ f) (h : seeT rest andL = false) : andQ f d c rest = some (c, rest) := by
  obtain ⟨f, rfl⟩ : ∃ g, f = g + 1 := ⟨f - 1, by omega⟩
  simp only [andQ, h, Bool.false_eq_true, if_false]
theorem orQ_end {f d : Nat} {c : CT} {rest : List Tk} (hf : 1 ≤ f) (h : seeT rest orL = false) : orQ f d c rest = some (c, rest) := by
  obtain ⟨f, rfl⟩ : ∃ g, f = g + 1 := ⟨f - 1, by omega⟩
  simp only [orQ, h, Bool.false_eq_true, if_false]
theorem or_of_and {T : List Tk} {d : Nat} {c : CT} (hT : 1 ≤ T.length) (h : AndL T d c) : OrL T d c := fun f rest hs hf => by
  obtain ⟨f, rfl⟩ : ∃ g, f = g + 1 := ⟨f - 1, by omega⟩
  obtain ⟨f', h1, h2⟩ := h f rest (by omega)
  refine ⟨f, by omega, ?_⟩
  simp only [orP]
  rw [h2, andQ_end (by omega) hs]
theorem one_of_or {T : List Tk} {d : Nat} {c : CT} (hd : d ≤ 6) (h : OrL T (d + 1) c) : OneL ([mkT 4 [40]] ++ T ++ [mkT 4 [41]]) d c := fun f rest hf => by
  obtain ⟨f, rfl⟩ : ∃ g, f = g + 1 := ⟨f - 1, by omega⟩
  simp only [List.length_append, List.length_cons, List.length_nil] at hf
  obtain ⟨f', h1, h2⟩ := h f (mkT 4 [41] :: rest) (by rw [see_mk]; rfl) (by omega)
  simp only [List.append_assoc, List.cons_append, List.nil_append]
  simp only [oneP]
  rw [if_neg (by omega), if_neg (by rw [see_mk]; decide), if_pos (by rw [see_mk]; decide)]
  simp only [List.tail_cons]
  rw [h2, orQ_end (by omega) (by rw [see_mk]; rfl)]
  simp only [see_mk]
  rfl
theorem ptok_pos : ∀ (c : CT) (v d : Nat), okL v d c → 1 ≤ (ptok c v).length
  | .nil, v, d, h => h.elim
  | .node c col x l r, v, d, h => by
    unfold ptok
    have par : ∀ (n : Nat) (s : List Tk), 1 ≤ s.length → 1 ≤ (parT n v s).length := fun n s hs => by
      unfold parT
      split
      · simp
      · exact hs
    repeat' split
    all_goals exact par _ _ (by simp only [List.length_append, List.length_cons]; omega)
theorem par_main : ∀ (c : CT) (d : Nat), (okL 2 d c → OneL (ptok c 2) d c) ∧ (okL 1 d c → AndL (ptok c 1) d c) ∧ (okL 0 d c → OrL (ptok c 0) d c)
  | .nil, d => ⟨fun h => h.elim, fun h => h.elim, fun h => h.elim⟩
  | .node c col x l r, d => by
    by_cases h11 : c = 11
    · subst h11
      have hp : ∀ v, v ≤ 2 → ptok (.node 11 col x l r) v = mkT 1 notL :: ptok l 2 := fun v hv => by
        conv => lhs; unfold ptok
        rw [if_pos rfl, parT2 hv]
      have hone : ∀ v, okL v d (.node 11 col x l r) → OneL (mkT 1 notL :: ptok l 2) d (.node 11 col x l r) := fun v h => by
        unfold okL at h
        rw [if_pos rfl] at h
        obtain ⟨rfl, rfl, rfl, hd, hl⟩ := h
        intro f rest hf
        obtain ⟨f, rfl⟩ : ∃ g, f = g + 1 := ⟨f - 1, by omega⟩
        simp only [List.length_cons] at hf
        simp only [List.cons_append, oneP]
        rw [if_neg (by omega), if_pos (by rw [see_mk]; decide)]
        simp only [List.tail_cons]
        rw [(par_main l (d + 1)).1 hl f rest (by omega)]
        rfl
      rw [hp 2 (by omega), hp 1 (by omega), hp 0 (by omega)]
      have hL : 1 ≤ (mkT 1 notL :: ptok l 2).length := by simp
      exact ⟨fun h => hone _ h, fun h => and_of_one hL (hone _ h), fun h => or_of_and hL (and_of_one hL (hone _ h))⟩
    by_cases h9 : c = 9
    · subst h9
      have hp : ∀ v, ptok (.node 9 col x l r) v = parT 1 v (ptok l 1 ++ mkT 1 andL :: ptok r 2) := fun v => by
        conv => lhs; unfold ptok
        rw [if_neg (by decide), if_pos rfl]
      have hand : ∀ d, okL 1 d (.node 9 col x l r) → AndL (ptok l 1 ++ mkT 1 andL :: ptok r 2) d (.node 9 col x l r) := fun d h => by
        unfold okL at h
        rw [if_neg (by decide), if_pos rfl, if_pos (by omega)] at h
        obtain ⟨rfl, rfl, hl, hr⟩ := h
        intro f rest hf
        simp only [List.length_append, List.length_cons] at hf ⊢
        obtain ⟨f1, h1, h2⟩ := (par_main l d).2.1 hl f (mkT 1 andL :: ptok r 2 ++ rest) (by omega)
        rw [List.append_assoc, h2]
        obtain ⟨f1, rfl⟩ : ∃ g, f1 = g + 1 := ⟨f1 - 1, by omega⟩
        refine ⟨f1, by omega, ?_⟩
        simp only [List.cons_append, andQ]
        rw [if_pos (by rw [see_mk]; decide)]
        simp only [List.tail_cons]
        rw [(par_main r d).1 hr f1 rest (by omega)]
        rfl
      have hL : 1 ≤ (ptok l 1 ++ mkT 1 andL :: ptok r 2).length := by simp only [List.length_append, List.length_cons]; omega
      rw [hp 2, hp 1, hp 0, show parT 1 2 _ = _ from if_pos (by omega), show parT 1 1 _ = _ from if_neg (by omega), show parT 1 0 _ = _ from if_neg (by omega)]
      refine ⟨fun h => ?_, fun h => hand d h, fun h => or_of_and hL (hand d (okL_of0 h))⟩
      have hd : d ≤ 6 ∧ okL 1 (d + 1) (.node 9 col x l r) := by
        unfold okL at h ⊢
        rw [if_neg (by decide), if_pos rfl, if_neg (by omega)] at h
        rw [if_neg (by decide), if_pos rfl, if_pos (by omega)]
        exact ⟨h.2.2.1, h.1, h.2.1, h.2.2.2⟩
      exact one_of_or hd.1 (or_of_and hL (hand (d + 1) hd.2))
    by_cases h10 : c = 10
    · subst h10
      have hp : ∀ v, ptok (.node 10 col x l r) v = parT 0 v (ptok l 0 ++ mkT 1 orL :: ptok r 1) := fun v => by
        conv => lhs; unfold ptok
        rw [if_neg (by decide), if_neg (by decide), if_pos rfl]
      have hor : ∀ d, okL 0 d (.node 10 col x l r) → OrL (ptok l 0 ++ mkT 1 orL :: ptok r 1) d (.node 10 col x l r) := fun d h => by
        unfold okL at h
        rw [if_neg (by decide), if_neg (by decide), if_pos rfl, if_pos (by omega)] at h
        obtain ⟨rfl, rfl, hl, hr⟩ := h
        intro f rest hs hf
        simp only [List.length_append, List.length_cons] at hf ⊢
        obtain ⟨f1, h1, h2⟩ := (par_main l d).2.2 hl f (mkT 1 orL :: ptok r 1 ++ rest) (by simp only [List.cons_append]; rw [see_mk]; rfl) (by omega)
        rw [List.append_assoc, h2]
        obtain ⟨f1, rfl⟩ : ∃ g, f1 = g + 1 := ⟨f1 - 1, by omega⟩
        refine ⟨f1, by omega, ?_⟩
        simp only [List.cons_append, orQ]
        rw [if_pos (by rw [see_mk]; decide)]
        simp only [List.tail_cons]
        obtain ⟨f2, h3, h4⟩ := (par_main r d).2.1 hr f1 rest (by omega)
        rw [h4, andQ_end (by omega) hs]
        rfl
      have hpar : ∀ v, 1 ≤ v → okL v d (.node 10 col x l r) → OneL ([mkT 4 [40]] ++ (ptok l 0 ++ mkT 1 orL :: ptok r 1) ++ [mkT 4 [41]]) d (.node 10 col x l r) := fun v hv h => by
        have hd : d ≤ 6 ∧ okL 0 (d + 1) (.node 10 col x l r) := by
          unfold okL at h ⊢
          rw [if_neg (by decide), if_neg (by decide), if_pos rfl, if_neg (by omega)] at h
          rw [if_neg (by decide), if_neg (by decide), if_pos rfl, if_pos (by omega)]
          exact ⟨h.2.2.1, h.1, h.2.1, h.2.2.2⟩
        exact one_of_or hd.1 (hor (d + 1) hd.2)
      rw [hp 2, hp 1, hp 0, show parT 0 2 _ = _ from if_pos (by omega), show parT 0 1 _ = _ from if_pos (by omega), show parT 0 0 _ = _ from if_neg (by omega)]
      exact ⟨fun h => hpar 2 (by omega) h, fun h => and_of_one (by simp) (hpar 1 (by omega) h), fun h => hor d h⟩
    have hone : ∀ v, v ≤ 2 → okL v d (.node c col x l r) → OneL (ptok (.node c col x l r) v) d (.node c col x l r) := fun v hv h => by
      unfold okL at h
      rw [if_neg h11, if_neg h9, if_neg h10] at h
      obtain ⟨hd, rfl, rfl, hn, hc⟩ := h
      intro f rest hf
      obtain ⟨f, rfl⟩ : ∃ g, f = g + 1 := ⟨f - 1, by omega⟩
      obtain ⟨h1, l2, h2⟩ := leaf_back hn hc h11 h9 h10 v hv rest
      rw [h2] at h1 ⊢
      simp only [List.cons_append] at h1 ⊢
      simp only [oneP]
      rw [if_neg (by omega), if_neg (by rw [see_name hn _ notL (by simp [kept11, notL])]; decide), if_neg (by rw [see_name_par hn]; decide), h1]
    exact ⟨fun h => hone 2 (by omega) h, fun h => and_of_one (ptok_pos _ _ _ h) (hone 1 (by omega) h), fun h => or_of_and (ptok_pos _ _ _ h) (and_of_one (ptok_pos _ _ _ h) (hone 0 (by omega) h))⟩
where
  okL_of0 {d : Nat} {col : ByteArray} {x : GV} {l r : CT} (h : okL 0 d (.node 9 col x l r)) : okL 1 d (.node 9 col x l r) := by
    unfold okL at h ⊢
    rw [if_neg (by decide), if_pos rfl, if_pos (by omega)] at h
    rw [if_neg (by decide), if_pos rfl, if_pos (by omega)]
    exact h
end Go.Proofs.YtmfilblbofkmcaaDoor

/- ask: what is read is such as is written; what is written is read (plain). -/
namespace Go.Proofs.YtmfilblbofkmcaaDoor
set_option linter.unusedSimpArgs false
set_option linter.unusedVariables false
open Go.RowKit
set_option linter.all false
theorem tk_eta (t : Tk) (h : t.kind = 1) : t = ⟨1, t.text⟩ := by
  cases t
  simp at h
  subst h
  rfl
theorem nameT_kind {t : Tk} (h : nameT t = true) : t = ⟨1, t.text⟩ := by
  unfold nameT at h
  simp only [Bool.and_eq_true, beq_iff_eq] at h
  exact tk_eta t h.1.1
theorem lit_ok {t : Tk} {v : GV} (h : litT t = some v) : valOk v := by
  unfold litT at h
  split at h
  · cases hn : int64 t.text with
    | none => rw [hn] at h; cases h
    | some n =>
      rw [hn] at h
      obtain rfl := Option.some.inj h
      refine .inl ⟨n, rfl, ?_⟩
      unfold int64 at hn
      split at hn
      · rename_i v hv
        obtain rfl := Option.some.inj hn
        exact parse_i64 hv
      · cases hn
  · split at h
    · split at h
      · rename_i hr
        obtain rfl := Option.some.inj h
        exact .inr (.inl ⟨_, rfl, hr⟩)
      · cases h
    · split at h
      · obtain rfl := Option.some.inj h
        exact .inr (.inr rfl)
      · cases h
theorem code_le (t : Tk) : codeT t ≤ 6 := by
  unfold codeT
  split
  · have : ∀ (zs : List ByteArray) (x : ByteArray) (i : Nat), Lib.idxFromS zs x i < (i : Int) + zs.length ∨ Lib.idxFromS zs x i = -1 := by
      intro zs
      induction zs with
      | nil => intro x i; right; rfl
      | cons z zs ih =>
        intro x i
        unfold Lib.idxFromS
        split
        · left; simp only [List.length_cons]; omega
        · rcases ih x (i + 1) with h | h
          · left; simp only [List.length_cons]; omega
          · right; exact h
    have h := this codesS t.text 0
    unfold Lib.idxOfS
    have h6 : codesS.length = 6 := rfl
    omega
  · omega
theorem rest_ok {n : ByteArray} {l r : List Tk} {c : CT} (hn : nameT ⟨1, n⟩ = true) (h : restP n l = some (c, r)) :
    ∃ k x, c = .node k n x .nil .nil ∧ k ≠ 11 ∧ k ≠ 9 ∧ k ≠ 10 ∧ leafOk k n x .nil .nil ∧ ∀ v, v ≤ 2 → (ptok c v).length + r.length ≤ l.length + 1 := by
  have len : ∀ {k : Int} {x : GV} {v : Nat}, v ≤ 2 → k ≠ 11 → k ≠ 9 → k ≠ 10 → (ptok (.node k n x .nil .nil) v).length ≤ (if k = 8 then 4 else 3) := fun hv h11 h9 h10 => by
    unfold ptok
    rw [if_neg h11, if_neg h9, if_neg h10]
    split
    · rename_i h7; rw [parT2 hv, if_neg (by omega)]; simp
    · split
      · rename_i h8; rw [parT2 hv]; simp
      · rename_i h8; rw [parT2 hv]; simp
  have see_len : ∀ {m : List Tk} {s : List UInt8}, seeT m s = true → m.length = m.tail.length + 1 := fun {m s} h => by
    cases m with
    | nil => simp [seeT] at h
    | cons t m => rfl
  unfold restP at h
  split at h
  · rename_i h1
    split at h
    · rename_i h2
      split at h
      · rename_i h3
        obtain ⟨rfl, rfl⟩ := Prod.mk.inj (Option.some.inj h)
        refine ⟨8, zV, rfl, by decide, by decide, by decide, ⟨rfl, rfl, hn, .inl ⟨.inr rfl, rfl⟩⟩, fun v hv => ?_⟩
        have := len (k := 8) (x := zV) hv (by decide) (by decide) (by decide)
        rw [if_pos rfl] at this
        have := see_len h1; have := see_len h2; have := see_len h3
        omega
      · cases h
    · split at h
      · rename_i h3
        obtain ⟨rfl, rfl⟩ := Prod.mk.inj (Option.some.inj h)
        refine ⟨7, zV, rfl, by decide, by decide, by decide, ⟨rfl, rfl, hn, .inl ⟨.inl rfl, rfl⟩⟩, fun v hv => ?_⟩
        have := len (k := 7) (x := zV) hv (by decide) (by decide) (by decide)
        rw [if_neg (by decide)] at this
        have := see_len h1; have := see_len h3
        omega
      · cases h
  · cases l with
    | nil => cases h
    | cons t l =>
      simp only at h
      split at h
      · cases h
      · rename_i hc
        cases l with
        | nil => simp [litP] at h
        | cons t2 l =>
          simp only [litP] at h
          cases hv : litT t2 with
          | none => rw [hv] at h; cases h
          | some x =>
            rw [hv] at h
            obtain ⟨rfl, rfl⟩ := Prod.mk.inj (Option.some.inj h)
            have h6 := code_le t
            refine ⟨codeT t, x, rfl, by omega, by omega, by omega, ⟨rfl, rfl, hn, .inr ⟨by omega, h6, lit_ok hv⟩⟩, fun v hv => ?_⟩
            have := len (k := codeT t) (x := x) hv (by omega) (by omega) (by omega)
            rw [if_neg (by omega)] at this
            simp only [List.length_cons]
            omega
theorem leaf_ok {l r : List Tk} {c : CT} {d : Nat} (hd : d ≤ 6) (h : leafP l = some (c, r)) : (∀ v, okL v d c) ∧ ∀ v, v ≤ 2 → (ptok c v).length + r.length ≤ l.length := by
  unfold leafP at h
  cases l with
  | nil => simp [nameP] at h
  | cons t l =>
    simp only [nameP] at h
    by_cases hn : nameT t = true
    · rw [if_pos hn] at h
      have hn' := hn
      rw [nameT_kind hn] at hn'
      obtain ⟨k, x, rfl, h11, h9, h10, hl, hlen⟩ := rest_ok hn' h
      refine ⟨fun v => ?_, fun v hv => ?_⟩
      · unfold okL
        rw [if_neg h11, if_neg h9, if_neg h10]
        exact ⟨hd, hl⟩
      · have := hlen v hv
        simp only [List.length_cons]
        omega
    · rw [if_neg hn] at h
      cases h
theorem see_tail {m : List Tk} {s : List UInt8} (h : seeT m s = true) : m.length = m.tail.length + 1 := by
  cases m with
  | nil => simp [seeT] at h
  | cons t m => rfl
theorem ptok_2 (c : CT) (v : Nat) : (ptok c 2).length ≤ (ptok c v).length + 2 := by
  cases c with
  | nil => simp [ptok]
  | node c col x l r =>
    have key : ∀ (n : Nat) (s : List Tk), (parT n 2 s).length ≤ (parT n v s).length + 2 := fun n s => by
      unfold parT
      split <;> split <;> simp <;> omega
    unfold ptok
    repeat' split
    all_goals exact key _ _
theorem of_parse : ∀ (f d : Nat) (l : List Tk),
    (∀ c r, oneP f d l = some (c, r) → okL 2 d c ∧ (ptok c 2).length + r.length ≤ l.length) ∧
    (∀ c r, andP f d l = some (c, r) → okL 1 d c ∧ (ptok c 1).length + r.length ≤ l.length) ∧
    (∀ a c r, okL 1 d a → andQ f d a l = some (c, r) → okL 1 d c ∧ (ptok c 1).length + r.length ≤ (ptok a 1).length + l.length) ∧
    (∀ c r, orP f d l = some (c, r) → okL 0 d c ∧ (ptok c 0).length + r.length ≤ l.length) ∧
    (∀ a c r, okL 0 d a → orQ f d a l = some (c, r) → okL 0 d c ∧ (ptok c 0).length + r.length ≤ (ptok a 0).length + l.length)
  | 0, d, l => by
    refine ⟨fun c r h => ?_, fun c r h => ?_, fun a c r _ h => ?_, fun c r h => ?_, fun a c r _ h => ?_⟩
    · simp [oneP] at h
    · simp [andP] at h
    · simp [andQ] at h
    · simp [orP] at h
    · simp [orQ] at h
  | f + 1, d, l => by
    have le1 : ∀ {c : CT}, (ptok c 1).length ≤ (ptok c 2).length := fun {c} => by
      cases c with
      | nil => simp [ptok]
      | node c col x l r =>
        have key : ∀ (n : Nat) (s : List Tk), (parT n 1 s).length ≤ (parT n 2 s).length := fun n s => by
          unfold parT
          split <;> split <;> simp <;> omega
        unfold ptok
        repeat' split
        all_goals exact key _ _
    have le0 : ∀ {c : CT}, (ptok c 0).length ≤ (ptok c 1).length := fun {c} => by
      cases c with
      | nil => simp [ptok]
      | node c col x l r =>
        have key : ∀ (n : Nat) (s : List Tk), (parT n 0 s).length ≤ (parT n 1 s).length := fun n s => by
          unfold parT
          split <;> split <;> simp <;> omega
        unfold ptok
        repeat' split
        all_goals exact key _ _
    refine ⟨fun c r h => ?_, fun c r h => ?_, fun a c r ha h => ?_, fun c r h => ?_, fun a c r ha h => ?_⟩
    · simp only [oneP] at h
      split at h
      · cases h
      rename_i hd
      split at h
      · rename_i hs
        cases h1 : oneP f (d + 1) l.tail with
        | none => rw [h1] at h; cases h
        | some x =>
          obtain ⟨c1, r1⟩ := x
          rw [h1] at h
          obtain ⟨rfl, rfl⟩ := Prod.mk.inj (Option.some.inj h)
          obtain ⟨k1, k2⟩ := (of_parse f (d + 1) l.tail).1 c1 r1 h1
          have := see_tail hs
          refine ⟨?_, ?_⟩
          · unfold opA okL
            rw [if_pos rfl]
            exact ⟨rfl, rfl, rfl, by omega, k1⟩
          · unfold opA
            conv => lhs; unfold ptok
            rw [if_pos rfl, parT2 (Nat.le_refl _)]
            simp only [List.length_cons]
            omega
      split at h
      · rename_i hs
        cases h1 : orP f (d + 1) l.tail with
        | none => rw [h1] at h; cases h
        | some x =>
          obtain ⟨c1, r1⟩ := x
          rw [h1] at h
          simp only at h
          split at h
          · rename_i hs2
            obtain ⟨rfl, rfl⟩ := Prod.mk.inj (Option.some.inj h)
            obtain ⟨k1, k2⟩ := (of_parse f (d + 1) l.tail).2.2.2.1 c1 r1 h1
            have := see_tail hs
            have := see_tail hs2
            have := ptok_2 c1 0
            exact ⟨okL_par (by omega) k1, by omega⟩
          · cases h
      · obtain ⟨k1, k2⟩ := leaf_ok (d := d) (by omega) h
        exact ⟨k1 2, k2 2 (Nat.le_refl _)⟩
    · simp only [andP] at h
      cases h1 : oneP f d l with
      | none => rw [h1] at h; cases h
      | some x =>
        obtain ⟨c1, r1⟩ := x
        rw [h1] at h
        obtain ⟨k1, k2⟩ := (of_parse f d l).1 c1 r1 h1
        obtain ⟨k3, k4⟩ := (of_parse f d r1).2.2.1 c1 c r (okL_mono c1 _ _ _ _ (by omega) (Nat.le_refl _) k1) h
        have := @le1 c1
        exact ⟨k3, by omega⟩
    · simp only [andQ] at h
      split at h
      · rename_i hs
        cases h1 : oneP f d l.tail with
        | none => rw [h1] at h; cases h
        | some x =>
          obtain ⟨c1, r1⟩ := x
          rw [h1] at h
          obtain ⟨k1, k2⟩ := (of_parse f d l.tail).1 c1 r1 h1
          have hop : okL 1 d (opA 9 a c1) := by
            unfold opA okL
            rw [if_neg (by decide), if_pos rfl, if_pos (Nat.le_refl _)]
            exact ⟨rfl, rfl, ha, k1⟩
          obtain ⟨k3, k4⟩ := (of_parse f d r1).2.2.1 (opA 9 a c1) c r hop h
          have := see_tail hs
          have e : (ptok (opA 9 a c1) 1).length = (ptok a 1).length + ((ptok c1 2).length + 1) := by
            unfold opA
            conv => lhs; unfold ptok
            rw [if_neg (by decide), if_pos rfl, show parT 1 1 _ = _ from if_neg (by omega)]
            simp only [List.length_append, List.length_cons]
          exact ⟨k3, by omega⟩
      · obtain ⟨rfl, rfl⟩ := Prod.mk.inj (Option.some.inj h)
        exact ⟨ha, Nat.le_refl _⟩
    · simp only [orP] at h
      cases h1 : andP f d l with
      | none => rw [h1] at h; cases h
      | some x =>
        obtain ⟨c1, r1⟩ := x
        rw [h1] at h
        obtain ⟨k1, k2⟩ := (of_parse f d l).2.1 c1 r1 h1
        obtain ⟨k3, k4⟩ := (of_parse f d r1).2.2.2.2 c1 c r (okL_mono c1 _ _ _ _ (by omega) (Nat.le_refl _) k1) h
        have := @le0 c1
        exact ⟨k3, by omega⟩
    · simp only [orQ] at h
      split at h
      · rename_i hs
        cases h1 : andP f d l.tail with
        | none => rw [h1] at h; cases h
        | some x =>
          obtain ⟨c1, r1⟩ := x
          rw [h1] at h
          obtain ⟨k1, k2⟩ := (of_parse f d l.tail).2.1 c1 r1 h1
          have hop : okL 0 d (opA 10 a c1) := by
            unfold opA okL
            rw [if_neg (by decide), if_neg (by decide), if_pos rfl, if_pos (Nat.le_refl _)]
            exact ⟨rfl, rfl, ha, k1⟩
          obtain ⟨k3, k4⟩ := (of_parse f d r1).2.2.2.2 (opA 10 a c1) c r hop h
          have := see_tail hs
          have e : (ptok (opA 10 a c1) 0).length = (ptok a 0).length + ((ptok c1 1).length + 1) := by
            unfold opA
            conv => lhs; unfold ptok
            rw [if_neg (by decide), if_neg (by decide), if_pos rfl, show parT 0 0 _ = _ from if_neg (by omega)]
            simp only [List.length_append, List.length_cons]
          exact ⟨k3, by omega⟩
      · obtain ⟨rfl, rfl⟩ := Prod.mk.inj (Option.some.inj h)
        exact ⟨ha, Nat.le_refl _⟩
/-- how long what is written is -/
theorem itoaL_le {n : Int} (hn : i64 n) : (itoaL n).length ≤ 30 := by
  unfold itoaL
  have h1 := revDig_len 20 n.natAbs (by unfold i64 at hn; omega)
  simp only [List.length_reverse, List.length_append]
  split <;> simp <;> omega
theorem writ_len : ∀ (c : CT) (v d : Nat), okL v d c → v ≤ 2 → (writL c v).length ≤ 60 * (ptok c v).length
  | .nil, v, d, h, _ => h.elim
  | .node c col x l r, v, d, h, hv => by
    have par : ∀ (n : Nat) (s : List UInt8) (t : List Tk), s.length ≤ 60 * t.length → (parL n v s).length ≤ 60 * (parT n v t).length := fun n s t h => by
      unfold parL parT
      split
      · simp only [List.length_append, List.length_cons, List.length_nil]; omega
      · exact h
    unfold okL at h
    unfold writL ptok
    by_cases h11 : c = 11
    · rw [if_pos h11] at h ⊢
      rw [if_pos h11]
      have := writ_len l 2 _ h.2.2.2.2 (Nat.le_refl _)
      exact par _ _ _ (by simp only [List.length_append, List.length_cons, List.length_nil]; omega)
    rw [if_neg h11] at h ⊢
    rw [if_neg h11]
    by_cases h9 : c = 9
    · rw [if_pos h9] at h ⊢
      rw [if_pos h9]
      obtain ⟨dl, dr, hl, hr1⟩ : ∃ dl dr, okL 1 dl l ∧ okL 2 dr r := by
        have h := h.2.2
        split at h
        · exact ⟨_, _, h.1, h.2⟩
        · exact ⟨_, _, h.2.1, h.2.2⟩
      have := writ_len l 1 _ hl (by omega)
      have := writ_len r 2 _ hr1 (by omega)
      exact par _ _ _ (by simp only [List.length_append, List.length_cons, List.length_nil]; omega)
    rw [if_neg h9] at h ⊢
    rw [if_neg h9]
    by_cases h10 : c = 10
    · rw [if_pos h10] at h ⊢
      rw [if_pos h10]
      obtain ⟨dl, dr, hl, hr1⟩ : ∃ dl dr, okL 0 dl l ∧ okL 1 dr r := by
        have h := h.2.2
        split at h
        · exact ⟨_, _, h.1, h.2⟩
        · exact ⟨_, _, h.2.1, h.2.2⟩
      have := writ_len l 0 _ hl (by omega)
      have := writ_len r 1 _ hr1 (by omega)
      exact par _ _ _ (by simp only [List.length_append, List.length_cons, List.length_nil]; omega)
    rw [if_neg h10] at h ⊢
    rw [if_neg h10]
    obtain ⟨_, _, _, hn, hc⟩ := h
    have hcl : col.data.toList.length ≤ 16 := by
      unfold nameT at hn
      simp only [Bool.and_eq_true] at hn
      have hn := hn.2
      unfold nameB at hn
      simp only [Bool.and_eq_true, decide_eq_true_eq] at hn
      have := hn.1.1.2
      rw [Lib.size_eq] at this
      exact this
    by_cases h7 : c = 7
    · rw [if_pos h7, if_pos h7]
      exact par _ _ _ (by simp only [List.length_append, List.length_cons, List.length_nil]; omega)
    rw [if_neg h7, if_neg h7]
    by_cases h8 : c = 8
    · rw [if_pos h8, if_pos h8]
      exact par _ _ _ (by simp only [List.length_append, List.length_cons, List.length_nil]; omega)
    rw [if_neg h8, if_neg h8]
    have hval : valOk x := by
      rcases hc with ⟨h | h, _⟩ | h
      · exact absurd h h7
      · exact absurd h h8
      · exact h.2.2
    have hop : (opL c).length ≤ 2 := by
      unfold opL
      repeat' split
      all_goals decide
    have hpl : (printL x.kind x.num x.text).length ≤ 60 := by
      rcases hval with ⟨n, rfl, hn⟩ | ⟨t, rfl, ht⟩ | rfl
      · have := itoaL_le hn
        show (itoaL n).length ≤ 60
        omega
      · have := (text_ok ht).1
        rw [Lib.size_eq] at this
        show (39 :: t.data.toList ++ [39]).length ≤ 60
        simp only [List.cons_append, List.length_cons, List.length_append, List.length_nil]
        omega
      · decide
    exact par _ _ _ (by simp only [List.length_append, List.length_cons, List.length_nil]; omega)
theorem okL_okW : ∀ (c : CT) (v d : Nat), okL v d c → okW c
  | .nil, v, d, h => h.elim
  | .node c col x l r, v, d, h => by
    unfold okL at h
    unfold okW
    by_cases h11 : c = 11
    · rw [if_pos h11] at h ⊢
      exact okL_okW l _ _ h.2.2.2.2
    rw [if_neg h11] at h ⊢
    by_cases h9 : c = 9
    · rw [if_pos h9] at h
      rw [if_pos (.inl h9)]
      have h := h.2.2
      split at h
      · exact ⟨okL_okW l _ _ h.1, okL_okW r _ _ h.2⟩
      · exact ⟨okL_okW l _ _ h.2.1, okL_okW r _ _ h.2.2⟩
    rw [if_neg h9] at h
    by_cases h10 : c = 10
    · rw [if_pos h10] at h
      rw [if_pos (.inr h10)]
      have h := h.2.2
      split at h
      · exact ⟨okL_okW l _ _ h.1, okL_okW r _ _ h.2⟩
      · exact ⟨okL_okW l _ _ h.2.1, okL_okW r _ _ h.2.2⟩
    rw [if_neg h10] at h
    rw [if_neg (by omega)]
    obtain ⟨_, _, _, _, hc⟩ := h
    rcases hc with ⟨h | h, rfl⟩ | ⟨h1, h2, hv⟩
    · exact ⟨by omega, by omega, ⟨by decide, by decide⟩, by decide⟩
    · exact ⟨by omega, by omega, ⟨by decide, by decide⟩, by decide⟩
    · rcases hv with ⟨n, rfl, hn⟩ | ⟨t, rfl, ht⟩ | rfl
      · exact ⟨h1, by omega, hn, by show (0 : Nat) ≤ 1000; omega⟩
      · exact ⟨h1, by omega, (show i64 0 from ⟨by decide, by decide⟩), by have := (text_ok ht).1; show t.size ≤ 1000; omega⟩
      · exact ⟨h1, by omega, ⟨by decide, by decide⟩, by decide⟩
theorem nextL_kind : ∀ l, 1 ≤ (nextL l).1 ∧ (nextL l).1 ≤ 4
  | [] => by decide
  | c :: r => by
    simp only [nextL]
    repeat' split
    all_goals (constructor <;> simp)
theorem nextL_text (l : List UInt8) (h : (nextL l).1 = 3) (hp : 0 < (nextL l).2) : 2 ≤ (nextL l).2 := by
  cases l with
  | nil => simp [nextL] at h
  | cons c r =>
    simp only [nextL] at h hp ⊢
    split at h
    · simp at h
    rename_i h1
    rw [if_neg h1] at hp ⊢
    split at h
    · simp at h
    rename_i h2
    rw [if_neg h2] at hp ⊢
    split at h
    · rename_i h3
      rw [if_pos h3] at hp ⊢
      simp only at hp ⊢
      split at hp
      · rename_i h4
        rw [if_pos h4]
        omega
      · omega
    · simp at h
/-- what tokens are -/
def TkOk (n : Nat) (t : Tk) : Prop := 1 ≤ t.kind ∧ t.kind ≤ 5 ∧ t.text.size ≤ n ∧ (t.kind = 3 → 2 ≤ t.text.size)
theorem lx_ok {bs : List UInt8} {ts : List Tk} (h : Lx bs ts) : ∀ n, bs.length ≤ n → ∀ t ∈ ts, TkOk n t ∧ t.kind ≠ 5 := by
  induction h with
  | nil => intro n _ t ht; cases ht
  | sp h ih => intro n hn t ht; simp only [List.length_cons] at hn; exact ih n (by omega) t ht
  | @tk c r ts hc hp h ih =>
    intro n hn t ht
    rcases List.mem_cons.1 ht with rfl | ht
    · have h1 := nextL_kind (c :: r)
      have h2 := nextL_le (c :: r)
      have h3 := nextL_text (c :: r)
      have e : (⟨((c :: r).take (nextL (c :: r)).2).toArray⟩ : ByteArray).size = (nextL (c :: r)).2 := by
        rw [Lib.size_eq]
        simp only [List.length_take]
        omega
      refine ⟨⟨h1.1, by show (nextL (c :: r)).1 ≤ 5; omega, by rw [e]; omega, fun hk => by rw [e]; exact h3 hk hp⟩, ?_⟩
      show (nextL (c :: r)).1 ≠ 5
      omega
    · exact ih n (by rw [List.length_drop]; omega) t ht
theorem lx_nil {bs : List UInt8} {ts : List Tk} (h : Lx bs ts) (ht : ts = []) : ∀ b ∈ bs, b = 32 := by
  induction h with
  | nil => intro b hb; cases hb
  | sp h ih =>
    intro b hb
    rcases List.mem_cons.1 hb with rfl | hb
    · rfl
    · exact ih ht b hb
  | tk => cases ht
/-- what is written of what was read is read as just this -/
theorem cond_back {s : List UInt8} {c : CT} (h : condP s = some c) :
    condP (condW c) = some c ∧ ((c = .nil ∧ ∀ b ∈ s, b = 32) ∨ (c ≠ .nil ∧ okW c ∧ (writL c 0).length ≤ 4800)) := by
  unfold condP at h
  cases ht : tokL (s.length + 1) s 0 with
  | none => rw [ht] at h; cases h
  | some l =>
    rw [ht] at h
    obtain ⟨ts, rfl, hx, hk⟩ := of_tokL _ _ _ _ ht
    have hk := hk (by omega)
    simp only at h
    cases hw : wholeP (ts ++ [endTk]) with
    | none => rw [hw] at h; cases h
    | some x =>
      obtain ⟨c', r⟩ := x
      rw [hw] at h
      simp only at h
      split at h
      · rename_i hr
        obtain rfl := Option.some.inj h
        unfold wholeP at hw
        split at hw
        · rename_i h5
          obtain ⟨rfl, _⟩ := Prod.mk.inj (Option.some.inj hw)
          refine ⟨rfl, .inl ⟨rfl, lx_nil hx ?_⟩⟩
          cases ts with
          | nil => rfl
          | cons t ts => exact absurd h5 (lx_ok hx _ (Nat.le_refl _) t (by simp)).2
        · obtain ⟨k1, k2⟩ := (of_parse _ 0 _).2.2.2.1 _ _ hw
          have hr1 : 1 ≤ r.length := by
            cases r with
            | nil => simp [kind1] at hr
            | cons _ _ => simp
          simp only [List.length_append, List.length_cons, List.length_nil] at k2
          have hlen := writ_len c' 0 0 k1 (by omega)
          have hne : c' ≠ .nil := fun e => by subst e; exact k1.elim
          refine ⟨?_, .inr ⟨hne, okL_okW _ _ _ k1, by omega⟩⟩
          have hcw : condW c' = writL c' 0 := by
            cases c' with
            | nil => exact absurd rfl hne
            | node => rfl
          rw [hcw]
          have hL := lx_writ c' 0 0 k1 (by omega) [] [] (.inl rfl) .nil
          rw [List.append_nil, List.append_nil] at hL
          unfold condP
          rw [tokL_of hL _ 0 (Nat.lt_succ_self _) (by omega)]
          have h1 : kind1 (ptok c' 0 ++ [endTk]) ≠ 5 := by
            have hp := ptok_pos c' 0 0 k1
            cases hq : ptok c' 0 with
            | nil => rw [hq] at hp; simp at hp
            | cons t q =>
              rw [hq] at hL
              exact (lx_ok hL _ (Nat.le_refl _) t (by simp)).2
          simp only [wholeP]
          rw [if_neg h1]
          obtain ⟨f', _, h3⟩ := (par_main c' 0).2.2 k1 (4 * (ptok c' 0 ++ [endTk]).length + 3) [endTk] rfl (by simp only [List.length_append, List.length_cons, List.length_nil]; omega)
          rw [h3, orQ_end (by simp only [List.length_append, List.length_cons, List.length_nil] at *; omega) rfl]
          rfl
      · cases h
end Go.Proofs.YtmfilblbofkmcaaDoor

/- ask: the walk of the cut into tokens: letters, run, next. -/
namespace Go.Proofs.YtmfilblbofkmcaaDoor
set_option linter.unusedSimpArgs false
set_option linter.unusedVariables false
open Go.RowKit
set_option linter.all false
theorem u8n {a b : UInt8} (h : a ≠ b) : ((a.toNat : Int) == (b.toNat : Int)) = false := by
  rw [beq_eq_false_iff_ne]
  intro e
  exact h (UInt8.toNat_inj.1 (by omega))
theorem u8e {a b : UInt8} (h : a = b) : ((a.toNat : Int) == (b.toNat : Int)) = true := by rw [h]; simp
set_option maxRecDepth 100000 in
set_option maxHeartbeats 8000000 in
theorem small_any (c : UInt8) (w : World) : Calls Tryd.prog 49 #[.int .u8 (c.toNat : Int)] w fun e w' => e = .returned (.bool (smallB c)) ∧ Ext w w' := by
  have hS := Hp.init w
  have hR := Reads.nil w
  unfold smallB
  by_cases h1 : 97 ≤ c.toNat
  · by_cases h2 : c.toNat ≤ 122
    · rw [decide_eq_true h1, decide_eq_true h2]
      go_enter Tryd.func49, Tryd.ntmps49
      go_wp2_with (first | ((with_reducible first | refine nhLa ?_ | refine nhLs ?_ | refine nhLd ?_ | refine nhCa ?_ | refine nhCs ?_ | refine nhCd ?_ | refine nhPa ?_ | refine nhPs ?_ | refine nhPd ?_ | refine nhKa ?_ | refine nhKs ?_ | refine nhKd ?_); ((try clear hF); clear hS; intro wk hS; (try simp only [List.set_cons_zero, List.set_cons_succ, heap_size, heap_set_size] at hS); ((try clear hF); (first | have hF := And.intro hS.facts (HRD.out _ (hS.sub (by first | simp | ((repeat (first | exact List.nil_sublist _ | exact List.Sublist.refl _ | with_reducible apply List.Sublist.cons₂ | apply List.Sublist.cons)))))) | have hF := And.intro hS.facts (hR.at hS.ext) | have hF := hS.facts); simp only [HFacts, cellFacts, RFacts, cellOnly, and_true, true_and, Nat.zero_add, Nat.reduceAdd] at hF))) | fail)
      go_ret
      refine ⟨?_, hS.ext⟩
      go_tidy
      simp
      omega
    · rw [decide_eq_true h1, decide_eq_false h2]
      go_enter Tryd.func49, Tryd.ntmps49
      go_wp2_with (first | ((with_reducible first | refine nhLa ?_ | refine nhLs ?_ | refine nhLd ?_ | refine nhCa ?_ | refine nhCs ?_ | refine nhCd ?_ | refine nhPa ?_ | refine nhPs ?_ | refine nhPd ?_ | refine nhKa ?_ | refine nhKs ?_ | refine nhKd ?_); ((try clear hF); clear hS; intro wk hS; (try simp only [List.set_cons_zero, List.set_cons_succ, heap_size, heap_set_size] at hS); ((try clear hF); (first | have hF := And.intro hS.facts (HRD.out _ (hS.sub (by first | simp | ((repeat (first | exact List.nil_sublist _ | exact List.Sublist.refl _ | with_reducible apply List.Sublist.cons₂ | apply List.Sublist.cons)))))) | have hF := And.intro hS.facts (hR.at hS.ext) | have hF := hS.facts); simp only [HFacts, cellFacts, RFacts, cellOnly, and_true, true_and, Nat.zero_add, Nat.reduceAdd] at hF))) | fail)
      go_ret
      refine ⟨?_, hS.ext⟩
      go_tidy
      simp
      omega
  · rw [decide_eq_false h1, Bool.false_and]
    go_enter Tryd.func49, Tryd.ntmps49
    go_wp2_with (first | ((with_reducible first | refine nhLa ?_ | refine nhLs ?_ | refine nhLd ?_ | refine nhCa ?_ | refine nhCs ?_ | refine nhCd ?_ | refine nhPa ?_ | refine nhPs ?_ | refine nhPd ?_ | refine nhKa ?_ | refine nhKs ?_ | refine nhKd ?_); ((try clear hF); clear hS; intro wk hS; (try simp only [List.set_cons_zero, List.set_cons_succ, heap_size, heap_set_size] at hS); ((try clear hF); (first | have hF := And.intro hS.facts (HRD.out _ (hS.sub (by first | simp | ((repeat (first | exact List.nil_sublist _ | exact List.Sublist.refl _ | with_reducible apply List.Sublist.cons₂ | apply List.Sublist.cons)))))) | have hF := And.intro hS.facts (hR.at hS.ext) | have hF := hS.facts); simp only [HFacts, cellFacts, RFacts, cellOnly, and_true, true_and, Nat.zero_add, Nat.reduceAdd] at hF))) | fail)
    go_ret
    exact ⟨rfl, hS.ext⟩
set_option maxRecDepth 100000 in
set_option maxHeartbeats 8000000 in
theorem digit_any (c : UInt8) (w : World) : Calls Tryd.prog 52 #[.int .u8 (c.toNat : Int)] w fun e w' => e = .returned (.bool (digitB c)) ∧ Ext w w' := by
  have hS := Hp.init w
  have hR := Reads.nil w
  unfold digitB
  by_cases h1 : 48 ≤ c.toNat
  · by_cases h2 : c.toNat ≤ 57
    · rw [decide_eq_true h1, decide_eq_true h2]
      go_enter Tryd.func52, Tryd.ntmps52
      go_wp2_with (first | ((with_reducible first | refine nhLa ?_ | refine nhLs ?_ | refine nhLd ?_ | refine nhCa ?_ | refine nhCs ?_ | refine nhCd ?_ | refine nhPa ?_ | refine nhPs ?_ | refine nhPd ?_ | refine nhKa ?_ | refine nhKs ?_ | refine nhKd ?_); ((try clear hF); clear hS; intro wk hS; (try simp only [List.set_cons_zero, List.set_cons_succ, heap_size, heap_set_size] at hS); ((try clear hF); (first | have hF := And.intro hS.facts (HRD.out _ (hS.sub (by first | simp | ((repeat (first | exact List.nil_sublist _ | exact List.Sublist.refl _ | with_reducible apply List.Sublist.cons₂ | apply List.Sublist.cons)))))) | have hF := And.intro hS.facts (hR.at hS.ext) | have hF := hS.facts); simp only [HFacts, cellFacts, RFacts, cellOnly, and_true, true_and, Nat.zero_add, Nat.reduceAdd] at hF))) | fail)
      go_ret
      refine ⟨?_, hS.ext⟩
      go_tidy
      simp
      omega
    · rw [decide_eq_true h1, decide_eq_false h2]
      go_enter Tryd.func52, Tryd.ntmps52
      go_wp2_with (first | ((with_reducible first | refine nhLa ?_ | refine nhLs ?_ | refine nhLd ?_ | refine nhCa ?_ | refine nhCs ?_ | refine nhCd ?_ | refine nhPa ?_ | refine nhPs ?_ | refine nhPd ?_ | refine nhKa ?_ | refine nhKs ?_ | refine nhKd ?_); ((try clear hF); clear hS; intro wk hS; (try simp only [List.set_cons_zero, List.set_cons_succ, heap_size, heap_set_size] at hS); ((try clear hF); (first | have hF := And.intro hS.facts (HRD.out _ (hS.sub (by first | simp | ((repeat (first | exact List.nil_sublist _ | exact List.Sublist.refl _ | with_reducible apply List.Sublist.cons₂ | apply List.Sublist.cons)))))) | have hF := And.intro hS.facts (hR.at hS.ext) | have hF := hS.facts); simp only [HFacts, cellFacts, RFacts, cellOnly, and_true, true_and, Nat.zero_add, Nat.reduceAdd] at hF))) | fail)
      go_ret
      refine ⟨?_, hS.ext⟩
      go_tidy
      simp
      omega
  · rw [decide_eq_false h1, Bool.false_and]
    go_enter Tryd.func52, Tryd.ntmps52
    go_wp2_with (first | ((with_reducible first | refine nhLa ?_ | refine nhLs ?_ | refine nhLd ?_ | refine nhCa ?_ | refine nhCs ?_ | refine nhCd ?_ | refine nhPa ?_ | refine nhPs ?_ | refine nhPd ?_ | refine nhKa ?_ | refine nhKs ?_ | refine nhKd ?_); ((try clear hF); clear hS; intro wk hS; (try simp only [List.set_cons_zero, List.set_cons_succ, heap_size, heap_set_size] at hS); ((try clear hF); (first | have hF := And.intro hS.facts (HRD.out _ (hS.sub (by first | simp | ((repeat (first | exact List.nil_sublist _ | exact List.Sublist.refl _ | with_reducible apply List.Sublist.cons₂ | apply List.Sublist.cons)))))) | have hF := And.intro hS.facts (hR.at hS.ext) | have hF := hS.facts); simp only [HFacts, cellFacts, RFacts, cellOnly, and_true, true_and, Nat.zero_add, Nat.reduceAdd] at hF))) | fail)
    go_ret
    exact ⟨rfl, hS.ext⟩
set_option maxRecDepth 100000 in
set_option maxHeartbeats 8000000 in
theorem word_any (c : UInt8) (w : World) : Calls Tryd.prog 51 #[.int .u8 (c.toNat : Int)] w fun e w' => e = .returned (.bool (wordB c)) ∧ Ext w w' := by
  have hS := Hp.init w
  have hR := Reads.nil w
  have H1 := Lib.hid (fun W => small_any c W)
  have H2 := Lib.hid (fun W => digit_any c W)
  unfold wordB
  by_cases h3 : c = 95
  · have q : ((c.toNat : Int) == 95) = true := u8e h3
    have q' : (c == 95) = true := by simp [h3]
    rw [q']
    clear h3 q'
    cases h1 : smallB c with
    | true =>
      rw [h1] at H1
      clear h1 H2
      go_enter Tryd.func51, Tryd.ntmps51
      go_wp2_with (first | ((with_reducible first | refine nhLa ?_ | refine nhLs ?_ | refine nhLd ?_ | refine nhCa ?_ | refine nhCs ?_ | refine nhCd ?_ | refine nhPa ?_ | refine nhPs ?_ | refine nhPd ?_ | refine nhKa ?_ | refine nhKs ?_ | refine nhKd ?_); ((try clear hF); clear hS; intro wk hS; (try simp only [List.set_cons_zero, List.set_cons_succ, heap_size, heap_set_size] at hS); ((try clear hF); (first | have hF := And.intro hS.facts (HRD.out _ (hS.sub (by first | simp | ((repeat (first | exact List.nil_sublist _ | exact List.Sublist.refl _ | with_reducible apply List.Sublist.cons₂ | apply List.Sublist.cons)))))) | have hF := And.intro hS.facts (hR.at hS.ext) | have hF := hS.facts); simp only [HFacts, cellFacts, RFacts, cellOnly, and_true, true_and, Nat.zero_add, Nat.reduceAdd] at hF))) | (go_at_call 49; (with_reducible refine (H1.out _).mono ?_); rintro e wk ⟨rfl, hX⟩; replace hS := hS.step hX; clear hX; ((try clear hF); (first | have hF := And.intro hS.facts (HRD.out _ (hS.sub (by first | simp | ((repeat (first | exact List.nil_sublist _ | exact List.Sublist.refl _ | with_reducible apply List.Sublist.cons₂ | apply List.Sublist.cons)))))) | have hF := And.intro hS.facts (hR.at hS.ext) | have hF := hS.facts); simp only [HFacts, cellFacts, RFacts, cellOnly, and_true, true_and, Nat.zero_add, Nat.reduceAdd] at hF)))
      go_ret
      exact ⟨rfl, hS.ext⟩
    | false =>
      rw [h1] at H1
      clear h1
      cases h2 : digitB c with
      | true =>
        rw [h2] at H2
        clear h2
        go_enter Tryd.func51, Tryd.ntmps51
        go_wp2_with (first | ((with_reducible first | refine nhLa ?_ | refine nhLs ?_ | refine nhLd ?_ | refine nhCa ?_ | refine nhCs ?_ | refine nhCd ?_ | refine nhPa ?_ | refine nhPs ?_ | refine nhPd ?_ | refine nhKa ?_ | refine nhKs ?_ | refine nhKd ?_); ((try clear hF); clear hS; intro wk hS; (try simp only [List.set_cons_zero, List.set_cons_succ, heap_size, heap_set_size] at hS); ((try clear hF); (first | have hF := And.intro hS.facts (HRD.out _ (hS.sub (by first | simp | ((repeat (first | exact List.nil_sublist _ | exact List.Sublist.refl _ | with_reducible apply List.Sublist.cons₂ | apply List.Sublist.cons)))))) | have hF := And.intro hS.facts (hR.at hS.ext) | have hF := hS.facts); simp only [HFacts, cellFacts, RFacts, cellOnly, and_true, true_and, Nat.zero_add, Nat.reduceAdd] at hF))) | (go_at_call 49; (with_reducible refine (H1.out _).mono ?_); rintro e wk ⟨rfl, hX⟩; replace hS := hS.step hX; clear hX; ((try clear hF); (first | have hF := And.intro hS.facts (HRD.out _ (hS.sub (by first | simp | ((repeat (first | exact List.nil_sublist _ | exact List.Sublist.refl _ | with_reducible apply List.Sublist.cons₂ | apply List.Sublist.cons)))))) | have hF := And.intro hS.facts (hR.at hS.ext) | have hF := hS.facts); simp only [HFacts, cellFacts, RFacts, cellOnly, and_true, true_and, Nat.zero_add, Nat.reduceAdd] at hF)) | (go_at_call 52; (with_reducible refine (H2.out _).mono ?_); rintro e wk ⟨rfl, hX⟩; replace hS := hS.step hX; clear hX; ((try clear hF); (first | have hF := And.intro hS.facts (HRD.out _ (hS.sub (by first | simp | ((repeat (first | exact List.nil_sublist _ | exact List.Sublist.refl _ | with_reducible apply List.Sublist.cons₂ | apply List.Sublist.cons)))))) | have hF := And.intro hS.facts (hR.at hS.ext) | have hF := hS.facts); simp only [HFacts, cellFacts, RFacts, cellOnly, and_true, true_and, Nat.zero_add, Nat.reduceAdd] at hF)))
        go_ret
        exact ⟨rfl, hS.ext⟩
      | false =>
        rw [h2] at H2
        clear h2
        go_enter Tryd.func51, Tryd.ntmps51
        go_wp2_with (first | ((with_reducible first | refine nhLa ?_ | refine nhLs ?_ | refine nhLd ?_ | refine nhCa ?_ | refine nhCs ?_ | refine nhCd ?_ | refine nhPa ?_ | refine nhPs ?_ | refine nhPd ?_ | refine nhKa ?_ | refine nhKs ?_ | refine nhKd ?_); ((try clear hF); clear hS; intro wk hS; (try simp only [List.set_cons_zero, List.set_cons_succ, heap_size, heap_set_size] at hS); ((try clear hF); (first | have hF := And.intro hS.facts (HRD.out _ (hS.sub (by first | simp | ((repeat (first | exact List.nil_sublist _ | exact List.Sublist.refl _ | with_reducible apply List.Sublist.cons₂ | apply List.Sublist.cons)))))) | have hF := And.intro hS.facts (hR.at hS.ext) | have hF := hS.facts); simp only [HFacts, cellFacts, RFacts, cellOnly, and_true, true_and, Nat.zero_add, Nat.reduceAdd] at hF))) | (go_at_call 49; (with_reducible refine (H1.out _).mono ?_); rintro e wk ⟨rfl, hX⟩; replace hS := hS.step hX; clear hX; ((try clear hF); (first | have hF := And.intro hS.facts (HRD.out _ (hS.sub (by first | simp | ((repeat (first | exact List.nil_sublist _ | exact List.Sublist.refl _ | with_reducible apply List.Sublist.cons₂ | apply List.Sublist.cons)))))) | have hF := And.intro hS.facts (hR.at hS.ext) | have hF := hS.facts); simp only [HFacts, cellFacts, RFacts, cellOnly, and_true, true_and, Nat.zero_add, Nat.reduceAdd] at hF)) | (go_at_call 52; (with_reducible refine (H2.out _).mono ?_); rintro e wk ⟨rfl, hX⟩; replace hS := hS.step hX; clear hX; ((try clear hF); (first | have hF := And.intro hS.facts (HRD.out _ (hS.sub (by first | simp | ((repeat (first | exact List.nil_sublist _ | exact List.Sublist.refl _ | with_reducible apply List.Sublist.cons₂ | apply List.Sublist.cons)))))) | have hF := And.intro hS.facts (hR.at hS.ext) | have hF := hS.facts); simp only [HFacts, cellFacts, RFacts, cellOnly, and_true, true_and, Nat.zero_add, Nat.reduceAdd] at hF)))
        go_ret
        exact ⟨rfl, hS.ext⟩
  · have q : ((c.toNat : Int) == 95) = false := u8n h3
    have q' : (c == 95) = false := by simp [h3]
    rw [q']
    clear h3 q'
    cases h1 : smallB c with
    | true =>
      rw [h1] at H1
      clear h1 H2
      go_enter Tryd.func51, Tryd.ntmps51
      go_wp2_with (first | ((with_reducible first | refine nhLa ?_ | refine nhLs ?_ | refine nhLd ?_ | refine nhCa ?_ | refine nhCs ?_ | refine nhCd ?_ | refine nhPa ?_ | refine nhPs ?_ | refine nhPd ?_ | refine nhKa ?_ | refine nhKs ?_ | refine nhKd ?_); ((try clear hF); clear hS; intro wk hS; (try simp only [List.set_cons_zero, List.set_cons_succ, heap_size, heap_set_size] at hS); ((try clear hF); (first | have hF := And.intro hS.facts (HRD.out _ (hS.sub (by first | simp | ((repeat (first | exact List.nil_sublist _ | exact List.Sublist.refl _ | with_reducible apply List.Sublist.cons₂ | apply List.Sublist.cons)))))) | have hF := And.intro hS.facts (hR.at hS.ext) | have hF := hS.facts); simp only [HFacts, cellFacts, RFacts, cellOnly, and_true, true_and, Nat.zero_add, Nat.reduceAdd] at hF))) | (go_at_call 49; (with_reducible refine (H1.out _).mono ?_); rintro e wk ⟨rfl, hX⟩; replace hS := hS.step hX; clear hX; ((try clear hF); (first | have hF := And.intro hS.facts (HRD.out _ (hS.sub (by first | simp | ((repeat (first | exact List.nil_sublist _ | exact List.Sublist.refl _ | with_reducible apply List.Sublist.cons₂ | apply List.Sublist.cons)))))) | have hF := And.intro hS.facts (hR.at hS.ext) | have hF := hS.facts); simp only [HFacts, cellFacts, RFacts, cellOnly, and_true, true_and, Nat.zero_add, Nat.reduceAdd] at hF)))
      go_ret
      exact ⟨rfl, hS.ext⟩
    | false =>
      rw [h1] at H1
      clear h1
      cases h2 : digitB c with
      | true =>
        rw [h2] at H2
        clear h2
        go_enter Tryd.func51, Tryd.ntmps51
        go_wp2_with (first | ((with_reducible first | refine nhLa ?_ | refine nhLs ?_ | refine nhLd ?_ | refine nhCa ?_ | refine nhCs ?_ | refine nhCd ?_ | refine nhPa ?_ | refine nhPs ?_ | refine nhPd ?_ | refine nhKa ?_ | refine nhKs ?_ | refine nhKd ?_); ((try clear hF); clear hS; intro wk hS; (try simp only [List.set_cons_zero, List.set_cons_succ, heap_size, heap_set_size] at hS); ((try clear hF); (first | have hF := And.intro hS.facts (HRD.out _ (hS.sub (by first | simp | ((repeat (first | exact List.nil_sublist _ | exact List.Sublist.refl _ | with_reducible apply List.Sublist.cons₂ | apply List.Sublist.cons)))))) | have hF := And.intro hS.facts (hR.at hS.ext) | have hF := hS.facts); simp only [HFacts, cellFacts, RFacts, cellOnly, and_true, true_and, Nat.zero_add, Nat.reduceAdd] at hF))) | (go_at_call 49; (with_reducible refine (H1.out _).mono ?_); rintro e wk ⟨rfl, hX⟩; replace hS := hS.step hX; clear hX; ((try clear hF); (first | have hF := And.intro hS.facts (HRD.out _ (hS.sub (by first | simp | ((repeat (first | exact List.nil_sublist _ | exact List.Sublist.refl _ | with_reducible apply List.Sublist.cons₂ | apply List.Sublist.cons)))))) | have hF := And.intro hS.facts (hR.at hS.ext) | have hF := hS.facts); simp only [HFacts, cellFacts, RFacts, cellOnly, and_true, true_and, Nat.zero_add, Nat.reduceAdd] at hF)) | (go_at_call 52; (with_reducible refine (H2.out _).mono ?_); rintro e wk ⟨rfl, hX⟩; replace hS := hS.step hX; clear hX; ((try clear hF); (first | have hF := And.intro hS.facts (HRD.out _ (hS.sub (by first | simp | ((repeat (first | exact List.nil_sublist _ | exact List.Sublist.refl _ | with_reducible apply List.Sublist.cons₂ | apply List.Sublist.cons)))))) | have hF := And.intro hS.facts (hR.at hS.ext) | have hF := hS.facts); simp only [HFacts, cellFacts, RFacts, cellOnly, and_true, true_and, Nat.zero_add, Nat.reduceAdd] at hF)))
        go_ret
        exact ⟨rfl, hS.ext⟩
      | false =>
        rw [h2] at H2
        clear h2
        go_enter Tryd.func51, Tryd.ntmps51
        go_wp2_with (first | ((with_reducible first | refine nhLa ?_ | refine nhLs ?_ | refine nhLd ?_ | refine nhCa ?_ | refine nhCs ?_ | refine nhCd ?_ | refine nhPa ?_ | refine nhPs ?_ | refine nhPd ?_ | refine nhKa ?_ | refine nhKs ?_ | refine nhKd ?_); ((try clear hF); clear hS; intro wk hS; (try simp only [List.set_cons_zero, List.set_cons_succ, heap_size, heap_set_size] at hS); ((try clear hF); (first | have hF := And.intro hS.facts (HRD.out _ (hS.sub (by first | simp | ((repeat (first | exact List.nil_sublist _ | exact List.Sublist.refl _ | with_reducible apply List.Sublist.cons₂ | apply List.Sublist.cons)))))) | have hF := And.intro hS.facts (hR.at hS.ext) | have hF := hS.facts); simp only [HFacts, cellFacts, RFacts, cellOnly, and_true, true_and, Nat.zero_add, Nat.reduceAdd] at hF))) | (go_at_call 49; (with_reducible refine (H1.out _).mono ?_); rintro e wk ⟨rfl, hX⟩; replace hS := hS.step hX; clear hX; ((try clear hF); (first | have hF := And.intro hS.facts (HRD.out _ (hS.sub (by first | simp | ((repeat (first | exact List.nil_sublist _ | exact List.Sublist.refl _ | with_reducible apply List.Sublist.cons₂ | apply List.Sublist.cons)))))) | have hF := And.intro hS.facts (hR.at hS.ext) | have hF := hS.facts); simp only [HFacts, cellFacts, RFacts, cellOnly, and_true, true_and, Nat.zero_add, Nat.reduceAdd] at hF)) | (go_at_call 52; (with_reducible refine (H2.out _).mono ?_); rintro e wk ⟨rfl, hX⟩; replace hS := hS.step hX; clear hX; ((try clear hF); (first | have hF := And.intro hS.facts (HRD.out _ (hS.sub (by first | simp | ((repeat (first | exact List.nil_sublist _ | exact List.Sublist.refl _ | with_reducible apply List.Sublist.cons₂ | apply List.Sublist.cons)))))) | have hF := And.intro hS.facts (hR.at hS.ext) | have hF := hS.facts); simp only [HFacts, cellFacts, RFacts, cellOnly, and_true, true_and, Nat.zero_add, Nat.reduceAdd] at hF)))
        go_ret
        exact ⟨rfl, hS.ext⟩
theorem at_drop (s : ByteArray) (k : Nat) (h : k < s.size) : s.data.toList.drop k = s[k] :: s.data.toList.drop (k + 1) := by
  rw [List.drop_eq_getElem_cons (by rw [← Lib.size_eq]; exact h)]
  rfl
set_option maxRecDepth 100000 in
set_option maxHeartbeats 8000000 in
theorem run_any (p : UInt8 → Bool) (g : Nat) (eg : ∀ args w, (callFunc g args).run Tryd.prog w = .ok (.enter g args) w) (hp : ∀ (c : UInt8) (W : World), Calls Tryd.prog g #[.int .u8 (c.toNat : Int)] W fun e w' => e = .returned (.bool (p c)) ∧ Ext W w')
    (s : ByteArray) (w : World) (m : Nat) (hm : s.size = m) (hm2 : m ≤ 1000000) :
    Calls Tryd.prog 50 #[.string s, .func (.func g) #[] #[]] w fun e w' => e = .returned (.int .i64 (runL p s.data.toList)) ∧ Ext w w' := by
  have hS := Hp.init w
  have hR := Reads.nil w
  have HP := Lib.hid hp
  clear hp
  obtain ⟨D, hD⟩ : ∃ D, D = runL p s.data.toList := ⟨_, rfl⟩
  rw [← hD]
  have HD := Lib.hid (show D = 0 + runL p (s.data.toList.drop 0) by rw [hD, List.drop_zero]; omega)
  clear hD
  go_enter Tryd.func50, Tryd.ntmps50
  go_wp2_with (first | ((with_reducible first | refine nhLa ?_ | refine nhLs ?_ | refine nhLd ?_ | refine nhCa ?_ | refine nhCs ?_ | refine nhCd ?_ | refine nhPa ?_ | refine nhPs ?_ | refine nhPd ?_ | refine nhKa ?_ | refine nhKs ?_ | refine nhKd ?_); ((try clear hF); clear hS; intro wk hS; (try simp only [List.set_cons_zero, List.set_cons_succ, heap_size, heap_set_size] at hS); ((try clear hF); (first | have hF := And.intro hS.facts (HRD.out _ (hS.sub (by first | simp | ((repeat (first | exact List.nil_sublist _ | exact List.Sublist.refl _ | with_reducible apply List.Sublist.cons₂ | apply List.Sublist.cons)))))) | have hF := And.intro hS.facts (hR.at hS.ext) | have hF := hS.facts); simp only [HFacts, cellFacts, RFacts, cellOnly, and_true, true_and, Nat.zero_add, Nat.reduceAdd] at hF))) | fail)
  go_loopw [5] (fun i wr => ∃ k : Nat, i = .int .i64 k ∧ k ≤ m ∧ Hid (D = k + runL p (s.data.toList.drop k)) ∧ Hp w.heap.size w wr []) (fun i _ => m - (intOf i).toNat)
  case atStart => exact ⟨0, rfl, Nat.zero_le _, HD, hS⟩
  case round =>
    clear hS HD
    obtain ⟨k, rfl, hk, HD, hS⟩ := hrel
    by_cases hlt : k < m
    · have hks : k < s.size := by omega
      have hd := at_drop s k hks
      have HC := Lib.hid (HP.out s[k])
      cases hpc : p s[k] with
      | true =>
        rw [hpc] at HC
        have HD2 := Lib.hid (show D = (k + 1 : Nat) + runL p (s.data.toList.drop (k + 1)) by
          rw [HD.out, hd]
          simp only [runL, hpc, if_true]
          omega)
        clear HD hd hpc
        ((try clear hF); (first | have hF := And.intro hS.facts (HRD.out _ (hS.sub (by first | simp | ((repeat (first | exact List.nil_sublist _ | exact List.Sublist.refl _ | with_reducible apply List.Sublist.cons₂ | apply List.Sublist.cons)))))) | have hF := And.intro hS.facts (hR.at hS.ext) | have hF := hS.facts); simp only [HFacts, cellFacts, RFacts, cellOnly, and_true, true_and, Nat.zero_add, Nat.reduceAdd] at hF)
        go_wp2_with (first | ((with_reducible first | refine nhLa ?_ | refine nhLs ?_ | refine nhLd ?_ | refine nhCa ?_ | refine nhCs ?_ | refine nhCd ?_ | refine nhPa ?_ | refine nhPs ?_ | refine nhPd ?_ | refine nhKa ?_ | refine nhKs ?_ | refine nhKd ?_); ((try clear hF); clear hS; intro wk hS; (try simp only [List.set_cons_zero, List.set_cons_succ, heap_size, heap_set_size] at hS); ((try clear hF); (first | have hF := And.intro hS.facts (HRD.out _ (hS.sub (by first | simp | ((repeat (first | exact List.nil_sublist _ | exact List.Sublist.refl _ | with_reducible apply List.Sublist.cons₂ | apply List.Sublist.cons)))))) | have hF := And.intro hS.facts (hR.at hS.ext) | have hF := hS.facts); simp only [HFacts, cellFacts, RFacts, cellOnly, and_true, true_and, Nat.zero_add, Nat.reduceAdd] at hF))) | ((with_reducible refine (HC.out _).mono ?_); rintro e wk ⟨rfl, hX⟩; replace hS := hS.step hX; clear hX; ((try clear hF); (first | have hF := And.intro hS.facts (HRD.out _ (hS.sub (by first | simp | ((repeat (first | exact List.nil_sublist _ | exact List.Sublist.refl _ | with_reducible apply List.Sublist.cons₂ | apply List.Sublist.cons)))))) | have hF := And.intro hS.facts (hR.at hS.ext) | have hF := hS.facts); simp only [HFacts, cellFacts, RFacts, cellOnly, and_true, true_and, Nat.zero_add, Nat.reduceAdd] at hF)))
        go_roundw
        case rel => exact ⟨k + 1, by go_num, by omega, HD2, hS⟩
        case measure => simp [intOf]; omega
      | false =>
        rw [hpc] at HC
        have HD2 := Lib.hid (show D = k by
          rw [HD.out, hd]
          simp only [runL, hpc, Bool.false_eq_true, if_false]
          omega)
        clear HD hd hpc
        ((try clear hF); (first | have hF := And.intro hS.facts (HRD.out _ (hS.sub (by first | simp | ((repeat (first | exact List.nil_sublist _ | exact List.Sublist.refl _ | with_reducible apply List.Sublist.cons₂ | apply List.Sublist.cons)))))) | have hF := And.intro hS.facts (hR.at hS.ext) | have hF := hS.facts); simp only [HFacts, cellFacts, RFacts, cellOnly, and_true, true_and, Nat.zero_add, Nat.reduceAdd] at hF)
        go_wp2_with (first | ((with_reducible first | refine nhLa ?_ | refine nhLs ?_ | refine nhLd ?_ | refine nhCa ?_ | refine nhCs ?_ | refine nhCd ?_ | refine nhPa ?_ | refine nhPs ?_ | refine nhPd ?_ | refine nhKa ?_ | refine nhKs ?_ | refine nhKd ?_); ((try clear hF); clear hS; intro wk hS; (try simp only [List.set_cons_zero, List.set_cons_succ, heap_size, heap_set_size] at hS); ((try clear hF); (first | have hF := And.intro hS.facts (HRD.out _ (hS.sub (by first | simp | ((repeat (first | exact List.nil_sublist _ | exact List.Sublist.refl _ | with_reducible apply List.Sublist.cons₂ | apply List.Sublist.cons)))))) | have hF := And.intro hS.facts (hR.at hS.ext) | have hF := hS.facts); simp only [HFacts, cellFacts, RFacts, cellOnly, and_true, true_and, Nat.zero_add, Nat.reduceAdd] at hF))) | ((with_reducible refine (HC.out _).mono ?_); rintro e wk ⟨rfl, hX⟩; replace hS := hS.step hX; clear hX; ((try clear hF); (first | have hF := And.intro hS.facts (HRD.out _ (hS.sub (by first | simp | ((repeat (first | exact List.nil_sublist _ | exact List.Sublist.refl _ | with_reducible apply List.Sublist.cons₂ | apply List.Sublist.cons)))))) | have hF := And.intro hS.facts (hR.at hS.ext) | have hF := hS.facts); simp only [HFacts, cellFacts, RFacts, cellOnly, and_true, true_and, Nat.zero_add, Nat.reduceAdd] at hF)))
        go_ret
        exact ⟨by rw [HD2.out]; rfl, hS.ext⟩
    · obtain rfl : k = m := by omega
      have HD2 := Lib.hid (show D = k by
        rw [HD.out, List.drop_eq_nil_of_le (by rw [← Lib.size_eq]; omega)]
        rfl)
      clear HD
      ((try clear hF); (first | have hF := And.intro hS.facts (HRD.out _ (hS.sub (by first | simp | ((repeat (first | exact List.nil_sublist _ | exact List.Sublist.refl _ | with_reducible apply List.Sublist.cons₂ | apply List.Sublist.cons)))))) | have hF := And.intro hS.facts (hR.at hS.ext) | have hF := hS.facts); simp only [HFacts, cellFacts, RFacts, cellOnly, and_true, true_and, Nat.zero_add, Nat.reduceAdd] at hF)
      go_wp2_with (first | ((with_reducible first | refine nhLa ?_ | refine nhLs ?_ | refine nhLd ?_ | refine nhCa ?_ | refine nhCs ?_ | refine nhCd ?_ | refine nhPa ?_ | refine nhPs ?_ | refine nhPd ?_ | refine nhKa ?_ | refine nhKs ?_ | refine nhKd ?_); ((try clear hF); clear hS; intro wk hS; (try simp only [List.set_cons_zero, List.set_cons_succ, heap_size, heap_set_size] at hS); ((try clear hF); (first | have hF := And.intro hS.facts (HRD.out _ (hS.sub (by first | simp | ((repeat (first | exact List.nil_sublist _ | exact List.Sublist.refl _ | with_reducible apply List.Sublist.cons₂ | apply List.Sublist.cons)))))) | have hF := And.intro hS.facts (hR.at hS.ext) | have hF := hS.facts); simp only [HFacts, cellFacts, RFacts, cellOnly, and_true, true_and, Nat.zero_add, Nat.reduceAdd] at hF))) | fail)
      go_ret
      exact ⟨by rw [HD2.out]; rfl, hS.ext⟩
end Go.Proofs.YtmfilblbofkmcaaDoor
