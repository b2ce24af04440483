/- Texts joined: who does not fight may go first: the plain law. log.Print: a commit in letters. (Printed by genprint.py.) What a line says (plain): the parts of a text, numbers, columns, actions. What is written is read (plain): numbers, columns, actions. What is written is read (plain): values, columns, actions. log.line: what it answers. millpondkeep.sameSet: true of two tables that have the same. -/
import Derived.Test.YtcpnnffnkegamaaGreatDoorLZ12
import Derived.Test.YtcpnnffnkegamaaGreatDoorLZ10
import Derived.Test.YtcpnnffnkegamaaGreatDoorLZ11
import Derived.Test.YtcpnnffnkegamaaGreatDoorLZ13
import Derived.Test.YtcpnnffnkegamaaGreatDoorLZ05
import Derived.Test.YtcpnnffnkegamaaGreatDoorLZ06
import Derived.Test.YtcpnnffnkegamaaGreatDoorLZ03
import Derived.Deep.DeepCutAuto
import Derived.Test.YtcpnnffnkegamaaGreatDoorLZ09
import Derived.Test.YtcpnnffnkegamaaGreatDoorLZ08
/- who does not fight may go first: the plain law. -/
namespace Go.Proofs.YtcpnnffnkegamaaGreatDoor
set_option linter.unusedSimpArgs false
set_option linter.unusedVariables false
open Go.RowKit
set_option linter.all false
theorem ba_toList_loop (bs : ByteArray) (i : Nat) (r : List UInt8) : ByteArray.toList.loop bs i r = r.reverse ++ bs.data.toList.drop i := by
  rw [ByteArray.toList.loop]
  split
  · rename_i h
    rw [ba_toList_loop]
    have h2 : i < bs.data.toList.length := by simpa using h
    rw [List.drop_eq_getElem_cons h2]
    simp only [List.reverse_cons, List.append_assoc, List.cons_append, List.nil_append]
    congr 2
    simp only [ByteArray.get!, Array.getElem!_eq_getD, Array.getD]
    rw [dif_pos (show i < bs.data.size from h)]
    rfl
  · rename_i h
    rw [List.drop_eq_nil_of_le (by have : bs.data.toList.length = bs.size := by rw [Array.length_toList]; rfl
                                   omega)]
    simp
termination_by bs.size - i
theorem ba_toList (bs : ByteArray) : bs.toList = bs.data.toList := by
  unfold ByteArray.toList
  rw [ba_toList_loop]
  simp
theorem pathEq_iff {p q : ByteArray} : pathEq p q = true ↔ q = p := by
  unfold pathEq
  rw [beq_iff_eq, ba_toList, ba_toList]
  exact ⟨fun h => ByteArray.ext (Array.toList_inj.1 h), fun h => by rw [h]⟩
def lk (l : List EN) (p : ByteArray) : Option EN := l.find? (fun e => pathEq p e.path)
theorem lk_path {l : List EN} {p : ByteArray} {e : EN} (h : lk l p = some e) : e.path = p ∧ e ∈ l := by
  unfold lk at h
  have := List.find?_some h
  exact ⟨pathEq_iff.1 this, List.mem_of_find?_eq_some h⟩
end Go.Proofs.YtcpnnffnkegamaaGreatDoor

/- log.Print: a commit in letters. (Printed by genprint.py.) -/
namespace Go.Proofs.YtcpnnffnkegamaaGreatDoor
set_option linter.unusedSimpArgs false
set_option linter.unusedVariables false
open Go.RowKit
set_option linter.all false
abbrev nlS : ByteArray := ⟨#[10]⟩
/-- an action in letters, if it may be -/
def lineA (a : AN) : Option ByteArray :=
  if a.kind = 1 then (if nameB a.path = true ∧ 1 ≤ a.rows ∧ a.rows ≤ 60 ∧ a.mask.length = 0 ∧ a.cols.length = 0 ∧ a.next = 0 then some (⟨#[97, 100, 100, 32]⟩ ++ a.path ++ spS ++ itoS a.rows ++ nlS) else none)
  else if a.kind = 2 then (if nameB a.path = true ∧ a.rows = 0 ∧ a.mask.length = 0 ∧ a.cols.length = 0 ∧ a.next = 0 then some (⟨#[114, 101, 109, 111, 118, 101, 32]⟩ ++ a.path ++ nlS) else none)
  else if a.kind = 3 then (if nameB a.path = true ∧ a.rows = 0 ∧ ¬ a.mask.length = 0 ∧ maskB a.mask 60 = true ∧ a.cols.length = 0 ∧ a.next = 0 then some (⟨#[109, 97, 115, 107, 32]⟩ ++ a.path ++ spS ++ joinS (a.mask.map itoS) ⟨#[44]⟩ ++ nlS) else none)
  else if a.kind = 4 then (if (a.path.toList == (⟨#[]⟩ : ByteArray).toList) = true ∧ a.rows = 0 ∧ a.mask.length = 0 ∧ rightC a.cols a.next = true then some (⟨#[115, 99, 104, 101, 109, 97, 32]⟩ ++ itoS a.next ++ spS ++ joinS (a.cols.map colS) ⟨#[59]⟩ ++ nlS) else none)
  else none
def linesA : ByteArray → List AN → Option ByteArray
  | s, [] => some s
  | s, a :: l => match lineA a with | some t => linesA (s ++ t) l | none => none
def readsS (b : Bool) : ByteArray := if b then ⟨#[114, 101, 97, 100, 115]⟩ else ⟨#[98, 108, 105, 110, 100]⟩
def printC (tx : ByteArray) (rd : Bool) (l : List AN) : Option ByteArray :=
  if nameB tx = true then linesA (⟨#[99, 111, 109, 109, 105, 116, 32]⟩ ++ tx ++ spS ++ readsS rd ++ nlS) l else none
def PrRes (D : Option ByteArray) (e : Ending) : Prop :=
  match D with
  | some t => e = .returned (.tuple #[.string t, .nilIface])
  | none => e = .returned (.tuple #[.string ⟨#[]⟩, .iface 66 (.int .i64 1)])
theorem linesA_bad {s : ByteArray} {a : AN} {l : List AN} (h : lineA a = none) : linesA s (a :: l) = none := by rw [linesA, h]
theorem linesA_good {s t : ByteArray} {a : AN} {l : List AN} (h : lineA a = some t) : linesA s (a :: l) = linesA (s ++ t) l := by rw [linesA, h]
/-- what is printed is not too long -/
structure PrOk (a : AN) (v : AV) : Prop where
  q : a.mask.length = v.qn
  q2 : v.qn ≤ 100000
  r : a.cols.length = v.rn
  r2 : v.rn ≤ 100000
  r3 : v.rn ≤ v.rc
  n64 : i64 a.next
  r64 : i64 a.rows
  m64 : ∀ x ∈ a.mask, i64 x
  c64 : ∀ c ∈ a.cols, COk c
  p : a.path.size ≤ 100000
  mj : (joinS (a.mask.map itoS) ⟨#[44]⟩).size ≤ 1000000
  cj : (joinS (a.cols.map colS) ⟨#[59]⟩).size ≤ 1000000
end Go.Proofs.YtcpnnffnkegamaaGreatDoor

/- What a line says (plain): the parts of a text, numbers, columns, actions. -/
namespace Go.Proofs.YtcpnnffnkegamaaGreatDoor
set_option linter.unusedSimpArgs false
set_option linter.unusedVariables false
open Go.RowKit
set_option linter.all false
/-- the parts' lengths, each with its mark -/
def lenS : List ByteArray → Nat
  | [] => 0
  | s :: l => s.size + 1 + lenS l
theorem lenS_le {l : List ByteArray} {x : ByteArray} (h : x ∈ l) : x.size + 1 ≤ lenS l := by
  induction l with
  | nil => cases h
  | cons y l ih =>
    rw [lenS]
    rcases List.mem_cons.1 h with rfl | h
    · omega
    · have := ih h; omega
theorem lenS_length : ∀ l : List ByteArray, l.length ≤ lenS l
  | [] => Nat.le_refl _
  | x :: l => by have := lenS_length l; rw [lenS, List.length_cons]; omega
theorem qGo_len (s : ByteArray) (mk : UInt8) : ∀ (n k : Nat) (i : Bool) (f : Nat), k + n = s.size → f ≤ k → lenS (qGo s mk n k i f) = s.size - f + 1
  | 0, k, i, f, h, hf => by
    rw [qGo, lenS, lenS, ByteArray.size_extract]
    omega
  | n + 1, k, i, f, h, hf => by
    rw [qGo]
    split
    · exact qGo_len s mk n (k + 1) (!i) f (by omega) (by omega)
    · split
      · rw [lenS, qGo_len s mk n (k + 1) i (k + 1) (by omega) (Nat.le_refl _), ByteArray.size_extract]
        omega
      · exact qGo_len s mk n (k + 1) i f (by omega) (by omega)
theorem quotedS_len (s : ByteArray) (mk : UInt8) : lenS (quotedS s mk) = s.size + 1 := by
  unfold quotedS
  rw [qGo_len s mk s.size 0 false 0 (by omega) (Nat.le_refl _)]
  omega
theorem cutS_len (mk : UInt8) : ∀ (n : Nat) (s : ByteArray), s.size ≤ n → lenS (cutS mk n s) = s.size + 1
  | 0, s, h => by rw [cutS, lenS, lenS]
  | n + 1, s, h => by
    rw [cutS]
    split
    · rw [lenS, lenS]
    · rename_i h0
      have hl := idx_lt h0
      rw [lenS, cutS_len mk n _ (by rw [ByteArray.size_extract]; omega), ByteArray.size_extract, ByteArray.size_extract]
      omega
theorem piecesS_len (s : ByteArray) (mk : UInt8) : lenS (piecesS mk s) = s.size + 1 := cutS_len mk _ s (Nat.le_refl _)
/-- numbers -/
def numsOf : List ByteArray → Option (List Int)
  | [] => some []
  | s :: l => match numOf s, numsOf l with
    | some n, some r => some (n :: r)
    | _, _ => none
theorem numsOf_snoc (l : List ByteArray) (s : ByteArray) : numsOf (l ++ [s]) = match numsOf l, numOf s with | some r, some n => some (r ++ [n]) | _, _ => none := by
  induction l with
  | nil => cases h : numOf s <;> simp [numsOf, h]
  | cons x l ih =>
    rw [List.cons_append, numsOf, ih, numsOf]
    cases numOf x <;> cases numsOf l <;> cases numOf s <;> simp
/-- a column -/
def colOf (t : ByteArray) : Option CG :=
  match quotedS t 32 with
  | [x0, x1, x2, x3, x4] => if (x3.toList == [109, 117, 115, 116]) = false ∧ (x3.toList == [109, 97, 121]) = false then none
    else match numOf x0, numOf x2, litOf x4 with
    | some a, some b, some v => some ⟨a, x1, b, x3.toList == [109, 117, 115, 116], v⟩
    | _, _, _ => none
  | _ => none
def colsOf : List ByteArray → Option (List CG)
  | [] => some []
  | s :: l => match colOf s, colsOf l with
    | some n, some r => some (n :: r)
    | _, _ => none
theorem colsOf_snoc (l : List ByteArray) (s : ByteArray) : colsOf (l ++ [s]) = match colsOf l, colOf s with | some r, some n => some (r ++ [n]) | _, _ => none := by
  induction l with
  | nil => cases h : colOf s <;> simp [colsOf, h]
  | cons x l ih =>
    rw [List.cons_append, colsOf, ih, colsOf]
    cases colOf x <;> cases colsOf l <;> cases colOf s <;> simp
theorem colsOf_bad {l m : List ByteArray} {s : ByteArray} (h : colOf s = none) : colsOf (l ++ s :: m) = none := by
  induction l with
  | nil => rw [List.nil_append, colsOf, h]
  | cons x l ih => rw [List.cons_append, colsOf, ih]; cases colOf x <;> rfl
/-- an action, as its line says it -/
def lineP (s : ByteArray) : Option AN :=
  match quotedS s 32 with
  | w0 :: w1 :: r =>
    if (w0.toList == [97, 100, 100]) = true ∧ r.length = 1 then (numOf (r.headD ⟨#[]⟩)).map fun n => ⟨1, w1, n, [], [], 0⟩
    else if (w0.toList == [114, 101, 109, 111, 118, 101]) = true ∧ r.length = 0 then some ⟨2, w1, 0, [], [], 0⟩
    else if (w0.toList == [109, 97, 115, 107]) = true ∧ r.length = 1 then (numsOf (piecesS 44 (r.headD ⟨#[]⟩))).map fun m => ⟨3, w1, 0, m, [], 0⟩
    else if (w0.toList == [115, 99, 104, 101, 109, 97]) = true then
      match numOf w1, colsOf (quotedS (s.extract (7 + w1.size + min 1 r.length) s.size) 59) with
      | some n, some c => some ⟨4, ⟨#[]⟩, 0, [], c, n⟩
      | _, _ => none
    else none
  | _ => none
theorem schema_at {s w0 w1 : ByteArray} {r : List ByteArray} (h : quotedS s 32 = w0 :: w1 :: r) (h0 : (w0.toList == [115, 99, 104, 101, 109, 97]) = true) : 7 + w1.size + min 1 r.length ≤ s.size := by
  have hl := quotedS_len s 32
  rw [h, lenS, lenS] at hl
  have hz : w0.size = 6 := by
    have : w0.data.toList = [115, 99, 104, 101, 109, 97] := by rw [← ba_toListN]; exact eq_of_beq h0
    have := congrArg List.length this
    simpa using this
  cases r with
  | nil => simp [lenS] at hl ⊢; omega
  | cons x r => rw [lenS] at hl; simp; omega
end Go.Proofs.YtcpnnffnkegamaaGreatDoor

/- What is written is read (plain): numbers, columns, actions. -/
namespace Go.Proofs.YtcpnnffnkegamaaGreatDoor
set_option linter.unusedSimpArgs false
set_option linter.unusedVariables false
open Go.RowKit
set_option linter.all false
/-- a text, cut at a mark, but not between two ' (on lists) -/
def qL (mk : UInt8) : Bool → List UInt8 → List UInt8 → List (List UInt8)
  | _, acc, [] => [acc]
  | i, acc, c :: r => if c = 39 then qL mk (!i) (acc ++ [c]) r else if c = mk ∧ i = false then acc :: qL mk i [] r else qL mk i (acc ++ [c]) r
theorem take_snoc {l : List UInt8} {f k : Nat} {c : UInt8} (hf : f ≤ k) (h : l[k]? = some c) : (l.drop f).take (k + 1 - f) = (l.drop f).take (k - f) ++ [c] := by
  rw [show k + 1 - f = (k - f) + 1 by omega, List.take_add_one, List.getElem?_drop, show f + (k - f) = k by omega, h]
  rfl
theorem qGo_list (s : ByteArray) (mk : UInt8) : ∀ (n k : Nat) (i : Bool) (f : Nat), k + n = s.size → f ≤ k → (qGo s mk n k i f).map (·.data.toList) = qL mk i ((s.data.toList.drop f).take (k - f)) (s.data.toList.drop k)
  | 0, k, i, f, h, hf => by
    have hk : s.data.toList.length = k := by rw [Array.length_toList]; exact (show s.size = k by omega)
    rw [qGo, List.map_singleton, ext_list _ _ _ (by omega), List.drop_of_length_le (Nat.le_of_eq hk), qL, show s.size = k by omega]
  | n + 1, k, i, f, h, hf => by
    have hk : k < s.data.toList.length := by rw [Array.length_toList]; exact (show k < s.size by omega)
    have hg : s.data.toList[k]? = some s.data.toList[k] := List.getElem?_eq_getElem hk
    have hd : s.data.toList.getD k 0 = s.data.toList[k] := by rw [List.getD_eq_getElem?_getD, hg]; rfl
    rw [qGo, hd, List.drop_eq_getElem_cons hk, qL]
    split
    · rw [qGo_list s mk n (k + 1) (!i) f (by omega) (by omega), take_snoc hf hg]
    · split
      · rw [List.map_cons, qGo_list s mk n (k + 1) i (k + 1) (by omega) (Nat.le_refl _), ext_list _ _ _ hf, Nat.sub_self, List.take_zero]
      · rw [qGo_list s mk n (k + 1) i f (by omega) (by omega), take_snoc hf hg]
theorem quotedS_list (s : ByteArray) (mk : UInt8) : (quotedS s mk).map (·.data.toList) = qL mk false [] s.data.toList := by
  unfold quotedS
  rw [qGo_list s mk s.size 0 false 0 (by omega) (Nat.le_refl _)]
  rfl
/-- no mark stands beyond two ': whether one ' is open behind -/
def okQ (mk : UInt8) : Bool → List UInt8 → Option Bool
  | i, [] => some i
  | i, c :: r => if c = 39 then okQ mk (!i) r else if c = mk ∧ i = false then none else okQ mk i r
theorem qL_app (mk : UInt8) : ∀ (t : List UInt8) (i j : Bool) (acc r : List UInt8), okQ mk i t = some j → qL mk i acc (t ++ r) = qL mk j (acc ++ t) r
  | [], i, j, acc, r, h => by
    obtain rfl : i = j := by simpa [okQ] using h
    simp
  | c :: t, i, j, acc, r, h => by
    rw [okQ] at h
    rw [List.cons_append, qL]
    split at h
    · rename_i h1
      rw [if_pos h1, qL_app mk t _ j _ r h]
      simp
    · rename_i h1
      rw [if_neg h1]
      split at h
      · cases h
      · rename_i h2
        rw [if_neg h2, qL_app mk t _ j _ r h]
        simp
theorem okQ_app (mk : UInt8) : ∀ (t : List UInt8) (i j : Bool) (r : List UInt8), okQ mk i t = some j → okQ mk i (t ++ r) = okQ mk j r
  | [], i, j, r, h => by
    obtain rfl : i = j := by simpa [okQ] using h
    rfl
  | c :: t, i, j, r, h => by
    rw [okQ] at h
    rw [List.cons_append, okQ]
    split at h
    · rename_i h1
      rw [if_pos h1, okQ_app mk t _ j r h]
    · rename_i h1
      rw [if_neg h1]
      split at h
      · cases h
      · rename_i h2
        rw [if_neg h2, okQ_app mk t _ j r h]
theorem okQ_plain (mk : UInt8) : ∀ (t : List UInt8) (i : Bool), (∀ c ∈ t, c ≠ 39 ∧ c ≠ mk) → okQ mk i t = some i
  | [], i, h => rfl
  | c :: t, i, h => by
    have hc := h c (by simp)
    rw [okQ, if_neg hc.1, if_neg (fun x => hc.2 x.1)]
    exact okQ_plain mk t i fun x hx => h x (by simp [hx])
theorem okQ_in (mk : UInt8) : ∀ (t : List UInt8), (∀ c ∈ t, c ≠ 39) → okQ mk true t = some true
  | [], h => rfl
  | c :: t, h => by
    rw [okQ, if_neg (h c (by simp)), if_neg (by simp)]
    exact okQ_in mk t fun x hx => h x (by simp [hx])
theorem okQ_quoted (mk : UInt8) {t : List UInt8} (h : ∀ c ∈ t, c ≠ 39) : okQ mk false (39 :: t ++ [39]) = some false := by
  rw [List.cons_append, okQ, if_pos rfl]
  show okQ mk true (t ++ [39]) = _
  rw [okQ_app mk t _ _ _ (okQ_in mk t h)]
  rfl
theorem qL_one (mk : UInt8) {t : List UInt8} (h : okQ mk false t = some false) : qL mk false [] t = [t] := by
  have := qL_app mk t false false [] [] h
  rw [List.append_nil] at this
  rw [this]
  rfl
theorem qL_cons (mk : UInt8) (hm : mk ≠ 39) {t r : List UInt8} (h : okQ mk false t = some false) : qL mk false [] (t ++ mk :: r) = t :: qL mk false [] r := by
  rw [qL_app mk t false false [] _ h, qL, if_neg hm, if_pos ⟨rfl, rfl⟩]
  rfl
theorem qL_join (mk : UInt8) (hm : mk ≠ 39) : ∀ (ps : List (List UInt8)), ps ≠ [] → (∀ t ∈ ps, okQ mk false t = some false) → qL mk false [] (Lib.join ps [mk]) = ps
  | [], h, _ => absurd rfl h
  | [t], _, h => by rw [Lib.join_one, qL_one mk (h t (by simp))]
  | t :: u :: ps, _, h => by
    have e : Lib.join (t :: u :: ps) [mk] = t ++ mk :: Lib.join (u :: ps) [mk] := by
      rw [Lib.join_cons, Lib.join_cons, Lib.joinTail]
      simp [Lib.joinTail]
    rw [e, qL_cons mk hm (h t (by simp)), qL_join mk hm (u :: ps) (by simp) fun x hx => h x (by simp [hx])]
/-- a text, cut at each mark -/
def pL (mk : UInt8) : List UInt8 → List UInt8 → List (List UInt8)
  | acc, [] => [acc]
  | acc, c :: r => if c = mk then acc :: pL mk [] r else pL mk (acc ++ [c]) r
theorem pL_app (mk : UInt8) : ∀ (t acc r : List UInt8), (∀ c ∈ t, c ≠ mk) → pL mk acc (t ++ r) = pL mk (acc ++ t) r
  | [], acc, r, h => by simp
  | c :: t, acc, r, h => by
    rw [List.cons_append, pL, if_neg (h c (by simp)), pL_app mk t _ r fun x hx => h x (by simp [hx])]
    simp
theorem pL_one (mk : UInt8) {t : List UInt8} (h : ∀ c ∈ t, c ≠ mk) : pL mk [] t = [t] := by
  have := pL_app mk t [] [] h
  rw [List.append_nil] at this
  rw [this]
  rfl
theorem pL_cons (mk : UInt8) {t r : List UInt8} (h : ∀ c ∈ t, c ≠ mk) : pL mk [] (t ++ mk :: r) = t :: pL mk [] r := by
  rw [pL_app mk t [] _ h, pL, if_pos rfl]
  rfl
theorem join_more (t u : List UInt8) (ps : List (List UInt8)) (mk : UInt8) : Lib.join (t :: u :: ps) [mk] = t ++ mk :: Lib.join (u :: ps) [mk] := by
  rw [Lib.join_cons, Lib.join_cons, Lib.joinTail]
  simp [Lib.joinTail]
theorem pL_join (mk : UInt8) : ∀ (ps : List (List UInt8)), ps ≠ [] → (∀ t ∈ ps, ∀ c ∈ t, c ≠ mk) → pL mk [] (Lib.join ps [mk]) = ps
  | [], h, _ => absurd rfl h
  | [t], _, h => by rw [Lib.join_one, pL_one mk (h t (by simp))]
  | t :: u :: ps, _, h => by
    rw [join_more, pL_cons mk (h t (by simp)), pL_join mk (u :: ps) (by simp) fun x hx => h x (by simp [hx])]
theorem cutS_list (mk : UInt8) : ∀ (n : Nat) (s : ByteArray), s.size ≤ n → (cutS mk n s).map (·.data.toList) = pL mk [] s.data.toList
  | 0, s, h => by
    have : s.data.toList = [] := List.length_eq_zero_iff.1 (by rw [Array.length_toList]; exact (show s.size = 0 by omega))
    rw [cutS, List.map_singleton, this]
    rfl
  | n + 1, s, h => by
    rw [cutS]
    split
    · rename_i h0
      rw [List.map_singleton, pL_one mk (idx_none h0)]
    · rename_i h0
      obtain ⟨m, hm⟩ := Int.eq_ofNat_of_zero_le (Int.not_lt.1 h0)
      have hl := idx_lt h0
      rw [hm] at hl ⊢
      simp only [Int.ofNat_eq_natCast, Int.toNat_natCast] at hl ⊢
      obtain ⟨hk, e, hc⟩ := idx_cut hm
      have e2 : (s.extract (m + 1) s.size).data.toList = s.data.toList.drop (m + 1) := by
        rw [ext_list _ _ _ (by omega)]; exact List.take_of_length_le (by rw [List.length_drop, Array.length_toList]; exact Nat.le_refl _)
      rw [List.map_cons, cutS_list mk n _ (by rw [ByteArray.size_extract]; omega), e2, ext_list _ _ _ (Nat.zero_le _), Nat.sub_zero, List.drop_zero]
      conv => rhs; rw [e, pL_cons mk hc]
theorem piecesS_list (mk : UInt8) (s : ByteArray) : (piecesS mk s).map (·.data.toList) = pL mk [] s.data.toList := cutS_list mk _ s (Nat.le_refl _)
theorem splitK_list (mk : UInt8) : ∀ (n : Nat) (l : List UInt8), l.length ≤ n → Lib.splitK [mk] 0 (Lib.count l [mk]) l = pL mk [] l
  | n, l, h => by
    by_cases h0 : Lib.indexByte l mk < 0
    · have h1 := Lib.indexByte_ge l mk
      rw [Lib.count_miss (by rw [Lib.index_one]; omega), Lib.splitK, pL_one mk (idx_none h0)]
    · obtain ⟨m, hm⟩ := Int.eq_ofNat_of_zero_le (Int.not_lt.1 h0)
      have hm' : Lib.indexByte l mk = (m : Int) := hm
      obtain ⟨hk, e, hc⟩ := idx_cut hm'
      have hi : Lib.index l [mk] = (m : Int) := by rw [Lib.index_one, hm']
      cases n with
      | zero => omega
      | succ n =>
        rw [Lib.count_hit (by simp) hi, Nat.add_comm, Lib.splitK, hi, if_neg (by simp)]
        simp only [Int.toNat_natCast, List.length_singleton, Nat.add_zero]
        rw [splitK_list mk n (l.drop (m + 1)) (by rw [List.length_drop]; omega)]
        conv => rhs; rw [e, pL_cons mk hc]
/-- strings.Split at a mark -/
def splitS (mk : UInt8) (s : ByteArray) : List ByteArray := Lib.splitB ⟨#[mk]⟩ 0 (Lib.countB s ⟨#[mk]⟩) s
theorem splitS_list (mk : UInt8) (s : ByteArray) : (splitS mk s).map (·.data.toList) = pL mk [] s.data.toList := by
  unfold splitS
  rw [Lib.splitB_data]
  exact splitK_list mk _ _ (Nat.le_refl _)
/-- which lists of texts have these letters -/
theorem map_data_inj : ∀ {l m : List ByteArray}, l.map (·.data.toList) = m.map (·.data.toList) → l = m
  | [], [], h => rfl
  | [], y :: m, h => by simp at h
  | x :: l, [], h => by simp at h
  | x :: l, y :: m, h => by
    rw [List.map_cons, List.map_cons] at h
    obtain ⟨h1, h2⟩ := List.cons.inj h
    rw [ba_ext h1, map_data_inj h2]
/-- a letter that is no mark of a line -/
def plainC (c : UInt8) : Prop := c ≠ 39 ∧ c ≠ 32 ∧ c ≠ 59 ∧ c ≠ 44 ∧ c ≠ 10
theorem plain_of {c : UInt8} (h : c.toNat = 45 ∨ 48 ≤ c.toNat ∧ c.toNat ≤ 57) : plainC c := by
  refine ⟨?_, ?_, ?_, ?_, ?_⟩ <;> (rintro rfl; revert h; decide)
theorem itoS_plain (n : Int) : ∀ c ∈ (itoS n).data.toList, plainC c := by
  rw [itoS_data]
  exact fun c hc => plain_of (itoa_plain n c hc)
theorem nameB_plain {s : ByteArray} (h : nameB s = true) : ∀ c ∈ s.data.toList, plainC c := by
  unfold nameB at h
  rw [Bool.and_eq_true] at h
  intro c hc
  have := trimS_nil h.2 c hc
  have hall : ∀ x ∈ cutL, plainC x := by unfold plainC cutL lettersL; decide
  exact hall c this
end Go.Proofs.YtcpnnffnkegamaaGreatDoor

/- What is written is read (plain): values, columns, actions. -/
namespace Go.Proofs.YtcpnnffnkegamaaGreatDoor
set_option linter.unusedSimpArgs false
set_option linter.unusedVariables false
open Go.RowKit
set_option linter.all false
theorem okText_at {s : ByteArray} (h : okText s = true) : ∀ c ∈ s.data.toList, c ≠ 39 ∧ c ≠ 10 := by
  unfold okText at h
  rw [List.all_eq_true] at h
  intro c hc
  have := h c hc
  constructor <;> (rintro rfl; revert this; decide)
/-- the letters of a value that may be -/
theorem printG_cases {d : GV} (h : rightB d.kind d.num d.text = true) :
    (d = ⟨0, 0, ⟨#[]⟩⟩ ∧ (printG d).data.toList = [110, 117, 108, 108]) ∨ (∃ n, d = ⟨1, n, ⟨#[]⟩⟩ ∧ printG d = itoS n) ∨ (∃ t, d = ⟨2, 0, t⟩ ∧ t.size ≤ 40 ∧ okText t = true ∧ rightB 2 0 t = true ∧ (printG d).data.toList = 39 :: t.data.toList ++ [39]) := by
  obtain ⟨k, n, t⟩ := d
  simp only at h
  have h0 := h
  unfold rightB at h
  split at h
  · rename_i h1
    simp only [Bool.and_eq_true, decide_eq_true_eq] at h
    refine .inl ⟨by rw [h1, h.1, h.2], ?_⟩
    rw [h1]
    rfl
  split at h
  · rename_i h0 h1
    simp only [decide_eq_true_eq] at h
    refine .inr (.inl ⟨n, by rw [h1, h], ?_⟩)
    subst h1
    apply ba_ext
    rw [itoS_data, ← itoaL_eq]
    rfl
  split at h
  · rename_i h1
    simp only [Bool.and_eq_true, decide_eq_true_eq] at h
    obtain ⟨⟨h2, h3⟩, h4⟩ := h
    subst h1
    subst h2
    exact .inr (.inr ⟨t, rfl, h3, h4, h0, rfl⟩)
  · cases h
theorem null_no {s : ByteArray} (h : (s.toList == [110, 117, 108, 108]) = true) : s.data.toList = [110, 117, 108, 108] := by
  rw [← ba_toListN]
  exact eq_of_beq h
theorem litOf_print {d : GV} (h : rightB d.kind d.num d.text = true) (hi : i64 d.num) : litOf (printG d) = some d := by
  rcases printG_cases h with ⟨rfl, he⟩ | ⟨n, rfl, he⟩ | ⟨t, rfl, hz, hok, hr, he⟩
  · unfold litOf
    rw [if_pos (by rw [ba_toListN, he]; rfl)]
  · rw [he]
    unfold litOf
    rw [if_neg (fun e => by
      have h1 := null_no e
      have h2 := itoS_plain n 110 (by rw [h1]; simp)
      have h3 := itoa_plain n 110 (by rw [← itoS_data, h1]; simp)
      revert h3
      decide), numOf_iff.2 ⟨hi, rfl⟩]
  · have hn : numOf (printG ⟨2, 0, t⟩) = none := by
      cases hq : numOf (printG ⟨2, 0, t⟩) with
      | none => rfl
      | some v =>
        have h1 := (numOf_iff.1 hq).2
        have h2 := itoS_plain v 39 (by rw [h1, he]; simp)
        exact absurd rfl h2.1
    have hsz : (printG ⟨2, 0, t⟩).size = t.size + 2 := by
      have : (printG ⟨2, 0, t⟩).data.toList.length = t.size + 2 := by rw [he]; simp
      rw [Array.length_toList] at this
      exact this
    have hx : (printG ⟨2, 0, t⟩).extract 1 ((printG ⟨2, 0, t⟩).size - 1) = t := by
      apply ba_ext
      rw [ext_list _ _ _ (by omega), he, hsz]
      simp only [List.cons_append, List.drop_succ_cons, List.drop_zero]
      rw [show t.size + 2 - 1 - 1 = t.data.toList.length by rw [Array.length_toList]; show t.size + 2 - 1 - 1 = t.size; omega, List.take_append_of_le_length (Nat.le_refl _), List.take_length]
    unfold litOf
    rw [if_neg (fun e => by have h1 := null_no e; rw [he] at h1; simp at h1), hn]
    simp only
    rw [if_neg, hx, if_pos hr]
    rw [he, hsz]
    intro hc
    rcases hc with hc | hc | hc
    · omega
    · exact hc rfl
    · apply hc
      rw [List.getD_eq_getElem?_getD, show t.size + 2 - 1 = (39 :: t.data.toList).length by simp, List.getElem?_append_right (Nat.le_refl _), Nat.sub_self]
      rfl
/-- letters of a value: no mark beyond two ' -/
theorem printG_okQ {d : GV} (h : rightB d.kind d.num d.text = true) (mk : UInt8) (hm : mk = 32 ∨ mk = 59) : okQ mk false (printG d).data.toList = some false ∧ ∀ c ∈ (printG d).data.toList, c ≠ 10 := by
  rcases printG_cases h with ⟨rfl, he⟩ | ⟨n, rfl, he⟩ | ⟨t, rfl, hz, hok, hr, he⟩
  · rw [he]
    refine ⟨?_, by decide⟩
    rcases hm with rfl | rfl <;> decide
  · rw [he]
    refine ⟨okQ_plain _ _ _ fun c hc => ?_, fun c hc => (itoS_plain n c hc).2.2.2.2⟩
    have := itoS_plain n c hc
    rcases hm with rfl | rfl
    · exact ⟨this.1, this.2.1⟩
    · exact ⟨this.1, this.2.2.1⟩
  · rw [he]
    refine ⟨okQ_quoted _ fun c hc => (okText_at hok c hc).1, fun c hc => ?_⟩
    simp only [List.cons_append, List.mem_cons, List.mem_append, List.not_mem_nil, or_false] at hc
    rcases hc with rfl | hc | rfl
    · decide
    · exact (okText_at hok c hc).2
    · decide
theorem okQ_word {t : ByteArray} (h : ∀ c ∈ t.data.toList, plainC c) (mk : UInt8) (hm : mk = 32 ∨ mk = 59) : okQ mk false t.data.toList = some false := by
  refine okQ_plain _ _ _ fun c hc => ?_
  have := h c hc
  rcases hm with rfl | rfl
  · exact ⟨this.1, this.2.1⟩
  · exact ⟨this.1, this.2.2.1⟩
theorem mustS_plain (b : Bool) : ∀ c ∈ (mustS b).data.toList, plainC c := by
  unfold plainC
  cases b <;> decide
/-- a column's words -/
def wordsC (c : CG) : List ByteArray := [itoS c.id, c.name, itoS c.kind, mustS c.must, printG c.d]
theorem colS_data (c : CG) : (colS c).data.toList = Lib.join ((wordsC c).map (·.data.toList)) [32] := by
  unfold wordsC
  simp only [List.map_cons, List.map_nil]
  rw [join_more, join_more, join_more, join_more, Lib.join_one]
  unfold colS
  simp [ByteArray.data_append]
theorem colB_parts {c : CG} (h : colB c = true) : nameB c.name = true ∧ rightB c.d.kind c.d.num c.d.text = true := by
  unfold colB at h
  simp only [Bool.and_eq_true] at h
  exact ⟨h.1.1.1.1.1, h.1.2⟩
theorem wordsC_ok {c : CG} (h : colB c = true) (mk : UInt8) (hm : mk = 32 ∨ mk = 59) : ∀ t ∈ (wordsC c).map (·.data.toList), okQ mk false t = some false := by
  obtain ⟨h1, h2⟩ := colB_parts h
  intro t ht
  unfold wordsC at ht
  simp only [List.map_cons, List.map_nil, List.mem_cons, List.not_mem_nil, or_false] at ht
  rcases ht with rfl | rfl | rfl | rfl | rfl
  · exact okQ_word (itoS_plain _) mk hm
  · exact okQ_word (nameB_plain h1) mk hm
  · exact okQ_word (itoS_plain _) mk hm
  · exact okQ_word (mustS_plain _) mk hm
  · exact (printG_okQ h2 mk hm).1
theorem colS_words {c : CG} (h : colB c = true) : quotedS (colS c) 32 = wordsC c := by
  apply map_data_inj
  rw [quotedS_list, colS_data, qL_join 32 (by decide) _ (by simp [wordsC]) (wordsC_ok h 32 (.inl rfl))]
theorem okQ_join (mk : UInt8) {sp : UInt8} (hs : sp ≠ 39) (hs2 : sp ≠ mk) : ∀ (ps : List (List UInt8)), (∀ t ∈ ps, okQ mk false t = some false) → okQ mk false (Lib.join ps [sp]) = some false
  | [], h => rfl
  | [t], h => by rw [Lib.join_one]; exact h t (by simp)
  | t :: u :: ps, h => by
    rw [join_more, okQ_app mk t false false _ (h t (by simp)), okQ, if_neg hs, if_neg (fun x => hs2 x.1), okQ_join mk hs hs2 (u :: ps) fun x hx => h x (by simp [hx])]
theorem mem_join {sp : UInt8} : ∀ (ps : List (List UInt8)) (c : UInt8), c ∈ Lib.join ps [sp] → c = sp ∨ ∃ t ∈ ps, c ∈ t
  | [], c, h => by simp [Lib.join_nil] at h
  | [t], c, h => by rw [Lib.join_one] at h; exact .inr ⟨t, by simp, h⟩
  | t :: u :: ps, c, h => by
    rw [join_more] at h
    rcases List.mem_append.1 h with h | h
    · exact .inr ⟨t, by simp, h⟩
    rcases List.mem_cons.1 h with h | h
    · exact .inl h
    · rcases mem_join (u :: ps) c h with h | ⟨x, hx, h⟩
      · exact .inl h
      · exact .inr ⟨x, by simp [hx], h⟩
theorem colS_ok59 {c : CG} (h : colB c = true) : okQ 59 false (colS c).data.toList = some false := by
  rw [colS_data]
  exact okQ_join 59 (by decide) (by decide) _ (wordsC_ok h 59 (.inr rfl))
theorem colS_no10 {c : CG} (h : colB c = true) : ∀ x ∈ (colS c).data.toList, x ≠ 10 := by
  obtain ⟨h1, h2⟩ := colB_parts h
  rw [colS_data]
  intro x hx
  rcases mem_join _ _ hx with rfl | ⟨t, ht, hx⟩
  · decide
  · unfold wordsC at ht
    simp only [List.map_cons, List.map_nil, List.mem_cons, List.not_mem_nil, or_false] at ht
    rcases ht with rfl | rfl | rfl | rfl | rfl
    · exact (itoS_plain _ x hx).2.2.2.2
    · exact (nameB_plain h1 x hx).2.2.2.2
    · exact (itoS_plain _ x hx).2.2.2.2
    · exact (mustS_plain _ x hx).2.2.2.2
    · exact (printG_okQ h2 32 (.inl rfl)).2 x hx
theorem colOf_print {c : CG} (h : colB c = true) (hc : i64 c.id ∧ i64 c.kind ∧ i64 c.d.num) : colOf (colS c) = some c := by
  obtain ⟨h1, h2⟩ := colB_parts h
  unfold colOf
  rw [colS_words h]
  unfold wordsC
  simp only
  have e : ((mustS c.must).toList == [109, 117, 115, 116]) = c.must := by cases hm : c.must <;> (unfold mustS; simp [ba_toListN])
  rw [if_neg, numOf_iff.2 ⟨hc.1, rfl⟩, numOf_iff.2 ⟨hc.2.1, rfl⟩, litOf_print h2 hc.2.2]
  · simp only
    rw [e]
  · rw [e]
    rintro ⟨h3, h4⟩
    rw [h3] at h4
    revert h4
    unfold mustS
    simp [ba_toListN]
theorem colsOf_print : ∀ {l : List CG}, (∀ c ∈ l, colB c = true ∧ i64 c.id ∧ i64 c.kind ∧ i64 c.d.num) → colsOf (l.map colS) = some l
  | [], _ => rfl
  | c :: l, h => by
    rw [List.map_cons, colsOf, colOf_print (h c (by simp)).1 (h c (by simp)).2, colsOf_print fun x hx => h x (by simp [hx])]
theorem numsOf_print : ∀ {l : List Int}, (∀ n ∈ l, i64 n) → numsOf (l.map itoS) = some l
  | [], _ => rfl
  | c :: l, h => by
    rw [List.map_cons, numsOf, numOf_iff.2 ⟨h c (by simp), rfl⟩, numsOf_print fun x hx => h x (by simp [hx])]
theorem joinS_data (l : List ByteArray) (mk : UInt8) : (joinS l ⟨#[mk]⟩).data.toList = Lib.join (l.map (·.data.toList)) [mk] := by simp [joinS]
end Go.Proofs.YtcpnnffnkegamaaGreatDoor

/- log.line: what it answers. -/
namespace Go.Proofs.YtcpnnffnkegamaaGreatDoor
set_option linter.unusedSimpArgs false
set_option linter.unusedVariables false
open Go.RowKit
set_option linter.all false
/-- letters of columns: names, texts -/
def sumC : List CG → Nat
  | [] => 0
  | c :: l => c.name.size + c.d.text.size + sumC l
/-- what is read is not too great -/
structure LnOk (a : AN) (v : AV) (z : Nat) : Prop where
  q : a.mask.length = v.qn
  q2 : v.qn ≤ z
  qz : v.qa = none → v.qc = 0
  r : a.cols.length = v.rn
  r2 : v.rn ≤ z
  r3 : v.rn ≤ v.rc
  n64 : i64 a.next
  r64 : i64 a.rows
  m64 : ∀ x ∈ a.mask, i64 x
  c64 : ∀ c ∈ a.cols, i64 c.id ∧ i64 c.kind ∧ i64 c.d.num
  cs : sumC a.cols ≤ z
  p : a.path.size ≤ z
/-- an empty action's cells -/
abbrev a0C : List Value := [.int .i64 0, .string ⟨#[]⟩, .int .i64 0, .slice none 0 0, .slice none 0 0, .int .i64 0]
abbrev aC (a : AN) (v : AV) : List Value := [.int .i64 a.kind, .string a.path, .int .i64 a.rows, .slice v.qa v.qn v.qc, .slice v.ra v.rn v.rc, .int .i64 a.next]
abbrev aV (a : AN) (v : AV) : Value := .agg #[.int .i64 a.kind, .string a.path, .int .i64 a.rows, .slice v.qa v.qn v.qc, .slice v.ra v.rn v.rc, .int .i64 a.next]
/-- what is known of an action that was read -/
def LnF (s : ByteArray) (a : AN) (v : AV) (b : Bool) (M : List Item) : Prop :=
  (b = true → (∀ (B : Nat) (w0 W : World), Hp B w0 W M → RI W v.qa a.mask ∧ RC W v.ra a.cols) ∧ LnOk a v (s.size + 1)) ∧ lineP s = if b = true then some a else none
theorem LnF.no {s : ByteArray} {a : AN} {v : AV} {M : List Item} (h : lineP s = none) : LnF s a v false M := ⟨fun h => (by cases h), h⟩
theorem LnF.ok {s : ByteArray} {a : AN} {v : AV} {b : Bool} {M : List Item} (h : lineP s = if b = true then some a else none) (h2 : ∀ (B : Nat) (w0 W : World), Hp B w0 W M → RI W v.qa a.mask ∧ RC W v.ra a.cols) (h3 : LnOk a v (s.size + 1)) : LnF s a v b M := ⟨fun _ => ⟨h2, h3⟩, h⟩
/-- what log.line answers -/
def LineE (s : ByteArray) (w : World) (e : Ending) (w' : World) : Prop :=
  ∃ (a : AN) (v : AV) (b : Bool) (M : List Item), e = .returned (.tuple #[aV a v, .bool b]) ∧ Hp w.heap.size w w' M ∧ LnF s a v b M
theorem LineE.mk {s : ByteArray} {w w' : World} (a : AN) (v : AV) (b : Bool) (M : List Item) (h1 : Hp w.heap.size w w' M) (h2 : LnF s a v b M) : LineE s w (.returned (.tuple #[aV a v, .bool b])) w' := ⟨a, v, b, M, rfl, h1, h2⟩
theorem Hp.rowNilL {B : Nat} {w0 w : World} {L : List Item} {e : TypeId} {size n cap : Nat} {A : Option Addr} {xs : List Value} (h : Hp B w0 w L) (i : Nat) (hi : L[i]? = some (.row e size A n cap xs)) (hA : A = none) : cap = 0 := by
  have ho : w.ownsRow B e size (.slice A n cap) n xs := h.own _ (List.mem_of_getElem? hi)
  rcases ho.2 with ⟨hv, _⟩ | ⟨g, cp, cur, hv, _⟩
  · simp at hv; exact hv.2.2
  · subst hA; simp at hv
theorem Hp.forget {B : Nat} {w0 w : World} {L : List Item} (h : Hp B w0 w L) : Hp B w0 w [] := h.sub (List.nil_sublist _)
theorem ri_nil (W : World) (A : Option Addr) : RI W A [] := fun k x h => (by cases h)
theorem rc_nil (W : World) (A : Option Addr) : RC W A [] := fun k x h => (by cases h)
theorem LnOk.flat {z : Nat} {k m x : Int} {p : ByteArray} (hp : p.size ≤ z) (hm : i64 m) (hx : i64 x) : LnOk ⟨k, p, m, [], [], x⟩ ⟨none, 0, 0, none, 0, 0⟩ z :=
  ⟨rfl, Nat.zero_le _, fun _ => rfl, rfl, Nat.zero_le _, Nat.le_refl _, hx, hm, (fun x h => by cases h), (fun x h => by cases h), Nat.zero_le _, hp⟩
theorem lineP_short {s : ByteArray} (h : (quotedS s 32).length < 2) : lineP s = none := by
  unfold lineP
  match hq : quotedS s 32 with
  | [] => rfl
  | [x] => rfl
  | x :: y :: r => rw [hq] at h; simp at h; omega
end Go.Proofs.YtcpnnffnkegamaaGreatDoor

/- millpondkeep.sameSet: true of two tables that have the same. -/
namespace Go.Proofs.YtcpnnffnkegamaaGreatDoor
set_option linter.unusedSimpArgs false
set_option linter.unusedVariables false
open Go.RowKit
set_option linter.all false
open Go.Maps (Keyed)
/-- what the map of a table's files tells -/
structure SetOk (B : Nat) (w0 : World) (K : List Item) (s : SN) (D : DataW Value) : Prop where
  kt : KT D (s.files.map (·.path))
  get : ∀ x, vhas D x = true → ∃ e ev, lk s.files x = some e ∧ (∀ z, vget D x z = evV ev) ∧ EvOk B w0 K ev e
theorem SetOk.more {B : Nat} {w0 : World} {K K' : List Item} {s : SN} {D : DataW Value} (h : SetOk B w0 K s D) (hK : ∀ W, Hp B w0 W K' → Hp B w0 W K) : SetOk B w0 K' s D :=
  ⟨h.kt, fun x hx => by obtain ⟨e, ev, h1, h2, h3⟩ := h.get x hx; exact ⟨e, ev, h1, h2, h3.more hK⟩⟩
theorem SetOk.has {B : Nat} {w0 : World} {K : List Item} {s : SN} {D : DataW Value} (h : SetOk B w0 K s D) {x : ByteArray} {e : EN} (he : lk s.files x = some e) : vhas D x = true := by
  rw [h.kt.mem]
  obtain ⟨h1, h2⟩ := lk_path he
  rw [← h1]
  exact List.mem_map.2 ⟨e, h2, rfl⟩
section
variable {B : Nat} {w0 w : World} {K : List Item}
end
end Go.Proofs.YtcpnnffnkegamaaGreatDoor
