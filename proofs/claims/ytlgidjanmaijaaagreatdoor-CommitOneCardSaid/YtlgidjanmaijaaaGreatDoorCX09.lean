/- Texts joined: What is written is read (plain): numbers, columns, actions. What is written is read (plain): values, columns, actions. log.Print: the walk. (Printed by genprint2.py.) millpondkeep.logged: a fact: it is true. -/
import Derived.Test.YtlgidjanmaijaaaGreatDoorCX08
import Derived.Test.YtlgidjanmaijaaaGreatDoorCX02
import Derived.Deep.DeepCutAuto
import Derived.Test.YtlgidjanmaijaaaGreatDoorCX07
/- What is written is read (plain): numbers, columns, actions. -/
namespace Go.Proofs.YtlgidjanmaijaaaGreatDoor
set_option linter.unusedSimpArgs false
set_option linter.unusedVariables false
open Go.RowKit
set_option linter.all false
/-- a text, cut at a mark, but not between two ' (on lists) -/
def qL (mk : UInt8) : Bool → List UInt8 → List UInt8 → List (List UInt8)
  | _, acc, [] => [acc]
  | i, acc, c :: r => if c = 39 then qL mk (!i) (acc ++ [c]) r else if c = mk ∧ i = false then acc :: qL mk i [] r else qL mk i (acc ++ [c]) r
theorem take_snoc {l : List UInt8} {f k : Nat} {c : UInt8} (hf : f ≤ k) (h : l[k]? = some c) : (l.drop f).take (k + 1 - f) = (l.drop f).take (k - f) ++ [c] := by
  rw [show k + 1 - f = (k - f) + 1 by omega, List.take_add_one, List.getElem?_drop, show f + (k - f) = k by omega, h]
  rfl
theorem qGo_list (s : ByteArray) (mk : UInt8) : ∀ (n k : Nat) (i : Bool) (f : Nat), k + n = s.size → f ≤ k → (qGo s mk n k i f).map (·.data.toList) = qL mk i ((s.data.toList.drop f).take (k - f)) (s.data.toList.drop k)
  | 0, k, i, f, h, hf => by
    have hk : s.data.toList.length = k := by rw [Array.length_toList]; exact (show s.size = k by omega)
    rw [qGo, List.map_singleton, ext_list _ _ _ (by omega), List.drop_of_length_le (Nat.le_of_eq hk), qL, show s.size = k by omega]
  | n + 1, k, i, f, h, hf => by
    have hk : k < s.data.toList.length := by rw [Array.length_toList]; exact (show k < s.size by omega)
    have hg : s.data.toList[k]? = some s.data.toList[k] := List.getElem?_eq_getElem hk
    have hd : s.data.toList.getD k 0 = s.data.toList[k] := by rw [List.getD_eq_getElem?_getD, hg]; rfl
    rw [qGo, hd, List.drop_eq_getElem_cons hk, qL]
    split
    · rw [qGo_list s mk n (k + 1) (!i) f (by omega) (by omega), take_snoc hf hg]
    · split
      · rw [List.map_cons, qGo_list s mk n (k + 1) i (k + 1) (by omega) (Nat.le_refl _), ext_list _ _ _ hf, Nat.sub_self, List.take_zero]
      · rw [qGo_list s mk n (k + 1) i f (by omega) (by omega), take_snoc hf hg]
theorem quotedS_list (s : ByteArray) (mk : UInt8) : (quotedS s mk).map (·.data.toList) = qL mk false [] s.data.toList := by
  unfold quotedS
  rw [qGo_list s mk s.size 0 false 0 (by omega) (Nat.le_refl _)]
  rfl
/-- no mark stands beyond two ': whether one ' is open behind -/
def okQ (mk : UInt8) : Bool → List UInt8 → Option Bool
  | i, [] => some i
  | i, c :: r => if c = 39 then okQ mk (!i) r else if c = mk ∧ i = false then none else okQ mk i r
theorem qL_app (mk : UInt8) : ∀ (t : List UInt8) (i j : Bool) (acc r : List UInt8), okQ mk i t = some j → qL mk i acc (t ++ r) = qL mk j (acc ++ t) r
  | [], i, j, acc, r, h => by
    obtain rfl : i = j := by simpa [okQ] using h
    simp
  | c :: t, i, j, acc, r, h => by
    rw [okQ] at h
    rw [List.cons_append, qL]
    split at h
    · rename_i h1
      rw [if_pos h1, qL_app mk t _ j _ r h]
      simp
    · rename_i h1
      rw [if_neg h1]
      split at h
      · cases h
      · rename_i h2
        rw [if_neg h2, qL_app mk t _ j _ r h]
        simp
theorem okQ_app (mk : UInt8) : ∀ (t : List UInt8) (i j : Bool) (r : List UInt8), okQ mk i t = some j → okQ mk i (t ++ r) = okQ mk j r
  | [], i, j, r, h => by
    obtain rfl : i = j := by simpa [okQ] using h
    rfl
  | c :: t, i, j, r, h => by
    rw [okQ] at h
    rw [List.cons_append, okQ]
    split at h
    · rename_i h1
      rw [if_pos h1, okQ_app mk t _ j r h]
    · rename_i h1
      rw [if_neg h1]
      split at h
      · cases h
      · rename_i h2
        rw [if_neg h2, okQ_app mk t _ j r h]
theorem okQ_plain (mk : UInt8) : ∀ (t : List UInt8) (i : Bool), (∀ c ∈ t, c ≠ 39 ∧ c ≠ mk) → okQ mk i t = some i
  | [], i, h => rfl
  | c :: t, i, h => by
    have hc := h c (by simp)
    rw [okQ, if_neg hc.1, if_neg (fun x => hc.2 x.1)]
    exact okQ_plain mk t i fun x hx => h x (by simp [hx])
theorem okQ_in (mk : UInt8) : ∀ (t : List UInt8), (∀ c ∈ t, c ≠ 39) → okQ mk true t = some true
  | [], h => rfl
  | c :: t, h => by
    rw [okQ, if_neg (h c (by simp)), if_neg (by simp)]
    exact okQ_in mk t fun x hx => h x (by simp [hx])
theorem okQ_quoted (mk : UInt8) {t : List UInt8} (h : ∀ c ∈ t, c ≠ 39) : okQ mk false (39 :: t ++ [39]) = some false := by
  rw [List.cons_append, okQ, if_pos rfl]
  show okQ mk true (t ++ [39]) = _
  rw [okQ_app mk t _ _ _ (okQ_in mk t h)]
  rfl
theorem qL_one (mk : UInt8) {t : List UInt8} (h : okQ mk false t = some false) : qL mk false [] t = [t] := by
  have := qL_app mk t false false [] [] h
  rw [List.append_nil] at this
  rw [this]
  rfl
theorem qL_cons (mk : UInt8) (hm : mk ≠ 39) {t r : List UInt8} (h : okQ mk false t = some false) : qL mk false [] (t ++ mk :: r) = t :: qL mk false [] r := by
  rw [qL_app mk t false false [] _ h, qL, if_neg hm, if_pos ⟨rfl, rfl⟩]
  rfl
theorem qL_join (mk : UInt8) (hm : mk ≠ 39) : ∀ (ps : List (List UInt8)), ps ≠ [] → (∀ t ∈ ps, okQ mk false t = some false) → qL mk false [] (Lib.join ps [mk]) = ps
  | [], h, _ => absurd rfl h
  | [t], _, h => by rw [Lib.join_one, qL_one mk (h t (by simp))]
  | t :: u :: ps, _, h => by
    have e : Lib.join (t :: u :: ps) [mk] = t ++ mk :: Lib.join (u :: ps) [mk] := by
      rw [Lib.join_cons, Lib.join_cons, Lib.joinTail]
      simp [Lib.joinTail]
    rw [e, qL_cons mk hm (h t (by simp)), qL_join mk hm (u :: ps) (by simp) fun x hx => h x (by simp [hx])]
/-- a text, cut at each mark -/
def pL (mk : UInt8) : List UInt8 → List UInt8 → List (List UInt8)
  | acc, [] => [acc]
  | acc, c :: r => if c = mk then acc :: pL mk [] r else pL mk (acc ++ [c]) r
theorem pL_app (mk : UInt8) : ∀ (t acc r : List UInt8), (∀ c ∈ t, c ≠ mk) → pL mk acc (t ++ r) = pL mk (acc ++ t) r
  | [], acc, r, h => by simp
  | c :: t, acc, r, h => by
    rw [List.cons_append, pL, if_neg (h c (by simp)), pL_app mk t _ r fun x hx => h x (by simp [hx])]
    simp
theorem pL_one (mk : UInt8) {t : List UInt8} (h : ∀ c ∈ t, c ≠ mk) : pL mk [] t = [t] := by
  have := pL_app mk t [] [] h
  rw [List.append_nil] at this
  rw [this]
  rfl
theorem pL_cons (mk : UInt8) {t r : List UInt8} (h : ∀ c ∈ t, c ≠ mk) : pL mk [] (t ++ mk :: r) = t :: pL mk [] r := by
  rw [pL_app mk t [] _ h, pL, if_pos rfl]
  rfl
theorem join_more (t u : List UInt8) (ps : List (List UInt8)) (mk : UInt8) : Lib.join (t :: u :: ps) [mk] = t ++ mk :: Lib.join (u :: ps) [mk] := by
  rw [Lib.join_cons, Lib.join_cons, Lib.joinTail]
  simp [Lib.joinTail]
theorem pL_join (mk : UInt8) : ∀ (ps : List (List UInt8)), ps ≠ [] → (∀ t ∈ ps, ∀ c ∈ t, c ≠ mk) → pL mk [] (Lib.join ps [mk]) = ps
  | [], h, _ => absurd rfl h
  | [t], _, h => by rw [Lib.join_one, pL_one mk (h t (by simp))]
  | t :: u :: ps, _, h => by
    rw [join_more, pL_cons mk (h t (by simp)), pL_join mk (u :: ps) (by simp) fun x hx => h x (by simp [hx])]
theorem cutS_list (mk : UInt8) : ∀ (n : Nat) (s : ByteArray), s.size ≤ n → (cutS mk n s).map (·.data.toList) = pL mk [] s.data.toList
  | 0, s, h => by
    have : s.data.toList = [] := List.length_eq_zero_iff.1 (by rw [Array.length_toList]; exact (show s.size = 0 by omega))
    rw [cutS, List.map_singleton, this]
    rfl
  | n + 1, s, h => by
    rw [cutS]
    split
    · rename_i h0
      rw [List.map_singleton, pL_one mk (idx_none h0)]
    · rename_i h0
      obtain ⟨m, hm⟩ := Int.eq_ofNat_of_zero_le (Int.not_lt.1 h0)
      have hl := idx_lt h0
      rw [hm] at hl ⊢
      simp only [Int.ofNat_eq_natCast, Int.toNat_natCast] at hl ⊢
      obtain ⟨hk, e, hc⟩ := idx_cut hm
      have e2 : (s.extract (m + 1) s.size).data.toList = s.data.toList.drop (m + 1) := by
        rw [ext_list _ _ _ (by omega)]; exact List.take_of_length_le (by rw [List.length_drop, Array.length_toList]; exact Nat.le_refl _)
      rw [List.map_cons, cutS_list mk n _ (by rw [ByteArray.size_extract]; omega), e2, ext_list _ _ _ (Nat.zero_le _), Nat.sub_zero, List.drop_zero]
      conv => rhs; rw [e, pL_cons mk hc]
theorem piecesS_list (mk : UInt8) (s : ByteArray) : (piecesS mk s).map (·.data.toList) = pL mk [] s.data.toList := cutS_list mk _ s (Nat.le_refl _)
theorem splitK_list (mk : UInt8) : ∀ (n : Nat) (l : List UInt8), l.length ≤ n → Lib.splitK [mk] 0 (Lib.count l [mk]) l = pL mk [] l
  | n, l, h => by
    by_cases h0 : Lib.indexByte l mk < 0
    · have h1 := Lib.indexByte_ge l mk
      rw [Lib.count_miss (by rw [Lib.index_one]; omega), Lib.splitK, pL_one mk (idx_none h0)]
    · obtain ⟨m, hm⟩ := Int.eq_ofNat_of_zero_le (Int.not_lt.1 h0)
      have hm' : Lib.indexByte l mk = (m : Int) := hm
      obtain ⟨hk, e, hc⟩ := idx_cut hm'
      have hi : Lib.index l [mk] = (m : Int) := by rw [Lib.index_one, hm']
      cases n with
      | zero => omega
      | succ n =>
        rw [Lib.count_hit (by simp) hi, Nat.add_comm, Lib.splitK, hi, if_neg (by simp)]
        simp only [Int.toNat_natCast, List.length_singleton, Nat.add_zero]
        rw [splitK_list mk n (l.drop (m + 1)) (by rw [List.length_drop]; omega)]
        conv => rhs; rw [e, pL_cons mk hc]
/-- strings.Split at a mark -/
def splitS (mk : UInt8) (s : ByteArray) : List ByteArray := Lib.splitB ⟨#[mk]⟩ 0 (Lib.countB s ⟨#[mk]⟩) s
theorem splitS_list (mk : UInt8) (s : ByteArray) : (splitS mk s).map (·.data.toList) = pL mk [] s.data.toList := by
  unfold splitS
  rw [Lib.splitB_data]
  exact splitK_list mk _ _ (Nat.le_refl _)
/-- which lists of texts have these letters -/
theorem map_data_inj : ∀ {l m : List ByteArray}, l.map (·.data.toList) = m.map (·.data.toList) → l = m
  | [], [], h => rfl
  | [], y :: m, h => by simp at h
  | x :: l, [], h => by simp at h
  | x :: l, y :: m, h => by
    rw [List.map_cons, List.map_cons] at h
    obtain ⟨h1, h2⟩ := List.cons.inj h
    rw [ba_ext h1, map_data_inj h2]
/-- a letter that is no mark of a line -/
def plainC (c : UInt8) : Prop := c ≠ 39 ∧ c ≠ 32 ∧ c ≠ 59 ∧ c ≠ 44 ∧ c ≠ 10
theorem plain_of {c : UInt8} (h : c.toNat = 45 ∨ 48 ≤ c.toNat ∧ c.toNat ≤ 57) : plainC c := by
  refine ⟨?_, ?_, ?_, ?_, ?_⟩ <;> (rintro rfl; revert h; decide)
theorem itoS_plain (n : Int) : ∀ c ∈ (itoS n).data.toList, plainC c := by
  rw [itoS_data]
  exact fun c hc => plain_of (itoa_plain n c hc)
theorem nameB_plain {s : ByteArray} (h : nameB s = true) : ∀ c ∈ s.data.toList, plainC c := by
  unfold nameB at h
  rw [Bool.and_eq_true] at h
  intro c hc
  have := trimS_nil h.2 c hc
  have hall : ∀ x ∈ cutL, plainC x := by unfold plainC cutL lettersL; decide
  exact hall c this
end Go.Proofs.YtlgidjanmaijaaaGreatDoor

/- What is written is read (plain): values, columns, actions. -/
namespace Go.Proofs.YtlgidjanmaijaaaGreatDoor
set_option linter.unusedSimpArgs false
set_option linter.unusedVariables false
open Go.RowKit
set_option linter.all false
theorem okText_at {s : ByteArray} (h : okText s = true) : ∀ c ∈ s.data.toList, c ≠ 39 ∧ c ≠ 10 := by
  unfold okText at h
  rw [List.all_eq_true] at h
  intro c hc
  have := h c hc
  constructor <;> (rintro rfl; revert this; decide)
/-- the letters of a value that may be -/
theorem printG_cases {d : GV} (h : rightB d.kind d.num d.text = true) :
    (d = ⟨0, 0, ⟨#[]⟩⟩ ∧ (printG d).data.toList = [110, 117, 108, 108]) ∨ (∃ n, d = ⟨1, n, ⟨#[]⟩⟩ ∧ printG d = itoS n) ∨ (∃ t, d = ⟨2, 0, t⟩ ∧ t.size ≤ 40 ∧ okText t = true ∧ rightB 2 0 t = true ∧ (printG d).data.toList = 39 :: t.data.toList ++ [39]) := by
  obtain ⟨k, n, t⟩ := d
  simp only at h
  have h0 := h
  unfold rightB at h
  split at h
  · rename_i h1
    simp only [Bool.and_eq_true, decide_eq_true_eq] at h
    refine .inl ⟨by rw [h1, h.1, h.2], ?_⟩
    rw [h1]
    rfl
  split at h
  · rename_i h0 h1
    simp only [decide_eq_true_eq] at h
    refine .inr (.inl ⟨n, by rw [h1, h], ?_⟩)
    subst h1
    apply ba_ext
    rw [itoS_data, ← itoaL_eq]
    rfl
  split at h
  · rename_i h1
    simp only [Bool.and_eq_true, decide_eq_true_eq] at h
    obtain ⟨⟨h2, h3⟩, h4⟩ := h
    subst h1
    subst h2
    exact .inr (.inr ⟨t, rfl, h3, h4, h0, rfl⟩)
  · cases h
theorem null_no {s : ByteArray} (h : (s.toList == [110, 117, 108, 108]) = true) : s.data.toList = [110, 117, 108, 108] := by
  rw [← ba_toListN]
  exact eq_of_beq h
theorem litOf_print {d : GV} (h : rightB d.kind d.num d.text = true) (hi : i64 d.num) : litOf (printG d) = some d := by
  rcases printG_cases h with ⟨rfl, he⟩ | ⟨n, rfl, he⟩ | ⟨t, rfl, hz, hok, hr, he⟩
  · unfold litOf
    rw [if_pos (by rw [ba_toListN, he]; rfl)]
  · rw [he]
    unfold litOf
    rw [if_neg (fun e => by
      have h1 := null_no e
      have h2 := itoS_plain n 110 (by rw [h1]; simp)
      have h3 := itoa_plain n 110 (by rw [← itoS_data, h1]; simp)
      revert h3
      decide), numOf_iff.2 ⟨hi, rfl⟩]
  · have hn : numOf (printG ⟨2, 0, t⟩) = none := by
      cases hq : numOf (printG ⟨2, 0, t⟩) with
      | none => rfl
      | some v =>
        have h1 := (numOf_iff.1 hq).2
        have h2 := itoS_plain v 39 (by rw [h1, he]; simp)
        exact absurd rfl h2.1
    have hsz : (printG ⟨2, 0, t⟩).size = t.size + 2 := by
      have : (printG ⟨2, 0, t⟩).data.toList.length = t.size + 2 := by rw [he]; simp
      rw [Array.length_toList] at this
      exact this
    have hx : (printG ⟨2, 0, t⟩).extract 1 ((printG ⟨2, 0, t⟩).size - 1) = t := by
      apply ba_ext
      rw [ext_list _ _ _ (by omega), he, hsz]
      simp only [List.cons_append, List.drop_succ_cons, List.drop_zero]
      rw [show t.size + 2 - 1 - 1 = t.data.toList.length by rw [Array.length_toList]; show t.size + 2 - 1 - 1 = t.size; omega, List.take_append_of_le_length (Nat.le_refl _), List.take_length]
    unfold litOf
    rw [if_neg (fun e => by have h1 := null_no e; rw [he] at h1; simp at h1), hn]
    simp only
    rw [if_neg, hx, if_pos hr]
    rw [he, hsz]
    intro hc
    rcases hc with hc | hc | hc
    · omega
    · exact hc rfl
    · apply hc
      rw [List.getD_eq_getElem?_getD, show t.size + 2 - 1 = (39 :: t.data.toList).length by simp, List.getElem?_append_right (Nat.le_refl _), Nat.sub_self]
      rfl
/-- letters of a value: no mark beyond two ' -/
theorem printG_okQ {d : GV} (h : rightB d.kind d.num d.text = true) (mk : UInt8) (hm : mk = 32 ∨ mk = 59) : okQ mk false (printG d).data.toList = some false ∧ ∀ c ∈ (printG d).data.toList, c ≠ 10 := by
  rcases printG_cases h with ⟨rfl, he⟩ | ⟨n, rfl, he⟩ | ⟨t, rfl, hz, hok, hr, he⟩
  · rw [he]
    refine ⟨?_, by decide⟩
    rcases hm with rfl | rfl <;> decide
  · rw [he]
    refine ⟨okQ_plain _ _ _ fun c hc => ?_, fun c hc => (itoS_plain n c hc).2.2.2.2⟩
    have := itoS_plain n c hc
    rcases hm with rfl | rfl
    · exact ⟨this.1, this.2.1⟩
    · exact ⟨this.1, this.2.2.1⟩
  · rw [he]
    refine ⟨okQ_quoted _ fun c hc => (okText_at hok c hc).1, fun c hc => ?_⟩
    simp only [List.cons_append, List.mem_cons, List.mem_append, List.not_mem_nil, or_false] at hc
    rcases hc with rfl | hc | rfl
    · decide
    · exact (okText_at hok c hc).2
    · decide
theorem okQ_word {t : ByteArray} (h : ∀ c ∈ t.data.toList, plainC c) (mk : UInt8) (hm : mk = 32 ∨ mk = 59) : okQ mk false t.data.toList = some false := by
  refine okQ_plain _ _ _ fun c hc => ?_
  have := h c hc
  rcases hm with rfl | rfl
  · exact ⟨this.1, this.2.1⟩
  · exact ⟨this.1, this.2.2.1⟩
theorem mustS_plain (b : Bool) : ∀ c ∈ (mustS b).data.toList, plainC c := by
  unfold plainC
  cases b <;> decide
/-- a column's words -/
def wordsC (c : CG) : List ByteArray := [itoS c.id, c.name, itoS c.kind, mustS c.must, printG c.d]
theorem colS_data (c : CG) : (colS c).data.toList = Lib.join ((wordsC c).map (·.data.toList)) [32] := by
  unfold wordsC
  simp only [List.map_cons, List.map_nil]
  rw [join_more, join_more, join_more, join_more, Lib.join_one]
  unfold colS
  simp [ByteArray.data_append]
theorem colB_parts {c : CG} (h : colB c = true) : nameB c.name = true ∧ rightB c.d.kind c.d.num c.d.text = true := by
  unfold colB at h
  simp only [Bool.and_eq_true] at h
  exact ⟨h.1.1.1.1.1, h.1.2⟩
theorem wordsC_ok {c : CG} (h : colB c = true) (mk : UInt8) (hm : mk = 32 ∨ mk = 59) : ∀ t ∈ (wordsC c).map (·.data.toList), okQ mk false t = some false := by
  obtain ⟨h1, h2⟩ := colB_parts h
  intro t ht
  unfold wordsC at ht
  simp only [List.map_cons, List.map_nil, List.mem_cons, List.not_mem_nil, or_false] at ht
  rcases ht with rfl | rfl | rfl | rfl | rfl
  · exact okQ_word (itoS_plain _) mk hm
  · exact okQ_word (nameB_plain h1) mk hm
  · exact okQ_word (itoS_plain _) mk hm
  · exact okQ_word (mustS_plain _) mk hm
  · exact (printG_okQ h2 mk hm).1
theorem colS_words {c : CG} (h : colB c = true) : quotedS (colS c) 32 = wordsC c := by
  apply map_data_inj
  rw [quotedS_list, colS_data, qL_join 32 (by decide) _ (by simp [wordsC]) (wordsC_ok h 32 (.inl rfl))]
theorem okQ_join (mk : UInt8) {sp : UInt8} (hs : sp ≠ 39) (hs2 : sp ≠ mk) : ∀ (ps : List (List UInt8)), (∀ t ∈ ps, okQ mk false t = some false) → okQ mk false (Lib.join ps [sp]) = some false
  | [], h => rfl
  | [t], h => by rw [Lib.join_one]; exact h t (by simp)
  | t :: u :: ps, h => by
    rw [join_more, okQ_app mk t false false _ (h t (by simp)), okQ, if_neg hs, if_neg (fun x => hs2 x.1), okQ_join mk hs hs2 (u :: ps) fun x hx => h x (by simp [hx])]
theorem mem_join {sp : UInt8} : ∀ (ps : List (List UInt8)) (c : UInt8), c ∈ Lib.join ps [sp] → c = sp ∨ ∃ t ∈ ps, c ∈ t
  | [], c, h => by simp [Lib.join_nil] at h
  | [t], c, h => by rw [Lib.join_one] at h; exact .inr ⟨t, by simp, h⟩
  | t :: u :: ps, c, h => by
    rw [join_more] at h
    rcases List.mem_append.1 h with h | h
    · exact .inr ⟨t, by simp, h⟩
    rcases List.mem_cons.1 h with h | h
    · exact .inl h
    · rcases mem_join (u :: ps) c h with h | ⟨x, hx, h⟩
      · exact .inl h
      · exact .inr ⟨x, by simp [hx], h⟩
theorem colS_ok59 {c : CG} (h : colB c = true) : okQ 59 false (colS c).data.toList = some false := by
  rw [colS_data]
  exact okQ_join 59 (by decide) (by decide) _ (wordsC_ok h 59 (.inr rfl))
theorem colS_no10 {c : CG} (h : colB c = true) : ∀ x ∈ (colS c).data.toList, x ≠ 10 := by
  obtain ⟨h1, h2⟩ := colB_parts h
  rw [colS_data]
  intro x hx
  rcases mem_join _ _ hx with rfl | ⟨t, ht, hx⟩
  · decide
  · unfold wordsC at ht
    simp only [List.map_cons, List.map_nil, List.mem_cons, List.not_mem_nil, or_false] at ht
    rcases ht with rfl | rfl | rfl | rfl | rfl
    · exact (itoS_plain _ x hx).2.2.2.2
    · exact (nameB_plain h1 x hx).2.2.2.2
    · exact (itoS_plain _ x hx).2.2.2.2
    · exact (mustS_plain _ x hx).2.2.2.2
    · exact (printG_okQ h2 32 (.inl rfl)).2 x hx
theorem colOf_print {c : CG} (h : colB c = true) (hc : i64 c.id ∧ i64 c.kind ∧ i64 c.d.num) : colOf (colS c) = some c := by
  obtain ⟨h1, h2⟩ := colB_parts h
  unfold colOf
  rw [colS_words h]
  unfold wordsC
  simp only
  have e : ((mustS c.must).toList == [109, 117, 115, 116]) = c.must := by cases hm : c.must <;> (unfold mustS; simp [ba_toListN])
  rw [if_neg, numOf_iff.2 ⟨hc.1, rfl⟩, numOf_iff.2 ⟨hc.2.1, rfl⟩, litOf_print h2 hc.2.2]
  · simp only
    rw [e]
  · rw [e]
    rintro ⟨h3, h4⟩
    rw [h3] at h4
    revert h4
    unfold mustS
    simp [ba_toListN]
theorem colsOf_print : ∀ {l : List CG}, (∀ c ∈ l, colB c = true ∧ i64 c.id ∧ i64 c.kind ∧ i64 c.d.num) → colsOf (l.map colS) = some l
  | [], _ => rfl
  | c :: l, h => by
    rw [List.map_cons, colsOf, colOf_print (h c (by simp)).1 (h c (by simp)).2, colsOf_print fun x hx => h x (by simp [hx])]
theorem numsOf_print : ∀ {l : List Int}, (∀ n ∈ l, i64 n) → numsOf (l.map itoS) = some l
  | [], _ => rfl
  | c :: l, h => by
    rw [List.map_cons, numsOf, numOf_iff.2 ⟨h c (by simp), rfl⟩, numsOf_print fun x hx => h x (by simp [hx])]
theorem joinS_data (l : List ByteArray) (mk : UInt8) : (joinS l ⟨#[mk]⟩).data.toList = Lib.join (l.map (·.data.toList)) [mk] := by simp [joinS]
end Go.Proofs.YtlgidjanmaijaaaGreatDoor

/- log.Print: the walk. (Printed by genprint2.py.) -/
namespace Go.Proofs.YtlgidjanmaijaaaGreatDoor
set_option linter.unusedSimpArgs false
set_option linter.unusedVariables false
open Go.RowKit
set_option linter.all false
theorem Hp.nameP {B : Nat} {w0 w : World} {L : List Item} {g : Nat} {cs : List Value} {T : TypeId} (_ : Hp B w0 w (.blk g cs T :: L)) : ∃ g', g' = g := ⟨g, rfl⟩
theorem path_nil (p : ByteArray) : (p.toList == (⟨#[]⟩ : ByteArray).toList) = true ↔ p.toList = [] := by simp
def pk1 (a : AN) : Bool := (a.kind == 1) && nameB a.path && decide (1 ≤ a.rows) && decide (a.rows ≤ 60) && ((a.mask.length : Int) == 0) && ((a.cols.length : Int) == 0) && (a.next == 0)
def pk2 (a : AN) : Bool := (a.kind == 2) && nameB a.path && (a.rows == 0) && ((a.mask.length : Int) == 0) && ((a.cols.length : Int) == 0) && (a.next == 0)
def pk3 (a : AN) : Bool := (a.kind == 3) && nameB a.path && (a.rows == 0) && decide ((0 : Int) < a.mask.length) && maskB a.mask 60 && ((a.cols.length : Int) == 0) && (a.next == 0)
def pk4 (a : AN) : Bool := (a.kind == 4) && (a.path.toList == (⟨#[]⟩ : ByteArray).toList) && (a.rows == 0) && ((a.mask.length : Int) == 0) && rightC a.cols a.next
theorem lineA_pk (a : AN) : lineA a = if pk1 a = true then some (⟨#[97, 100, 100, 32]⟩ ++ a.path ++ spS ++ itoS a.rows ++ nlS) else if pk2 a = true then some (⟨#[114, 101, 109, 111, 118, 101, 32]⟩ ++ a.path ++ nlS)
    else if pk3 a = true then some (⟨#[109, 97, 115, 107, 32]⟩ ++ a.path ++ spS ++ joinS (a.mask.map itoS) ⟨#[44]⟩ ++ nlS) else if pk4 a = true then some (⟨#[115, 99, 104, 101, 109, 97, 32]⟩ ++ itoS a.next ++ spS ++ joinS (a.cols.map colS) ⟨#[59]⟩ ++ nlS) else none := by
  have h1 : pk1 a = true ↔ a.kind = 1 ∧ (nameB a.path = true ∧ 1 ≤ a.rows ∧ a.rows ≤ 60 ∧ a.mask.length = 0 ∧ a.cols.length = 0 ∧ a.next = 0) := by
    unfold pk1
    simp only [Bool.and_eq_true, decide_eq_true_eq, beq_iff_eq, Int.natCast_eq_zero, and_assoc]
  have h2 : pk2 a = true ↔ a.kind = 2 ∧ (nameB a.path = true ∧ a.rows = 0 ∧ a.mask.length = 0 ∧ a.cols.length = 0 ∧ a.next = 0) := by
    unfold pk2
    simp only [Bool.and_eq_true, decide_eq_true_eq, beq_iff_eq, Int.natCast_eq_zero, and_assoc]
  have h3 : pk3 a = true ↔ a.kind = 3 ∧ (nameB a.path = true ∧ a.rows = 0 ∧ ¬ a.mask.length = 0 ∧ maskB a.mask 60 = true ∧ a.cols.length = 0 ∧ a.next = 0) := by
    unfold pk3
    simp only [Bool.and_eq_true, decide_eq_true_eq, beq_iff_eq, Int.natCast_eq_zero, and_assoc]
    rw [show ((0 : Int) < a.mask.length ↔ ¬ a.mask.length = 0) by omega]
  have h4 : pk4 a = true ↔ a.kind = 4 ∧ ((a.path.toList == (⟨#[]⟩ : ByteArray).toList) = true ∧ a.rows = 0 ∧ a.mask.length = 0 ∧ rightC a.cols a.next = true) := by
    unfold pk4
    rw [Bool.and_eq_true, Bool.and_eq_true, Bool.and_eq_true, Bool.and_eq_true]
    simp only [decide_eq_true_eq, and_assoc, Int.natCast_eq_zero, beq_iff_eq]
  unfold lineA
  by_cases k1 : a.kind = 1
  · rw [if_pos k1]
    by_cases c : (nameB a.path = true ∧ 1 ≤ a.rows ∧ a.rows ≤ 60 ∧ a.mask.length = 0 ∧ a.cols.length = 0 ∧ a.next = 0)
    · rw [if_pos c, if_pos (h1.2 ⟨k1, c⟩)]
    · rw [if_neg c, if_neg (fun h => c (h1.1 h).2), if_neg (fun h => by have := (h2.1 h).1; omega), if_neg (fun h => by have := (h3.1 h).1; omega), if_neg (fun h => by have := (h4.1 h).1; omega)]
  rw [if_neg k1, if_neg (c := pk1 a = true) (fun h => k1 (h1.1 h).1)]
  by_cases k2 : a.kind = 2
  · rw [if_pos k2]
    by_cases c : (nameB a.path = true ∧ a.rows = 0 ∧ a.mask.length = 0 ∧ a.cols.length = 0 ∧ a.next = 0)
    · rw [if_pos c, if_pos (h2.2 ⟨k2, c⟩)]
    · rw [if_neg c, if_neg (fun h => c (h2.1 h).2), if_neg (fun h => by have := (h3.1 h).1; omega), if_neg (fun h => by have := (h4.1 h).1; omega)]
  rw [if_neg k2, if_neg (c := pk2 a = true) (fun h => k2 (h2.1 h).1)]
  by_cases k3 : a.kind = 3
  · rw [if_pos k3]
    by_cases c : (nameB a.path = true ∧ a.rows = 0 ∧ ¬ a.mask.length = 0 ∧ maskB a.mask 60 = true ∧ a.cols.length = 0 ∧ a.next = 0)
    · rw [if_pos c, if_pos (h3.2 ⟨k3, c⟩)]
    · rw [if_neg c, if_neg (fun h => c (h3.1 h).2), if_neg (fun h => by have := (h4.1 h).1; omega)]
  rw [if_neg k3, if_neg (c := pk3 a = true) (fun h => k3 (h3.1 h).1)]
  by_cases k4 : a.kind = 4
  · rw [if_pos k4]
    by_cases c : ((a.path.toList == (⟨#[]⟩ : ByteArray).toList) = true ∧ a.rows = 0 ∧ a.mask.length = 0 ∧ rightC a.cols a.next = true)
    · rw [if_pos c, if_pos (h4.2 ⟨k4, c⟩)]
    · rw [if_neg c, if_neg (fun h => c (h4.1 h).2)]
  rw [if_neg k4, if_neg (fun h => k4 (h4.1 h).1)]
set_option maxRecDepth 100000 in
set_option maxHeartbeats 16000000 in
theorem lprint_any (tx : ByteArray) (rd : Bool) (l : List (AN × AV)) (A : Option Addr) (n cap : Nat) (w : World) (hn : l.length = n) (hn2 : n ≤ 100000) (htx : tx.size ≤ 100000) (hr : RA w A l)
    (hl : ∀ a v, (a, v) ∈ l → PrOk a v ∧ RI w v.qa a.mask ∧ RC w v.ra a.cols) (ht : TabAt w) (hkp : KeptAt w) :
    Calls Tryz.prog 19 #[coV tx rd A n cap] w fun e w' => PrRes (printC tx rd (l.map (·.1))) e ∧ Ext w w' := by
  have Hn := Lib.hid hn
  have HL := Lib.hid hl
  have HT := Lib.hid ht
  have HKP := Lib.hid hkp
  have HN := Lib.hid (fun W => name_any tx W)
  clear hn hl ht hkp
  obtain ⟨D, hD⟩ : ∃ D, D = printC tx rd (l.map (·.1)) := ⟨_, rfl⟩
  rw [← hD]
  have HD := Lib.hid hD
  clear hD
  unfold printC at HD
  obtain ⟨nb, hnb⟩ : ∃ b, b = nameB tx := ⟨_, rfl⟩
  rw [← hnb] at HN HD
  clear hnb
  have hS := Hp.init w
  have hR := Reads.nil w
  cases nb with
  | false =>
    obtain rfl : D = none := HD.out
    clear HD
    go_enter Tryz.func19, Tryz.ntmps19
    go_wp2_with (first | (refine hab ?_; (try clear hF); clear hS; intro wk hS; (try simp only [List.set_cons_zero, List.set_cons_succ, heap_size, heap_set_size] at hS); ((try clear hF); refine hfI ?_; intro hF)) | (go_at_call 32; (with_reducible refine (HN.out _).mono ?_); rintro e wk ⟨rfl, hX⟩; replace hS := hS.step hX; clear hX; ((try clear hF); refine hfI ?_; intro hF)))
    go_ret2
    exact ⟨rfl, hS.ext⟩
  | true =>
    obtain ⟨rs, hrs⟩ : ∃ x, x = readsS rd := ⟨_, rfl⟩
    have hrz : rs.size = 5 := by rw [hrs]; cases rd <;> rfl
    have HRS := Lib.hid hrs
    have HD1 := Lib.hid (show D = linesA (⟨#[99, 111, 109, 109, 105, 116, 32]⟩ ++ tx ++ spS ++ rs ++ nlS) (l.map (·.1)) by rw [hrs]; exact HD.out)
    clear HD hrs
    have e7 : (⟨#[99, 111, 109, 109, 105, 116, 32]⟩ : ByteArray).size = 7 := rfl
    have e2 : spS.size = 1 := rfl
    have e1 : nlS.size = 1 := rfl
    go_enter Tryz.func19, Tryz.ntmps19
    go_upto_if 14 with (first | (refine hab ?_; (try clear hF); clear hS; intro wk hS; (try simp only [List.set_cons_zero, List.set_cons_succ, heap_size, heap_set_size] at hS); ((try clear hF); refine hfI ?_; intro hF)) | (go_at_call 32; (with_reducible refine (HN.out _).mono ?_); rintro e wk ⟨rfl, hX⟩; replace hS := hS.step hX; clear hX; ((try clear hF); refine hfI ?_; intro hF)))
    go_cut [4] (fun s4 wx => s4 = .string rs ∧ Hp w.heap.size w wx [.blk w.heap.size [.string tx, .bool rd, .slice A n cap] 38])
    case first =>
      rcases Bool.eq_false_or_eq_true rd with hrd | hrd
      · subst hrd
        ((try clear hF); refine hfI ?_; intro hF)
        go_wp2_with (first | (refine hab ?_; (try clear hF); clear hS; intro wk hS; (try simp only [List.set_cons_zero, List.set_cons_succ, heap_size, heap_set_size] at hS); ((try clear hF); refine hfI ?_; intro hF)) | fail)
        go_meet
        case rel => exact ⟨congrArg Value.string HRS.out.symm, hS⟩
      · subst hrd
        ((try clear hF); refine hfI ?_; intro hF)
        go_wp2_with (first | (refine hab ?_; (try clear hF); clear hS; intro wk hS; (try simp only [List.set_cons_zero, List.set_cons_succ, heap_size, heap_set_size] at hS); ((try clear hF); refine hfI ?_; intro hF)) | fail)
        go_meet
        case rel => exact ⟨congrArg Value.string HRS.out.symm, hS⟩
    case rest =>
      obtain ⟨rfl, hS⟩ := hcut
      clear HRS HN
      ((try clear hF); refine hfI ?_; intro hF)
      go_wp2_with (first | (refine hab ?_; (try clear hF); clear hS; intro wk hS; (try simp only [List.set_cons_zero, List.set_cons_succ, heap_size, heap_set_size] at hS); ((try clear hF); refine hfI ?_; intro hF)) | fail)
      go_loopw [25, 5] (fun i sv wr => ∃ (k : Nat) (s : ByteArray), i = .int .i64 k ∧ k ≤ n ∧ sv = .string s ∧ s.size ≤ 200000 + 2000000 * k ∧ Hid (D = linesA s ((l.map (·.1)).drop k)) ∧ Hp w.heap.size w wr [.blk w.heap.size [.string tx, .bool rd, .slice A n cap] 38]) (fun i _ _ => n - (intOf i).toNat)
      case atStart => exact ⟨0, _, rfl, Nat.zero_le _, rfl, by simp only [ByteArray.size_append, e7, e2, e1, hrz]; omega, Lib.hid HD1.out, hS⟩
      case round =>
        clear hS HD1 e7 hrz htx
        obtain ⟨k, s, rfl, hk, rfl, hsz, HD, hS⟩ := hrel
        by_cases hlt : k < n
        · obtain ⟨⟨a, v⟩, ha⟩ : ∃ x, l[k]? = some x := ⟨l[k]'(by rw [Hn.out]; exact hlt), List.getElem?_eq_getElem _⟩
          obtain ⟨b, o, rfl, c0, c1, c2, c3, c4, c5⟩ := hr k a v ha
          have hR := Reads.cell c0 (Reads.cell c1 (Reads.cell c2 (Reads.cell c3 (Reads.cell c4 (Reads.cell c5 (Reads.nil w))))))
          have ham : (l.map (·.1)).drop k = a :: (l.map (·.1)).drop (k + 1) := by
            have h1 : (l.map (·.1))[k]? = some a := by rw [List.getElem?_map, ha]; rfl
            obtain ⟨h2, h3⟩ := List.getElem?_eq_some_iff.1 h1
            rw [List.drop_eq_getElem_cons h2, h3]
          have HD2 := Lib.hid (show D = linesA s (a :: (l.map (·.1)).drop (k + 1)) by rw [HD.out, ham])
          obtain ⟨HO, HRI, HRC⟩ := HL.out a v (List.mem_of_getElem? ha)
          obtain ⟨hq, hq2, hrn, hr2, hr3, hn64, hr64, hm64, hc64, hp, hmj, hcj⟩ := HO
          obtain ⟨pb, hpb⟩ : ∃ x, nameB a.path = x := ⟨_, rfl⟩
          obtain ⟨mb, hmb⟩ : ∃ x, maskB a.mask 60 = x := ⟨_, rfl⟩
          obtain ⟨sr, hsr⟩ : ∃ x, rightC a.cols a.next = x := ⟨_, rfl⟩
          obtain ⟨pe, hpe⟩ : ∃ x, (a.path.toList == (⟨#[]⟩ : ByteArray).toList) = x := ⟨_, rfl⟩
          have HLP := Lib.hid (fun (W : World) => lpath_any a.path W)
          have HMB := Lib.hid (fun (W : World) (hx : Ext w W) => mask_any a.mask v.qa v.qn v.qc 60 W hq (by omega) (HRI.ext hx))
          have HSR := Lib.hid (fun (W : World) (hx : Ext w W) => show Calls Tryz.prog 38 #[.slice v.ra v.rn v.rc, .int .i64 a.next] W _ from by
            have := sright_any a.cols v.ra v.rc a.next W (HRC.ext hx) (by omega) (by omega) (HKP.out.ext hx)
            rw [hrn] at this
            exact this)
          have HIR := Lib.hid (fun (W : World) (hx : Ext w W) => show Calls Tryz.prog 23 #[.int .i64 a.rows] W fun e w' => e = .returned (.string (itoS a.rows)) ∧ Ext W w' from stritoa_any a.rows hr64.1 hr64.2 W (HT.out.ext hx))
          have HIX := Lib.hid (fun (W : World) (hx : Ext w W) => show Calls Tryz.prog 23 #[.int .i64 a.next] W fun e w' => e = .returned (.string (itoS a.next)) ∧ Ext W w' from stritoa_any a.next hn64.1 hn64.2 W (HT.out.ext hx))
          have HIJ := Lib.hid (fun (W : World) (hx : Ext w W) => ints_any a.mask v.qa v.qn v.qc W hq (by omega) hm64 (HRI.ext hx) (HT.out.ext hx) hmj)
          have HIC := Lib.hid (fun (W : World) (hx : Ext w W) => lcols_any a.cols v.ra v.rn v.rc W hrn (by omega) hc64 (HRC.ext hx) (HT.out.ext hx) hcj)
          have z1 : (itoS a.rows).size ≤ 21 := by show (Lib.itoa a.rows).toArray.size ≤ 21; rw [List.size_toArray]; exact Lib.itoa_length_le a.rows hr64.1 hr64.2
          have z2 : (itoS a.next).size ≤ 21 := by show (Lib.itoa a.next).toArray.size ≤ 21; rw [List.size_toArray]; exact Lib.itoa_length_le a.next hn64.1 hn64.2
          have HC1 := Lib.hid (show pk1 a = (((a.kind : Int) == 1) && pb && decide (1 ≤ a.rows) && decide (a.rows ≤ 60) && (((v.qn : Int) : Int) == 0) && (((v.rn : Int) : Int) == 0) && ((a.next : Int) == 0)) by rw [← hq, ← hrn, ← hpb]; rfl)
          have HC2 := Lib.hid (show pk2 a = (((a.kind : Int) == 2) && pb && ((a.rows : Int) == 0) && (((v.qn : Int) : Int) == 0) && (((v.rn : Int) : Int) == 0) && ((a.next : Int) == 0)) by rw [← hq, ← hrn, ← hpb]; rfl)
          have HC3 := Lib.hid (show pk3 a = (((a.kind : Int) == 3) && pb && ((a.rows : Int) == 0) && decide ((0 : Int) < v.qn) && mb && (((v.rn : Int) : Int) == 0) && ((a.next : Int) == 0)) by rw [← hq, ← hrn, ← hpb, ← hmb]; rfl)
          have HC4 := Lib.hid (show pk4 a = (((a.kind : Int) == 4) && pe && ((a.rows : Int) == 0) && (((v.qn : Int) : Int) == 0) && sr) by rw [← hq, ← hsr, ← hpe]; rfl)
          have HLA := Lib.hid (lineA_pk a)
          rw [hpb] at HLP
          rw [hmb] at HMB
          rw [hsr] at HSR
          have HPE := Lib.hid hpe
          obtain ⟨d1, hd1⟩ : ∃ x, x = pk1 a := ⟨_, rfl⟩
          obtain ⟨d2, hd2⟩ : ∃ x, x = pk2 a := ⟨_, rfl⟩
          obtain ⟨d3, hd3⟩ : ∃ x, x = pk3 a := ⟨_, rfl⟩
          obtain ⟨d4, hd4⟩ : ∃ x, x = pk4 a := ⟨_, rfl⟩
          rw [← hd1] at HC1
          rw [← hd2] at HC2
          rw [← hd3] at HC3
          rw [← hd4] at HC4
          rw [← hd1, ← hd2, ← hd3, ← hd4] at HLA
          obtain ⟨ri, hri⟩ : ∃ x, x = itoS a.rows := ⟨_, rfl⟩
          obtain ⟨rx, hrx⟩ : ∃ x, x = itoS a.next := ⟨_, rfl⟩
          obtain ⟨rj, hrj⟩ : ∃ x, x = joinS (a.mask.map itoS) ⟨#[44]⟩ := ⟨_, rfl⟩
          obtain ⟨rc, hrc⟩ : ∃ x, x = joinS (a.cols.map colS) ⟨#[59]⟩ := ⟨_, rfl⟩
          rw [← hri] at HIR HLA z1
          rw [← hrx] at HIX HLA z2
          rw [← hrj] at HIJ HLA hmj
          rw [← hrc] at HIC HLA hcj
          have e4 : (⟨#[97, 100, 100, 32]⟩ : ByteArray).size = 4 := rfl
          have e5 : (⟨#[109, 97, 115, 107, 32]⟩ : ByteArray).size = 5 := rfl
          have e6 : (⟨#[115, 99, 104, 101, 109, 97, 32]⟩ : ByteArray).size = 7 := rfl
          have e7 : (⟨#[114, 101, 109, 111, 118, 101, 32]⟩ : ByteArray).size = 7 := rfl
          clear HD ham ha c0 c1 c2 c3 c4 c5 hpb hmb hsr hpe hd1 hd2 hd3 hd4 hri hrx hrj hrc HRI HRC hq hrn hm64 hc64 hn64 hr64 hr HL
          ((try clear hF); refine hfI ?_; intro hF)
          go_upto_region 11 with (first | (refine hab ?_; (try clear hF); clear hS; intro wk hS; (try simp only [List.set_cons_zero, List.set_cons_succ, heap_size, heap_set_size] at hS); ((try clear hF); refine hfI ?_; intro hF)) | fail)
          obtain ⟨ga, hga⟩ := hS.nameP
          rw [← hga] at hS hF ⊢
          clear hga
          go_cut [30] (fun c wx => c = .bool d1 ∧ Hp w.heap.size w wx [.blk ga [.int .i64 a.kind, .string a.path, .int .i64 a.rows, .slice v.qa v.qn v.qc, .slice v.ra v.rn v.rc, .int .i64 a.next] 63, .blk w.heap.size [.string tx, .bool rd, .slice (some ⟨b, o, none⟩) n cap] 38])
          case first => as_aux_lemma =>
            clear HD2 HLA HC2 HC3 HC4
            by_cases kk : a.kind = 1
            rotate_left
            · have kk' : ((a.kind : Int) == 1) = false := by simp; omega
              ((try clear hF); refine hfI ?_; intro hF)
              go_wp2_with (first | (refine hab ?_; (try clear hF); clear hS; intro wk hS; (try simp only [List.set_cons_zero, List.set_cons_succ, heap_size, heap_set_size] at hS); ((try clear hF); refine hfI ?_; intro hF)) | (go_at_call 35; (with_reducible refine (HLP.out _).mono ?_); rintro e wk ⟨rfl, hX⟩; replace hS := hS.step hX; clear hX; ((try clear hF); refine hfI ?_; intro hF)) | (go_at_call 36; (with_reducible refine (HMB.out _ hS.ext).mono ?_); rintro e wk ⟨rfl, hX⟩; replace hS := hS.step hX; clear hX; ((try clear hF); refine hfI ?_; intro hF)) | (go_at_call 38; (with_reducible refine (HSR.out _ hS.ext).mono ?_); rintro e wk ⟨rfl, hX⟩; replace hS := hS.step hX; clear hX; ((try clear hF); refine hfI ?_; intro hF)))
              go_meet
              case rel => exact ⟨congrArg Value.bool (by rw [HC1.out]; simp only [kk', Bool.false_and, Bool.and_false, Bool.true_and, Bool.and_true]), hS⟩
            have kk' : ((a.kind : Int) == 1) = true := by simp; omega
            rcases Bool.eq_false_or_eq_true pb with hpb | hpb
            rotate_left
            · rw [hpb] at HLP
              ((try clear hF); refine hfI ?_; intro hF)
              go_wp2_with (first | (refine hab ?_; (try clear hF); clear hS; intro wk hS; (try simp only [List.set_cons_zero, List.set_cons_succ, heap_size, heap_set_size] at hS); ((try clear hF); refine hfI ?_; intro hF)) | (go_at_call 35; (with_reducible refine (HLP.out _).mono ?_); rintro e wk ⟨rfl, hX⟩; replace hS := hS.step hX; clear hX; ((try clear hF); refine hfI ?_; intro hF)) | (go_at_call 36; (with_reducible refine (HMB.out _ hS.ext).mono ?_); rintro e wk ⟨rfl, hX⟩; replace hS := hS.step hX; clear hX; ((try clear hF); refine hfI ?_; intro hF)) | (go_at_call 38; (with_reducible refine (HSR.out _ hS.ext).mono ?_); rintro e wk ⟨rfl, hX⟩; replace hS := hS.step hX; clear hX; ((try clear hF); refine hfI ?_; intro hF)))
              go_meet
              case rel => exact ⟨congrArg Value.bool (by rw [HC1.out]; simp only [kk', hpb, Bool.false_and, Bool.and_false, Bool.true_and, Bool.and_true]), hS⟩
            rw [hpb] at HLP
            by_cases g1 : 1 ≤ a.rows
            rotate_left
            · have g1' : decide (1 ≤ a.rows) = false := decide_eq_false g1
              ((try clear hF); refine hfI ?_; intro hF)
              go_wp2_with (first | (refine hab ?_; (try clear hF); clear hS; intro wk hS; (try simp only [List.set_cons_zero, List.set_cons_succ, heap_size, heap_set_size] at hS); ((try clear hF); refine hfI ?_; intro hF)) | (go_at_call 35; (with_reducible refine (HLP.out _).mono ?_); rintro e wk ⟨rfl, hX⟩; replace hS := hS.step hX; clear hX; ((try clear hF); refine hfI ?_; intro hF)) | (go_at_call 36; (with_reducible refine (HMB.out _ hS.ext).mono ?_); rintro e wk ⟨rfl, hX⟩; replace hS := hS.step hX; clear hX; ((try clear hF); refine hfI ?_; intro hF)) | (go_at_call 38; (with_reducible refine (HSR.out _ hS.ext).mono ?_); rintro e wk ⟨rfl, hX⟩; replace hS := hS.step hX; clear hX; ((try clear hF); refine hfI ?_; intro hF)))
              go_meet
              case rel => exact ⟨congrArg Value.bool (by rw [HC1.out]; simp only [kk', hpb, g1', Bool.false_and, Bool.and_false, Bool.true_and, Bool.and_true]), hS⟩
            have g1' : decide (1 ≤ a.rows) = true := decide_eq_true g1
            by_cases g2 : a.rows ≤ 60
            rotate_left
            · have g2' : decide (a.rows ≤ 60) = false := decide_eq_false g2
              ((try clear hF); refine hfI ?_; intro hF)
              go_wp2_with (first | (refine hab ?_; (try clear hF); clear hS; intro wk hS; (try simp only [List.set_cons_zero, List.set_cons_succ, heap_size, heap_set_size] at hS); ((try clear hF); refine hfI ?_; intro hF)) | (go_at_call 35; (with_reducible refine (HLP.out _).mono ?_); rintro e wk ⟨rfl, hX⟩; replace hS := hS.step hX; clear hX; ((try clear hF); refine hfI ?_; intro hF)) | (go_at_call 36; (with_reducible refine (HMB.out _ hS.ext).mono ?_); rintro e wk ⟨rfl, hX⟩; replace hS := hS.step hX; clear hX; ((try clear hF); refine hfI ?_; intro hF)) | (go_at_call 38; (with_reducible refine (HSR.out _ hS.ext).mono ?_); rintro e wk ⟨rfl, hX⟩; replace hS := hS.step hX; clear hX; ((try clear hF); refine hfI ?_; intro hF)))
              go_meet
              case rel => exact ⟨congrArg Value.bool (by rw [HC1.out]; simp only [kk', hpb, g1', g2', Bool.false_and, Bool.and_false, Bool.true_and, Bool.and_true]), hS⟩
            have g2' : decide (a.rows ≤ 60) = true := decide_eq_true g2
            by_cases q0 : (v.qn : Int) = 0
            rotate_left
            · have q0' : (((v.qn : Int) : Int) == 0) = false := by simp; omega
              ((try clear hF); refine hfI ?_; intro hF)
              go_wp2_with (first | (refine hab ?_; (try clear hF); clear hS; intro wk hS; (try simp only [List.set_cons_zero, List.set_cons_succ, heap_size, heap_set_size] at hS); ((try clear hF); refine hfI ?_; intro hF)) | (go_at_call 35; (with_reducible refine (HLP.out _).mono ?_); rintro e wk ⟨rfl, hX⟩; replace hS := hS.step hX; clear hX; ((try clear hF); refine hfI ?_; intro hF)) | (go_at_call 36; (with_reducible refine (HMB.out _ hS.ext).mono ?_); rintro e wk ⟨rfl, hX⟩; replace hS := hS.step hX; clear hX; ((try clear hF); refine hfI ?_; intro hF)) | (go_at_call 38; (with_reducible refine (HSR.out _ hS.ext).mono ?_); rintro e wk ⟨rfl, hX⟩; replace hS := hS.step hX; clear hX; ((try clear hF); refine hfI ?_; intro hF)))
              go_meet
              case rel => exact ⟨congrArg Value.bool (by rw [HC1.out]; simp only [kk', hpb, g1', g2', q0', Bool.false_and, Bool.and_false, Bool.true_and, Bool.and_true]), hS⟩
            have q0' : (((v.qn : Int) : Int) == 0) = true := by simp; omega
            by_cases c0 : (v.rn : Int) = 0
            rotate_left
            · have c0' : (((v.rn : Int) : Int) == 0) = false := by simp; omega
              ((try clear hF); refine hfI ?_; intro hF)
              go_wp2_with (first | (refine hab ?_; (try clear hF); clear hS; intro wk hS; (try simp only [List.set_cons_zero, List.set_cons_succ, heap_size, heap_set_size] at hS); ((try clear hF); refine hfI ?_; intro hF)) | (go_at_call 35; (with_reducible refine (HLP.out _).mono ?_); rintro e wk ⟨rfl, hX⟩; replace hS := hS.step hX; clear hX; ((try clear hF); refine hfI ?_; intro hF)) | (go_at_call 36; (with_reducible refine (HMB.out _ hS.ext).mono ?_); rintro e wk ⟨rfl, hX⟩; replace hS := hS.step hX; clear hX; ((try clear hF); refine hfI ?_; intro hF)) | (go_at_call 38; (with_reducible refine (HSR.out _ hS.ext).mono ?_); rintro e wk ⟨rfl, hX⟩; replace hS := hS.step hX; clear hX; ((try clear hF); refine hfI ?_; intro hF)))
              go_meet
              case rel => exact ⟨congrArg Value.bool (by rw [HC1.out]; simp only [kk', hpb, g1', g2', q0', c0', Bool.false_and, Bool.and_false, Bool.true_and, Bool.and_true]), hS⟩
            have c0' : (((v.rn : Int) : Int) == 0) = true := by simp; omega
            by_cases n0 : a.next = 0
            rotate_left
            · have n0' : ((a.next : Int) == 0) = false := by simp; omega
              ((try clear hF); refine hfI ?_; intro hF)
              go_wp2_with (first | (refine hab ?_; (try clear hF); clear hS; intro wk hS; (try simp only [List.set_cons_zero, List.set_cons_succ, heap_size, heap_set_size] at hS); ((try clear hF); refine hfI ?_; intro hF)) | (go_at_call 35; (with_reducible refine (HLP.out _).mono ?_); rintro e wk ⟨rfl, hX⟩; replace hS := hS.step hX; clear hX; ((try clear hF); refine hfI ?_; intro hF)) | (go_at_call 36; (with_reducible refine (HMB.out _ hS.ext).mono ?_); rintro e wk ⟨rfl, hX⟩; replace hS := hS.step hX; clear hX; ((try clear hF); refine hfI ?_; intro hF)) | (go_at_call 38; (with_reducible refine (HSR.out _ hS.ext).mono ?_); rintro e wk ⟨rfl, hX⟩; replace hS := hS.step hX; clear hX; ((try clear hF); refine hfI ?_; intro hF)))
              go_meet
              case rel => exact ⟨congrArg Value.bool (by rw [HC1.out]; simp only [kk', hpb, g1', g2', q0', c0', n0', Bool.false_and, Bool.and_false, Bool.true_and, Bool.and_true]), hS⟩
            have n0' : ((a.next : Int) == 0) = true := by simp; omega
            ((try clear hF); refine hfI ?_; intro hF)
            go_wp2_with (first | (refine hab ?_; (try clear hF); clear hS; intro wk hS; (try simp only [List.set_cons_zero, List.set_cons_succ, heap_size, heap_set_size] at hS); ((try clear hF); refine hfI ?_; intro hF)) | (go_at_call 35; (with_reducible refine (HLP.out _).mono ?_); rintro e wk ⟨rfl, hX⟩; replace hS := hS.step hX; clear hX; ((try clear hF); refine hfI ?_; intro hF)) | (go_at_call 36; (with_reducible refine (HMB.out _ hS.ext).mono ?_); rintro e wk ⟨rfl, hX⟩; replace hS := hS.step hX; clear hX; ((try clear hF); refine hfI ?_; intro hF)) | (go_at_call 38; (with_reducible refine (HSR.out _ hS.ext).mono ?_); rintro e wk ⟨rfl, hX⟩; replace hS := hS.step hX; clear hX; ((try clear hF); refine hfI ?_; intro hF)))
            go_meet
            case rel => exact ⟨congrArg Value.bool (by rw [HC1.out]; simp only [kk', hpb, g1', g2', q0', c0', n0', Bool.false_and, Bool.and_false, Bool.true_and, Bool.and_true]), hS⟩
          case rest => as_aux_lemma =>
            obtain ⟨rfl, hS⟩ := hcut
            rcases Bool.eq_false_or_eq_true d1 with hd | hd
            · as_aux_lemma =>
                subst hd
                have HD3 := Lib.hid (show D = linesA (s ++ (⟨#[97, 100, 100, 32]⟩ ++ a.path ++ spS ++ ri ++ nlS)) ((l.map (·.1)).drop (k + 1)) from HD2.out.trans (linesA_good (by rw [HLA.out]; rfl)))
                clear HD2 HLA
                ((try clear hF); refine hfI ?_; intro hF)
                go_wp2_with (first | (refine hab ?_; (try clear hF); clear hS; intro wk hS; (try simp only [List.set_cons_zero, List.set_cons_succ, heap_size, heap_set_size] at hS); ((try clear hF); refine hfI ?_; intro hF)) | fail)
                ((with_reducible refine wp_region_hp (draw := true) (by kernel_rfl) (by kernel_rfl) hS ?_); (repeat ((with_reducible refine Fixed.here ?_); (first | ((with_reducible apply Fixed.skip); (first | rfl | exact wanted_false rfl rfl rfl (by assumption)); try simp only [Act.put, List.setIfInBounds_toArray, List.set_cons_zero, List.set_cons_succ]) | ((with_reducible apply Fixed.val); (first | rfl | exact wanted_true rfl rfl rfl (by assumption)); (rintro w hS; ((try clear hF); refine hfI ?_; intro hF); go_simp; first | with_reducible rfl | (rw [if_neg (by first | omega | (simp only [ByteArray.size_append]; omega) | (simp [ByteArray.size_append]; omega))]; try with_reducible rfl)); try simp only [Act.put, List.setIfInBounds_toArray, List.set_cons_zero, List.set_cons_succ]) | ((with_reducible apply Fixed.call); (first | rfl | exact wanted_true rfl rfl rfl (by assumption)); (rintro w hS; ((try clear hF); refine hfI ?_; intro hF); go_simp; exact ⟨rfl, rfl⟩); (rintro w hS; first | (with_reducible exact HIR.out w hS.ext)); try simp only [Act.put, List.setIfInBounds_toArray, List.set_cons_zero, List.set_cons_succ])))); (with_reducible refine Fixed.done ?_); (try clear hF); clear hS; intro wk hS; ((try clear hF); refine hfI ?_; intro hF))
                go_wp2_with fail
                go_roundw
                case rel => exact ⟨k + 1, _, by go_num, by omega, rfl, by simp only [ByteArray.size_append, e7, e5, e4, e6, e2, e1]; omega, HD3, hS.tail⟩
                case measure => simp [intOf]; omega
            subst hd
            go_upto_region 13 with (first | (refine hab ?_; (try clear hF); clear hS; intro wk hS; (try simp only [List.set_cons_zero, List.set_cons_succ, heap_size, heap_set_size] at hS); ((try clear hF); refine hfI ?_; intro hF)) | fail)
            go_cut [77] (fun c wx => c = .bool d2 ∧ Hp w.heap.size w wx [.blk ga [.int .i64 a.kind, .string a.path, .int .i64 a.rows, .slice v.qa v.qn v.qc, .slice v.ra v.rn v.rc, .int .i64 a.next] 63, .blk w.heap.size [.string tx, .bool rd, .slice (some ⟨b, o, none⟩) n cap] 38])
            case first => as_aux_lemma =>
              clear HD2 HLA HC1 HC3 HC4
              by_cases kk : a.kind = 2
              rotate_left
              · have kk' : ((a.kind : Int) == 2) = false := by simp; omega
                ((try clear hF); refine hfI ?_; intro hF)
                go_wp2_with (first | (refine hab ?_; (try clear hF); clear hS; intro wk hS; (try simp only [List.set_cons_zero, List.set_cons_succ, heap_size, heap_set_size] at hS); ((try clear hF); refine hfI ?_; intro hF)) | (go_at_call 35; (with_reducible refine (HLP.out _).mono ?_); rintro e wk ⟨rfl, hX⟩; replace hS := hS.step hX; clear hX; ((try clear hF); refine hfI ?_; intro hF)) | (go_at_call 36; (with_reducible refine (HMB.out _ hS.ext).mono ?_); rintro e wk ⟨rfl, hX⟩; replace hS := hS.step hX; clear hX; ((try clear hF); refine hfI ?_; intro hF)) | (go_at_call 38; (with_reducible refine (HSR.out _ hS.ext).mono ?_); rintro e wk ⟨rfl, hX⟩; replace hS := hS.step hX; clear hX; ((try clear hF); refine hfI ?_; intro hF)))
                go_meet
                case rel => exact ⟨congrArg Value.bool (by rw [HC2.out]; simp only [kk', Bool.false_and, Bool.and_false, Bool.true_and, Bool.and_true]), hS⟩
              have kk' : ((a.kind : Int) == 2) = true := by simp; omega
              rcases Bool.eq_false_or_eq_true pb with hpb | hpb
              rotate_left
              · rw [hpb] at HLP
                ((try clear hF); refine hfI ?_; intro hF)
                go_wp2_with (first | (refine hab ?_; (try clear hF); clear hS; intro wk hS; (try simp only [List.set_cons_zero, List.set_cons_succ, heap_size, heap_set_size] at hS); ((try clear hF); refine hfI ?_; intro hF)) | (go_at_call 35; (with_reducible refine (HLP.out _).mono ?_); rintro e wk ⟨rfl, hX⟩; replace hS := hS.step hX; clear hX; ((try clear hF); refine hfI ?_; intro hF)) | (go_at_call 36; (with_reducible refine (HMB.out _ hS.ext).mono ?_); rintro e wk ⟨rfl, hX⟩; replace hS := hS.step hX; clear hX; ((try clear hF); refine hfI ?_; intro hF)) | (go_at_call 38; (with_reducible refine (HSR.out _ hS.ext).mono ?_); rintro e wk ⟨rfl, hX⟩; replace hS := hS.step hX; clear hX; ((try clear hF); refine hfI ?_; intro hF)))
                go_meet
                case rel => exact ⟨congrArg Value.bool (by rw [HC2.out]; simp only [kk', hpb, Bool.false_and, Bool.and_false, Bool.true_and, Bool.and_true]), hS⟩
              rw [hpb] at HLP
              by_cases r0 : a.rows = 0
              rotate_left
              · have r0' : ((a.rows : Int) == 0) = false := by simp; omega
                ((try clear hF); refine hfI ?_; intro hF)
                go_wp2_with (first | (refine hab ?_; (try clear hF); clear hS; intro wk hS; (try simp only [List.set_cons_zero, List.set_cons_succ, heap_size, heap_set_size] at hS); ((try clear hF); refine hfI ?_; intro hF)) | (go_at_call 35; (with_reducible refine (HLP.out _).mono ?_); rintro e wk ⟨rfl, hX⟩; replace hS := hS.step hX; clear hX; ((try clear hF); refine hfI ?_; intro hF)) | (go_at_call 36; (with_reducible refine (HMB.out _ hS.ext).mono ?_); rintro e wk ⟨rfl, hX⟩; replace hS := hS.step hX; clear hX; ((try clear hF); refine hfI ?_; intro hF)) | (go_at_call 38; (with_reducible refine (HSR.out _ hS.ext).mono ?_); rintro e wk ⟨rfl, hX⟩; replace hS := hS.step hX; clear hX; ((try clear hF); refine hfI ?_; intro hF)))
                go_meet
                case rel => exact ⟨congrArg Value.bool (by rw [HC2.out]; simp only [kk', hpb, r0', Bool.false_and, Bool.and_false, Bool.true_and, Bool.and_true]), hS⟩
              have r0' : ((a.rows : Int) == 0) = true := by simp; omega
              by_cases q0 : (v.qn : Int) = 0
              rotate_left
              · have q0' : (((v.qn : Int) : Int) == 0) = false := by simp; omega
                ((try clear hF); refine hfI ?_; intro hF)
                go_wp2_with (first | (refine hab ?_; (try clear hF); clear hS; intro wk hS; (try simp only [List.set_cons_zero, List.set_cons_succ, heap_size, heap_set_size] at hS); ((try clear hF); refine hfI ?_; intro hF)) | (go_at_call 35; (with_reducible refine (HLP.out _).mono ?_); rintro e wk ⟨rfl, hX⟩; replace hS := hS.step hX; clear hX; ((try clear hF); refine hfI ?_; intro hF)) | (go_at_call 36; (with_reducible refine (HMB.out _ hS.ext).mono ?_); rintro e wk ⟨rfl, hX⟩; replace hS := hS.step hX; clear hX; ((try clear hF); refine hfI ?_; intro hF)) | (go_at_call 38; (with_reducible refine (HSR.out _ hS.ext).mono ?_); rintro e wk ⟨rfl, hX⟩; replace hS := hS.step hX; clear hX; ((try clear hF); refine hfI ?_; intro hF)))
                go_meet
                case rel => exact ⟨congrArg Value.bool (by rw [HC2.out]; simp only [kk', hpb, r0', q0', Bool.false_and, Bool.and_false, Bool.true_and, Bool.and_true]), hS⟩
              have q0' : (((v.qn : Int) : Int) == 0) = true := by simp; omega
              by_cases c0 : (v.rn : Int) = 0
              rotate_left
              · have c0' : (((v.rn : Int) : Int) == 0) = false := by simp; omega
                ((try clear hF); refine hfI ?_; intro hF)
                go_wp2_with (first | (refine hab ?_; (try clear hF); clear hS; intro wk hS; (try simp only [List.set_cons_zero, List.set_cons_succ, heap_size, heap_set_size] at hS); ((try clear hF); refine hfI ?_; intro hF)) | (go_at_call 35; (with_reducible refine (HLP.out _).mono ?_); rintro e wk ⟨rfl, hX⟩; replace hS := hS.step hX; clear hX; ((try clear hF); refine hfI ?_; intro hF)) | (go_at_call 36; (with_reducible refine (HMB.out _ hS.ext).mono ?_); rintro e wk ⟨rfl, hX⟩; replace hS := hS.step hX; clear hX; ((try clear hF); refine hfI ?_; intro hF)) | (go_at_call 38; (with_reducible refine (HSR.out _ hS.ext).mono ?_); rintro e wk ⟨rfl, hX⟩; replace hS := hS.step hX; clear hX; ((try clear hF); refine hfI ?_; intro hF)))
                go_meet
                case rel => exact ⟨congrArg Value.bool (by rw [HC2.out]; simp only [kk', hpb, r0', q0', c0', Bool.false_and, Bool.and_false, Bool.true_and, Bool.and_true]), hS⟩
              have c0' : (((v.rn : Int) : Int) == 0) = true := by simp; omega
              by_cases n0 : a.next = 0
              rotate_left
              · have n0' : ((a.next : Int) == 0) = false := by simp; omega
                ((try clear hF); refine hfI ?_; intro hF)
                go_wp2_with (first | (refine hab ?_; (try clear hF); clear hS; intro wk hS; (try simp only [List.set_cons_zero, List.set_cons_succ, heap_size, heap_set_size] at hS); ((try clear hF); refine hfI ?_; intro hF)) | (go_at_call 35; (with_reducible refine (HLP.out _).mono ?_); rintro e wk ⟨rfl, hX⟩; replace hS := hS.step hX; clear hX; ((try clear hF); refine hfI ?_; intro hF)) | (go_at_call 36; (with_reducible refine (HMB.out _ hS.ext).mono ?_); rintro e wk ⟨rfl, hX⟩; replace hS := hS.step hX; clear hX; ((try clear hF); refine hfI ?_; intro hF)) | (go_at_call 38; (with_reducible refine (HSR.out _ hS.ext).mono ?_); rintro e wk ⟨rfl, hX⟩; replace hS := hS.step hX; clear hX; ((try clear hF); refine hfI ?_; intro hF)))
                go_meet
                case rel => exact ⟨congrArg Value.bool (by rw [HC2.out]; simp only [kk', hpb, r0', q0', c0', n0', Bool.false_and, Bool.and_false, Bool.true_and, Bool.and_true]), hS⟩
              have n0' : ((a.next : Int) == 0) = true := by simp; omega
              ((try clear hF); refine hfI ?_; intro hF)
              go_wp2_with (first | (refine hab ?_; (try clear hF); clear hS; intro wk hS; (try simp only [List.set_cons_zero, List.set_cons_succ, heap_size, heap_set_size] at hS); ((try clear hF); refine hfI ?_; intro hF)) | (go_at_call 35; (with_reducible refine (HLP.out _).mono ?_); rintro e wk ⟨rfl, hX⟩; replace hS := hS.step hX; clear hX; ((try clear hF); refine hfI ?_; intro hF)) | (go_at_call 36; (with_reducible refine (HMB.out _ hS.ext).mono ?_); rintro e wk ⟨rfl, hX⟩; replace hS := hS.step hX; clear hX; ((try clear hF); refine hfI ?_; intro hF)) | (go_at_call 38; (with_reducible refine (HSR.out _ hS.ext).mono ?_); rintro e wk ⟨rfl, hX⟩; replace hS := hS.step hX; clear hX; ((try clear hF); refine hfI ?_; intro hF)))
              go_meet
              case rel => exact ⟨congrArg Value.bool (by rw [HC2.out]; simp only [kk', hpb, r0', q0', c0', n0', Bool.false_and, Bool.and_false, Bool.true_and, Bool.and_true]), hS⟩
            case rest => as_aux_lemma =>
              obtain ⟨rfl, hS⟩ := hcut
              rcases Bool.eq_false_or_eq_true d2 with hd | hd
              · as_aux_lemma =>
                  subst hd
                  have HD3 := Lib.hid (show D = linesA (s ++ (⟨#[114, 101, 109, 111, 118, 101, 32]⟩ ++ a.path ++ nlS)) ((l.map (·.1)).drop (k + 1)) from HD2.out.trans (linesA_good (by rw [HLA.out]; rfl)))
                  clear HD2 HLA
                  ((try clear hF); refine hfI ?_; intro hF)
                  go_wp2_with (first | (refine hab ?_; (try clear hF); clear hS; intro wk hS; (try simp only [List.set_cons_zero, List.set_cons_succ, heap_size, heap_set_size] at hS); ((try clear hF); refine hfI ?_; intro hF)) | fail)
                  go_roundw
                  case rel => exact ⟨k + 1, _, by go_num, by omega, rfl, by simp only [ByteArray.size_append, e7, e5, e4, e6, e2, e1]; omega, HD3, hS.tail⟩
                  case measure => simp [intOf]; omega
              subst hd
              go_upto_region 15 with (first | (refine hab ?_; (try clear hF); clear hS; intro wk hS; (try simp only [List.set_cons_zero, List.set_cons_succ, heap_size, heap_set_size] at hS); ((try clear hF); refine hfI ?_; intro hF)) | fail)
              go_cut [114] (fun c wx => c = .bool d3 ∧ Hp w.heap.size w wx [.blk ga [.int .i64 a.kind, .string a.path, .int .i64 a.rows, .slice v.qa v.qn v.qc, .slice v.ra v.rn v.rc, .int .i64 a.next] 63, .blk w.heap.size [.string tx, .bool rd, .slice (some ⟨b, o, none⟩) n cap] 38])
              case first => as_aux_lemma =>
                clear HD2 HLA HC1 HC2 HC4
                by_cases kk : a.kind = 3
                rotate_left
                · have kk' : ((a.kind : Int) == 3) = false := by simp; omega
                  ((try clear hF); refine hfI ?_; intro hF)
                  go_wp2_with (first | (refine hab ?_; (try clear hF); clear hS; intro wk hS; (try simp only [List.set_cons_zero, List.set_cons_succ, heap_size, heap_set_size] at hS); ((try clear hF); refine hfI ?_; intro hF)) | (go_at_call 35; (with_reducible refine (HLP.out _).mono ?_); rintro e wk ⟨rfl, hX⟩; replace hS := hS.step hX; clear hX; ((try clear hF); refine hfI ?_; intro hF)) | (go_at_call 36; (with_reducible refine (HMB.out _ hS.ext).mono ?_); rintro e wk ⟨rfl, hX⟩; replace hS := hS.step hX; clear hX; ((try clear hF); refine hfI ?_; intro hF)) | (go_at_call 38; (with_reducible refine (HSR.out _ hS.ext).mono ?_); rintro e wk ⟨rfl, hX⟩; replace hS := hS.step hX; clear hX; ((try clear hF); refine hfI ?_; intro hF)))
                  go_meet
                  case rel => exact ⟨congrArg Value.bool (by rw [HC3.out]; simp only [kk', Bool.false_and, Bool.and_false, Bool.true_and, Bool.and_true]), hS⟩
                have kk' : ((a.kind : Int) == 3) = true := by simp; omega
                rcases Bool.eq_false_or_eq_true pb with hpb | hpb
                rotate_left
                · rw [hpb] at HLP
                  ((try clear hF); refine hfI ?_; intro hF)
                  go_wp2_with (first | (refine hab ?_; (try clear hF); clear hS; intro wk hS; (try simp only [List.set_cons_zero, List.set_cons_succ, heap_size, heap_set_size] at hS); ((try clear hF); refine hfI ?_; intro hF)) | (go_at_call 35; (with_reducible refine (HLP.out _).mono ?_); rintro e wk ⟨rfl, hX⟩; replace hS := hS.step hX; clear hX; ((try clear hF); refine hfI ?_; intro hF)) | (go_at_call 36; (with_reducible refine (HMB.out _ hS.ext).mono ?_); rintro e wk ⟨rfl, hX⟩; replace hS := hS.step hX; clear hX; ((try clear hF); refine hfI ?_; intro hF)) | (go_at_call 38; (with_reducible refine (HSR.out _ hS.ext).mono ?_); rintro e wk ⟨rfl, hX⟩; replace hS := hS.step hX; clear hX; ((try clear hF); refine hfI ?_; intro hF)))
                  go_meet
                  case rel => exact ⟨congrArg Value.bool (by rw [HC3.out]; simp only [kk', hpb, Bool.false_and, Bool.and_false, Bool.true_and, Bool.and_true]), hS⟩
                rw [hpb] at HLP
                by_cases r0 : a.rows = 0
                rotate_left
                · have r0' : ((a.rows : Int) == 0) = false := by simp; omega
                  ((try clear hF); refine hfI ?_; intro hF)
                  go_wp2_with (first | (refine hab ?_; (try clear hF); clear hS; intro wk hS; (try simp only [List.set_cons_zero, List.set_cons_succ, heap_size, heap_set_size] at hS); ((try clear hF); refine hfI ?_; intro hF)) | (go_at_call 35; (with_reducible refine (HLP.out _).mono ?_); rintro e wk ⟨rfl, hX⟩; replace hS := hS.step hX; clear hX; ((try clear hF); refine hfI ?_; intro hF)) | (go_at_call 36; (with_reducible refine (HMB.out _ hS.ext).mono ?_); rintro e wk ⟨rfl, hX⟩; replace hS := hS.step hX; clear hX; ((try clear hF); refine hfI ?_; intro hF)) | (go_at_call 38; (with_reducible refine (HSR.out _ hS.ext).mono ?_); rintro e wk ⟨rfl, hX⟩; replace hS := hS.step hX; clear hX; ((try clear hF); refine hfI ?_; intro hF)))
                  go_meet
                  case rel => exact ⟨congrArg Value.bool (by rw [HC3.out]; simp only [kk', hpb, r0', Bool.false_and, Bool.and_false, Bool.true_and, Bool.and_true]), hS⟩
                have r0' : ((a.rows : Int) == 0) = true := by simp; omega
                by_cases q1 : (0 : Int) < v.qn
                rotate_left
                · have q1' : decide ((0 : Int) < v.qn) = false := decide_eq_false q1
                  ((try clear hF); refine hfI ?_; intro hF)
                  go_wp2_with (first | (refine hab ?_; (try clear hF); clear hS; intro wk hS; (try simp only [List.set_cons_zero, List.set_cons_succ, heap_size, heap_set_size] at hS); ((try clear hF); refine hfI ?_; intro hF)) | (go_at_call 35; (with_reducible refine (HLP.out _).mono ?_); rintro e wk ⟨rfl, hX⟩; replace hS := hS.step hX; clear hX; ((try clear hF); refine hfI ?_; intro hF)) | (go_at_call 36; (with_reducible refine (HMB.out _ hS.ext).mono ?_); rintro e wk ⟨rfl, hX⟩; replace hS := hS.step hX; clear hX; ((try clear hF); refine hfI ?_; intro hF)) | (go_at_call 38; (with_reducible refine (HSR.out _ hS.ext).mono ?_); rintro e wk ⟨rfl, hX⟩; replace hS := hS.step hX; clear hX; ((try clear hF); refine hfI ?_; intro hF)))
                  go_meet
                  case rel => exact ⟨congrArg Value.bool (by rw [HC3.out]; simp only [kk', hpb, r0', q1', Bool.false_and, Bool.and_false, Bool.true_and, Bool.and_true]), hS⟩
                have q1' : decide ((0 : Int) < v.qn) = true := decide_eq_true q1
                rcases Bool.eq_false_or_eq_true mb with hmb | hmb
                rotate_left
                · rw [hmb] at HMB
                  ((try clear hF); refine hfI ?_; intro hF)
                  go_wp2_with (first | (refine hab ?_; (try clear hF); clear hS; intro wk hS; (try simp only [List.set_cons_zero, List.set_cons_succ, heap_size, heap_set_size] at hS); ((try clear hF); refine hfI ?_; intro hF)) | (go_at_call 35; (with_reducible refine (HLP.out _).mono ?_); rintro e wk ⟨rfl, hX⟩; replace hS := hS.step hX; clear hX; ((try clear hF); refine hfI ?_; intro hF)) | (go_at_call 36; (with_reducible refine (HMB.out _ hS.ext).mono ?_); rintro e wk ⟨rfl, hX⟩; replace hS := hS.step hX; clear hX; ((try clear hF); refine hfI ?_; intro hF)) | (go_at_call 38; (with_reducible refine (HSR.out _ hS.ext).mono ?_); rintro e wk ⟨rfl, hX⟩; replace hS := hS.step hX; clear hX; ((try clear hF); refine hfI ?_; intro hF)))
                  go_meet
                  case rel => exact ⟨congrArg Value.bool (by rw [HC3.out]; simp only [kk', hpb, r0', q1', hmb, Bool.false_and, Bool.and_false, Bool.true_and, Bool.and_true]), hS⟩
                rw [hmb] at HMB
                by_cases c0 : (v.rn : Int) = 0
                rotate_left
                · have c0' : (((v.rn : Int) : Int) == 0) = false := by simp; omega
                  ((try clear hF); refine hfI ?_; intro hF)
                  go_wp2_with (first | (refine hab ?_; (try clear hF); clear hS; intro wk hS; (try simp only [List.set_cons_zero, List.set_cons_succ, heap_size, heap_set_size] at hS); ((try clear hF); refine hfI ?_; intro hF)) | (go_at_call 35; (with_reducible refine (HLP.out _).mono ?_); rintro e wk ⟨rfl, hX⟩; replace hS := hS.step hX; clear hX; ((try clear hF); refine hfI ?_; intro hF)) | (go_at_call 36; (with_reducible refine (HMB.out _ hS.ext).mono ?_); rintro e wk ⟨rfl, hX⟩; replace hS := hS.step hX; clear hX; ((try clear hF); refine hfI ?_; intro hF)) | (go_at_call 38; (with_reducible refine (HSR.out _ hS.ext).mono ?_); rintro e wk ⟨rfl, hX⟩; replace hS := hS.step hX; clear hX; ((try clear hF); refine hfI ?_; intro hF)))
                  go_meet
                  case rel => exact ⟨congrArg Value.bool (by rw [HC3.out]; simp only [kk', hpb, r0', q1', hmb, c0', Bool.false_and, Bool.and_false, Bool.true_and, Bool.and_true]), hS⟩
                have c0' : (((v.rn : Int) : Int) == 0) = true := by simp; omega
                by_cases n0 : a.next = 0
                rotate_left
                · have n0' : ((a.next : Int) == 0) = false := by simp; omega
                  ((try clear hF); refine hfI ?_; intro hF)
                  go_wp2_with (first | (refine hab ?_; (try clear hF); clear hS; intro wk hS; (try simp only [List.set_cons_zero, List.set_cons_succ, heap_size, heap_set_size] at hS); ((try clear hF); refine hfI ?_; intro hF)) | (go_at_call 35; (with_reducible refine (HLP.out _).mono ?_); rintro e wk ⟨rfl, hX⟩; replace hS := hS.step hX; clear hX; ((try clear hF); refine hfI ?_; intro hF)) | (go_at_call 36; (with_reducible refine (HMB.out _ hS.ext).mono ?_); rintro e wk ⟨rfl, hX⟩; replace hS := hS.step hX; clear hX; ((try clear hF); refine hfI ?_; intro hF)) | (go_at_call 38; (with_reducible refine (HSR.out _ hS.ext).mono ?_); rintro e wk ⟨rfl, hX⟩; replace hS := hS.step hX; clear hX; ((try clear hF); refine hfI ?_; intro hF)))
                  go_meet
                  case rel => exact ⟨congrArg Value.bool (by rw [HC3.out]; simp only [kk', hpb, r0', q1', hmb, c0', n0', Bool.false_and, Bool.and_false, Bool.true_and, Bool.and_true]), hS⟩
                have n0' : ((a.next : Int) == 0) = true := by simp; omega
                ((try clear hF); refine hfI ?_; intro hF)
                go_wp2_with (first | (refine hab ?_; (try clear hF); clear hS; intro wk hS; (try simp only [List.set_cons_zero, List.set_cons_succ, heap_size, heap_set_size] at hS); ((try clear hF); refine hfI ?_; intro hF)) | (go_at_call 35; (with_reducible refine (HLP.out _).mono ?_); rintro e wk ⟨rfl, hX⟩; replace hS := hS.step hX; clear hX; ((try clear hF); refine hfI ?_; intro hF)) | (go_at_call 36; (with_reducible refine (HMB.out _ hS.ext).mono ?_); rintro e wk ⟨rfl, hX⟩; replace hS := hS.step hX; clear hX; ((try clear hF); refine hfI ?_; intro hF)) | (go_at_call 38; (with_reducible refine (HSR.out _ hS.ext).mono ?_); rintro e wk ⟨rfl, hX⟩; replace hS := hS.step hX; clear hX; ((try clear hF); refine hfI ?_; intro hF)))
                go_meet
                case rel => exact ⟨congrArg Value.bool (by rw [HC3.out]; simp only [kk', hpb, r0', q1', hmb, c0', n0', Bool.false_and, Bool.and_false, Bool.true_and, Bool.and_true]), hS⟩
              case rest => as_aux_lemma =>
                obtain ⟨rfl, hS⟩ := hcut
                rcases Bool.eq_false_or_eq_true d3 with hd | hd
                · as_aux_lemma =>
                    subst hd
                    have HD3 := Lib.hid (show D = linesA (s ++ (⟨#[109, 97, 115, 107, 32]⟩ ++ a.path ++ spS ++ rj ++ nlS)) ((l.map (·.1)).drop (k + 1)) from HD2.out.trans (linesA_good (by rw [HLA.out]; rfl)))
                    clear HD2 HLA
                    ((try clear hF); refine hfI ?_; intro hF)
                    go_wp2_with (first | (refine hab ?_; (try clear hF); clear hS; intro wk hS; (try simp only [List.set_cons_zero, List.set_cons_succ, heap_size, heap_set_size] at hS); ((try clear hF); refine hfI ?_; intro hF)) | fail)
                    ((with_reducible refine wp_region_hp (draw := true) (by kernel_rfl) (by kernel_rfl) hS ?_); (repeat ((with_reducible refine Fixed.here ?_); (first | ((with_reducible apply Fixed.skip); (first | rfl | exact wanted_false rfl rfl rfl (by assumption)); try simp only [Act.put, List.setIfInBounds_toArray, List.set_cons_zero, List.set_cons_succ]) | ((with_reducible apply Fixed.val); (first | rfl | exact wanted_true rfl rfl rfl (by assumption)); (rintro w hS; ((try clear hF); refine hfI ?_; intro hF); go_simp; first | with_reducible rfl | (rw [if_neg (by first | omega | (simp only [ByteArray.size_append]; omega) | (simp [ByteArray.size_append]; omega))]; try with_reducible rfl)); try simp only [Act.put, List.setIfInBounds_toArray, List.set_cons_zero, List.set_cons_succ]) | ((with_reducible apply Fixed.call); (first | rfl | exact wanted_true rfl rfl rfl (by assumption)); (rintro w hS; ((try clear hF); refine hfI ?_; intro hF); go_simp; exact ⟨rfl, rfl⟩); (rintro w hS; first | (with_reducible exact HIJ.out w hS.ext)); try simp only [Act.put, List.setIfInBounds_toArray, List.set_cons_zero, List.set_cons_succ])))); (with_reducible refine Fixed.done ?_); (try clear hF); clear hS; intro wk hS; ((try clear hF); refine hfI ?_; intro hF))
                    go_wp2_with fail
                    go_roundw
                    case rel => exact ⟨k + 1, _, by go_num, by omega, rfl, by simp only [ByteArray.size_append, e7, e5, e4, e6, e2, e1]; omega, HD3, hS.tail⟩
                    case measure => simp [intOf]; omega
                subst hd
                go_upto_region 17 with (first | (refine hab ?_; (try clear hF); clear hS; intro wk hS; (try simp only [List.set_cons_zero, List.set_cons_succ, heap_size, heap_set_size] at hS); ((try clear hF); refine hfI ?_; intro hF)) | fail)
                go_cut [161] (fun c wx => c = .bool d4 ∧ Hp w.heap.size w wx [.blk ga [.int .i64 a.kind, .string a.path, .int .i64 a.rows, .slice v.qa v.qn v.qc, .slice v.ra v.rn v.rc, .int .i64 a.next] 63, .blk w.heap.size [.string tx, .bool rd, .slice (some ⟨b, o, none⟩) n cap] 38])
                case first => as_aux_lemma =>
                  clear HD2 HLA HC1 HC2 HC3
                  by_cases kk : a.kind = 4
                  rotate_left
                  · have kk' : ((a.kind : Int) == 4) = false := by simp; omega
                    ((try clear hF); refine hfI ?_; intro hF)
                    go_wp2_with (first | (refine hab ?_; (try clear hF); clear hS; intro wk hS; (try simp only [List.set_cons_zero, List.set_cons_succ, heap_size, heap_set_size] at hS); ((try clear hF); refine hfI ?_; intro hF)) | (go_at_call 35; (with_reducible refine (HLP.out _).mono ?_); rintro e wk ⟨rfl, hX⟩; replace hS := hS.step hX; clear hX; ((try clear hF); refine hfI ?_; intro hF)) | (go_at_call 36; (with_reducible refine (HMB.out _ hS.ext).mono ?_); rintro e wk ⟨rfl, hX⟩; replace hS := hS.step hX; clear hX; ((try clear hF); refine hfI ?_; intro hF)) | (go_at_call 38; (with_reducible refine (HSR.out _ hS.ext).mono ?_); rintro e wk ⟨rfl, hX⟩; replace hS := hS.step hX; clear hX; ((try clear hF); refine hfI ?_; intro hF)))
                    go_meet
                    case rel => exact ⟨congrArg Value.bool (by rw [HC4.out]; simp only [kk', Bool.false_and, Bool.and_false, Bool.true_and, Bool.and_true]), hS⟩
                  have kk' : ((a.kind : Int) == 4) = true := by simp; omega
                  rcases Bool.eq_false_or_eq_true pe with hpe | hpe
                  rotate_left
                  · rw [hpe] at HPE
                    have hpe2 : ¬ a.path.toList = [] := fun h => by have h2 := (path_nil _).2 h; rw [HPE.out] at h2; cases h2
                    ((try clear hF); refine hfI ?_; intro hF)
                    go_wp2_with (first | (refine hab ?_; (try clear hF); clear hS; intro wk hS; (try simp only [List.set_cons_zero, List.set_cons_succ, heap_size, heap_set_size] at hS); ((try clear hF); refine hfI ?_; intro hF)) | (go_at_call 35; (with_reducible refine (HLP.out _).mono ?_); rintro e wk ⟨rfl, hX⟩; replace hS := hS.step hX; clear hX; ((try clear hF); refine hfI ?_; intro hF)) | (go_at_call 36; (with_reducible refine (HMB.out _ hS.ext).mono ?_); rintro e wk ⟨rfl, hX⟩; replace hS := hS.step hX; clear hX; ((try clear hF); refine hfI ?_; intro hF)) | (go_at_call 38; (with_reducible refine (HSR.out _ hS.ext).mono ?_); rintro e wk ⟨rfl, hX⟩; replace hS := hS.step hX; clear hX; ((try clear hF); refine hfI ?_; intro hF)))
                    go_meet
                    case rel => exact ⟨congrArg Value.bool (by rw [HC4.out]; simp only [kk', hpe, Bool.false_and, Bool.and_false, Bool.true_and, Bool.and_true]), hS⟩
                  rw [hpe] at HPE
                  have hpe2 : a.path.toList = [] := (path_nil _).1 HPE.out
                  by_cases r0 : a.rows = 0
                  rotate_left
                  · have r0' : ((a.rows : Int) == 0) = false := by simp; omega
                    ((try clear hF); refine hfI ?_; intro hF)
                    go_wp2_with (first | (refine hab ?_; (try clear hF); clear hS; intro wk hS; (try simp only [List.set_cons_zero, List.set_cons_succ, heap_size, heap_set_size] at hS); ((try clear hF); refine hfI ?_; intro hF)) | (go_at_call 35; (with_reducible refine (HLP.out _).mono ?_); rintro e wk ⟨rfl, hX⟩; replace hS := hS.step hX; clear hX; ((try clear hF); refine hfI ?_; intro hF)) | (go_at_call 36; (with_reducible refine (HMB.out _ hS.ext).mono ?_); rintro e wk ⟨rfl, hX⟩; replace hS := hS.step hX; clear hX; ((try clear hF); refine hfI ?_; intro hF)) | (go_at_call 38; (with_reducible refine (HSR.out _ hS.ext).mono ?_); rintro e wk ⟨rfl, hX⟩; replace hS := hS.step hX; clear hX; ((try clear hF); refine hfI ?_; intro hF)))
                    go_meet
                    case rel => exact ⟨congrArg Value.bool (by rw [HC4.out]; simp only [kk', hpe, r0', Bool.false_and, Bool.and_false, Bool.true_and, Bool.and_true]), hS⟩
                  have r0' : ((a.rows : Int) == 0) = true := by simp; omega
                  by_cases q0 : (v.qn : Int) = 0
                  rotate_left
                  · have q0' : (((v.qn : Int) : Int) == 0) = false := by simp; omega
                    ((try clear hF); refine hfI ?_; intro hF)
                    go_wp2_with (first | (refine hab ?_; (try clear hF); clear hS; intro wk hS; (try simp only [List.set_cons_zero, List.set_cons_succ, heap_size, heap_set_size] at hS); ((try clear hF); refine hfI ?_; intro hF)) | (go_at_call 35; (with_reducible refine (HLP.out _).mono ?_); rintro e wk ⟨rfl, hX⟩; replace hS := hS.step hX; clear hX; ((try clear hF); refine hfI ?_; intro hF)) | (go_at_call 36; (with_reducible refine (HMB.out _ hS.ext).mono ?_); rintro e wk ⟨rfl, hX⟩; replace hS := hS.step hX; clear hX; ((try clear hF); refine hfI ?_; intro hF)) | (go_at_call 38; (with_reducible refine (HSR.out _ hS.ext).mono ?_); rintro e wk ⟨rfl, hX⟩; replace hS := hS.step hX; clear hX; ((try clear hF); refine hfI ?_; intro hF)))
                    go_meet
                    case rel => exact ⟨congrArg Value.bool (by rw [HC4.out]; simp only [kk', hpe, r0', q0', Bool.false_and, Bool.and_false, Bool.true_and, Bool.and_true]), hS⟩
                  have q0' : (((v.qn : Int) : Int) == 0) = true := by simp; omega
                  rcases Bool.eq_false_or_eq_true sr with hsr | hsr
                  rotate_left
                  · rw [hsr] at HSR
                    ((try clear hF); refine hfI ?_; intro hF)
                    go_wp2_with (first | (refine hab ?_; (try clear hF); clear hS; intro wk hS; (try simp only [List.set_cons_zero, List.set_cons_succ, heap_size, heap_set_size] at hS); ((try clear hF); refine hfI ?_; intro hF)) | (go_at_call 35; (with_reducible refine (HLP.out _).mono ?_); rintro e wk ⟨rfl, hX⟩; replace hS := hS.step hX; clear hX; ((try clear hF); refine hfI ?_; intro hF)) | (go_at_call 36; (with_reducible refine (HMB.out _ hS.ext).mono ?_); rintro e wk ⟨rfl, hX⟩; replace hS := hS.step hX; clear hX; ((try clear hF); refine hfI ?_; intro hF)) | (go_at_call 38; (with_reducible refine (HSR.out _ hS.ext).mono ?_); rintro e wk ⟨rfl, hX⟩; replace hS := hS.step hX; clear hX; ((try clear hF); refine hfI ?_; intro hF)))
                    go_meet
                    case rel => exact ⟨congrArg Value.bool (by rw [HC4.out]; simp only [kk', hpe, r0', q0', hsr, Bool.false_and, Bool.and_false, Bool.true_and, Bool.and_true]), hS⟩
                  rw [hsr] at HSR
                  ((try clear hF); refine hfI ?_; intro hF)
                  go_wp2_with (first | (refine hab ?_; (try clear hF); clear hS; intro wk hS; (try simp only [List.set_cons_zero, List.set_cons_succ, heap_size, heap_set_size] at hS); ((try clear hF); refine hfI ?_; intro hF)) | (go_at_call 35; (with_reducible refine (HLP.out _).mono ?_); rintro e wk ⟨rfl, hX⟩; replace hS := hS.step hX; clear hX; ((try clear hF); refine hfI ?_; intro hF)) | (go_at_call 36; (with_reducible refine (HMB.out _ hS.ext).mono ?_); rintro e wk ⟨rfl, hX⟩; replace hS := hS.step hX; clear hX; ((try clear hF); refine hfI ?_; intro hF)) | (go_at_call 38; (with_reducible refine (HSR.out _ hS.ext).mono ?_); rintro e wk ⟨rfl, hX⟩; replace hS := hS.step hX; clear hX; ((try clear hF); refine hfI ?_; intro hF)))
                  go_meet
                  case rel => exact ⟨congrArg Value.bool (by rw [HC4.out]; simp only [kk', hpe, r0', q0', hsr, Bool.false_and, Bool.and_false, Bool.true_and, Bool.and_true]), hS⟩
                case rest => as_aux_lemma =>
                  obtain ⟨rfl, hS⟩ := hcut
                  rcases Bool.eq_false_or_eq_true d4 with hd | hd
                  · as_aux_lemma =>
                      subst hd
                      have HD3 := Lib.hid (show D = linesA (s ++ (⟨#[115, 99, 104, 101, 109, 97, 32]⟩ ++ rx ++ spS ++ rc ++ nlS)) ((l.map (·.1)).drop (k + 1)) from HD2.out.trans (linesA_good (by rw [HLA.out]; rfl)))
                      clear HD2 HLA
                      ((try clear hF); refine hfI ?_; intro hF)
                      go_wp2_with (first | (refine hab ?_; (try clear hF); clear hS; intro wk hS; (try simp only [List.set_cons_zero, List.set_cons_succ, heap_size, heap_set_size] at hS); ((try clear hF); refine hfI ?_; intro hF)) | fail)
                      ((with_reducible refine wp_region_hp (draw := true) (by kernel_rfl) (by kernel_rfl) hS ?_); (repeat ((with_reducible refine Fixed.here ?_); (first | ((with_reducible apply Fixed.skip); (first | rfl | exact wanted_false rfl rfl rfl (by assumption)); try simp only [Act.put, List.setIfInBounds_toArray, List.set_cons_zero, List.set_cons_succ]) | ((with_reducible apply Fixed.val); (first | rfl | exact wanted_true rfl rfl rfl (by assumption)); (rintro w hS; ((try clear hF); refine hfI ?_; intro hF); go_simp; first | with_reducible rfl | (rw [if_neg (by first | omega | (simp only [ByteArray.size_append]; omega) | (simp [ByteArray.size_append]; omega))]; try with_reducible rfl)); try simp only [Act.put, List.setIfInBounds_toArray, List.set_cons_zero, List.set_cons_succ]) | ((with_reducible apply Fixed.call); (first | rfl | exact wanted_true rfl rfl rfl (by assumption)); (rintro w hS; ((try clear hF); refine hfI ?_; intro hF); go_simp; exact ⟨rfl, rfl⟩); (rintro w hS; first | (with_reducible exact HIX.out w hS.ext) | (with_reducible exact HIC.out w hS.ext)); try simp only [Act.put, List.setIfInBounds_toArray, List.set_cons_zero, List.set_cons_succ])))); (with_reducible refine Fixed.done ?_); (try clear hF); clear hS; intro wk hS; ((try clear hF); refine hfI ?_; intro hF))
                      go_wp2_with fail
                      go_roundw
                      case rel => exact ⟨k + 1, _, by go_num, by omega, rfl, by simp only [ByteArray.size_append, e7, e5, e4, e6, e2, e1]; omega, HD3, hS.tail⟩
                      case measure => simp [intOf]; omega
                  subst hd
                  have hDe : D = none := HD2.out.trans (linesA_bad (by rw [HLA.out]; rfl))
                  clear HD2 HLA
                  subst hDe
                  ((try clear hF); refine hfI ?_; intro hF)
                  go_wp2_with (first | (refine hab ?_; (try clear hF); clear hS; intro wk hS; (try simp only [List.set_cons_zero, List.set_cons_succ, heap_size, heap_set_size] at hS); ((try clear hF); refine hfI ?_; intro hF)) | fail)
                  go_ret2
                  exact ⟨rfl, hS.ext⟩
        · obtain rfl : k = n := by omega
          have hDe : D = some s := by rw [HD.out, List.drop_eq_nil_of_le (by rw [List.length_map, Hn.out]; omega)]; rfl
          clear HD
          subst hDe
          ((try clear hF); refine hfI ?_; intro hF)
          go_wp2_with (first | (refine hab ?_; (try clear hF); clear hS; intro wk hS; (try simp only [List.set_cons_zero, List.set_cons_succ, heap_size, heap_set_size] at hS); ((try clear hF); refine hfI ?_; intro hF)) | fail)
          go_ret2
          exact ⟨rfl, hS.ext⟩
end Go.Proofs.YtlgidjanmaijaaaGreatDoor

/- millpondkeep.logged: a fact: it is true. -/
namespace Go.Proofs.YtlgidjanmaijaaaGreatDoor
set_option linter.unusedSimpArgs false
set_option linter.unusedVariables false
open Go.RowKit
set_option linter.all false
def c1L : CG := ⟨1, ⟨#[97]⟩, 1, false, ⟨0, 0, ⟨#[]⟩⟩⟩
def a1L : AN := ⟨4, ⟨#[]⟩, 0, [], [c1L], 2⟩
def a2L : AN := ⟨1, ⟨#[102]⟩, 3, [], [], 0⟩
def a3L : AN := ⟨3, ⟨#[102]⟩, 0, [1], [], 0⟩
abbrev txL : ByteArray := ⟨#[116]⟩
theorem act1L : actE ⟨1, [], 0, []⟩ a1L = 0 := by decide +kernel
theorem name1L : nameB txL = true := by decide +kernel
def loggedL (gc gi : Nat) : List (AN × AV) := [(a1L, ⟨none, 0, 0, some ⟨gc, 0, none⟩, 1, 1⟩), (a2L, ⟨none, 0, 0, none, 0, 0⟩), (a3L, ⟨some ⟨gi, 0, none⟩, 1, 1, none, 0, 0⟩)]
theorem rc_nilL (W : World) (A : Option Addr) : RC W A [] := fun i c hi => by simp at hi
theorem ri_nilL (W : World) (A : Option Addr) : RI W A [] := fun i c hi => by simp at hi
theorem rc_oneL {W : World} {g : Nat} {t : TypeId} (h : W.heap[g]? = some (.cells #[.int .i64 1, .string ⟨#[97]⟩, .int .i64 1, .bool false, .int .i64 0, .int .i64 0, .string ⟨#[]⟩] t (0, 0))) : RC W (some ⟨g, 0, none⟩) [c1L] := by
  intro i c hi
  cases i with
  | zero =>
    obtain rfl : c1L = c := by simpa using hi
    refine ⟨g, 0, rfl, ?_⟩
    unfold c1L
    simp [World.cell?, h]
  | succ i => simp at hi
/-- the world that logged makes -/
structure LgdW (W : World) (g gc gi : Nat) : Prop where
  a : RA W (some ⟨g, 0, none⟩) (loggedL gc gi)
  c : RC W (some ⟨gc, 0, none⟩) [c1L]
  i : RI W (some ⟨gi, 0, none⟩) [1]
theorem LgdW.all {W : World} {g gc gi : Nat} (h : LgdW W g gc gi) : ∀ a v, (a, v) ∈ loggedL gc gi → RI W v.qa a.mask ∧ RC W v.ra a.cols ∧ a.mask.length = v.qn ∧ v.qn ≤ 100 ∧ (v.qa = none → v.qc = 0) ∧ a.cols.length = v.rn ∧ v.rn ≤ 1000 ∧ v.rn ≤ v.rc := by
  intro a v hm
  unfold loggedL at hm
  simp only [List.mem_cons, Prod.mk.injEq, List.not_mem_nil, or_false] at hm
  rcases hm with ⟨rfl, rfl⟩ | ⟨rfl, rfl⟩ | ⟨rfl, rfl⟩
  · exact ⟨ri_nilL _ _, h.c, rfl, by simp, fun _ => rfl, rfl, by simp, by simp⟩
  · exact ⟨ri_nilL _ _, rc_nilL _ _, rfl, by simp, fun _ => rfl, rfl, by simp, by simp⟩
  · exact ⟨h.i, rc_nilL _ _, rfl, by simp, fun h => (by cases h), rfl, by simp, by simp⟩
theorem goodL0 : Good (⟨0, [], 0, []⟩ : SN) := Good.nil 0 0
theorem snok0 (B : Nat) (w0 : World) (K : List Item) (v n : Int) : SnOk B w0 K ⟨v, [], n, []⟩ ⟨none, 0, 0, none, 0, 0, []⟩ :=
  ⟨⟨⟨rfl, fun i a e h => by simp at h⟩, rfl, fun _ => rfl, rfl, Nat.le_refl _, fun W _ => rc_nilL _ _⟩, fun W _ i v h => by simp at h⟩
end Go.Proofs.YtlgidjanmaijaaaGreatDoor
