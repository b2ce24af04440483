/- Texts joined: ask.tokens: the cut of a text. ask: the parser's steps: see, take, must, fail. ask: the parser's steps: must, name, code, literal. Slices of columns: what their cells hold; IndexFunc, ContainsFunc, Find. schema.Right. millpondkeep.columns: they are short. slices of columns: Clone, Delete, Equal of the same. schema.Row. rows of values; file.column. millpondkeep.rows: they are short. file: files in memory. -/
import Derived.Test.YtlaldfkeaalnhaaGreatDoorQA06
import Derived.Test.YtlaldfkeaalnhaaGreatDoorQA08
import Derived.Test.YtlaldfkeaalnhaaGreatDoorQA03
import Derived.Test.YtlaldfkeaalnhaaGreatDoorQA04
import Derived.Test.YtlaldfkeaalnhaaGreatDoorQA01
import Derived.Test.YtlaldfkeaalnhaaGreatDoorQA09
import Derived.Test.YtlaldfkeaalnhaaGreatDoorQA05
/- ask.tokens: the cut of a text. -/
namespace Go.Proofs.YtlaldfkeaalnhaaGreatDoor
set_option linter.unusedSimpArgs false
set_option linter.unusedVariables false
open Go.RowKit
set_option linter.all false
theorem next_any (s : ByteArray) (w : World) (h0 : 0 < s.size) (m : Nat) (hm : s.size = m) (hm2 : m ≤ 1000000) (hM : MarksAt w) (X : Int × Nat) (hX : X = nextL s.data.toList) :
    Calls Tryz.prog 103 #[.string s] w fun e w' => e = .returned (.tuple #[.int .i64 X.1, .int .i64 (X.2 : Nat)]) ∧ Ext w w' := by
  cases h1 : smallB s[0] with
  | true => exact next_small s w h0 m hm hm2 h1 X hX
  | false =>
    cases h2 : digitB s[0] with
    | true => exact next_digit s w h0 m hm hm2 h1 h2 X hX
    | false =>
      by_cases h3 : s[0] = 39
      · exact next_quote s w h0 m hm hm2 h3 X hX
      by_cases h4 : s[0] = 45
      · by_cases h5 : 1 < s.size
        · cases h6 : digitB s[1] with
          | true => exact next_minus s w h5 m hm hm2 h4 h6 X hX
          | false => exact next_mark s w h0 m hm hm2 hM h1 h2 h3 (.inr (.inr ⟨h5, h6⟩)) X hX
        · exact next_mark s w h0 m hm hm2 hM h1 h2 h3 (.inr (.inl (by omega))) X hX
      · exact next_mark s w h0 m hm hm2 hM h1 h2 h3 (.inl h4) X hX
/-- the cells of tokens -/
def tkV : List (Tk × Nat) → List Value
  | [] => []
  | x :: l => [.int .i64 x.1.kind, .string x.1.text, .int .i64 x.2] ++ tkV l
theorem tkV_app : ∀ (a b : List (Tk × Nat)), tkV (a ++ b) = tkV a ++ tkV b
  | [], _ => rfl
  | x :: a, b => by simp [tkV, tkV_app a b]
theorem Tryz.elem_tks : Elem Tryz.prog 126 132 3 32 := by
  obtain ⟨i0, hi0, hz0, hz1, hz2⟩ := info_parts (show (Tryz.prog.info? 132).map (fun i => (i.zero, i.size, i.bytes)) = some (some (.agg #[.int .i64 0, .string ⟨#[]⟩, .int .i64 0]), 3, 32) by kernel_rfl)
  exact ⟨Tryz.underlying126, ⟨i0, _, hi0, hz0, hz1, hz2, rfl⟩, by omega⟩
def TokRes (w : World) (r : Option (List Tk)) (e : Ending) (w' : World) : Prop := match r with
  | some l => ∃ (A : Option Addr) (n cap : Nat) (q : List (Tk × Nat)), q.map (·.1) = l ∧ q.length = n ∧ e = .returned (.tuple #[.slice A n cap, .nilIface]) ∧ Hp w.heap.size w w' [.row 132 3 A n cap (tkV q)]
  | none => (∃ tp p, e = .returned (.tuple #[.slice none 0 0, .iface tp p])) ∧ Ext w w'
theorem tok_sp {f : Nat} {r : List UInt8} {k : Nat} : tokL (f + 1) (32 :: r) k = tokL f r k := by simp [tokL]
theorem tok_tk {f : Nat} {c : UInt8} {r : List UInt8} {k : Nat} (hc : c ≠ 32) (h0 : (nextL (c :: r)).2 ≠ 0) (hk : k ≠ 80) :
    tokL (f + 1) (c :: r) k = (tokL f ((c :: r).drop (nextL (c :: r)).2) (k + 1)).map (⟨(nextL (c :: r)).1, ⟨((c :: r).take (nextL (c :: r)).2).toArray⟩⟩ :: ·) := by
  conv => lhs; unfold tokL
  rw [if_neg (by simp [hc]), if_neg (by omega)]
  cases tokL f ((c :: r).drop (nextL (c :: r)).2) (k + 1) <;> rfl
theorem tok_no {f : Nat} {c : UInt8} {r : List UInt8} {k : Nat} (hc : c ≠ 32) (h : (nextL (c :: r)).2 = 0 ∨ k = 80) : tokL (f + 1) (c :: r) k = none := by
  conv => lhs; unfold tokL
  rw [if_neg (by simp [hc]), if_pos h]
theorem ext_take (s : ByteArray) (k n : Nat) : (⟨((s.data.toList.drop k).take n).toArray⟩ : ByteArray) = s.extract k (k + n) := by
  refine ba_ext ?_
  rw [Lib.extract_data, show k + n - k = n by omega]
theorem ext_all (s : ByteArray) (k : Nat) : (s.extract k s.size).data.toList = s.data.toList.drop k := by
  rw [Lib.extract_data]
  apply List.take_of_length_le
  rw [List.length_drop, ← Lib.size_eq]
  omega
set_option maxRecDepth 100000 in
set_option maxHeartbeats 8000000 in
theorem tokens_any (s : ByteArray) (w : World) (m : Nat) (hm : s.size = m) (hm2 : m ≤ 100000) (hM : MarksAt w) :
    Calls Tryz.prog 69 #[.string s] w (TokRes w (tokL (m + 1) s.data.toList 0)) := by
  have HN := Lib.hid (fun (k : Nat) (hk : k < m) (W : World) (hx : Ext w W) => next_any (s.extract k s.size) W (by rw [ext_size s k (by omega)]; omega) (m - k) (by rw [ext_size s k (by omega)]; omega) (by omega) (hM.ext hx) _ rfl)
  rw [hm] at HN
  clear hM
  obtain ⟨D, hD⟩ : ∃ D, D = tokL (m + 1) s.data.toList 0 := ⟨_, rfl⟩
  rw [← hD]
  have HD := Lib.hid (show D = (tokL (m + 1) (s.data.toList.drop 0) (List.length ([] : List (Tk × Nat)))).map (([] : List (Tk × Nat)).map (·.1) ++ ·) by
    rw [hD, List.drop_zero]
    cases tokL (m + 1) s.data.toList 0 <;> rfl)
  clear hD
  have hS := Hp.init w
  have hR := Reads.nil w
  go_enter Tryz.func69, Tryz.ntmps69
  go_wp2_with (first | (refine hab ?_; (try clear hF); clear hS; intro wk hS; (try simp only [List.set_cons_zero, List.set_cons_succ, heap_size, heap_set_size] at hS); ((try clear hF); refine hfI ?_; intro hF)) | fail)
  replace hS := hS.nilRow 132 3
  go_loopw [4, 5, 6, 7] (fun sl i _ _ wr => ∃ (k n f cap : Nat) (A : Option Addr) (q : List (Tk × Nat)), sl = .slice A n cap ∧ i = .int .i64 k ∧ k ≤ m ∧ m - k < f ∧ n ≤ 80 ∧ Hid (q.length = n) ∧ Hid (D = (tokL f (s.data.toList.drop k) q.length).map (q.map (·.1) ++ ·)) ∧ Hp w.heap.size w wr [.row 132 3 A n cap (tkV q)]) (fun _ i _ _ _ => m - (intOf i).toNat)
  case atStart => exact ⟨0, 0, m + 1, 0, none, [], rfl, rfl, Nat.zero_le _, by omega, by omega, Lib.hid rfl, HD, hS⟩
  case round =>
    clear hS HD
    obtain ⟨k, n, f, cap, A, q, rfl, rfl, hk, hf, hn, HQ, HD, hS⟩ := hrel
    obtain ⟨f, rfl⟩ : ∃ g, f = g + 1 := ⟨f - 1, by omega⟩
    by_cases hlt : k < m
    · have hks : k < s.size := by omega
      have hd := at_drop s k hks
      by_cases h32 : s[k] = 32
      · have q1 : ((s[k].toNat : Int) == 32) = true := u8e h32
        have HD2 := Lib.hid (show D = (tokL f (s.data.toList.drop (k + 1)) q.length).map (q.map (·.1) ++ ·) by rw [HD.out, hd, h32, tok_sp])
        clear HD hd h32
        ((try clear hF); refine hfI ?_; intro hF)
        go_wp2_with (first | (refine hab ?_; (try clear hF); clear hS; intro wk hS; (try simp only [List.set_cons_zero, List.set_cons_succ, heap_size, heap_set_size] at hS); ((try clear hF); refine hfI ?_; intro hF)) | fail)
        go_roundw
        case rel => exact ⟨k + 1, n, f, cap, A, q, rfl, by go_num, by omega, by omega, hn, HQ, HD2, hS⟩
        case measure => simp [intOf]; omega
      have q1 : ((s[k].toNat : Int) == 32) = false := u8n (b := 32) h32
      obtain ⟨X, hX⟩ : ∃ X, X = nextL (s.extract k m).data.toList := ⟨_, rfl⟩
      have HN2 := Lib.hid (HN.out k hlt)
      rw [← hX] at HN2
      have hea := ext_all s k
      rw [hm] at hea
      rw [hea, hd] at hX
      clear hea
      have hXl := nextL_le (s[k] :: s.data.toList.drop (k + 1))
      rw [← hX, ← hd, List.length_drop, ← Lib.size_eq, hm] at hXl
      obtain ⟨kd, z⟩ := X
      simp only at hXl
      by_cases hz : z = 0
      · have HD2 := Lib.hid (show D = none by rw [HD.out, hd, tok_no h32 (.inl (by rw [← hX]; exact hz))]; rfl)
        subst hz
        clear HD hX hd hXl
        ((try clear hF); refine hfI ?_; intro hF)
        go_wp2_with (first | (refine hab ?_; (try clear hF); clear hS; intro wk hS; (try simp only [List.set_cons_zero, List.set_cons_succ, heap_size, heap_set_size] at hS); ((try clear hF); refine hfI ?_; intro hF)) | (go_at_call 103; (with_reducible refine (HN2.out _ hS.ext).mono ?_); rintro e wk ⟨rfl, hX⟩; replace hS := hS.step hX; clear hX; ((try clear hF); refine hfI ?_; intro hF)))
        go_ret2
        rw [HD2.out]
        exact ⟨⟨_, _, rfl⟩, hS.ext⟩
      have q2 : ((z : Int) == 0) = false := by simp [hz]
      by_cases h80 : n = 80
      · have HD2 := Lib.hid (show D = none by rw [HD.out, hd, tok_no h32 (.inr (by rw [HQ.out]; exact h80))]; rfl)
        subst h80
        clear HD hX hd hXl
        ((try clear hF); refine hfI ?_; intro hF)
        go_wp2_with (first | (refine hab ?_; (try clear hF); clear hS; intro wk hS; (try simp only [List.set_cons_zero, List.set_cons_succ, heap_size, heap_set_size] at hS); ((try clear hF); refine hfI ?_; intro hF)) | (go_at_call 103; (with_reducible refine (HN2.out _ hS.ext).mono ?_); rintro e wk ⟨rfl, hX⟩; replace hS := hS.step hX; clear hX; ((try clear hF); refine hfI ?_; intro hF)))
        go_ret2
        rw [HD2.out]
        exact ⟨⟨_, _, rfl⟩, hS.ext⟩
      have q3 : ((n : Int) == 80) = false := by simp; omega
      have HD2 := Lib.hid (show D = (tokL f (s.data.toList.drop (k + z)) (q ++ [((⟨kd, s.extract k (k + z)⟩ : Tk), k)]).length).map ((q ++ [((⟨kd, s.extract k (k + z)⟩ : Tk), k)]).map (·.1) ++ ·) by
        rw [HD.out, hd, tok_tk h32 (by rw [← hX]; exact hz) (by rw [HQ.out]; exact h80), ← hX, ← hd, List.drop_drop, ext_take, List.length_append]
        simp only [List.map_append, List.map_cons, List.map_nil, List.length_cons, List.length_nil, Nat.zero_add]
        cases tokL f (s.data.toList.drop (k + z)) (q.length + 1) <;> simp)
      clear HD hX hd
      ((try clear hF); refine hfI ?_; intro hF)
      go_wp2_with (first | (refine hab ?_; (try clear hF); clear hS; intro wk hS; (try simp only [List.set_cons_zero, List.set_cons_succ, heap_size, heap_set_size] at hS); ((try clear hF); refine hfI ?_; intro hF)) | (go_at_call 103; (with_reducible refine (HN2.out _ hS.ext).mono ?_); rintro e wk ⟨rfl, hX⟩; replace hS := hS.step hX; clear hX; ((try clear hF); refine hfI ?_; intro hF)) | (at_builtin; refine wpList_push_hp Tryz.elem_tks rfl (.tmp 40) (.tmp 50) rfl (hS.second 0 rfl) rfl rfl rfl (by simp [Value.oneCell']) (by omega) (by omega) ?_; clear hS; intro Ak capk wk hS; (try simp only [List.eraseIdx_cons_zero, List.eraseIdx_cons_succ, List.set_cons_zero, List.set_cons_succ] at hS); ((try clear hF); refine hfI ?_; intro hF)))
      go_roundw
      case rel =>
        refine ⟨k + z, n + 1, f, _, _, q ++ [((⟨kd, s.extract k (k + z)⟩ : Tk), k)], by go_num, by go_num, by omega, by omega, by omega, Lib.hid (by rw [List.length_append, HQ.out]; rfl), HD2, ?_⟩
        rw [tkV_app]
        exact hS
      case measure => simp [intOf]; omega
    · obtain rfl : k = m := by omega
      have HD2 := Lib.hid (show D = some ((q ++ [(endTk, k)]).map (·.1)) by
        rw [HD.out, List.drop_eq_nil_of_le (by rw [← Lib.size_eq]; omega)]
        simp [tokL])
      clear HD
      ((try clear hF); refine hfI ?_; intro hF)
      go_wp2_with (first | (refine hab ?_; (try clear hF); clear hS; intro wk hS; (try simp only [List.set_cons_zero, List.set_cons_succ, heap_size, heap_set_size] at hS); ((try clear hF); refine hfI ?_; intro hF)) | (at_builtin; refine wpList_push_hp Tryz.elem_tks rfl (.tmp 55) (.tmp 59) rfl (hS.second 0 rfl) rfl rfl rfl (by simp [Value.oneCell']) (by omega) (by omega) ?_; clear hS; intro Ak capk wk hS; (try simp only [List.eraseIdx_cons_zero, List.eraseIdx_cons_succ, List.set_cons_zero, List.set_cons_succ] at hS); ((try clear hF); refine hfI ?_; intro hF)))
      go_ret2
      rw [HD2.out]
      refine ⟨_, n + 1, _, q ++ [(endTk, k)], rfl, by rw [List.length_append, HQ.out]; rfl, rfl, ?_⟩
      rw [tkV_app]
      exact hS
end Go.Proofs.YtlaldfkeaalnhaaGreatDoor

/- ask: the parser's steps: see, take, must, fail. -/
namespace Go.Proofs.YtlaldfkeaalnhaaGreatDoor
set_option linter.unusedSimpArgs false
set_option linter.unusedVariables false
open Go.RowKit
set_option linter.all false
set_option maxRecDepth 100000 in
set_option maxHeartbeats 8000000 in
theorem see_cells (gp gt off n cap : Nat) (k : Int) (t : ByteArray) (p : Nat) (s : ByteArray) (w : World) (c0 : w.cell? ⟨gp, 0, none⟩ = some (.slice (some ⟨gt, off, none⟩) n cap)) (hn : 0 < n) (hc : n ≤ cap)
    (c1 : w.cell? ⟨gt, off, none⟩ = some (.int .i64 k)) (c2 : w.cell? ⟨gt, off + 1, none⟩ = some (.string t)) (c3 : w.cell? ⟨gt, off + 2, none⟩ = some (.int .i64 p)) :
    Calls Tryz.prog 71 #[.pointer (some ⟨gp, 0, none⟩), .string s] w fun e w' => e = .returned (.bool ((t.data.toList == s.data.toList) && (k == 1 || k == 4))) ∧ Ext w w' := by
  have hS := Hp.init w
  have hR := Reads.cell c0 (Reads.cell c1 (Reads.cell c2 (Reads.cell c3 (Reads.nil w))))
  clear c0 c1 c2 c3
  ((try clear hF); refine hfI ?_; intro hF)
  obtain ⟨b1, hb1⟩ : ∃ b, b = (t.data.toList == s.data.toList) := ⟨_, rfl⟩
  have q1 : (t.toList == s.toList) = b1 := by rw [hb1, ByteArray.toList_eq, ByteArray.toList_eq]
  rw [← hb1]
  clear hb1
  cases b1 with
  | false =>
    rw [Bool.false_and]
    go_enter Tryz.func71, Tryz.ntmps71
    go_wp2_with (first | (refine hab ?_; (try clear hF); clear hS; intro wk hS; (try simp only [List.set_cons_zero, List.set_cons_succ, heap_size, heap_set_size] at hS); ((try clear hF); refine hfI ?_; intro hF)) | fail)
    go_ret
    exact ⟨rfl, hS.ext⟩
  | true =>
    by_cases h1 : k = 1
    · subst h1
      go_enter Tryz.func71, Tryz.ntmps71
      go_wp2_with (first | (refine hab ?_; (try clear hF); clear hS; intro wk hS; (try simp only [List.set_cons_zero, List.set_cons_succ, heap_size, heap_set_size] at hS); ((try clear hF); refine hfI ?_; intro hF)) | fail)
      go_ret
      exact ⟨rfl, hS.ext⟩
    · have q2 : (k == 1) = false := by simp [h1]
      by_cases h4 : k = 4
      · subst h4
        go_enter Tryz.func71, Tryz.ntmps71
        go_wp2_with (first | (refine hab ?_; (try clear hF); clear hS; intro wk hS; (try simp only [List.set_cons_zero, List.set_cons_succ, heap_size, heap_set_size] at hS); ((try clear hF); refine hfI ?_; intro hF)) | fail)
        go_ret
        exact ⟨rfl, hS.ext⟩
      · have q3 : (k == 4) = false := by simp [h4]
        rw [q2, q3]
        clear h1 h4
        go_enter Tryz.func71, Tryz.ntmps71
        go_wp2_with (first | (refine hab ?_; (try clear hF); clear hS; intro wk hS; (try simp only [List.set_cons_zero, List.set_cons_succ, heap_size, heap_set_size] at hS); ((try clear hF); refine hfI ?_; intro hF)) | fail)
        go_ret
        exact ⟨rfl, hS.ext⟩
/-- how a walk that fails ends -/
def Fails (e : Ending) : Prop := ∃ tp p, e = .panicked [{ v := .iface 124 (.agg #[.iface tp p]), recovered := false }]
set_option maxRecDepth 100000 in
set_option maxHeartbeats 8000000 in
theorem fail_cells (gp gt off n cap : Nat) (p : Nat) (er : Int) (w : World) (c0 : w.cell? ⟨gp, 0, none⟩ = some (.slice (some ⟨gt, off, none⟩) n cap)) (hn : 0 < n) (hc : n ≤ cap) (c3 : w.cell? ⟨gt, off + 2, none⟩ = some (.int .i64 p)) :
    Calls Tryz.prog 70 #[.pointer (some ⟨gp, 0, none⟩), .int .i64 er] w fun e w' => Fails e ∧ Ext w w' := by
  have hS := Hp.init w
  have hR := Reads.cell c0 (Reads.cell c3 (Reads.nil w))
  clear c0 c3
  ((try clear hF); refine hfI ?_; intro hF)
  go_enter Tryz.func70, Tryz.ntmps70
  go_wp2_with (first | (refine hab ?_; (try clear hF); clear hS; intro wk hS; (try simp only [List.set_cons_zero, List.set_cons_succ, heap_size, heap_set_size] at hS); ((try clear hF); refine hfI ?_; intro hF)) | fail)
  exact ⟨rfl, ⟨_, _, rfl⟩, hS.ext⟩
/-- tokens lie at a block, as long as R stands -/
def TkIn (B : Nat) (w0 : World) (R : Item) (gt off : Nat) (q : List (Tk × Nat)) : Prop :=
  ∀ W, Hp B w0 W [R] → ∀ (i : Nat) (x : Tk × Nat), q[i]? = some x → W.cell? ⟨gt, off + i * 3, none⟩ = some (.int .i64 x.1.kind) ∧ W.cell? ⟨gt, off + i * 3 + 1, none⟩ = some (.string x.1.text) ∧ W.cell? ⟨gt, off + i * 3 + 2, none⟩ = some (.int .i64 x.2)
theorem TkIn.hd {B : Nat} {w0 : World} {R : Item} {gt off : Nat} {x : Tk × Nat} {q : List (Tk × Nat)} (h : TkIn B w0 R gt off (x :: q)) :
    ∀ W, Hp B w0 W [R] → W.cell? ⟨gt, off, none⟩ = some (.int .i64 x.1.kind) ∧ W.cell? ⟨gt, off + 1, none⟩ = some (.string x.1.text) ∧ W.cell? ⟨gt, off + 2, none⟩ = some (.int .i64 x.2) := fun W hW => by
  have := h W hW 0 x rfl
  simpa using this
theorem TkIn.tl {B : Nat} {w0 : World} {R : Item} {gt off : Nat} {x : Tk × Nat} {q : List (Tk × Nat)} (h : TkIn B w0 R gt off (x :: q)) : TkIn B w0 R gt (off + 3) q := fun W hW i y hy => by
  have := h W hW (i + 1) y (by simpa using hy)
  rw [show off + 3 + i * 3 = off + (i + 1) * 3 by omega]
  exact this
/-- the parser stands at l -/
def PAt (B : Nat) (w0 : World) (R : Item) (gt gp : Nat) (l : List Tk) (y : Item) : Prop :=
  ∃ (off n cap : Nat) (q : List (Tk × Nat)), q.map (·.1) = l ∧ q.length = n ∧ n ≤ cap ∧ cap ≤ 9223372036854775807 ∧ y = .blk gp [.slice (some ⟨gt, off, none⟩) n cap] 130 ∧ TkIn B w0 R gt off q
def gsub1 {B : Nat} {w0 W : World} {y R : Item} {M : List Item} (h : Hp B w0 W (y :: R :: M)) : Hp B w0 W [R] := h.sub (by simp)
theorem PAt.blk {B : Nat} {w0 : World} {R : Item} {gt gp : Nat} {l : List Tk} {y : Item} (h : PAt B w0 R gt gp l y) : ∃ v, y = .blk gp [v] 130 := by
  obtain ⟨off, n, cap, q, h1, h2, h3, h4, rfl, h5⟩ := h
  exact ⟨_, rfl⟩
theorem see_any {B : Nat} {w0 w : World} {R : Item} {gt gp : Nat} {l : List Tk} {y : Item} {M : List Item} (s : ByteArray) (hl : l ≠ []) (hP : PAt B w0 R gt gp l y) (hS : Hp B w0 w (y :: R :: M)) :
    Calls Tryz.prog 71 #[.pointer (some ⟨gp, 0, none⟩), .string s] w fun e w' => e = .returned (.bool (seeT l s.data.toList)) ∧ Ext w w' := by
  obtain ⟨off, n, cap, q, rfl, hn, hc, hc2, rfl, hT⟩ := hP
  cases q with
  | nil => exact absurd rfl hl
  | cons x q =>
    obtain ⟨c1, c2, c3⟩ := hT.hd w (gsub1 hS)
    have hF := hS.facts
    simp only [HFacts, cellFacts, RFacts, cellOnly, and_true, true_and, Nat.zero_add, Nat.reduceAdd] at hF
    simp only [List.length_cons] at hn
    exact see_cells gp gt off n cap x.1.kind x.1.text x.2 s w hF.1.1 (by omega) hc c1 c2 c3
theorem fail_any {B : Nat} {w0 w : World} {R : Item} {gt gp : Nat} {l : List Tk} {y : Item} {M : List Item} (er : Int) (hl : l ≠ []) (hP : PAt B w0 R gt gp l y) (hS : Hp B w0 w (y :: R :: M)) :
    Calls Tryz.prog 70 #[.pointer (some ⟨gp, 0, none⟩), .int .i64 er] w fun e w' => Fails e ∧ Ext w w' := by
  obtain ⟨off, n, cap, q, rfl, hn, hc, hc2, rfl, hT⟩ := hP
  cases q with
  | nil => exact absurd rfl hl
  | cons x q =>
    obtain ⟨c1, c2, c3⟩ := hT.hd w (gsub1 hS)
    have hF := hS.facts
    simp only [HFacts, cellFacts, RFacts, cellOnly, and_true, true_and, Nat.zero_add, Nat.reduceAdd] at hF
    simp only [List.length_cons] at hn
    exact fail_cells gp gt off n cap x.2 er w hF.1.1 (by omega) hc c3
/-- tokens as a text has them: an end last -/
def EndT (l : List Tk) : Prop := ∃ p, l = p ++ [endTk]
theorem EndT.ne {l : List Tk} (h : EndT l) : l ≠ [] := by obtain ⟨p, rfl⟩ := h; simp
theorem EndT.tl {t : Tk} {l : List Tk} (h : EndT (t :: l)) (hk : t.kind ≠ 5) : EndT l := by
  obtain ⟨p, hp⟩ := h
  cases p with
  | nil =>
    simp only [List.nil_append, List.cons.injEq] at hp
    rw [hp.1] at hk
    exact absurd rfl hk
  | cons a p => exact ⟨p, (List.cons.inj hp).2⟩
theorem seeT_kind {t : Tk} {l : List Tk} {s : List UInt8} (h : seeT (t :: l) s = true) : t.kind ≠ 5 := by
  simp only [seeT, Bool.and_eq_true, Bool.or_eq_true, beq_iff_eq] at h
  omega
set_option maxRecDepth 100000 in
set_option maxHeartbeats 8000000 in
theorem take_any {B : Nat} {w0 w : World} {R : Item} {gt gp : Nat} {l : List Tk} {y : Item} {M : List Item} (s : ByteArray) (hl : EndT l) (hP : PAt B w0 R gt gp l y) (hS : Hp B w0 w (y :: R :: M)) :
    Calls Tryz.prog 39 #[.pointer (some ⟨gp, 0, none⟩), .string s] w fun e w' => e = .returned (.bool (seeT l s.data.toList)) ∧ ∃ y', PAt B w0 R gt gp (if seeT l s.data.toList then l.tail else l) y' ∧ Hp B w0 w' (y' :: R :: M) := by
  have HSE := Lib.hid (fun (W : World) (h : Hp B w0 W (y :: R :: M)) => see_any s hl.ne hP h)
  have HP := Lib.hid hP
  obtain ⟨off, n, cap, q, rfl, hn, hc, hc2, rfl, hT⟩ := hP
  cases hb : seeT (q.map (·.1)) s.data.toList with
  | false =>
    rw [hb] at HSE
    clear hb hn hT
    go_enter Tryz.func39, Tryz.ntmps39
    go_wp2_with (first | (refine hab ?_; (try clear hF); clear hS; intro wk hS; (try simp only [List.set_cons_zero, List.set_cons_succ, heap_size, heap_set_size] at hS); ((try clear hF); refine hfI ?_; intro hF)) | (go_at_call 71; (with_reducible refine (HSE.out _ hS).mono ?_); rintro e wk ⟨rfl, hX⟩; replace hS := hS.step hX; clear hX; ((try clear hF); refine hfI ?_; intro hF)))
    go_ret
    exact ⟨rfl, _, HP.out, hS⟩
  | true =>
    have hx : ∃ x q', q = x :: q' ∧ q'.length + 1 = n ∧ 0 < q'.length := by
      cases q with
      | nil => simp [seeT] at hb
      | cons x q' =>
        have := (hl.tl (seeT_kind hb)).ne
        refine ⟨x, q', rfl, by simpa using hn, ?_⟩
        cases q' with
        | nil => exact absurd rfl this
        | cons _ _ => simp
    obtain ⟨x, q', rfl, hn2, hq0⟩ := hx
    have HT := Lib.hid hT.tl
    rw [hb] at HSE
    have h1 : 1 ≤ n := by omega
    have h1c : 1 ≤ cap := by omega
    clear hb hT hn HP
    go_enter Tryz.func39, Tryz.ntmps39
    go_wp2_with (first | (refine hab ?_; (try clear hF); clear hS; intro wk hS; (try simp only [List.set_cons_zero, List.set_cons_succ, heap_size, heap_set_size] at hS); ((try clear hF); refine hfI ?_; intro hF)) | (go_at_call 71; (with_reducible refine (HSE.out _ hS).mono ?_); rintro e wk ⟨rfl, hX⟩; replace hS := hS.step hX; clear hX; ((try clear hF); refine hfI ?_; intro hF)))
    go_ret
    refine ⟨rfl, _, ⟨off + 3, n - 1, cap - 1, q', rfl, by omega, by omega, by omega, rfl, HT.out⟩, ?_⟩
    exact hS
end Go.Proofs.YtlaldfkeaalnhaaGreatDoor

/- ask: the parser's steps: must, name, code, literal. -/
namespace Go.Proofs.YtlaldfkeaalnhaaGreatDoor
set_option linter.unusedSimpArgs false
set_option linter.unusedVariables false
open Go.RowKit
set_option linter.all false
theorem gsub2 {B : Nat} {w0 W : World} {a y R : Item} {M : List Item} (h : Hp B w0 W (a :: y :: R :: M)) : Hp B w0 W [R] := h.sub (by simp)
theorem gpar2 {B : Nat} {w0 W : World} {a y R : Item} {M : List Item} (h : Hp B w0 W (a :: y :: R :: M)) : Hp B w0 W (y :: R :: M) := h.tail
theorem grest1 {B : Nat} {w0 W : World} {y R : Item} {M : List Item} (h : Hp B w0 W (y :: R :: M)) : Hp B w0 W M := h.tail.tail
/-- the words that are no names, in the program's variable -/
def KeptA (w : World) : Prop := ∀ j, j < 11 → w.cell? ⟨1, j, none⟩ = some (.string (kept11.getD j ByteArray.empty))
theorem KeptA.ext {w w' : World} (h : KeptA w) (hx : Ext w w') : KeptA w' := fun j hj => hx.keeps (h j hj)
theorem keptA_any (s : ByteArray) (w : World) (h : KeptA w) : Calls Tryz.prog 23 #[.slice (some ⟨1, 0, none⟩) 11 11, .string s] w fun e w' => e = .returned (.bool (Lib.containsS kept11 s)) ∧ Ext w w' :=
  (Tryz.slices_Contains_string 1 0 11 11 kept11 s w (by decide) (by decide) (fun j hj => by rw [Nat.zero_add]; exact h j hj)).mono fun e w' ⟨h1, h2⟩ => ⟨h1, by rw [h2]; exact Ext.refl _⟩
/-- what stands all the time -/
def EnvA (B : Nat) (w0 : World) (R : Item) : Prop := ∀ W, Hp B w0 W [R] → KeptA W ∧ SynAt W ∧ RngAt W
set_option maxRecDepth 100000 in
set_option maxHeartbeats 8000000 in
theorem must_any {B : Nat} {w0 w : World} {R : Item} {gt gp : Nat} {l : List Tk} {y : Item} {M : List Item} (s : ByteArray) (hl : EndT l) (hP : PAt B w0 R gt gp l y) (hS : Hp B w0 w (y :: R :: M)) :
    Calls Tryz.prog 36 #[.pointer (some ⟨gp, 0, none⟩), .string s] w fun e w' =>
      if seeT l s.data.toList then e = .returned (.tuple #[]) ∧ ∃ y', PAt B w0 R gt gp l.tail y' ∧ Hp B w0 w' (y' :: R :: M) else Fails e ∧ Hp B w0 w' M := by
  have HTA := Lib.hid (fun (W : World) (h : Hp B w0 W (y :: R :: M)) => take_any s hl hP h)
  have HFL := Lib.hid (fun (y' : Item) (h' : PAt B w0 R gt gp l y') (W : World) (h : Hp B w0 W (y' :: R :: M)) => fail_any 3 hl.ne h' h)
  clear hP
  cases hb : seeT l s.data.toList with
  | true =>
    rw [hb] at HTA
    simp only [if_true] at HTA ⊢
    clear hb HFL hl
    go_enter Tryz.func36, Tryz.ntmps36
    go_wp2_with (first | (refine hab ?_; (try clear hF); clear hS; intro wk hS; (try simp only [List.set_cons_zero, List.set_cons_succ, heap_size, heap_set_size] at hS); ((try clear hF); refine hfI ?_; intro hF)) | (go_at_call 39; (with_reducible refine Calls.mono (HTA.out _ hS) ?_); clear hS; rintro e wk ⟨rfl, y', HY, hS⟩))
    go_end0
    exact ⟨rfl, y', HY, hS⟩
  | false =>
    rw [hb] at HTA
    simp only [Bool.false_eq_true, if_false] at HTA ⊢
    clear hb hl
    go_enter Tryz.func36, Tryz.ntmps36
    go_wp2_with (first | (refine hab ?_; (try clear hF); clear hS; intro wk hS; (try simp only [List.set_cons_zero, List.set_cons_succ, heap_size, heap_set_size] at hS); ((try clear hF); refine hfI ?_; intro hF)) | (go_at_call 39; (with_reducible refine Calls.mono (HTA.out _ hS) ?_); clear hS; rintro e wk ⟨rfl, y', HY, hS⟩) | (go_at_call 70; (with_reducible refine (HFL.out _ HY _ hS).mono ?_); rintro e wk ⟨⟨tp, pv, rfl⟩, hX⟩; replace hS := hS.step hX; clear hX))
    exact ⟨rfl, ⟨_, _, rfl⟩, grest1 hS⟩
def NameRes (B : Nat) (w0 : World) (R : Item) (gt gp : Nat) (M : List Item) (r : Option (ByteArray × List Tk)) (e : Ending) (w' : World) : Prop := match r with
  | some (n, r) => e = .returned (.string n) ∧ ∃ y', PAt B w0 R gt gp r y' ∧ Hp B w0 w' (y' :: R :: M)
  | none => Fails e ∧ Hp B w0 w' M
set_option maxRecDepth 100000 in
set_option maxHeartbeats 8000000 in
theorem name_par {B : Nat} {w0 w : World} {R : Item} {gt gp : Nat} {l : List Tk} {y : Item} {M : List Item} (hE : EnvA B w0 R) (hl : EndT l) (hP : PAt B w0 R gt gp l y) (hS : Hp B w0 w (y :: R :: M)) :
    Calls Tryz.prog 42 #[.pointer (some ⟨gp, 0, none⟩)] w (NameRes B w0 R gt gp M (nameP l)) := by
  have HFL := Lib.hid (fun (er : Int) (W : World) (h : Hp B w0 W (y :: R :: M)) => fail_any er hl.ne hP h)
  have HP := Lib.hid hP
  obtain ⟨off, n, cap, q, rfl, hn, hc, hc2, rfl, hT⟩ := hP
  cases q with
  | nil => exact absurd rfl hl.ne
  | cons x q =>
    have HRD := Lib.hid hT.hd
    have HTL := Lib.hid hT.tl
    have HKC := Lib.hid (fun (W : World) (h : Hp B w0 W [R]) => keptA_any x.1.text W (hE W h).1)
    have HNM := Lib.hid (fun (W : World) => name_any x.1.text W)
    have hE1 : x.1.kind ≠ 5 → EndT (q.map (·.1)) := fun h => EndT.tl (by simpa using hl) h
    have hn0 : 0 < n := by rw [← hn]; simp
    have hq : q.length = n - 1 := by rw [← hn]; simp
    have hE2 : x.1.kind ≠ 5 → 1 ≤ q.length := fun h => by
      have := (hE1 h).ne
      cases q with
      | nil => exact absurd rfl this
      | cons _ _ => simp
    clear hE hT hn hl hE1
    obtain ⟨⟨kd, tx⟩, pos⟩ := x
    simp only at HRD HKC HNM hE2
    obtain ⟨D, hD⟩ : ∃ D, D = nameP (((⟨kd, tx⟩, pos) :: q : List (Tk × Nat)).map (·.1)) := ⟨_, rfl⟩
    rw [← hD]
    by_cases hk : kd = 1
    · have hq1 := hE2 (by omega)
      have h1 : 1 ≤ n := by omega
      have h1c : 1 ≤ cap := by omega
      have q1 : (kd == 1) = true := by simp [hk]
      subst hk
      clear hE2
      cases hcn : Lib.containsS kept11 tx with
      | true =>
        rw [hcn] at HKC
        obtain rfl : D = none := by rw [hD]; simp [nameP, nameT, hcn]
        clear hcn HNM HTL hD
        ((try clear hF); refine hfI ?_; intro hF)
        go_enter Tryz.func42, Tryz.ntmps42
        go_wp2_with (first | (refine hab ?_; (try clear hF); clear hS; intro wk hS; (try simp only [List.set_cons_zero, List.set_cons_succ, heap_size, heap_set_size] at hS); ((try clear hF); refine hfI ?_; intro hF)) | (first | (with_reducible refine wp_region_hp (draw := true) (by kernel_rfl) (by kernel_rfl) hS ?_) | ((with_reducible refine Fixed.here ?_); (first | ((with_reducible apply Fixed.skip); (first | rfl | exact wanted_false rfl rfl rfl (by assumption)); try simp only [Act.put, List.setIfInBounds_toArray, List.set_cons_zero, List.set_cons_succ]) | ((with_reducible apply Fixed.val); (first | rfl | exact wanted_true rfl rfl rfl (by assumption)); (rintro w hS; ((try clear hF); refine hfI ?_; intro hF); go_simp; with_reducible rfl); try simp only [Act.put, List.setIfInBounds_toArray, List.set_cons_zero, List.set_cons_succ]) | ((with_reducible apply Fixed.call); (first | rfl | exact wanted_true rfl rfl rfl (by assumption)); (rintro w hS; ((try clear hF); refine hfI ?_; intro hF); go_simp; exact ⟨rfl, rfl⟩); (rintro w hS; first | (with_reducible exact (HKC.out _ (gsub2 hS)))); try simp only [Act.put, List.setIfInBounds_toArray, List.set_cons_zero, List.set_cons_succ]) | ((with_reducible apply Fixed.guardT); rfl; rfl; rfl; (all_goals intro hg)) | ((with_reducible apply Fixed.guardF); rfl; rfl; rfl; (all_goals intro hg)) | (with_reducible refine Fixed.done ?_; (try clear hF); clear hS; intro wk hS; ((try clear hF); refine hfI ?_; intro hF))))) | (go_at_call 70; (with_reducible refine (HFL.out _ _ (gpar2 hS)).mono ?_); rintro e wk ⟨⟨tp, pv, rfl⟩, hX⟩; replace hS := hS.step hX; clear hX))
        exact ⟨rfl, ⟨_, _, rfl⟩, grest1 (gpar2 hS)⟩
      | false =>
        rw [hcn] at HKC
        cases hnb : nameB tx with
        | false =>
          rw [hnb] at HNM
          obtain rfl : D = none := by rw [hD]; simp [nameP, nameT, hnb]
          clear hnb HTL hD hcn
          ((try clear hF); refine hfI ?_; intro hF)
          go_enter Tryz.func42, Tryz.ntmps42
          go_wp2_with (first | (refine hab ?_; (try clear hF); clear hS; intro wk hS; (try simp only [List.set_cons_zero, List.set_cons_succ, heap_size, heap_set_size] at hS); ((try clear hF); refine hfI ?_; intro hF)) | (first | (with_reducible refine wp_region_hp (draw := true) (by kernel_rfl) (by kernel_rfl) hS ?_) | ((with_reducible refine Fixed.here ?_); (first | ((with_reducible apply Fixed.skip); (first | rfl | exact wanted_false rfl rfl rfl (by assumption)); try simp only [Act.put, List.setIfInBounds_toArray, List.set_cons_zero, List.set_cons_succ]) | ((with_reducible apply Fixed.val); (first | rfl | exact wanted_true rfl rfl rfl (by assumption)); (rintro w hS; ((try clear hF); refine hfI ?_; intro hF); go_simp; with_reducible rfl); try simp only [Act.put, List.setIfInBounds_toArray, List.set_cons_zero, List.set_cons_succ]) | ((with_reducible apply Fixed.call); (first | rfl | exact wanted_true rfl rfl rfl (by assumption)); (rintro w hS; ((try clear hF); refine hfI ?_; intro hF); go_simp; exact ⟨rfl, rfl⟩); (rintro w hS; first | (with_reducible exact (HKC.out _ (gsub2 hS)))); try simp only [Act.put, List.setIfInBounds_toArray, List.set_cons_zero, List.set_cons_succ]) | ((with_reducible apply Fixed.guardT); rfl; rfl; rfl; (all_goals intro hg)) | ((with_reducible apply Fixed.guardF); rfl; rfl; rfl; (all_goals intro hg)) | (with_reducible refine Fixed.done ?_; (try clear hF); clear hS; intro wk hS; ((try clear hF); refine hfI ?_; intro hF))))) | (go_at_call 73; (with_reducible refine (HNM.out _).mono ?_); rintro e wk ⟨rfl, hX⟩; replace hS := hS.step hX; clear hX; ((try clear hF); refine hfI ?_; intro hF)) | (go_at_call 70; (with_reducible refine (HFL.out _ _ (gpar2 hS)).mono ?_); rintro e wk ⟨⟨tp, pv, rfl⟩, hX⟩; replace hS := hS.step hX; clear hX))
          exact ⟨rfl, ⟨_, _, rfl⟩, grest1 (gpar2 hS)⟩
        | true =>
          rw [hnb] at HNM
          obtain rfl : D = some (tx, q.map (·.1)) := by rw [hD]; simp [nameP, nameT, hnb, hcn]
          clear hnb HFL HP hD hcn
          ((try clear hF); refine hfI ?_; intro hF)
          go_enter Tryz.func42, Tryz.ntmps42
          go_wp2_with (first | (refine hab ?_; (try clear hF); clear hS; intro wk hS; (try simp only [List.set_cons_zero, List.set_cons_succ, heap_size, heap_set_size] at hS); ((try clear hF); refine hfI ?_; intro hF)) | (first | (with_reducible refine wp_region_hp (draw := true) (by kernel_rfl) (by kernel_rfl) hS ?_) | ((with_reducible refine Fixed.here ?_); (first | ((with_reducible apply Fixed.skip); (first | rfl | exact wanted_false rfl rfl rfl (by assumption)); try simp only [Act.put, List.setIfInBounds_toArray, List.set_cons_zero, List.set_cons_succ]) | ((with_reducible apply Fixed.val); (first | rfl | exact wanted_true rfl rfl rfl (by assumption)); (rintro w hS; ((try clear hF); refine hfI ?_; intro hF); go_simp; with_reducible rfl); try simp only [Act.put, List.setIfInBounds_toArray, List.set_cons_zero, List.set_cons_succ]) | ((with_reducible apply Fixed.call); (first | rfl | exact wanted_true rfl rfl rfl (by assumption)); (rintro w hS; ((try clear hF); refine hfI ?_; intro hF); go_simp; exact ⟨rfl, rfl⟩); (rintro w hS; first | (with_reducible exact (HKC.out _ (gsub2 hS)))); try simp only [Act.put, List.setIfInBounds_toArray, List.set_cons_zero, List.set_cons_succ]) | ((with_reducible apply Fixed.guardT); rfl; rfl; rfl; (all_goals intro hg)) | ((with_reducible apply Fixed.guardF); rfl; rfl; rfl; (all_goals intro hg)) | (with_reducible refine Fixed.done ?_; (try clear hF); clear hS; intro wk hS; ((try clear hF); refine hfI ?_; intro hF))))) | (go_at_call 73; (with_reducible refine (HNM.out _).mono ?_); rintro e wk ⟨rfl, hX⟩; replace hS := hS.step hX; clear hX; ((try clear hF); refine hfI ?_; intro hF)))
          go_ret
          refine ⟨rfl, _, ⟨off + 3, n - 1, cap - 1, q, rfl, hq, by omega, by omega, rfl, HTL.out⟩, ?_⟩
          exact hS.tail
    · have q1 : (kd == 1) = false := by simp [hk]
      have q2 : (kd != 1) = true := by simp [hk]
      obtain rfl : D = none := by rw [hD]; simp [nameP, nameT, hk]
      clear hE2 HKC HNM HTL hk hD
      ((try clear hF); refine hfI ?_; intro hF)
      go_enter Tryz.func42, Tryz.ntmps42
      go_wp2_with (first | (refine hab ?_; (try clear hF); clear hS; intro wk hS; (try simp only [List.set_cons_zero, List.set_cons_succ, heap_size, heap_set_size] at hS); ((try clear hF); refine hfI ?_; intro hF)) | (first | (with_reducible refine wp_region_hp (draw := true) (by kernel_rfl) (by kernel_rfl) hS ?_) | ((with_reducible refine Fixed.here ?_); (first | ((with_reducible apply Fixed.skip); (first | rfl | exact wanted_false rfl rfl rfl (by assumption)); try simp only [Act.put, List.setIfInBounds_toArray, List.set_cons_zero, List.set_cons_succ]) | ((with_reducible apply Fixed.val); (first | rfl | exact wanted_true rfl rfl rfl (by assumption)); (rintro w hS; ((try clear hF); refine hfI ?_; intro hF); go_simp; with_reducible rfl); try simp only [Act.put, List.setIfInBounds_toArray, List.set_cons_zero, List.set_cons_succ]) | ((with_reducible apply Fixed.guardT); rfl; rfl; rfl; (all_goals intro hg)) | ((with_reducible apply Fixed.guardF); rfl; rfl; rfl; (all_goals intro hg)) | (with_reducible refine Fixed.done ?_; (try clear hF); clear hS; intro wk hS; ((try clear hF); refine hfI ?_; intro hF))))) | (go_at_call 70; (with_reducible refine (HFL.out _ _ (gpar2 hS)).mono ?_); rintro e wk ⟨⟨tp, pv, rfl⟩, hX⟩; replace hS := hS.step hX; clear hX))
      exact ⟨rfl, ⟨_, _, rfl⟩, grest1 (gpar2 hS)⟩
end Go.Proofs.YtlaldfkeaalnhaaGreatDoor

/- Slices of columns: what their cells hold; IndexFunc, ContainsFunc, Find. -/
namespace Go.Proofs.YtlaldfkeaalnhaaGreatDoor
set_option linter.all false
set_option linter.unusedSimpArgs false
set_option linter.unusedVariables false
open Go.RowKit
def cellsC : List CG → List Value
  | [] => []
  | c :: l => .int .i64 c.id :: .string c.name :: .int .i64 c.kind :: .bool c.must :: .int .i64 c.d.kind :: .int .i64 c.d.num :: .string c.d.text :: cellsC l
/-- the slice at A reads as the columns l -/
def RC (w : World) (A : Option Addr) (l : List CG) : Prop :=
  ∀ (i : Nat) (c : CG), l[i]? = some c → ∃ b o : Nat, A = some ⟨b, o, none⟩ ∧ w.cell? ⟨b, o + i * 7, none⟩ = some (.int .i64 c.id) ∧ w.cell? ⟨b, o + i * 7 + 1, none⟩ = some (.string c.name) ∧ w.cell? ⟨b, o + i * 7 + 2, none⟩ = some (.int .i64 c.kind) ∧ w.cell? ⟨b, o + i * 7 + 3, none⟩ = some (.bool c.must) ∧ w.cell? ⟨b, o + i * 7 + 4, none⟩ = some (.int .i64 c.d.kind) ∧ w.cell? ⟨b, o + i * 7 + 5, none⟩ = some (.int .i64 c.d.num) ∧ w.cell? ⟨b, o + i * 7 + 6, none⟩ = some (.string c.d.text)
theorem RC.ext {w w' : World} {A : Option Addr} {l : List CG} (h : RC w A l) (hx : Ext w w') : RC w' A l := fun i c hi => by
  obtain ⟨b, o, hA, h0, h1, h2, h3, h4, h5, h6⟩ := h i c hi
  exact ⟨b, o, hA, hx.keeps h0, hx.keeps h1, hx.keeps h2, hx.keeps h3, hx.keeps h4, hx.keeps h5, hx.keeps h6⟩
theorem cellsC_len : ∀ l : List CG, (cellsC l).length = l.length * 7
  | [] => rfl
  | x :: l => by simp [cellsC, cellsC_len l]; omega
theorem cellsC_one : ∀ (l : List CG), ∀ u ∈ cellsC l, u.oneCell' = true
  | [], u, h => by cases h
  | x :: l, u, h => by
    simp only [cellsC, List.mem_cons] at h
    rcases h with rfl | rfl | rfl | rfl | rfl | rfl | rfl | h
    all_goals first | rfl | exact cellsC_one l u h
theorem cellsC_at : ∀ (l : List CG) (i : Nat) (c : CG), l[i]? = some c → (cellsC l)[i * 7]? = some (.int .i64 c.id) ∧ (cellsC l)[i * 7 + 1]? = some (.string c.name) ∧ (cellsC l)[i * 7 + 2]? = some (.int .i64 c.kind) ∧ (cellsC l)[i * 7 + 3]? = some (.bool c.must) ∧ (cellsC l)[i * 7 + 4]? = some (.int .i64 c.d.kind) ∧ (cellsC l)[i * 7 + 5]? = some (.int .i64 c.d.num) ∧ (cellsC l)[i * 7 + 6]? = some (.string c.d.text)
  | [], i, x, h => by simp at h
  | y :: l, 0, x, h => by simp at h; subst h; simp [cellsC]
  | y :: l, i + 1, x, h => by
    have := cellsC_at l i x (by simpa using h)
    rw [show (i + 1) * 7 = i * 7 + 7 by omega]
    simpa [cellsC] using this
theorem RC.block {w : World} {l : List CG} {g : Nat} {cs : Array Value} {t : TypeId} {fr : Nat × Nat} (h : w.heap[g]? = some (.cells cs t fr)) (hcs : cs = (cellsC l).toArray) : RC w (some ⟨g, 0, none⟩) l := fun i x hi => by
  subst hcs
  obtain ⟨h0, h1, h2, h3, h4, h5, h6⟩ := cellsC_at l i x hi
  refine ⟨g, 0, rfl, ?_, ?_, ?_, ?_, ?_, ?_, ?_⟩ <;> simp [World.cell?, h, *]
theorem Tryz.elem_cols : Elem Tryz.prog 22 31 7 72 := by
  obtain ⟨i0, hi0, hz0, hz1, hz2⟩ := info_parts (show (Tryz.prog.info? 31).map (fun i => (i.zero, i.size, i.bytes)) = some (some (.agg #[.int .i64 0, .string ⟨#[]⟩, .int .i64 0, .bool false, .int .i64 0, .int .i64 0, .string ⟨#[]⟩]), 7, 72) by kernel_rfl)
  exact ⟨Tryz.underlying22, ⟨i0, _, hi0, hz0, hz1, hz2, rfl⟩, by omega⟩
abbrev cRow (A : Option Addr) (cap : Nat) (l : List CG) : Item := .row 31 7 A l.length cap (cellsC l)
theorem Hp.rc {B : Nat} {w0 w : World} {L : List Item} {A : Option Addr} {cap n : Nat} {l : List CG} (h : Hp B w0 w L) (i : Nat) (hi : L[i]? = some (.row 31 7 A n cap (cellsC l))) : RC w A l := fun j x hj => by
  obtain ⟨h0, h1, h2, h3, h4, h5, h6⟩ := cellsC_at l j x hj
  obtain ⟨g, hg, c0, _⟩ := h.rowCell i hi h0
  obtain ⟨g1, hg1, c1, _⟩ := h.rowCell i hi h1
  obtain ⟨g2, hg2, c2, _⟩ := h.rowCell i hi h2
  obtain ⟨g3, hg3, c3, _⟩ := h.rowCell i hi h3
  obtain ⟨g4, hg4, c4, _⟩ := h.rowCell i hi h4
  obtain ⟨g5, hg5, c5, _⟩ := h.rowCell i hi h5
  obtain ⟨g6, hg6, c6, _⟩ := h.rowCell i hi h6
  rw [hg] at hg1 hg2 hg3 hg4 hg5 hg6
  simp only [Option.some.injEq, Addr.mk.injEq, and_true] at hg1 hg2 hg3 hg4 hg5 hg6
  subst hg1 hg2 hg3 hg4 hg5 hg6
  refine ⟨g, 0, hg, ?_, ?_, ?_, ?_, ?_, ?_, ?_⟩ <;> rw [Nat.zero_add] <;> assumption
/-- the first place, from k on, where p holds; or -1 -/
def idxC (p : CG → Bool) : Nat → List CG → Int
  | _, [] => -1
  | k, x :: l => if p x then k else idxC p (k + 1) l
theorem idxC_any (p : CG → Bool) : ∀ (l : List CG) (k : Nat), decide (0 ≤ idxC p k l) = l.any p
  | [], k => rfl
  | x :: l, k => by
    unfold idxC
    rw [List.any_cons]
    cases h : p x with
    | true => simp
    | false => simpa using idxC_any p l (k + 1)
theorem dropC_at {l : List CG} {k : Nat} {x : CG} (h : l[k]? = some x) : l.drop k = x :: l.drop (k + 1) := by
  obtain ⟨h1, e⟩ := List.getElem?_eq_some_iff.1 h
  rw [List.drop_eq_getElem_cons h1, e]
/-- a function that is called: it answers p of a column, and leaves all as it was -/
def PredC (w0 : World) (g : Nat) (lb : Array Value) (p : CG → Bool) : Prop :=
  ∀ W, Ext w0 W → ∀ c : CG, Calls Tryz.prog g (#[.agg #[.int .i64 c.id, .string c.name, .int .i64 c.kind, .bool c.must, .int .i64 c.d.kind, .int .i64 c.d.num, .string c.d.text]] ++ lb) W fun e w' => e = .returned (.bool (p c)) ∧ Ext W w'
theorem PredC.at {w0 : World} {g : Nat} {lb : Array Value} {p : CG → Bool} (h : PredC w0 g lb p) (W : World) (hx : Ext w0 W) (c : CG) : Calls Tryz.prog g (#[.agg #[.int .i64 c.id, .string c.name, .int .i64 c.kind, .bool c.must, .int .i64 c.d.kind, .int .i64 c.d.num, .string c.d.text]] ++ lb) W fun e w' => e = .returned (.bool (p c)) ∧ Ext W w' := h W hx c
set_option maxRecDepth 100000 in
set_option maxHeartbeats 8000000 in
theorem cindexFunc_any (l : List CG) (A : Option Addr) (cap : Nat) (g : Nat) (lb : Array Value) (p : CG → Bool) (w : World) (hr : RC w A l) (hl : l.length ≤ 140737488355328) (eg : ∀ args w, (callFunc g args).run Tryz.prog w = .ok (.enter g args) w) (hp : PredC w g lb p) :
    Calls Tryz.prog 61 #[.slice A l.length cap, .func (.func g) #[] lb] w fun e w' => e = .returned (.int .i64 (idxC p 0 l)) ∧ Ext w w' := by
  obtain ⟨n, hn⟩ : ∃ n, n = l.length := ⟨_, rfl⟩
  rw [← hn]
  have Hn := Lib.hid hn
  rw [← hn] at hl
  clear hn
  have HP := Lib.hid hp
  clear hp
  have hS := Hp.init w
  have hR := Reads.nil w
  go_enter Tryz.func61, Tryz.ntmps61
  go_wp2_with (first | (refine hab ?_; (try clear hF); clear hS; intro wk hS; (try simp only [List.set_cons_zero, List.set_cons_succ, heap_size, heap_set_size] at hS); ((try clear hF); refine hfI ?_; intro hF)) | fail)
  go_loopw [8, 5] (fun i _ wr => ∃ k : Nat, i = .int .i64 k ∧ k ≤ n ∧ Hid (idxC p 0 l = idxC p k (l.drop k)) ∧ Hp w.heap.size w wr []) (fun i _ _ => n - (intOf i).toNat)
  case atStart => exact ⟨0, rfl, Nat.zero_le _, Lib.hid rfl, hS⟩
  case round =>
    clear hS
    obtain ⟨k, rfl, hk, hf, hS⟩ := hrel
    by_cases hlt : k < n
    · have hlt' : k < l.length := by rw [← Hn.out]; exact hlt
      obtain ⟨x, hx'⟩ : ∃ x, l[k]? = some x := ⟨l[k], List.getElem?_eq_getElem hlt'⟩
      obtain ⟨b, o, rfl, c0, c1, c2, c3, c4, c5, c6⟩ := hr k x hx'
      have hR := Reads.cell c0 (Reads.cell c1 (Reads.cell c2 (Reads.cell c3 (Reads.cell c4 (Reads.cell c5 (Reads.cell c6 (Reads.nil w)))))))
      have HD := Lib.hid (dropC_at hx')
      clear hx' hlt' c0 c1 c2 c3 c4 c5 c6 hr
      ((try clear hF); refine hfI ?_; intro hF)
      go_wp2_with (first | (refine hab ?_; (try clear hF); clear hS; intro wk hS; (try simp only [List.set_cons_zero, List.set_cons_succ, heap_size, heap_set_size] at hS); ((try clear hF); refine hfI ?_; intro hF)) | ((with_reducible refine (HP.out.at _ hS.ext x).mono ?_); rintro e wk ⟨rfl, hX⟩; replace hS := hS.step hX; clear hX; ((try clear hF); refine hfI ?_; intro hF)))
      · go_ret
        refine ⟨?_, hS.ext⟩
        have hc : p x = true := by assumption
        rw [hf.out, HD.out, idxC, if_pos hc]; first | done | rfl
      · go_roundw
        case rel =>
          have hc : p x = false := by assumption
          exact ⟨k + 1, by go_num, by omega, Lib.hid (by rw [hf.out, HD.out, idxC, if_neg (by rw [hc]; simp)]), hS⟩
        case measure => simp [intOf]; omega
    · obtain rfl : k = n := by omega
      ((try clear hF); refine hfI ?_; intro hF)
      go_wp2_with (first | (refine hab ?_; (try clear hF); clear hS; intro wk hS; (try simp only [List.set_cons_zero, List.set_cons_succ, heap_size, heap_set_size] at hS); ((try clear hF); refine hfI ?_; intro hF)) | fail)
      go_ret
      exact ⟨by rw [hf.out, Hn.out, List.drop_length]; rfl, hS.ext⟩
set_option maxRecDepth 100000 in
set_option maxHeartbeats 8000000 in
theorem ccontainsFunc_any (l : List CG) (A : Option Addr) (cap : Nat) (g : Nat) (lb : Array Value) (p : CG → Bool) (w : World) (hr : RC w A l) (hl : l.length ≤ 140737488355328) (eg : ∀ args w, (callFunc g args).run Tryz.prog w = .ok (.enter g args) w) (hp : PredC w g lb p) :
    Calls Tryz.prog 21 #[.slice A l.length cap, .func (.func g) #[] lb] w fun e w' => e = .returned (.bool (l.any p)) ∧ Ext w w' := by
  have hI := fun (W : World) (hx : Ext w W) => cindexFunc_any l A cap g lb p W (hr.ext hx) hl eg (fun W' hx' => hp W' (hx.trans hx'))
  have HI := Lib.hid hI
  have HA := Lib.hid (idxC_any p l 0)
  clear hI hr hp
  have hS := Hp.init w
  have hR := Reads.nil w
  go_enter Tryz.func21, Tryz.ntmps21
  go_wp2_with (first | (refine hab ?_; (try clear hF); clear hS; intro wk hS; (try simp only [List.set_cons_zero, List.set_cons_succ, heap_size, heap_set_size] at hS); ((try clear hF); refine hfI ?_; intro hF)) | (go_at_call 61; (with_reducible refine (HI.out _ hS.ext).mono ?_); rintro e wk ⟨rfl, hX⟩; replace hS := hS.step hX; clear hX; ((try clear hF); refine hfI ?_; intro hF)))
  go_ret
  exact ⟨by rw [HA.out]; first | done | rfl, hS.ext⟩
def nmEq (nm : ByteArray) (c : CG) : Bool := c.name.toList == nm.toList
def clashC (c d : CG) : Bool := d.id == c.id || d.name.toList == c.name.toList
set_option maxRecDepth 100000 in
set_option maxHeartbeats 8000000 in
theorem right1c_any (c d : CG) (bk : Nat) (w : World) (h : w.cell? ⟨bk, 0, none⟩ = some (.int .i64 c.id)) (h1 : w.cell? ⟨bk, 1, none⟩ = some (.string c.name)) :
    Calls Tryz.prog 84 #[.agg #[.int .i64 d.id, .string d.name, .int .i64 d.kind, .bool d.must, .int .i64 d.d.kind, .int .i64 d.d.num, .string d.d.text], .pointer (some ⟨bk, 0, none⟩)] w fun e w' => e = .returned (.bool (clashC c d)) ∧ Ext w w' := by
  have hS := Hp.init w
  have hR := Reads.cell h (Reads.cell h1 (Reads.nil w))
  clear h h1
  unfold clashC
  by_cases hid : d.id = c.id
  · ((try clear hF); refine hfI ?_; intro hF)
    go_enter Tryz.func84, Tryz.ntmps84
    go_wp2_with (first | (refine hab ?_; (try clear hF); clear hS; intro wk hS; (try simp only [List.set_cons_zero, List.set_cons_succ, heap_size, heap_set_size] at hS); ((try clear hF); refine hfI ?_; intro hF)) | fail)
    go_ret
    refine ⟨?_, hS.ext⟩
    simp [hid]
  · ((try clear hF); refine hfI ?_; intro hF)
    go_enter Tryz.func84, Tryz.ntmps84
    go_wp2_with (first | (refine hab ?_; (try clear hF); clear hS; intro wk hS; (try simp only [List.set_cons_zero, List.set_cons_succ, heap_size, heap_set_size] at hS); ((try clear hF); refine hfI ?_; intro hF)) | fail)
    go_ret
    refine ⟨?_, hS.ext⟩
    simp [hid]
theorem eg_right1 : ∀ args w, (callFunc 84 args).run Tryz.prog w = .ok (.enter 84 args) w := fun _ _ => by kernel_rfl
end Go.Proofs.YtlaldfkeaalnhaaGreatDoor

/- schema.Right. -/
namespace Go.Proofs.YtlaldfkeaalnhaaGreatDoor
set_option linter.all false
set_option linter.unusedSimpArgs false
set_option linter.unusedVariables false
open Go.RowKit
theorem RC.take {w : World} {A : Option Addr} {l : List CG} (h : RC w A l) (k : Nat) : RC w A (l.take k) := fun i c hi => by
  rw [List.getElem?_take] at hi
  split at hi
  · exact h i c hi
  · cases hi
def rgt (next : Int) : List CG → List CG → Bool
  | _, [] => true
  | pre, c :: r => colB c && decide (c.id < next) && !pre.any (clashC c) && rgt next (pre ++ [c]) r
/-- whether columns may be a table's -/
def rightC (l : List CG) (next : Int) : Bool := rgt next [] l && (decide (1 ≤ l.length) && decide (l.length ≤ 8))
set_option maxRecDepth 100000 in
set_option maxHeartbeats 8000000 in
theorem sright_any (l : List CG) (A : Option Addr) (cap : Nat) (next : Int) (w : World) (hr : RC w A l) (hl : l.length ≤ 140737488355328) (hcap : l.length ≤ cap) (hK : KeptAt w) :
    Calls Tryz.prog 54 #[.slice A l.length cap, .int .i64 next] w fun e w' => e = .returned (.bool (rightC l next)) ∧ Ext w w' := by
  obtain ⟨n, hn⟩ : ∃ n, n = l.length := ⟨_, rfl⟩
  unfold rightC
  rw [← hn]
  have Hn := Lib.hid hn
  rw [← hn] at hl hcap
  clear hn
  have hS := Hp.init w
  have hR := Reads.nil w
  go_enter Tryz.func54, Tryz.ntmps54
  go_wp2_with (first | (refine hab ?_; (try clear hF); clear hS; intro wk hS; (try simp only [List.set_cons_zero, List.set_cons_succ, heap_size, heap_set_size] at hS); ((try clear hF); refine hfI ?_; intro hF)) | fail)
  go_loopw [9] (fun i wr => ∃ k : Nat, i = .int .i64 k ∧ k ≤ n ∧ Hid (rgt next [] l = rgt next (l.take k) (l.drop k)) ∧ Hp w.heap.size w wr []) (fun i _ => n - (intOf i).toNat)
  case atStart => exact ⟨0, rfl, Nat.zero_le _, Lib.hid rfl, hS⟩
  case round =>
    clear hS
    obtain ⟨k, rfl, hk, hf, hS⟩ := hrel
    by_cases hlt : k < n
    · have hlt' : k < l.length := by rw [← Hn.out]; exact hlt
      obtain ⟨c, hx'⟩ : ∃ x, l[k]? = some x := ⟨l[k], List.getElem?_eq_getElem hlt'⟩
      obtain ⟨cb, hcb⟩ : ∃ b, b = colB c := ⟨_, rfl⟩
      obtain ⟨ib, hib⟩ : ∃ b, b = decide (c.id < next) := ⟨_, rfl⟩
      obtain ⟨xb, hxb⟩ : ∃ b, b = (l.take k).any (clashC c) := ⟨_, rfl⟩
      have HCB := Lib.hid (fun (W : World) hx => column_any c W (hK.ext (w' := W) hx))
      have HXB := Lib.hid (fun (W : World) bk (hx : Ext w W) (h0 : W.cell? ⟨bk, 0, none⟩ = some (.int .i64 c.id)) (h1 : W.cell? ⟨bk, 1, none⟩ = some (.string c.name)) => show Calls Tryz.prog 21 #[.slice A k cap, .func (.func 84) #[] #[.pointer (some ⟨bk, 0, none⟩)]] W fun e w' => e = .returned (.bool ((l.take k).any (clashC c))) ∧ Ext W w' from by
        have := ccontainsFunc_any (l.take k) A cap 84 #[.pointer (some ⟨bk, 0, none⟩)] (clashC c) W ((hr.ext hx).take k) (by rw [List.length_take]; omega) eg_right1 (fun W' hx' d => right1c_any c d bk W' (hx'.keeps h0) (hx'.keeps h1))
        rw [List.length_take, Nat.min_eq_left (by omega)] at this
        exact this)
      have HST := Lib.hid (show rgt next (l.take k) (l.drop k) = (colB c && decide (c.id < next) && !(l.take k).any (clashC c) && rgt next (l.take (k + 1)) (l.drop (k + 1))) by
        rw [dropC_at hx', rgt, List.take_add_one, hx']; rfl)
      obtain ⟨b, o, rfl, c0, c1, c2, c3, c4, c5, c6⟩ := hr k c hx'
      have hR := Reads.cell c0 (Reads.cell c1 (Reads.cell c2 (Reads.cell c3 (Reads.cell c4 (Reads.cell c5 (Reads.cell c6 (Reads.nil w)))))))
      rw [← hcb] at HCB HST
      rw [← hxb] at HXB HST
      clear hx' hlt' c0 c1 c2 c3 c4 c5 c6 hr hcb hxb
      by_cases hid : next ≤ c.id
      · have hdi : decide (next ≤ c.id) = true := by simp [hid]
        have hdf : decide (c.id < next) = false := by simp; omega
        rw [hdf] at HST
        clear hid hdf hib ib
        cases cb with
        | false =>
          ((try clear hF); refine hfI ?_; intro hF)
          go_wp2_with (first | (refine hab ?_; (try clear hF); clear hS; intro wk hS; (try simp only [List.set_cons_zero, List.set_cons_succ, heap_size, heap_set_size] at hS); ((try clear hF); refine hfI ?_; intro hF)) | (go_at_call 83; (with_reducible refine (HCB.out _ hS.ext).mono ?_); rintro e wk ⟨rfl, hX⟩; replace hS := hS.step hX; clear hX; ((try clear hF); refine hfI ?_; intro hF)) | (go_at_call 21; (with_reducible refine (HXB.out _ _ hS.ext hF.1.1.1 hF.1.2.1.1).mono ?_); rintro e wk ⟨rfl, hX⟩; replace hS := hS.step hX; clear hX; ((try clear hF); refine hfI ?_; intro hF)))
          go_ret
          exact ⟨by rw [hf.out, HST.out]; rfl, hS.ext⟩
        | true =>
          ((try clear hF); refine hfI ?_; intro hF)
          go_wp2_with (first | (refine hab ?_; (try clear hF); clear hS; intro wk hS; (try simp only [List.set_cons_zero, List.set_cons_succ, heap_size, heap_set_size] at hS); ((try clear hF); refine hfI ?_; intro hF)) | (go_at_call 83; (with_reducible refine (HCB.out _ hS.ext).mono ?_); rintro e wk ⟨rfl, hX⟩; replace hS := hS.step hX; clear hX; ((try clear hF); refine hfI ?_; intro hF)) | (go_at_call 21; (with_reducible refine (HXB.out _ _ hS.ext hF.1.1.1 hF.1.2.1.1).mono ?_); rintro e wk ⟨rfl, hX⟩; replace hS := hS.step hX; clear hX; ((try clear hF); refine hfI ?_; intro hF)))
          go_ret
          exact ⟨by rw [hf.out, HST.out]; rfl, hS.ext⟩
      · have hdi : decide (next ≤ c.id) = false := by simp; omega
        have hdf : decide (c.id < next) = true := by simp; omega
        rw [hdf] at HST
        clear hid hdf hib ib
        cases cb with
        | false =>
          ((try clear hF); refine hfI ?_; intro hF)
          go_wp2_with (first | (refine hab ?_; (try clear hF); clear hS; intro wk hS; (try simp only [List.set_cons_zero, List.set_cons_succ, heap_size, heap_set_size] at hS); ((try clear hF); refine hfI ?_; intro hF)) | (go_at_call 83; (with_reducible refine (HCB.out _ hS.ext).mono ?_); rintro e wk ⟨rfl, hX⟩; replace hS := hS.step hX; clear hX; ((try clear hF); refine hfI ?_; intro hF)) | (go_at_call 21; (with_reducible refine (HXB.out _ _ hS.ext hF.1.1.1 hF.1.2.1.1).mono ?_); rintro e wk ⟨rfl, hX⟩; replace hS := hS.step hX; clear hX; ((try clear hF); refine hfI ?_; intro hF)))
          go_ret
          exact ⟨by rw [hf.out, HST.out]; rfl, hS.ext⟩
        | true =>
          cases xb with
          | false =>
            ((try clear hF); refine hfI ?_; intro hF)
            go_wp2_with (first | (refine hab ?_; (try clear hF); clear hS; intro wk hS; (try simp only [List.set_cons_zero, List.set_cons_succ, heap_size, heap_set_size] at hS); ((try clear hF); refine hfI ?_; intro hF)) | (go_at_call 83; (with_reducible refine (HCB.out _ hS.ext).mono ?_); rintro e wk ⟨rfl, hX⟩; replace hS := hS.step hX; clear hX; ((try clear hF); refine hfI ?_; intro hF)) | (go_at_call 21; (with_reducible refine (HXB.out _ _ hS.ext hF.1.1.1 hF.1.2.1.1).mono ?_); rintro e wk ⟨rfl, hX⟩; replace hS := hS.step hX; clear hX; ((try clear hF); refine hfI ?_; intro hF)))
            go_roundw
            case rel => exact ⟨k + 1, by go_num, by omega, Lib.hid (by rw [hf.out, HST.out]; rfl), hS.sub (by simp)⟩
            case measure => simp [intOf]; omega
          | true =>
            ((try clear hF); refine hfI ?_; intro hF)
            go_wp2_with (first | (refine hab ?_; (try clear hF); clear hS; intro wk hS; (try simp only [List.set_cons_zero, List.set_cons_succ, heap_size, heap_set_size] at hS); ((try clear hF); refine hfI ?_; intro hF)) | (go_at_call 83; (with_reducible refine (HCB.out _ hS.ext).mono ?_); rintro e wk ⟨rfl, hX⟩; replace hS := hS.step hX; clear hX; ((try clear hF); refine hfI ?_; intro hF)) | (go_at_call 21; (with_reducible refine (HXB.out _ _ hS.ext hF.1.1.1 hF.1.2.1.1).mono ?_); rintro e wk ⟨rfl, hX⟩; replace hS := hS.step hX; clear hX; ((try clear hF); refine hfI ?_; intro hF)))
            go_ret
            exact ⟨by rw [hf.out, HST.out]; rfl, hS.ext⟩
    · obtain rfl : k = n := by omega
      have hfin : rgt next [] l = true := by rw [hf.out, Hn.out, List.drop_length]; rfl
      have HFIN := Lib.hid hfin
      clear hfin hf
      by_cases h1 : 1 ≤ k
      · by_cases h8 : k ≤ 8
        · ((try clear hF); refine hfI ?_; intro hF)
          go_wp2_with (first | (refine hab ?_; (try clear hF); clear hS; intro wk hS; (try simp only [List.set_cons_zero, List.set_cons_succ, heap_size, heap_set_size] at hS); ((try clear hF); refine hfI ?_; intro hF)) | fail)
          go_ret
          exact ⟨by rw [HFIN.out, decide_eq_true h1, decide_eq_true h8]; show Ending.returned (.bool (decide ((k : Int) ≤ 8))) = _; rw [decide_eq_true (by omega : (k : Int) ≤ 8)]; rfl, hS.ext⟩
        · ((try clear hF); refine hfI ?_; intro hF)
          go_wp2_with (first | (refine hab ?_; (try clear hF); clear hS; intro wk hS; (try simp only [List.set_cons_zero, List.set_cons_succ, heap_size, heap_set_size] at hS); ((try clear hF); refine hfI ?_; intro hF)) | fail)
          go_ret
          exact ⟨by rw [HFIN.out, decide_eq_true h1, decide_eq_false h8]; show Ending.returned (.bool (decide ((k : Int) ≤ 8))) = _; rw [decide_eq_false (by omega : ¬(k : Int) ≤ 8)]; rfl, hS.ext⟩
      · ((try clear hF); refine hfI ?_; intro hF)
        go_wp2_with (first | (refine hab ?_; (try clear hF); clear hS; intro wk hS; (try simp only [List.set_cons_zero, List.set_cons_succ, heap_size, heap_set_size] at hS); ((try clear hF); refine hfI ?_; intro hF)) | fail)
        go_ret
        exact ⟨by first | rfl | (rw [HFIN.out, decide_eq_false h1]; rfl), hS.ext⟩
end Go.Proofs.YtlaldfkeaalnhaaGreatDoor

/- millpondkeep.columns: they are short. -/
namespace Go.Proofs.YtlaldfkeaalnhaaGreatDoor
set_option linter.all false
set_option linter.unusedSimpArgs false
set_option linter.unusedVariables false
open Go.RowKit
def shortC (c : CG) : Bool := decide (c.name.size ≤ 60) && decide (c.d.text.size ≤ 100)
def shortCs (cs : List CG) : Bool := decide (cs.length ≤ 20) && cs.all shortC
theorem all_upto {α : Type} {p : α → Bool} {l : List α} {k : Nat} {x : α} (h : (l.take k).all p = true) (hx : l[k]? = some x) (hp : p x = true) : (l.take (k + 1)).all p = true := by
  rw [List.take_add_one, List.all_append, h, hx]
  simp [hp]
theorem all_not {α : Type} {p : α → Bool} {l : List α} {k : Nat} {x : α} (hx : l[k]? = some x) (hp : p x = false) : l.all p = false := by
  rw [List.all_eq_false]
  exact ⟨x, List.mem_of_getElem? hx, by rw [hp]; simp⟩
set_option maxRecDepth 100000 in
set_option maxHeartbeats 8000000 in
theorem columns_any (cs : List CG) (A : Option Addr) (n cap : Nat) (w : World) (hn : cs.length = n) (hr : RC w A cs) :
    Calls Tryz.prog 5 #[.slice A n cap] w fun e w' => e = .returned (.bool (shortCs cs)) ∧ Ext w w' := by
  have Hn := Lib.hid hn
  unfold shortCs
  rw [hn]
  clear hn
  have hS := Hp.init w
  have hR := Reads.nil w
  by_cases h20 : 20 < n
  · rw [show decide (n ≤ 20) = false by simp; omega]
    go_enter Tryz.func5, Tryz.ntmps5
    go_wp2_with (first | (refine hab ?_; (try clear hF); clear hS; intro wk hS; (try simp only [List.set_cons_zero, List.set_cons_succ, heap_size, heap_set_size] at hS); ((try clear hF); refine hfI ?_; intro hF)) | fail)
    go_ret
    exact ⟨rfl, hS.ext⟩
  · rw [show decide (n ≤ 20) = true by simp; omega, Bool.true_and]
    go_enter Tryz.func5, Tryz.ntmps5
    go_wp2_with (first | (refine hab ?_; (try clear hF); clear hS; intro wk hS; (try simp only [List.set_cons_zero, List.set_cons_succ, heap_size, heap_set_size] at hS); ((try clear hF); refine hfI ?_; intro hF)) | fail)
    go_loopw [3] (fun i wr => ∃ k : Nat, i = .int .i64 k ∧ k ≤ n ∧ Hid ((cs.take k).all shortC = true) ∧ Hp w.heap.size w wr []) (fun i _ => n - (intOf i).toNat)
    case atStart => exact ⟨0, rfl, Nat.zero_le _, Lib.hid rfl, hS⟩
    case round =>
      clear hS
      obtain ⟨k, rfl, hk, hf, hS⟩ := hrel
      by_cases hlt : k < n
      · obtain ⟨c, hc'⟩ : ∃ x, cs[k]? = some x := ⟨cs[k]'(by rw [Hn.out]; exact hlt), List.getElem?_eq_getElem _⟩
        obtain ⟨b, o, rfl, c0, c1, c2, c3, c4, c5, c6⟩ := hr k c hc'
        have hR := Reads.cell c1 (Reads.cell c6 (Reads.nil w))
        have HX := Lib.hid hc'
        clear hc' c0 c1 c2 c3 c4 c5 c6 hr
        by_cases e1 : 60 < c.name.size
        · have HF2 := Lib.hid (all_not HX.out (show shortC c = false by unfold shortC; rw [decide_eq_false (by omega)]; rfl))
          ((try clear hF); refine hfI ?_; intro hF)
          go_wp2_with (first | (refine hab ?_; (try clear hF); clear hS; intro wk hS; (try simp only [List.set_cons_zero, List.set_cons_succ, heap_size, heap_set_size] at hS); ((try clear hF); refine hfI ?_; intro hF)) | fail)
          go_ret
          exact ⟨by rw [HF2.out]; rfl, hS.ext⟩
        by_cases e2 : 100 < c.d.text.size
        · have HF2 := Lib.hid (all_not HX.out (show shortC c = false by unfold shortC; rw [decide_eq_false (p := c.d.text.size ≤ 100) (by omega), Bool.and_false]))
          ((try clear hF); refine hfI ?_; intro hF)
          go_wp2_with (first | (refine hab ?_; (try clear hF); clear hS; intro wk hS; (try simp only [List.set_cons_zero, List.set_cons_succ, heap_size, heap_set_size] at hS); ((try clear hF); refine hfI ?_; intro hF)) | fail)
          go_ret
          exact ⟨by rw [HF2.out]; rfl, hS.ext⟩
        have HT := Lib.hid (all_upto hf.out HX.out (show shortC c = true by unfold shortC; rw [decide_eq_true (by omega), decide_eq_true (by omega)]; rfl))
        ((try clear hF); refine hfI ?_; intro hF)
        go_wp2_with (first | (refine hab ?_; (try clear hF); clear hS; intro wk hS; (try simp only [List.set_cons_zero, List.set_cons_succ, heap_size, heap_set_size] at hS); ((try clear hF); refine hfI ?_; intro hF)) | fail)
        go_roundw
        case rel => exact ⟨k + 1, by go_num, by omega, HT, hS⟩
        case measure => simp [intOf]; omega
      · obtain rfl : k = n := by omega
        ((try clear hF); refine hfI ?_; intro hF)
        go_wp2_with (first | (refine hab ?_; (try clear hF); clear hS; intro wk hS; (try simp only [List.set_cons_zero, List.set_cons_succ, heap_size, heap_set_size] at hS); ((try clear hF); refine hfI ?_; intro hF)) | fail)
        go_ret
        refine ⟨?_, hS.ext⟩
        have := hf.out
        rw [← Hn.out, List.take_length] at this
        rw [this]
        rfl
end Go.Proofs.YtlaldfkeaalnhaaGreatDoor

/- slices of columns: Clone, Delete, Equal of the same. -/
namespace Go.Proofs.YtlaldfkeaalnhaaGreatDoor
set_option linter.all false
set_option linter.unusedSimpArgs false
set_option linter.unusedVariables false
open Go.RowKit
theorem RC.cells {w : World} {b o : Nat} {l : List CG} (h : RC w (some ⟨b, o, none⟩) l) : ∀ (j : Nat) (u : Value), (cellsC l)[j]? = some u → w.cell? ⟨b, o + j, none⟩ = some u := fun j u hj => by
  have hlt : j < l.length * 7 := by rw [← cellsC_len]; exact (List.getElem?_eq_some_iff.1 hj).1
  obtain ⟨c, hc⟩ : ∃ c, l[j / 7]? = some c := ⟨_, List.getElem?_eq_getElem (by omega)⟩
  obtain ⟨b', o', hb, c0, c1, c2, c3, c4, c5, c6⟩ := h _ c hc
  obtain ⟨d0, d1, d2, d3, d4, d5, d6⟩ := cellsC_at l _ c hc
  simp only [Option.some.injEq, Addr.mk.injEq, and_true] at hb
  obtain ⟨rfl, rfl⟩ := hb
  have hm : j % 7 < 7 := Nat.mod_lt _ (by decide)
  have e : j = j / 7 * 7 + j % 7 := by omega
  generalize j % 7 = r at *
  generalize j / 7 = q at *
  subst e
  rcases (by omega : r = 0 ∨ r = 1 ∨ r = 2 ∨ r = 3 ∨ r = 4 ∨ r = 5 ∨ r = 6) with rfl | rfl | rfl | rfl | rfl | rfl | rfl
  · rw [Nat.add_zero] at hj ⊢; rw [d0] at hj; cases hj; exact c0
  · rw [d1] at hj; cases hj; rw [← Nat.add_assoc]; exact c1
  · rw [d2] at hj; cases hj; rw [← Nat.add_assoc]; exact c2
  · rw [d3] at hj; cases hj; rw [← Nat.add_assoc]; exact c3
  · rw [d4] at hj; cases hj; rw [← Nat.add_assoc]; exact c4
  · rw [d5] at hj; cases hj; rw [← Nat.add_assoc]; exact c5
  · rw [d6] at hj; cases hj; rw [← Nat.add_assoc]; exact c6
theorem addr_add (b o j : Nat) : (⟨b, o, none⟩ : Addr).add j = ⟨b, o + j, none⟩ := by unfold Addr.add; split <;> simp_all
set_option maxRecDepth 100000 in
set_option maxHeartbeats 8000000 in
theorem clone_any (l : List CG) (b o cap : Nat) (w : World) (hr : RC w (some ⟨b, o, none⟩) l) (hl : l.length ≤ 1000) :
    Calls Tryz.prog 57 #[.slice (some ⟨b, o, none⟩) l.length cap] w fun e w' => ∃ A' cap', e = .returned (.slice A' l.length cap') ∧ Hp w.heap.size w w' [cRow A' cap' l] := by
  have HC := Lib.hid (fun (W : World) (hx : Ext w W) => (hr.ext hx).cells)
  have HL := Lib.hid (cellsC_len l)
  have H1 := Lib.hid (cellsC_one l)
  unfold cRow
  obtain ⟨n, hn⟩ : ∃ n, n = l.length := ⟨_, rfl⟩
  rw [← hn] at hl HL ⊢
  clear hn hr
  have hS := Hp.init w
  have hR := Reads.nil w
  have he : ∀ w : World, (binOp .eql 22 (.slice (some ⟨b, o, none⟩) n cap) (.slice none 0 0)).run Tryz.prog w = .ok (.bool false) w := fun _ => rfl
  go_enter Tryz.func57, Tryz.ntmps57
  go_wp2_with (first | (refine hab ?_; (try clear hF); clear hS; intro wk hS; (try simp only [List.set_cons_zero, List.set_cons_succ, heap_size, heap_set_size] at hS); ((try clear hF); refine hfI ?_; intro hF)) | (at_builtin; refine wpList_append_hp Tryz.elem_cols rfl (.tmp 5) (.tmp 6) rfl (hS.blkRow (size := 7) (n := 0) rfl (by omega)) rfl ⟨b, o, none⟩ rfl (news := cellsC l) HL.out (fun j u hu => by rw [addr_add]; exact HC.out _ hS.ext j u hu) H1.out (by omega) (by omega) ?_; clear hS; intro A' cap' wk hS; ((try clear hF); refine hfI ?_; intro hF)))
  go_ret
  exact ⟨A', cap', rfl, by simpa using hS⟩
end Go.Proofs.YtlaldfkeaalnhaaGreatDoor

/- schema.Row. -/
namespace Go.Proofs.YtlaldfkeaalnhaaGreatDoor
set_option linter.all false
set_option linter.unusedSimpArgs false
set_option linter.unusedVariables false
open Go.RowKit
/-- what is wrong with a value in a column -/
def cellE (c : CG) (v : GV) : Int := if rightB v.kind v.num v.text = false then 1 else if v.kind = 0 then (if c.must then 7 else 0) else if v.kind = c.kind then 0 else 1
/-- the first that is wrong -/
def rowF : List CG → List GV → Int
  | c :: cs, v :: vs => if cellE c v = 0 then rowF cs vs else cellE c v
  | _, _ => 0
def rowE (cs : List CG) (r : List GV) : Int := if r.length = cs.length then rowF cs r else 1
theorem dropC_cons {l : List CG} {k : Nat} {x : CG} (h : l[k]? = some x) : l.drop k = x :: l.drop (k + 1) := by
  obtain ⟨h1, e⟩ := List.getElem?_eq_some_iff.1 h
  rw [List.drop_eq_getElem_cons h1, e]
theorem dropG_cons {l : List GV} {k : Nat} {x : GV} (h : l[k]? = some x) : l.drop k = x :: l.drop (k + 1) := by
  obtain ⟨h1, e⟩ := List.getElem?_eq_some_iff.1 h
  rw [List.drop_eq_getElem_cons h1, e]
set_option maxRecDepth 100000 in
set_option maxHeartbeats 8000000 in
theorem row_any (cs : List CG) (r : List GV) (A A2 : Option Addr) (cap cap2 : Nat) (w : World) (hc : RC w A cs) (hr : RV w A2 r) (hl : cs.length ≤ 1000) (hl2 : r.length ≤ 1000) :
    Calls Tryz.prog 55 #[.slice A cs.length cap, .slice A2 r.length cap2] w fun e w' => e = .returned (errV (rowE cs r)) ∧ Ext w w' := by
  obtain ⟨n, hn⟩ : ∃ n, n = cs.length := ⟨_, rfl⟩
  obtain ⟨m, hm⟩ : ∃ m, m = r.length := ⟨_, rfl⟩
  unfold rowE
  rw [← hn] at hl
  rw [← hm] at hl2
  rw [← hn, ← hm]
  have Hn := Lib.hid hn
  have Hm := Lib.hid hm
  clear hn hm
  have hS := Hp.init w
  have hR := Reads.nil w
  by_cases hne : m = n
  · rw [if_pos hne]
    subst hne
    have hnn : ((m : Int) != (m : Int)) = false := by simp
    go_enter Tryz.func55, Tryz.ntmps55
    go_wp2_with (first | (refine hab ?_; (try clear hF); clear hS; intro wk hS; (try simp only [List.set_cons_zero, List.set_cons_succ, heap_size, heap_set_size] at hS); ((try clear hF); refine hfI ?_; intro hF)) | fail)
    go_loopw [15, 5] (fun i _ wr => ∃ k : Nat, i = .int .i64 k ∧ k ≤ m ∧ Hid (rowF cs r = rowF (cs.drop k) (r.drop k)) ∧ Hp w.heap.size w wr []) (fun i _ _ => m - (intOf i).toNat)
    case atStart => exact ⟨0, rfl, Nat.zero_le _, Lib.hid rfl, hS⟩
    case round =>
      clear hS
      obtain ⟨k, rfl, hk, hf, hS⟩ := hrel
      by_cases hlt : k < m
      · obtain ⟨c, hc'⟩ : ∃ x, cs[k]? = some x := ⟨cs[k]'(by rw [← Hn.out]; exact hlt), List.getElem?_eq_getElem _⟩
        obtain ⟨v, hv'⟩ : ∃ x, r[k]? = some x := ⟨r[k]'(by rw [← Hm.out]; exact hlt), List.getElem?_eq_getElem _⟩
        obtain ⟨b, o, rfl, c0, c1, c2, c3, c4, c5, c6⟩ := hc k c hc'
        obtain ⟨b2, o2, rfl, d0, d1, d2⟩ := hr k v hv'
        have hR := Reads.cell c0 (Reads.cell c1 (Reads.cell c2 (Reads.cell c3 (Reads.cell c4 (Reads.cell c5 (Reads.cell c6 (Reads.cell d0 (Reads.cell d1 (Reads.cell d2 (Reads.nil w))))))))))
        have HD := Lib.hid (show rowF (cs.drop k) (r.drop k) = if cellE c v = 0 then rowF (cs.drop (k + 1)) (r.drop (k + 1)) else cellE c v by rw [dropC_cons hc', dropG_cons hv']; rfl)
        clear hc' hv' c0 c1 c2 c3 c4 c5 c6 d0 d1 d2 hc hr
        have HRG := Lib.hid (fun W => right_any v.kind v.num v.text W)
        obtain ⟨rb, hrb⟩ : ∃ b, b = rightB v.kind v.num v.text := ⟨_, rfl⟩
        rw [← hrb] at HRG
        have HCE := Lib.hid (show cellE c v = if rb = false then 1 else if v.kind = 0 then (if c.must then 7 else 0) else if v.kind = c.kind then 0 else 1 by rw [hrb]; rfl)
        clear hrb
        cases rb with
        | false =>
          ((try clear hF); refine hfI ?_; intro hF)
          go_wp2_with (first | (refine hab ?_; (try clear hF); clear hS; intro wk hS; (try simp only [List.set_cons_zero, List.set_cons_succ, heap_size, heap_set_size] at hS); ((try clear hF); refine hfI ?_; intro hF)) | (first | (with_reducible refine wp_region_hp (draw := true) (by kernel_rfl) (by kernel_rfl) hS ?_) | ((with_reducible refine Fixed.here ?_); (first | ((with_reducible apply Fixed.skip); (first | rfl | exact wanted_false rfl rfl rfl (by assumption)); try simp only [Act.put, List.setIfInBounds_toArray, List.set_cons_zero, List.set_cons_succ]) | ((with_reducible apply Fixed.val); (first | rfl | exact wanted_true rfl rfl rfl (by assumption)); (rintro w hS; ((try clear hF); refine hfI ?_; intro hF); go_simp; with_reducible rfl); try simp only [Act.put, List.setIfInBounds_toArray, List.set_cons_zero, List.set_cons_succ]) | ((with_reducible apply Fixed.call); (first | rfl | exact wanted_true rfl rfl rfl (by assumption)); (rintro w hS; ((try clear hF); refine hfI ?_; intro hF); go_simp; exact ⟨rfl, rfl⟩); (rintro w hS; first | (with_reducible exact HRG.out w)); try simp only [Act.put, List.setIfInBounds_toArray, List.set_cons_zero, List.set_cons_succ]) | ((with_reducible apply Fixed.guardT); rfl; rfl; rfl; (all_goals intro hg)) | ((with_reducible apply Fixed.guardF); rfl; rfl; rfl; (all_goals intro hg)) | (with_reducible refine Fixed.done ?_; (try clear hF); clear hS; intro wk hS; ((try clear hF); refine hfI ?_; intro hF))))))
          go_ret
          exact ⟨by rw [hf.out, HD.out, HCE.out]; rfl, hS.ext⟩
        | true =>
          obtain ⟨ci, cn, ck, cm, cd⟩ := c
          obtain ⟨vk, vn, vt⟩ := v
          dsimp only at hR HRG HCE
          by_cases hk0 : vk = 0
          · subst hk0
            cases cm with
            | true =>
              ((try clear hF); refine hfI ?_; intro hF)
              go_wp2_with (first | (refine hab ?_; (try clear hF); clear hS; intro wk hS; (try simp only [List.set_cons_zero, List.set_cons_succ, heap_size, heap_set_size] at hS); ((try clear hF); refine hfI ?_; intro hF)) | (first | (with_reducible refine wp_region_hp (draw := true) (by kernel_rfl) (by kernel_rfl) hS ?_) | ((with_reducible refine Fixed.here ?_); (first | ((with_reducible apply Fixed.skip); (first | rfl | exact wanted_false rfl rfl rfl (by assumption)); try simp only [Act.put, List.setIfInBounds_toArray, List.set_cons_zero, List.set_cons_succ]) | ((with_reducible apply Fixed.val); (first | rfl | exact wanted_true rfl rfl rfl (by assumption)); (rintro w hS; ((try clear hF); refine hfI ?_; intro hF); go_simp; with_reducible rfl); try simp only [Act.put, List.setIfInBounds_toArray, List.set_cons_zero, List.set_cons_succ]) | ((with_reducible apply Fixed.call); (first | rfl | exact wanted_true rfl rfl rfl (by assumption)); (rintro w hS; ((try clear hF); refine hfI ?_; intro hF); go_simp; exact ⟨rfl, rfl⟩); (rintro w hS; first | (with_reducible exact HRG.out w)); try simp only [Act.put, List.setIfInBounds_toArray, List.set_cons_zero, List.set_cons_succ]) | ((with_reducible apply Fixed.guardT); rfl; rfl; rfl; (all_goals intro hg)) | ((with_reducible apply Fixed.guardF); rfl; rfl; rfl; (all_goals intro hg)) | (with_reducible refine Fixed.done ?_; (try clear hF); clear hS; intro wk hS; ((try clear hF); refine hfI ?_; intro hF))))))
              go_ret
              exact ⟨by rw [hf.out, HD.out, HCE.out]; rfl, hS.ext⟩
            | false =>
              ((try clear hF); refine hfI ?_; intro hF)
              go_wp2_with (first | (refine hab ?_; (try clear hF); clear hS; intro wk hS; (try simp only [List.set_cons_zero, List.set_cons_succ, heap_size, heap_set_size] at hS); ((try clear hF); refine hfI ?_; intro hF)) | (first | (with_reducible refine wp_region_hp (draw := true) (by kernel_rfl) (by kernel_rfl) hS ?_) | ((with_reducible refine Fixed.here ?_); (first | ((with_reducible apply Fixed.skip); (first | rfl | exact wanted_false rfl rfl rfl (by assumption)); try simp only [Act.put, List.setIfInBounds_toArray, List.set_cons_zero, List.set_cons_succ]) | ((with_reducible apply Fixed.val); (first | rfl | exact wanted_true rfl rfl rfl (by assumption)); (rintro w hS; ((try clear hF); refine hfI ?_; intro hF); go_simp; with_reducible rfl); try simp only [Act.put, List.setIfInBounds_toArray, List.set_cons_zero, List.set_cons_succ]) | ((with_reducible apply Fixed.call); (first | rfl | exact wanted_true rfl rfl rfl (by assumption)); (rintro w hS; ((try clear hF); refine hfI ?_; intro hF); go_simp; exact ⟨rfl, rfl⟩); (rintro w hS; first | (with_reducible exact HRG.out w)); try simp only [Act.put, List.setIfInBounds_toArray, List.set_cons_zero, List.set_cons_succ]) | ((with_reducible apply Fixed.guardT); rfl; rfl; rfl; (all_goals intro hg)) | ((with_reducible apply Fixed.guardF); rfl; rfl; rfl; (all_goals intro hg)) | (with_reducible refine Fixed.done ?_; (try clear hF); clear hS; intro wk hS; ((try clear hF); refine hfI ?_; intro hF))))))
              go_roundw
              case rel => exact ⟨k + 1, by go_num, by omega, Lib.hid (by rw [hf.out, HD.out, HCE.out]; rfl), hS.sub (by simp)⟩
              case measure => simp [intOf]; omega
          · have z0 : (vk != 0) = true := by simp [hk0]
            have z1 : (vk == 0) = false := by simp [hk0]
            by_cases hkk : vk = ck
            · subst hkk
              have z2 : (vk != vk) = false := by simp
              have HCF := Lib.hid (HCE.out.trans (by simp [hk0]) : _ = (0 : Int))
              clear hk0 HCE
              ((try clear hF); refine hfI ?_; intro hF)
              go_wp2_with (first | (refine hab ?_; (try clear hF); clear hS; intro wk hS; (try simp only [List.set_cons_zero, List.set_cons_succ, heap_size, heap_set_size] at hS); ((try clear hF); refine hfI ?_; intro hF)) | (first | (with_reducible refine wp_region_hp (draw := true) (by kernel_rfl) (by kernel_rfl) hS ?_) | ((with_reducible refine Fixed.here ?_); (first | ((with_reducible apply Fixed.skip); (first | rfl | exact wanted_false rfl rfl rfl (by assumption)); try simp only [Act.put, List.setIfInBounds_toArray, List.set_cons_zero, List.set_cons_succ]) | ((with_reducible apply Fixed.val); (first | rfl | exact wanted_true rfl rfl rfl (by assumption)); (rintro w hS; ((try clear hF); refine hfI ?_; intro hF); go_simp; with_reducible rfl); try simp only [Act.put, List.setIfInBounds_toArray, List.set_cons_zero, List.set_cons_succ]) | ((with_reducible apply Fixed.call); (first | rfl | exact wanted_true rfl rfl rfl (by assumption)); (rintro w hS; ((try clear hF); refine hfI ?_; intro hF); go_simp; exact ⟨rfl, rfl⟩); (rintro w hS; first | (with_reducible exact HRG.out w)); try simp only [Act.put, List.setIfInBounds_toArray, List.set_cons_zero, List.set_cons_succ]) | ((with_reducible apply Fixed.guardT); rfl; rfl; rfl; (all_goals intro hg)) | ((with_reducible apply Fixed.guardF); rfl; rfl; rfl; (all_goals intro hg)) | (with_reducible refine Fixed.done ?_; (try clear hF); clear hS; intro wk hS; ((try clear hF); refine hfI ?_; intro hF))))))
              go_roundw
              case rel => exact ⟨k + 1, by go_num, by omega, Lib.hid (by rw [hf.out, HD.out, HCF.out]; rfl), hS.sub (by simp)⟩
              case measure => simp [intOf]; omega
            · have z2 : (vk != ck) = true := by simp [hkk]
              have HCF := Lib.hid (HCE.out.trans (by simp [hk0, hkk]) : _ = (1 : Int))
              clear hk0 HCE hkk
              ((try clear hF); refine hfI ?_; intro hF)
              go_wp2_with (first | (refine hab ?_; (try clear hF); clear hS; intro wk hS; (try simp only [List.set_cons_zero, List.set_cons_succ, heap_size, heap_set_size] at hS); ((try clear hF); refine hfI ?_; intro hF)) | (first | (with_reducible refine wp_region_hp (draw := true) (by kernel_rfl) (by kernel_rfl) hS ?_) | ((with_reducible refine Fixed.here ?_); (first | ((with_reducible apply Fixed.skip); (first | rfl | exact wanted_false rfl rfl rfl (by assumption)); try simp only [Act.put, List.setIfInBounds_toArray, List.set_cons_zero, List.set_cons_succ]) | ((with_reducible apply Fixed.val); (first | rfl | exact wanted_true rfl rfl rfl (by assumption)); (rintro w hS; ((try clear hF); refine hfI ?_; intro hF); go_simp; with_reducible rfl); try simp only [Act.put, List.setIfInBounds_toArray, List.set_cons_zero, List.set_cons_succ]) | ((with_reducible apply Fixed.call); (first | rfl | exact wanted_true rfl rfl rfl (by assumption)); (rintro w hS; ((try clear hF); refine hfI ?_; intro hF); go_simp; exact ⟨rfl, rfl⟩); (rintro w hS; first | (with_reducible exact HRG.out w)); try simp only [Act.put, List.setIfInBounds_toArray, List.set_cons_zero, List.set_cons_succ]) | ((with_reducible apply Fixed.guardT); rfl; rfl; rfl; (all_goals intro hg)) | ((with_reducible apply Fixed.guardF); rfl; rfl; rfl; (all_goals intro hg)) | (with_reducible refine Fixed.done ?_; (try clear hF); clear hS; intro wk hS; ((try clear hF); refine hfI ?_; intro hF))))))
              go_ret
              exact ⟨by rw [hf.out, HD.out, HCF.out]; rfl, hS.ext⟩
      · obtain rfl : k = m := by omega
        ((try clear hF); refine hfI ?_; intro hF)
        go_wp2_with (first | (refine hab ?_; (try clear hF); clear hS; intro wk hS; (try simp only [List.set_cons_zero, List.set_cons_succ, heap_size, heap_set_size] at hS); ((try clear hF); refine hfI ?_; intro hF)) | fail)
        go_ret
        refine ⟨?_, hS.ext⟩
        rw [hf.out, show cs.drop k = [] by rw [Hn.out, List.drop_length]]
        rfl
  · rw [if_neg hne]
    have hnn : ((m : Int) != (n : Int)) = true := by simp; omega
    go_enter Tryz.func55, Tryz.ntmps55
    go_wp2_with (first | (refine hab ?_; (try clear hF); clear hS; intro wk hS; (try simp only [List.set_cons_zero, List.set_cons_succ, heap_size, heap_set_size] at hS); ((try clear hF); refine hfI ?_; intro hF)) | fail)
    go_ret
    exact ⟨rfl, hS.ext⟩
end Go.Proofs.YtlaldfkeaalnhaaGreatDoor

/- rows of values; file.column. -/
namespace Go.Proofs.YtlaldfkeaalnhaaGreatDoor
set_option linter.all false
set_option linter.unusedSimpArgs false
set_option linter.unusedVariables false
open Go.RowKit
/-- the slice at A reads as rows -/
def RR (w : World) (A : Option Addr) (rs : List (List GV)) : Prop := ∀ (i : Nat) (r : List GV), rs[i]? = some r → ∃ (b o : Nat) (A1 : Option Addr) (c1 : Nat), A = some ⟨b, o, none⟩ ∧ w.cell? ⟨b, o + i, none⟩ = some (.slice A1 r.length c1) ∧ RV w A1 r
theorem RR.ext {w w' : World} {A : Option Addr} {l : List (List GV)} (h : RR w A l) (hx : Ext w w') : RR w' A l := fun i r hi => by
  obtain ⟨b, o, A1, c1, hA, h0, h1⟩ := h i r hi
  exact ⟨b, o, A1, c1, hA, hx.keeps h0, h1.ext hx⟩
abbrev gv00 : GV := ⟨0, 0, ⟨#[]⟩⟩
/-- the how many-th values of rows -/
def colL (rs : List (List GV)) (k : Nat) : List GV := rs.map fun r => r.getD k gv00
set_option maxRecDepth 100000 in
set_option maxHeartbeats 8000000 in
theorem fcolumn_any (rs : List (List GV)) (k : Nat) (A : Option Addr) (n cap : Nat) (w : World) (hn : rs.length = n) (hl : n ≤ 1000) (hr : RR w A rs) (hk : ∀ r ∈ rs, k < r.length) :
    Calls Tryz.prog 59 #[.slice A n cap, .int .i64 k] w fun e w' => ∃ A' cap', e = .returned (.slice A' n cap') ∧ Hp w.heap.size w w' [.row 29 3 A' n cap' (cellsV (colL rs k))] := by
  have Hn := Lib.hid hn
  have HK := Lib.hid hk
  clear hn hk
  have hS := Hp.init w
  have hR := Reads.nil w
  go_enter Tryz.func59, Tryz.ntmps59
  go_wp2_with (first | (refine hab ?_; (try clear hF); clear hS; intro wk hS; (try simp only [List.set_cons_zero, List.set_cons_succ, heap_size, heap_set_size] at hS); ((try clear hF); refine hfI ?_; intro hF)) | fail)
  replace hS := hS.nilRow 29 3
  go_loopw [10, 5, 7] (fun i lv _ wr => ∃ (j : Nat) (A' : Option Addr) (c' : Nat), i = .int .i64 j ∧ j ≤ n ∧ lv = .slice A' j c' ∧ Hp w.heap.size w wr [.row 29 3 A' j c' (cellsV (colL (rs.take j) k))]) (fun i _ _ _ => n - (intOf i).toNat)
  case atStart => exact ⟨0, none, 0, rfl, Nat.zero_le _, rfl, hS⟩
  case round =>
    clear hS
    obtain ⟨j, A', c', rfl, hj, rfl, hS⟩ := hrel
    by_cases hlt : j < n
    · obtain ⟨r, hr'⟩ : ∃ x, rs[j]? = some x := ⟨rs[j]'(by rw [Hn.out]; exact hlt), List.getElem?_eq_getElem _⟩
      obtain ⟨b, o, A1, c1, rfl, h0, h1⟩ := hr j r hr'
      have hkr := HK.out r (List.mem_of_getElem? hr')
      obtain ⟨v, hv⟩ : ∃ v, r[k]? = some v := ⟨r[k], List.getElem?_eq_getElem hkr⟩
      obtain ⟨b1, o1, rfl, d0, d1, d2⟩ := h1 k v hv
      have hR := Reads.cell h0 (Reads.cell d0 (Reads.cell d1 (Reads.cell d2 (Reads.nil w))))
      have HT := Lib.hid (show colL (rs.take (j + 1)) k = colL (rs.take j) k ++ [v] by
        unfold colL
        rw [List.take_add_one, hr', List.map_append]
        simp [hv])
      obtain ⟨q, hq⟩ : ∃ q, q = r.length := ⟨_, rfl⟩
      rw [← hq] at hkr hR
      clear hq hr' hv h0 h1 d0 d1 d2 hr
      ((try clear hF); refine hfI ?_; intro hF)
      go_wp2_with (first | (refine hab ?_; (try clear hF); clear hS; intro wk hS; (try simp only [List.set_cons_zero, List.set_cons_succ, heap_size, heap_set_size] at hS); ((try clear hF); refine hfI ?_; intro hF)) | (at_builtin; refine wpList_push_hp Tryz.elem_vals rfl (.tmp 14) (.tmp 19) rfl (hS.second 0 rfl) rfl rfl rfl (by simp [Value.oneCell']) (by omega) (by omega) ?_; clear hS; intro Ak capk wk hS; (try simp only [List.eraseIdx_cons_zero, List.eraseIdx_cons_succ, List.set_cons_zero, List.set_cons_succ] at hS); ((try clear hF); refine hfI ?_; intro hF)))
      go_roundw
      case rel =>
        refine ⟨j + 1, _, _, by go_num, by omega, rfl, ?_⟩
        rw [HT.out, cellsV_append]
        exact hS
      case measure => simp [intOf]; omega
    · obtain rfl : j = n := by omega
      ((try clear hF); refine hfI ?_; intro hF)
      go_wp2_with (first | (refine hab ?_; (try clear hF); clear hS; intro wk hS; (try simp only [List.set_cons_zero, List.set_cons_succ, heap_size, heap_set_size] at hS); ((try clear hF); refine hfI ?_; intro hF)) | fail)
      go_ret
      refine ⟨A', c', rfl, ?_⟩
      rw [show rs.take j = rs by rw [← Hn.out, List.take_length]] at hS
      exact hS
end Go.Proofs.YtlaldfkeaalnhaaGreatDoor

/- millpondkeep.rows: they are short. -/
namespace Go.Proofs.YtlaldfkeaalnhaaGreatDoor
set_option linter.all false
set_option linter.unusedSimpArgs false
set_option linter.unusedVariables false
open Go.RowKit
def shortV (v : GV) : Bool := decide (v.text.size ≤ 100)
def shortR (r : List GV) : Bool := decide (r.length ≤ 20) && r.all shortV
def shortRs (rs : List (List GV)) : Bool := decide (rs.length ≤ 70) && rs.all shortR
set_option maxRecDepth 100000 in
set_option maxHeartbeats 8000000 in
theorem rows_any (rs : List (List GV)) (A : Option Addr) (n cap : Nat) (w : World) (hn : rs.length = n) (hr : RR w A rs) :
    Calls Tryz.prog 6 #[.slice A n cap] w fun e w' => e = .returned (.bool (shortRs rs)) ∧ Ext w w' := by
  have Hn := Lib.hid hn
  unfold shortRs
  rw [hn]
  clear hn
  have hS := Hp.init w
  have hR := Reads.nil w
  by_cases h20 : 70 < n
  · rw [show decide (n ≤ 70) = false by simp; omega]
    go_enter Tryz.func6, Tryz.ntmps6
    go_wp2_with (first | (refine hab ?_; (try clear hF); clear hS; intro wk hS; (try simp only [List.set_cons_zero, List.set_cons_succ, heap_size, heap_set_size] at hS); ((try clear hF); refine hfI ?_; intro hF)) | fail)
    go_ret
    exact ⟨rfl, hS.ext⟩
  · rw [show decide (n ≤ 70) = true by simp; omega, Bool.true_and]
    go_enter Tryz.func6, Tryz.ntmps6
    go_wp2_with (first | (refine hab ?_; (try clear hF); clear hS; intro wk hS; (try simp only [List.set_cons_zero, List.set_cons_succ, heap_size, heap_set_size] at hS); ((try clear hF); refine hfI ?_; intro hF)) | fail)
    go_loopw [3, 4] (fun i _ wr => ∃ k : Nat, i = .int .i64 k ∧ k ≤ n ∧ Hid ((rs.take k).all shortR = true) ∧ Hp w.heap.size w wr []) (fun i _ _ => n - (intOf i).toNat)
    case atStart => exact ⟨0, rfl, Nat.zero_le _, Lib.hid rfl, hS⟩
    case round =>
      clear hS
      obtain ⟨k, rfl, hk, hf, hS⟩ := hrel
      by_cases hlt : k < n
      · obtain ⟨r, hr'⟩ : ∃ x, rs[k]? = some x := ⟨rs[k]'(by rw [Hn.out]; exact hlt), List.getElem?_eq_getElem _⟩
        obtain ⟨b, o, A1, c1, rfl, h0, h1⟩ := hr k r hr'
        have HX := Lib.hid hr'
        obtain ⟨m, hm⟩ : ∃ m, m = r.length := ⟨_, rfl⟩
        have Hm := Lib.hid hm
        rw [← hm] at h0
        have hR := Reads.cell h0 (Reads.nil w)
        clear hr' hm hr
        by_cases e1 : 20 < m
        · have HF2 := Lib.hid (all_not HX.out (show shortR r = false by unfold shortR; rw [← Hm.out, decide_eq_false (by omega)]; rfl))
          clear h0 h1
          ((try clear hF); refine hfI ?_; intro hF)
          go_wp2_with (first | (refine hab ?_; (try clear hF); clear hS; intro wk hS; (try simp only [List.set_cons_zero, List.set_cons_succ, heap_size, heap_set_size] at hS); ((try clear hF); refine hfI ?_; intro hF)) | fail)
          go_ret
          exact ⟨by rw [HF2.out]; rfl, hS.ext⟩
        ((try clear hF); refine hfI ?_; intro hF)
        go_wp2_with (first | (refine hab ?_; (try clear hF); clear hS; intro wk hS; (try simp only [List.set_cons_zero, List.set_cons_succ, heap_size, heap_set_size] at hS); ((try clear hF); refine hfI ?_; intro hF)) | fail)
        go_loopw [4] (fun i wr2 => ∃ j : Nat, i = .int .i64 j ∧ j ≤ m ∧ Hid ((r.take j).all shortV = true) ∧ Hp w.heap.size w wr2 []) (fun i _ => m - (intOf i).toNat)
        case atStart => exact ⟨0, rfl, Nat.zero_le _, Lib.hid rfl, hS⟩
        case round =>
          clear hS hF
          obtain ⟨j, rfl, hj, hf2, hS⟩ := hrel
          by_cases hlj : j < m
          · obtain ⟨v, hv⟩ : ∃ x, r[j]? = some x := ⟨r[j]'(by rw [← Hm.out]; exact hlj), List.getElem?_eq_getElem _⟩
            obtain ⟨b1, o1, rfl, d0, d1, d2⟩ := h1 j v hv
            have HV := Lib.hid hv
            have hR := Reads.cell h0 (Reads.cell d2 (Reads.nil w))
            clear hv d0 d1 d2 h1 h0
            by_cases e2 : 100 < v.text.size
            · have HF2 := Lib.hid (all_not HX.out (show shortR r = false by
                unfold shortR
                rw [all_not HV.out (show shortV v = false by unfold shortV; rw [decide_eq_false (by omega)]), Bool.and_false]))
              ((try clear hF); refine hfI ?_; intro hF)
              go_wp2_with (first | (refine hab ?_; (try clear hF); clear hS; intro wk hS; (try simp only [List.set_cons_zero, List.set_cons_succ, heap_size, heap_set_size] at hS); ((try clear hF); refine hfI ?_; intro hF)) | fail)
              go_ret
              exact ⟨by rw [HF2.out]; rfl, hS.ext⟩
            have HT := Lib.hid (all_upto hf2.out HV.out (show shortV v = true by unfold shortV; rw [decide_eq_true (by omega)]))
            ((try clear hF); refine hfI ?_; intro hF)
            go_wp2_with (first | (refine hab ?_; (try clear hF); clear hS; intro wk hS; (try simp only [List.set_cons_zero, List.set_cons_succ, heap_size, heap_set_size] at hS); ((try clear hF); refine hfI ?_; intro hF)) | fail)
            go_roundw
            case rel => exact ⟨j + 1, by go_num, by omega, HT, hS⟩
            case measure => simp [intOf]; omega
          · obtain rfl : j = m := by omega
            have HT := Lib.hid (all_upto hf.out HX.out (show shortR r = true by
              have := hf2.out
              rw [Hm.out, List.take_length] at this
              unfold shortR
              rw [this, ← Hm.out, decide_eq_true (by omega)]
              rfl))
            ((try clear hF); refine hfI ?_; intro hF)
            go_wp2_with (first | (refine hab ?_; (try clear hF); clear hS; intro wk hS; (try simp only [List.set_cons_zero, List.set_cons_succ, heap_size, heap_set_size] at hS); ((try clear hF); refine hfI ?_; intro hF)) | fail)
            go_roundw
            case rel => exact ⟨k + 1, by go_num, by omega, HT, hS⟩
            case measure => simp [intOf]; omega
      · obtain rfl : k = n := by omega
        ((try clear hF); refine hfI ?_; intro hF)
        go_wp2_with (first | (refine hab ?_; (try clear hF); clear hS; intro wk hS; (try simp only [List.set_cons_zero, List.set_cons_succ, heap_size, heap_set_size] at hS); ((try clear hF); refine hfI ?_; intro hF)) | fail)
        go_ret
        refine ⟨?_, hS.ext⟩
        have := hf.out
        rw [← Hn.out, List.take_length] at this
        rw [this]
        rfl
end Go.Proofs.YtlaldfkeaalnhaaGreatDoor

/- file: files in memory. -/
namespace Go.Proofs.YtlaldfkeaalnhaaGreatDoor
set_option linter.all false
set_option linter.unusedSimpArgs false
set_option linter.unusedVariables false
open Go.RowKit
structure GG where
  rows : Int
  stats : List ST
  bytes : List ByteArray
structure FG where
  cols : List CG
  groups : List GG
/-- the slice at A reads as what is known, one by one -/
def RK (w : World) (A : Option Addr) (l : List ST) : Prop := ∀ (i : Nat) (x : ST), l[i]? = some x → ∃ b o : Nat, A = some ⟨b, o, none⟩ ∧ w.cell? ⟨b, o + i * 8, none⟩ = some (.int .i64 x.count) ∧ w.cell? ⟨b, o + i * 8 + 1, none⟩ = some (.int .i64 x.nulls) ∧ w.cell? ⟨b, o + i * 8 + 2, none⟩ = some (.int .i64 x.mn.kind) ∧ w.cell? ⟨b, o + i * 8 + 3, none⟩ = some (.int .i64 x.mn.num) ∧ w.cell? ⟨b, o + i * 8 + 4, none⟩ = some (.string x.mn.text) ∧ w.cell? ⟨b, o + i * 8 + 5, none⟩ = some (.int .i64 x.mx.kind) ∧ w.cell? ⟨b, o + i * 8 + 6, none⟩ = some (.int .i64 x.mx.num) ∧ w.cell? ⟨b, o + i * 8 + 7, none⟩ = some (.string x.mx.text)
theorem RK.ext {w w' : World} {A : Option Addr} {l : List ST} (h : RK w A l) (hx : Ext w w') : RK w' A l := fun i x hi => by
  obtain ⟨b, o, hA, h0, h1, h2, h3, h4, h5, h6, h7⟩ := h i x hi
  exact ⟨b, o, hA, hx.keeps h0, hx.keeps h1, hx.keeps h2, hx.keeps h3, hx.keeps h4, hx.keeps h5, hx.keeps h6, hx.keeps h7⟩
/-- the slice at A reads as groups -/
def RG (w : World) (A : Option Addr) (l : List GG) : Prop := ∀ (i : Nat) (g : GG), l[i]? = some g → ∃ (b o : Nat) (As : Option Addr) (cs : Nat) (Ab : Option Addr) (cb : Nat), A = some ⟨b, o, none⟩ ∧ w.cell? ⟨b, o + i * 3, none⟩ = some (.int .i64 g.rows) ∧ w.cell? ⟨b, o + i * 3 + 1, none⟩ = some (.slice As g.stats.length cs) ∧ w.cell? ⟨b, o + i * 3 + 2, none⟩ = some (.slice Ab g.bytes.length cb) ∧ RK w As g.stats ∧ RS w Ab g.bytes
theorem RG.ext {w w' : World} {A : Option Addr} {l : List GG} (h : RG w A l) (hx : Ext w w') : RG w' A l := fun i g hi => by
  obtain ⟨b, o, As, cs, Ab, cb, hA, h0, h1, h2, h3, h4⟩ := h i g hi
  exact ⟨b, o, As, cs, Ab, cb, hA, hx.keeps h0, hx.keeps h1, hx.keeps h2, h3.ext hx, h4.ext hx⟩
/-- the value is a file -/
def RF (w : World) (v : Value) (f : FG) : Prop := ∃ (Ac : Option Addr) (cc : Nat) (Ag : Option Addr) (cg : Nat), v = .agg #[.slice Ac f.cols.length cc, .slice Ag f.groups.length cg] ∧ f.cols.length ≤ cc ∧ RC w Ac f.cols ∧ RG w Ag f.groups
theorem RF.ext {w w' : World} {v : Value} {f : FG} (h : RF w v f) (hx : Ext w w') : RF w' v f := by
  obtain ⟨Ac, cc, Ag, cg, e, h0, h1, h2⟩ := h
  exact ⟨Ac, cc, Ag, cg, e, h0, h1.ext hx, h2.ext hx⟩
theorem Hp.named {B : Nat} {w0 w : World} {L : List Item} {g : Nat} {cs : List Value} {T : TypeId} (_ : Hp B w0 w (.blk g cs T :: L)) : ∃ g', g' = g := ⟨g, rfl⟩
end Go.Proofs.YtlaldfkeaalnhaaGreatDoor
