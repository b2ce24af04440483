/- Texts joined: ask.tokens: the cut of a text. ask: the parser's steps: see, take, must, fail. ask: the parser's steps: must, name, code, literal. -/
import Derived.Test.YtmfilblbofkmcaaDoorAX06
/- ask.tokens: the cut of a text. -/
namespace Go.Proofs.YtmfilblbofkmcaaDoor
set_option linter.unusedSimpArgs false
set_option linter.unusedVariables false
open Go.RowKit
set_option linter.all false
theorem next_any (s : ByteArray) (w : World) (h0 : 0 < s.size) (m : Nat) (hm : s.size = m) (hm2 : m ≤ 1000000) (hM : MarksAt w) (X : Int × Nat) (hX : X = nextL s.data.toList) :
    Calls Tryd.prog 38 #[.string s] w fun e w' => e = .returned (.tuple #[.int .i64 X.1, .int .i64 (X.2 : Nat)]) ∧ Ext w w' := by
  cases h1 : smallB s[0] with
  | true => exact next_small s w h0 m hm hm2 h1 X hX
  | false =>
    cases h2 : digitB s[0] with
    | true => exact next_digit s w h0 m hm hm2 h1 h2 X hX
    | false =>
      by_cases h3 : s[0] = 39
      · exact next_quote s w h0 m hm hm2 h3 X hX
      by_cases h4 : s[0] = 45
      · by_cases h5 : 1 < s.size
        · cases h6 : digitB s[1] with
          | true => exact next_minus s w h5 m hm hm2 h4 h6 X hX
          | false => exact next_mark s w h0 m hm hm2 hM h1 h2 h3 (.inr (.inr ⟨h5, h6⟩)) X hX
        · exact next_mark s w h0 m hm hm2 hM h1 h2 h3 (.inr (.inl (by omega))) X hX
      · exact next_mark s w h0 m hm hm2 hM h1 h2 h3 (.inl h4) X hX
/-- the cells of tokens -/
def tkV : List (Tk × Nat) → List Value
  | [] => []
  | x :: l => [.int .i64 x.1.kind, .string x.1.text, .int .i64 x.2] ++ tkV l
theorem tkV_app : ∀ (a b : List (Tk × Nat)), tkV (a ++ b) = tkV a ++ tkV b
  | [], _ => rfl
  | x :: a, b => by simp [tkV, tkV_app a b]
theorem Tryd.elem_tks : Elem Tryd.prog 42 41 3 32 := by
  obtain ⟨i0, hi0, hz0, hz1, hz2⟩ := info_parts (show (Tryd.prog.info? 41).map (fun i => (i.zero, i.size, i.bytes)) = some (some (.agg #[.int .i64 0, .string ⟨#[]⟩, .int .i64 0]), 3, 32) by kernel_rfl)
  exact ⟨Tryd.underlying42, ⟨i0, _, hi0, hz0, hz1, hz2, rfl⟩, by omega⟩
def TokRes (w : World) (r : Option (List Tk)) (e : Ending) (w' : World) : Prop := match r with
  | some l => ∃ (A : Option Addr) (n cap : Nat) (q : List (Tk × Nat)), q.map (·.1) = l ∧ q.length = n ∧ e = .returned (.tuple #[.slice A n cap, .nilIface]) ∧ Hp w.heap.size w w' [.row 41 3 A n cap (tkV q)]
  | none => (∃ tp p, e = .returned (.tuple #[.slice none 0 0, .iface tp p])) ∧ Ext w w'
theorem tok_sp {f : Nat} {r : List UInt8} {k : Nat} : tokL (f + 1) (32 :: r) k = tokL f r k := by simp [tokL]
theorem tok_tk {f : Nat} {c : UInt8} {r : List UInt8} {k : Nat} (hc : c ≠ 32) (h0 : (nextL (c :: r)).2 ≠ 0) (hk : k ≠ 80) :
    tokL (f + 1) (c :: r) k = (tokL f ((c :: r).drop (nextL (c :: r)).2) (k + 1)).map (⟨(nextL (c :: r)).1, ⟨((c :: r).take (nextL (c :: r)).2).toArray⟩⟩ :: ·) := by
  conv => lhs; unfold tokL
  rw [if_neg (by simp [hc]), if_neg (by omega)]
  cases tokL f ((c :: r).drop (nextL (c :: r)).2) (k + 1) <;> rfl
theorem tok_no {f : Nat} {c : UInt8} {r : List UInt8} {k : Nat} (hc : c ≠ 32) (h : (nextL (c :: r)).2 = 0 ∨ k = 80) : tokL (f + 1) (c :: r) k = none := by
  conv => lhs; unfold tokL
  rw [if_neg (by simp [hc]), if_pos h]
theorem ext_take (s : ByteArray) (k n : Nat) : (⟨((s.data.toList.drop k).take n).toArray⟩ : ByteArray) = s.extract k (k + n) := by
  refine ba_ext ?_
  rw [Lib.extract_data, show k + n - k = n by omega]
theorem ext_all (s : ByteArray) (k : Nat) : (s.extract k s.size).data.toList = s.data.toList.drop k := by
  rw [Lib.extract_data]
  apply List.take_of_length_le
  rw [List.length_drop, ← Lib.size_eq]
  omega
set_option maxRecDepth 100000 in
set_option maxHeartbeats 8000000 in
theorem tokens_any (s : ByteArray) (w : World) (m : Nat) (hm : s.size = m) (hm2 : m ≤ 100000) (hM : MarksAt w) :
    Calls Tryd.prog 27 #[.string s] w (TokRes w (tokL (m + 1) s.data.toList 0)) := by
  have HN := Lib.hid (fun (k : Nat) (hk : k < m) (W : World) (hx : Ext w W) => next_any (s.extract k s.size) W (by rw [ext_size s k (by omega)]; omega) (m - k) (by rw [ext_size s k (by omega)]; omega) (by omega) (hM.ext hx) _ rfl)
  rw [hm] at HN
  clear hM
  obtain ⟨D, hD⟩ : ∃ D, D = tokL (m + 1) s.data.toList 0 := ⟨_, rfl⟩
  rw [← hD]
  have HD := Lib.hid (show D = (tokL (m + 1) (s.data.toList.drop 0) (List.length ([] : List (Tk × Nat)))).map (([] : List (Tk × Nat)).map (·.1) ++ ·) by
    rw [hD, List.drop_zero]
    cases tokL (m + 1) s.data.toList 0 <;> rfl)
  clear hD
  have hS := Hp.init w
  have hR := Reads.nil w
  go_enter Tryd.func27, Tryd.ntmps27
  go_wp2_with (first | ((with_reducible first | refine nhLa ?_ | refine nhLs ?_ | refine nhLd ?_ | refine nhCa ?_ | refine nhCs ?_ | refine nhCd ?_ | refine nhPa ?_ | refine nhPs ?_ | refine nhPd ?_ | refine nhKa ?_ | refine nhKs ?_ | refine nhKd ?_); ((try clear hF); clear hS; intro wk hS; (try simp only [List.set_cons_zero, List.set_cons_succ, heap_size, heap_set_size] at hS); ((try clear hF); (first | have hF := And.intro hS.facts (HRD.out _ (hS.sub (by first | simp | ((repeat (first | exact List.nil_sublist _ | exact List.Sublist.refl _ | with_reducible apply List.Sublist.cons₂ | apply List.Sublist.cons)))))) | have hF := And.intro hS.facts (hR.at hS.ext) | have hF := hS.facts); simp only [HFacts, cellFacts, RFacts, cellOnly, and_true, true_and, Nat.zero_add, Nat.reduceAdd] at hF))) | fail)
  replace hS := hS.nilRow 41 3
  go_loopw [4, 5, 6, 7] (fun sl i _ _ wr => ∃ (k n f cap : Nat) (A : Option Addr) (q : List (Tk × Nat)), sl = .slice A n cap ∧ i = .int .i64 k ∧ k ≤ m ∧ m - k < f ∧ n ≤ 80 ∧ Hid (q.length = n) ∧ Hid (D = (tokL f (s.data.toList.drop k) q.length).map (q.map (·.1) ++ ·)) ∧ Hp w.heap.size w wr [.row 41 3 A n cap (tkV q)]) (fun _ i _ _ _ => m - (intOf i).toNat)
  case atStart => exact ⟨0, 0, m + 1, 0, none, [], rfl, rfl, Nat.zero_le _, by omega, by omega, Lib.hid rfl, HD, hS⟩
  case round =>
    clear hS HD
    obtain ⟨k, n, f, cap, A, q, rfl, rfl, hk, hf, hn, HQ, HD, hS⟩ := hrel
    obtain ⟨f, rfl⟩ : ∃ g, f = g + 1 := ⟨f - 1, by omega⟩
    by_cases hlt : k < m
    · have hks : k < s.size := by omega
      have hd := at_drop s k hks
      by_cases h32 : s[k] = 32
      · have q1 : ((s[k].toNat : Int) == 32) = true := u8e h32
        have HD2 := Lib.hid (show D = (tokL f (s.data.toList.drop (k + 1)) q.length).map (q.map (·.1) ++ ·) by rw [HD.out, hd, h32, tok_sp])
        clear HD hd h32
        ((try clear hF); (first | have hF := And.intro hS.facts (HRD.out _ (hS.sub (by first | simp | ((repeat (first | exact List.nil_sublist _ | exact List.Sublist.refl _ | with_reducible apply List.Sublist.cons₂ | apply List.Sublist.cons)))))) | have hF := And.intro hS.facts (hR.at hS.ext) | have hF := hS.facts); simp only [HFacts, cellFacts, RFacts, cellOnly, and_true, true_and, Nat.zero_add, Nat.reduceAdd] at hF)
        go_wp2_with (first | ((with_reducible first | refine nhLa ?_ | refine nhLs ?_ | refine nhLd ?_ | refine nhCa ?_ | refine nhCs ?_ | refine nhCd ?_ | refine nhPa ?_ | refine nhPs ?_ | refine nhPd ?_ | refine nhKa ?_ | refine nhKs ?_ | refine nhKd ?_); ((try clear hF); clear hS; intro wk hS; (try simp only [List.set_cons_zero, List.set_cons_succ, heap_size, heap_set_size] at hS); ((try clear hF); (first | have hF := And.intro hS.facts (HRD.out _ (hS.sub (by first | simp | ((repeat (first | exact List.nil_sublist _ | exact List.Sublist.refl _ | with_reducible apply List.Sublist.cons₂ | apply List.Sublist.cons)))))) | have hF := And.intro hS.facts (hR.at hS.ext) | have hF := hS.facts); simp only [HFacts, cellFacts, RFacts, cellOnly, and_true, true_and, Nat.zero_add, Nat.reduceAdd] at hF))) | fail)
        go_roundw
        case rel => exact ⟨k + 1, n, f, cap, A, q, rfl, by go_num, by omega, by omega, hn, HQ, HD2, hS⟩
        case measure => simp [intOf]; omega
      have q1 : ((s[k].toNat : Int) == 32) = false := u8n (b := 32) h32
      obtain ⟨X, hX⟩ : ∃ X, X = nextL (s.extract k m).data.toList := ⟨_, rfl⟩
      have HN2 := Lib.hid (HN.out k hlt)
      rw [← hX] at HN2
      have hea := ext_all s k
      rw [hm] at hea
      rw [hea, hd] at hX
      clear hea
      have hXl := nextL_le (s[k] :: s.data.toList.drop (k + 1))
      rw [← hX, ← hd, List.length_drop, ← Lib.size_eq, hm] at hXl
      obtain ⟨kd, z⟩ := X
      simp only at hXl
      by_cases hz : z = 0
      · have HD2 := Lib.hid (show D = none by rw [HD.out, hd, tok_no h32 (.inl (by rw [← hX]; exact hz))]; rfl)
        subst hz
        clear HD hX hd hXl
        ((try clear hF); (first | have hF := And.intro hS.facts (HRD.out _ (hS.sub (by first | simp | ((repeat (first | exact List.nil_sublist _ | exact List.Sublist.refl _ | with_reducible apply List.Sublist.cons₂ | apply List.Sublist.cons)))))) | have hF := And.intro hS.facts (hR.at hS.ext) | have hF := hS.facts); simp only [HFacts, cellFacts, RFacts, cellOnly, and_true, true_and, Nat.zero_add, Nat.reduceAdd] at hF)
        go_wp2_with (first | ((with_reducible first | refine nhLa ?_ | refine nhLs ?_ | refine nhLd ?_ | refine nhCa ?_ | refine nhCs ?_ | refine nhCd ?_ | refine nhPa ?_ | refine nhPs ?_ | refine nhPd ?_ | refine nhKa ?_ | refine nhKs ?_ | refine nhKd ?_); ((try clear hF); clear hS; intro wk hS; (try simp only [List.set_cons_zero, List.set_cons_succ, heap_size, heap_set_size] at hS); ((try clear hF); (first | have hF := And.intro hS.facts (HRD.out _ (hS.sub (by first | simp | ((repeat (first | exact List.nil_sublist _ | exact List.Sublist.refl _ | with_reducible apply List.Sublist.cons₂ | apply List.Sublist.cons)))))) | have hF := And.intro hS.facts (hR.at hS.ext) | have hF := hS.facts); simp only [HFacts, cellFacts, RFacts, cellOnly, and_true, true_and, Nat.zero_add, Nat.reduceAdd] at hF))) | (go_at_call 38; (with_reducible refine (HN2.out _ hS.ext).mono ?_); rintro e wk ⟨rfl, hX⟩; replace hS := hS.step hX; clear hX; ((try clear hF); (first | have hF := And.intro hS.facts (HRD.out _ (hS.sub (by first | simp | ((repeat (first | exact List.nil_sublist _ | exact List.Sublist.refl _ | with_reducible apply List.Sublist.cons₂ | apply List.Sublist.cons)))))) | have hF := And.intro hS.facts (hR.at hS.ext) | have hF := hS.facts); simp only [HFacts, cellFacts, RFacts, cellOnly, and_true, true_and, Nat.zero_add, Nat.reduceAdd] at hF)))
        go_ret2
        rw [HD2.out]
        exact ⟨⟨_, _, rfl⟩, hS.ext⟩
      have q2 : ((z : Int) == 0) = false := by simp [hz]
      by_cases h80 : n = 80
      · have HD2 := Lib.hid (show D = none by rw [HD.out, hd, tok_no h32 (.inr (by rw [HQ.out]; exact h80))]; rfl)
        subst h80
        clear HD hX hd hXl
        ((try clear hF); (first | have hF := And.intro hS.facts (HRD.out _ (hS.sub (by first | simp | ((repeat (first | exact List.nil_sublist _ | exact List.Sublist.refl _ | with_reducible apply List.Sublist.cons₂ | apply List.Sublist.cons)))))) | have hF := And.intro hS.facts (hR.at hS.ext) | have hF := hS.facts); simp only [HFacts, cellFacts, RFacts, cellOnly, and_true, true_and, Nat.zero_add, Nat.reduceAdd] at hF)
        go_wp2_with (first | ((with_reducible first | refine nhLa ?_ | refine nhLs ?_ | refine nhLd ?_ | refine nhCa ?_ | refine nhCs ?_ | refine nhCd ?_ | refine nhPa ?_ | refine nhPs ?_ | refine nhPd ?_ | refine nhKa ?_ | refine nhKs ?_ | refine nhKd ?_); ((try clear hF); clear hS; intro wk hS; (try simp only [List.set_cons_zero, List.set_cons_succ, heap_size, heap_set_size] at hS); ((try clear hF); (first | have hF := And.intro hS.facts (HRD.out _ (hS.sub (by first | simp | ((repeat (first | exact List.nil_sublist _ | exact List.Sublist.refl _ | with_reducible apply List.Sublist.cons₂ | apply List.Sublist.cons)))))) | have hF := And.intro hS.facts (hR.at hS.ext) | have hF := hS.facts); simp only [HFacts, cellFacts, RFacts, cellOnly, and_true, true_and, Nat.zero_add, Nat.reduceAdd] at hF))) | (go_at_call 38; (with_reducible refine (HN2.out _ hS.ext).mono ?_); rintro e wk ⟨rfl, hX⟩; replace hS := hS.step hX; clear hX; ((try clear hF); (first | have hF := And.intro hS.facts (HRD.out _ (hS.sub (by first | simp | ((repeat (first | exact List.nil_sublist _ | exact List.Sublist.refl _ | with_reducible apply List.Sublist.cons₂ | apply List.Sublist.cons)))))) | have hF := And.intro hS.facts (hR.at hS.ext) | have hF := hS.facts); simp only [HFacts, cellFacts, RFacts, cellOnly, and_true, true_and, Nat.zero_add, Nat.reduceAdd] at hF)))
        go_ret2
        rw [HD2.out]
        exact ⟨⟨_, _, rfl⟩, hS.ext⟩
      have q3 : ((n : Int) == 80) = false := by simp; omega
      have HD2 := Lib.hid (show D = (tokL f (s.data.toList.drop (k + z)) (q ++ [((⟨kd, s.extract k (k + z)⟩ : Tk), k)]).length).map ((q ++ [((⟨kd, s.extract k (k + z)⟩ : Tk), k)]).map (·.1) ++ ·) by
        rw [HD.out, hd, tok_tk h32 (by rw [← hX]; exact hz) (by rw [HQ.out]; exact h80), ← hX, ← hd, List.drop_drop, ext_take, List.length_append]
        simp only [List.map_append, List.map_cons, List.map_nil, List.length_cons, List.length_nil, Nat.zero_add]
        cases tokL f (s.data.toList.drop (k + z)) (q.length + 1) <;> simp)
      clear HD hX hd
      ((try clear hF); (first | have hF := And.intro hS.facts (HRD.out _ (hS.sub (by first | simp | ((repeat (first | exact List.nil_sublist _ | exact List.Sublist.refl _ | with_reducible apply List.Sublist.cons₂ | apply List.Sublist.cons)))))) | have hF := And.intro hS.facts (hR.at hS.ext) | have hF := hS.facts); simp only [HFacts, cellFacts, RFacts, cellOnly, and_true, true_and, Nat.zero_add, Nat.reduceAdd] at hF)
      go_wp2_with (first | ((with_reducible first | refine nhLa ?_ | refine nhLs ?_ | refine nhLd ?_ | refine nhCa ?_ | refine nhCs ?_ | refine nhCd ?_ | refine nhPa ?_ | refine nhPs ?_ | refine nhPd ?_ | refine nhKa ?_ | refine nhKs ?_ | refine nhKd ?_); ((try clear hF); clear hS; intro wk hS; (try simp only [List.set_cons_zero, List.set_cons_succ, heap_size, heap_set_size] at hS); ((try clear hF); (first | have hF := And.intro hS.facts (HRD.out _ (hS.sub (by first | simp | ((repeat (first | exact List.nil_sublist _ | exact List.Sublist.refl _ | with_reducible apply List.Sublist.cons₂ | apply List.Sublist.cons)))))) | have hF := And.intro hS.facts (hR.at hS.ext) | have hF := hS.facts); simp only [HFacts, cellFacts, RFacts, cellOnly, and_true, true_and, Nat.zero_add, Nat.reduceAdd] at hF))) | (go_at_call 38; (with_reducible refine (HN2.out _ hS.ext).mono ?_); rintro e wk ⟨rfl, hX⟩; replace hS := hS.step hX; clear hX; ((try clear hF); (first | have hF := And.intro hS.facts (HRD.out _ (hS.sub (by first | simp | ((repeat (first | exact List.nil_sublist _ | exact List.Sublist.refl _ | with_reducible apply List.Sublist.cons₂ | apply List.Sublist.cons)))))) | have hF := And.intro hS.facts (hR.at hS.ext) | have hF := hS.facts); simp only [HFacts, cellFacts, RFacts, cellOnly, and_true, true_and, Nat.zero_add, Nat.reduceAdd] at hF)) | (at_builtin; refine wpList_push_hp Tryd.elem_tks rfl (.tmp 40) (.tmp 50) rfl (hS.second 0 rfl) rfl rfl rfl (by simp [Value.oneCell']) (by omega) (by omega) ?_; clear hS; intro Ak capk wk hS; (try simp only [List.eraseIdx_cons_zero, List.eraseIdx_cons_succ, List.set_cons_zero, List.set_cons_succ] at hS); ((try clear hF); (first | have hF := And.intro hS.facts (HRD.out _ (hS.sub (by first | simp | ((repeat (first | exact List.nil_sublist _ | exact List.Sublist.refl _ | with_reducible apply List.Sublist.cons₂ | apply List.Sublist.cons)))))) | have hF := And.intro hS.facts (hR.at hS.ext) | have hF := hS.facts); simp only [HFacts, cellFacts, RFacts, cellOnly, and_true, true_and, Nat.zero_add, Nat.reduceAdd] at hF)))
      go_roundw
      case rel =>
        refine ⟨k + z, n + 1, f, _, _, q ++ [((⟨kd, s.extract k (k + z)⟩ : Tk), k)], by go_num, by go_num, by omega, by omega, by omega, Lib.hid (by rw [List.length_append, HQ.out]; rfl), HD2, ?_⟩
        rw [tkV_app]
        exact hS
      case measure => simp [intOf]; omega
    · obtain rfl : k = m := by omega
      have HD2 := Lib.hid (show D = some ((q ++ [(endTk, k)]).map (·.1)) by
        rw [HD.out, List.drop_eq_nil_of_le (by rw [← Lib.size_eq]; omega)]
        simp [tokL])
      clear HD
      ((try clear hF); (first | have hF := And.intro hS.facts (HRD.out _ (hS.sub (by first | simp | ((repeat (first | exact List.nil_sublist _ | exact List.Sublist.refl _ | with_reducible apply List.Sublist.cons₂ | apply List.Sublist.cons)))))) | have hF := And.intro hS.facts (hR.at hS.ext) | have hF := hS.facts); simp only [HFacts, cellFacts, RFacts, cellOnly, and_true, true_and, Nat.zero_add, Nat.reduceAdd] at hF)
      go_wp2_with (first | ((with_reducible first | refine nhLa ?_ | refine nhLs ?_ | refine nhLd ?_ | refine nhCa ?_ | refine nhCs ?_ | refine nhCd ?_ | refine nhPa ?_ | refine nhPs ?_ | refine nhPd ?_ | refine nhKa ?_ | refine nhKs ?_ | refine nhKd ?_); ((try clear hF); clear hS; intro wk hS; (try simp only [List.set_cons_zero, List.set_cons_succ, heap_size, heap_set_size] at hS); ((try clear hF); (first | have hF := And.intro hS.facts (HRD.out _ (hS.sub (by first | simp | ((repeat (first | exact List.nil_sublist _ | exact List.Sublist.refl _ | with_reducible apply List.Sublist.cons₂ | apply List.Sublist.cons)))))) | have hF := And.intro hS.facts (hR.at hS.ext) | have hF := hS.facts); simp only [HFacts, cellFacts, RFacts, cellOnly, and_true, true_and, Nat.zero_add, Nat.reduceAdd] at hF))) | (at_builtin; refine wpList_push_hp Tryd.elem_tks rfl (.tmp 55) (.tmp 59) rfl (hS.second 0 rfl) rfl rfl rfl (by simp [Value.oneCell']) (by omega) (by omega) ?_; clear hS; intro Ak capk wk hS; (try simp only [List.eraseIdx_cons_zero, List.eraseIdx_cons_succ, List.set_cons_zero, List.set_cons_succ] at hS); ((try clear hF); (first | have hF := And.intro hS.facts (HRD.out _ (hS.sub (by first | simp | ((repeat (first | exact List.nil_sublist _ | exact List.Sublist.refl _ | with_reducible apply List.Sublist.cons₂ | apply List.Sublist.cons)))))) | have hF := And.intro hS.facts (hR.at hS.ext) | have hF := hS.facts); simp only [HFacts, cellFacts, RFacts, cellOnly, and_true, true_and, Nat.zero_add, Nat.reduceAdd] at hF)))
      go_ret2
      rw [HD2.out]
      refine ⟨_, n + 1, _, q ++ [(endTk, k)], rfl, by rw [List.length_append, HQ.out]; rfl, rfl, ?_⟩
      rw [tkV_app]
      exact hS
end Go.Proofs.YtmfilblbofkmcaaDoor

/- ask: the parser's steps: see, take, must, fail. -/
namespace Go.Proofs.YtmfilblbofkmcaaDoor
set_option linter.unusedSimpArgs false
set_option linter.unusedVariables false
open Go.RowKit
set_option linter.all false
set_option maxRecDepth 100000 in
set_option maxHeartbeats 8000000 in
theorem see_cells (gp gt off n cap : Nat) (k : Int) (t : ByteArray) (p : Nat) (s : ByteArray) (w : World) (c0 : w.cell? ⟨gp, 0, none⟩ = some (.slice (some ⟨gt, off, none⟩) n cap)) (hn : 0 < n) (hc : n ≤ cap)
    (c1 : w.cell? ⟨gt, off, none⟩ = some (.int .i64 k)) (c2 : w.cell? ⟨gt, off + 1, none⟩ = some (.string t)) (c3 : w.cell? ⟨gt, off + 2, none⟩ = some (.int .i64 p)) :
    Calls Tryd.prog 40 #[.pointer (some ⟨gp, 0, none⟩), .string s] w fun e w' => e = .returned (.bool ((t.data.toList == s.data.toList) && (k == 1 || k == 4))) ∧ Ext w w' := by
  have hS := Hp.init w
  have hR := Reads.cell c0 (Reads.cell c1 (Reads.cell c2 (Reads.cell c3 (Reads.nil w))))
  clear c0 c1 c2 c3
  ((try clear hF); (first | have hF := And.intro hS.facts (HRD.out _ (hS.sub (by first | simp | ((repeat (first | exact List.nil_sublist _ | exact List.Sublist.refl _ | with_reducible apply List.Sublist.cons₂ | apply List.Sublist.cons)))))) | have hF := And.intro hS.facts (hR.at hS.ext) | have hF := hS.facts); simp only [HFacts, cellFacts, RFacts, cellOnly, and_true, true_and, Nat.zero_add, Nat.reduceAdd] at hF)
  obtain ⟨b1, hb1⟩ : ∃ b, b = (t.data.toList == s.data.toList) := ⟨_, rfl⟩
  have q1 : (t.toList == s.toList) = b1 := by rw [hb1, ByteArray.toList_eq, ByteArray.toList_eq]
  rw [← hb1]
  clear hb1
  cases b1 with
  | false =>
    rw [Bool.false_and]
    go_enter Tryd.func40, Tryd.ntmps40
    go_wp2_with (first | ((with_reducible first | refine nhLa ?_ | refine nhLs ?_ | refine nhLd ?_ | refine nhCa ?_ | refine nhCs ?_ | refine nhCd ?_ | refine nhPa ?_ | refine nhPs ?_ | refine nhPd ?_ | refine nhKa ?_ | refine nhKs ?_ | refine nhKd ?_); ((try clear hF); clear hS; intro wk hS; (try simp only [List.set_cons_zero, List.set_cons_succ, heap_size, heap_set_size] at hS); ((try clear hF); (first | have hF := And.intro hS.facts (HRD.out _ (hS.sub (by first | simp | ((repeat (first | exact List.nil_sublist _ | exact List.Sublist.refl _ | with_reducible apply List.Sublist.cons₂ | apply List.Sublist.cons)))))) | have hF := And.intro hS.facts (hR.at hS.ext) | have hF := hS.facts); simp only [HFacts, cellFacts, RFacts, cellOnly, and_true, true_and, Nat.zero_add, Nat.reduceAdd] at hF))) | fail)
    go_ret
    exact ⟨rfl, hS.ext⟩
  | true =>
    by_cases h1 : k = 1
    · subst h1
      go_enter Tryd.func40, Tryd.ntmps40
      go_wp2_with (first | ((with_reducible first | refine nhLa ?_ | refine nhLs ?_ | refine nhLd ?_ | refine nhCa ?_ | refine nhCs ?_ | refine nhCd ?_ | refine nhPa ?_ | refine nhPs ?_ | refine nhPd ?_ | refine nhKa ?_ | refine nhKs ?_ | refine nhKd ?_); ((try clear hF); clear hS; intro wk hS; (try simp only [List.set_cons_zero, List.set_cons_succ, heap_size, heap_set_size] at hS); ((try clear hF); (first | have hF := And.intro hS.facts (HRD.out _ (hS.sub (by first | simp | ((repeat (first | exact List.nil_sublist _ | exact List.Sublist.refl _ | with_reducible apply List.Sublist.cons₂ | apply List.Sublist.cons)))))) | have hF := And.intro hS.facts (hR.at hS.ext) | have hF := hS.facts); simp only [HFacts, cellFacts, RFacts, cellOnly, and_true, true_and, Nat.zero_add, Nat.reduceAdd] at hF))) | fail)
      go_ret
      exact ⟨rfl, hS.ext⟩
    · have q2 : (k == 1) = false := by simp [h1]
      by_cases h4 : k = 4
      · subst h4
        go_enter Tryd.func40, Tryd.ntmps40
        go_wp2_with (first | ((with_reducible first | refine nhLa ?_ | refine nhLs ?_ | refine nhLd ?_ | refine nhCa ?_ | refine nhCs ?_ | refine nhCd ?_ | refine nhPa ?_ | refine nhPs ?_ | refine nhPd ?_ | refine nhKa ?_ | refine nhKs ?_ | refine nhKd ?_); ((try clear hF); clear hS; intro wk hS; (try simp only [List.set_cons_zero, List.set_cons_succ, heap_size, heap_set_size] at hS); ((try clear hF); (first | have hF := And.intro hS.facts (HRD.out _ (hS.sub (by first | simp | ((repeat (first | exact List.nil_sublist _ | exact List.Sublist.refl _ | with_reducible apply List.Sublist.cons₂ | apply List.Sublist.cons)))))) | have hF := And.intro hS.facts (hR.at hS.ext) | have hF := hS.facts); simp only [HFacts, cellFacts, RFacts, cellOnly, and_true, true_and, Nat.zero_add, Nat.reduceAdd] at hF))) | fail)
        go_ret
        exact ⟨rfl, hS.ext⟩
      · have q3 : (k == 4) = false := by simp [h4]
        rw [q2, q3]
        clear h1 h4
        go_enter Tryd.func40, Tryd.ntmps40
        go_wp2_with (first | ((with_reducible first | refine nhLa ?_ | refine nhLs ?_ | refine nhLd ?_ | refine nhCa ?_ | refine nhCs ?_ | refine nhCd ?_ | refine nhPa ?_ | refine nhPs ?_ | refine nhPd ?_ | refine nhKa ?_ | refine nhKs ?_ | refine nhKd ?_); ((try clear hF); clear hS; intro wk hS; (try simp only [List.set_cons_zero, List.set_cons_succ, heap_size, heap_set_size] at hS); ((try clear hF); (first | have hF := And.intro hS.facts (HRD.out _ (hS.sub (by first | simp | ((repeat (first | exact List.nil_sublist _ | exact List.Sublist.refl _ | with_reducible apply List.Sublist.cons₂ | apply List.Sublist.cons)))))) | have hF := And.intro hS.facts (hR.at hS.ext) | have hF := hS.facts); simp only [HFacts, cellFacts, RFacts, cellOnly, and_true, true_and, Nat.zero_add, Nat.reduceAdd] at hF))) | fail)
        go_ret
        exact ⟨rfl, hS.ext⟩
/-- how a walk that fails ends -/
def Fails (e : Ending) : Prop := ∃ tp p, e = .panicked [{ v := .iface 61 (.agg #[.iface tp p]), recovered := false }]
set_option maxRecDepth 100000 in
set_option maxHeartbeats 8000000 in
theorem fail_cells (gp gt off n cap : Nat) (p : Nat) (er : Int) (w : World) (c0 : w.cell? ⟨gp, 0, none⟩ = some (.slice (some ⟨gt, off, none⟩) n cap)) (hn : 0 < n) (hc : n ≤ cap) (c3 : w.cell? ⟨gt, off + 2, none⟩ = some (.int .i64 p)) :
    Calls Tryd.prog 28 #[.pointer (some ⟨gp, 0, none⟩), .int .i64 er] w fun e w' => Fails e ∧ Ext w w' := by
  have hS := Hp.init w
  have hR := Reads.cell c0 (Reads.cell c3 (Reads.nil w))
  clear c0 c3
  ((try clear hF); (first | have hF := And.intro hS.facts (HRD.out _ (hS.sub (by first | simp | ((repeat (first | exact List.nil_sublist _ | exact List.Sublist.refl _ | with_reducible apply List.Sublist.cons₂ | apply List.Sublist.cons)))))) | have hF := And.intro hS.facts (hR.at hS.ext) | have hF := hS.facts); simp only [HFacts, cellFacts, RFacts, cellOnly, and_true, true_and, Nat.zero_add, Nat.reduceAdd] at hF)
  go_enter Tryd.func28, Tryd.ntmps28
  go_wp2_with (first | ((with_reducible first | refine nhLa ?_ | refine nhLs ?_ | refine nhLd ?_ | refine nhCa ?_ | refine nhCs ?_ | refine nhCd ?_ | refine nhPa ?_ | refine nhPs ?_ | refine nhPd ?_ | refine nhKa ?_ | refine nhKs ?_ | refine nhKd ?_); ((try clear hF); clear hS; intro wk hS; (try simp only [List.set_cons_zero, List.set_cons_succ, heap_size, heap_set_size] at hS); ((try clear hF); (first | have hF := And.intro hS.facts (HRD.out _ (hS.sub (by first | simp | ((repeat (first | exact List.nil_sublist _ | exact List.Sublist.refl _ | with_reducible apply List.Sublist.cons₂ | apply List.Sublist.cons)))))) | have hF := And.intro hS.facts (hR.at hS.ext) | have hF := hS.facts); simp only [HFacts, cellFacts, RFacts, cellOnly, and_true, true_and, Nat.zero_add, Nat.reduceAdd] at hF))) | fail)
  exact ⟨rfl, ⟨_, _, rfl⟩, hS.ext⟩
/-- tokens lie at a block, as long as R stands -/
def TkIn (B : Nat) (w0 : World) (R : Item) (gt off : Nat) (q : List (Tk × Nat)) : Prop :=
  ∀ W, Hp B w0 W [R] → ∀ (i : Nat) (x : Tk × Nat), q[i]? = some x → W.cell? ⟨gt, off + i * 3, none⟩ = some (.int .i64 x.1.kind) ∧ W.cell? ⟨gt, off + i * 3 + 1, none⟩ = some (.string x.1.text) ∧ W.cell? ⟨gt, off + i * 3 + 2, none⟩ = some (.int .i64 x.2)
theorem TkIn.hd {B : Nat} {w0 : World} {R : Item} {gt off : Nat} {x : Tk × Nat} {q : List (Tk × Nat)} (h : TkIn B w0 R gt off (x :: q)) :
    ∀ W, Hp B w0 W [R] → W.cell? ⟨gt, off, none⟩ = some (.int .i64 x.1.kind) ∧ W.cell? ⟨gt, off + 1, none⟩ = some (.string x.1.text) ∧ W.cell? ⟨gt, off + 2, none⟩ = some (.int .i64 x.2) := fun W hW => by
  have := h W hW 0 x rfl
  simpa using this
theorem TkIn.tl {B : Nat} {w0 : World} {R : Item} {gt off : Nat} {x : Tk × Nat} {q : List (Tk × Nat)} (h : TkIn B w0 R gt off (x :: q)) : TkIn B w0 R gt (off + 3) q := fun W hW i y hy => by
  have := h W hW (i + 1) y (by simpa using hy)
  rw [show off + 3 + i * 3 = off + (i + 1) * 3 by omega]
  exact this
/-- the parser stands at l -/
def PAt (B : Nat) (w0 : World) (R : Item) (gt gp : Nat) (l : List Tk) (y : Item) : Prop :=
  ∃ (off n cap : Nat) (q : List (Tk × Nat)), q.map (·.1) = l ∧ q.length = n ∧ n ≤ cap ∧ cap ≤ 9223372036854775807 ∧ y = .blk gp [.slice (some ⟨gt, off, none⟩) n cap] 44 ∧ TkIn B w0 R gt off q
def gsub1 {B : Nat} {w0 W : World} {y R : Item} {M : List Item} (h : Hp B w0 W (y :: R :: M)) : Hp B w0 W [R] := h.sub (by simp)
theorem PAt.blk {B : Nat} {w0 : World} {R : Item} {gt gp : Nat} {l : List Tk} {y : Item} (h : PAt B w0 R gt gp l y) : ∃ v, y = .blk gp [v] 44 := by
  obtain ⟨off, n, cap, q, h1, h2, h3, h4, rfl, h5⟩ := h
  exact ⟨_, rfl⟩
theorem see_any {B : Nat} {w0 w : World} {R : Item} {gt gp : Nat} {l : List Tk} {y : Item} {M : List Item} (s : ByteArray) (hl : l ≠ []) (hP : PAt B w0 R gt gp l y) (hS : Hp B w0 w (y :: R :: M)) :
    Calls Tryd.prog 40 #[.pointer (some ⟨gp, 0, none⟩), .string s] w fun e w' => e = .returned (.bool (seeT l s.data.toList)) ∧ Ext w w' := by
  obtain ⟨off, n, cap, q, rfl, hn, hc, hc2, rfl, hT⟩ := hP
  cases q with
  | nil => exact absurd rfl hl
  | cons x q =>
    obtain ⟨c1, c2, c3⟩ := hT.hd w (gsub1 hS)
    have hF := hS.facts
    simp only [HFacts, cellFacts, RFacts, cellOnly, and_true, true_and, Nat.zero_add, Nat.reduceAdd] at hF
    simp only [List.length_cons] at hn
    exact see_cells gp gt off n cap x.1.kind x.1.text x.2 s w hF.1.1 (by omega) hc c1 c2 c3
theorem fail_any {B : Nat} {w0 w : World} {R : Item} {gt gp : Nat} {l : List Tk} {y : Item} {M : List Item} (er : Int) (hl : l ≠ []) (hP : PAt B w0 R gt gp l y) (hS : Hp B w0 w (y :: R :: M)) :
    Calls Tryd.prog 28 #[.pointer (some ⟨gp, 0, none⟩), .int .i64 er] w fun e w' => Fails e ∧ Ext w w' := by
  obtain ⟨off, n, cap, q, rfl, hn, hc, hc2, rfl, hT⟩ := hP
  cases q with
  | nil => exact absurd rfl hl
  | cons x q =>
    obtain ⟨c1, c2, c3⟩ := hT.hd w (gsub1 hS)
    have hF := hS.facts
    simp only [HFacts, cellFacts, RFacts, cellOnly, and_true, true_and, Nat.zero_add, Nat.reduceAdd] at hF
    simp only [List.length_cons] at hn
    exact fail_cells gp gt off n cap x.2 er w hF.1.1 (by omega) hc c3
/-- tokens as a text has them: an end last -/
def EndT (l : List Tk) : Prop := ∃ p, l = p ++ [endTk]
theorem EndT.ne {l : List Tk} (h : EndT l) : l ≠ [] := by obtain ⟨p, rfl⟩ := h; simp
theorem EndT.tl {t : Tk} {l : List Tk} (h : EndT (t :: l)) (hk : t.kind ≠ 5) : EndT l := by
  obtain ⟨p, hp⟩ := h
  cases p with
  | nil =>
    simp only [List.nil_append, List.cons.injEq] at hp
    rw [hp.1] at hk
    exact absurd rfl hk
  | cons a p => exact ⟨p, (List.cons.inj hp).2⟩
theorem seeT_kind {t : Tk} {l : List Tk} {s : List UInt8} (h : seeT (t :: l) s = true) : t.kind ≠ 5 := by
  simp only [seeT, Bool.and_eq_true, Bool.or_eq_true, beq_iff_eq] at h
  omega
set_option maxRecDepth 100000 in
set_option maxHeartbeats 8000000 in
theorem take_any {B : Nat} {w0 w : World} {R : Item} {gt gp : Nat} {l : List Tk} {y : Item} {M : List Item} (s : ByteArray) (hl : EndT l) (hP : PAt B w0 R gt gp l y) (hS : Hp B w0 w (y :: R :: M)) :
    Calls Tryd.prog 30 #[.pointer (some ⟨gp, 0, none⟩), .string s] w fun e w' => e = .returned (.bool (seeT l s.data.toList)) ∧ ∃ y', PAt B w0 R gt gp (if seeT l s.data.toList then l.tail else l) y' ∧ Hp B w0 w' (y' :: R :: M) := by
  have HSE := Lib.hid (fun (W : World) (h : Hp B w0 W (y :: R :: M)) => see_any s hl.ne hP h)
  have HP := Lib.hid hP
  obtain ⟨off, n, cap, q, rfl, hn, hc, hc2, rfl, hT⟩ := hP
  cases hb : seeT (q.map (·.1)) s.data.toList with
  | false =>
    rw [hb] at HSE
    clear hb hn hT
    go_enter Tryd.func30, Tryd.ntmps30
    go_wp2_with (first | ((with_reducible first | refine nhLa ?_ | refine nhLs ?_ | refine nhLd ?_ | refine nhCa ?_ | refine nhCs ?_ | refine nhCd ?_ | refine nhPa ?_ | refine nhPs ?_ | refine nhPd ?_ | refine nhKa ?_ | refine nhKs ?_ | refine nhKd ?_); ((try clear hF); clear hS; intro wk hS; (try simp only [List.set_cons_zero, List.set_cons_succ, heap_size, heap_set_size] at hS); ((try clear hF); (first | have hF := And.intro hS.facts (HRD.out _ (hS.sub (by first | simp | ((repeat (first | exact List.nil_sublist _ | exact List.Sublist.refl _ | with_reducible apply List.Sublist.cons₂ | apply List.Sublist.cons)))))) | have hF := And.intro hS.facts (hR.at hS.ext) | have hF := hS.facts); simp only [HFacts, cellFacts, RFacts, cellOnly, and_true, true_and, Nat.zero_add, Nat.reduceAdd] at hF))) | (go_at_call 40; (with_reducible refine (HSE.out _ hS).mono ?_); rintro e wk ⟨rfl, hX⟩; replace hS := hS.step hX; clear hX; ((try clear hF); (first | have hF := And.intro hS.facts (HRD.out _ (hS.sub (by first | simp | ((repeat (first | exact List.nil_sublist _ | exact List.Sublist.refl _ | with_reducible apply List.Sublist.cons₂ | apply List.Sublist.cons)))))) | have hF := And.intro hS.facts (hR.at hS.ext) | have hF := hS.facts); simp only [HFacts, cellFacts, RFacts, cellOnly, and_true, true_and, Nat.zero_add, Nat.reduceAdd] at hF)))
    go_ret
    exact ⟨rfl, _, HP.out, hS⟩
  | true =>
    have hx : ∃ x q', q = x :: q' ∧ q'.length + 1 = n ∧ 0 < q'.length := by
      cases q with
      | nil => simp [seeT] at hb
      | cons x q' =>
        have := (hl.tl (seeT_kind hb)).ne
        refine ⟨x, q', rfl, by simpa using hn, ?_⟩
        cases q' with
        | nil => exact absurd rfl this
        | cons _ _ => simp
    obtain ⟨x, q', rfl, hn2, hq0⟩ := hx
    have HT := Lib.hid hT.tl
    rw [hb] at HSE
    have h1 : 1 ≤ n := by omega
    have h1c : 1 ≤ cap := by omega
    clear hb hT hn HP
    go_enter Tryd.func30, Tryd.ntmps30
    go_wp2_with (first | ((with_reducible first | refine nhLa ?_ | refine nhLs ?_ | refine nhLd ?_ | refine nhCa ?_ | refine nhCs ?_ | refine nhCd ?_ | refine nhPa ?_ | refine nhPs ?_ | refine nhPd ?_ | refine nhKa ?_ | refine nhKs ?_ | refine nhKd ?_); ((try clear hF); clear hS; intro wk hS; (try simp only [List.set_cons_zero, List.set_cons_succ, heap_size, heap_set_size] at hS); ((try clear hF); (first | have hF := And.intro hS.facts (HRD.out _ (hS.sub (by first | simp | ((repeat (first | exact List.nil_sublist _ | exact List.Sublist.refl _ | with_reducible apply List.Sublist.cons₂ | apply List.Sublist.cons)))))) | have hF := And.intro hS.facts (hR.at hS.ext) | have hF := hS.facts); simp only [HFacts, cellFacts, RFacts, cellOnly, and_true, true_and, Nat.zero_add, Nat.reduceAdd] at hF))) | (go_at_call 40; (with_reducible refine (HSE.out _ hS).mono ?_); rintro e wk ⟨rfl, hX⟩; replace hS := hS.step hX; clear hX; ((try clear hF); (first | have hF := And.intro hS.facts (HRD.out _ (hS.sub (by first | simp | ((repeat (first | exact List.nil_sublist _ | exact List.Sublist.refl _ | with_reducible apply List.Sublist.cons₂ | apply List.Sublist.cons)))))) | have hF := And.intro hS.facts (hR.at hS.ext) | have hF := hS.facts); simp only [HFacts, cellFacts, RFacts, cellOnly, and_true, true_and, Nat.zero_add, Nat.reduceAdd] at hF)))
    go_ret
    refine ⟨rfl, _, ⟨off + 3, n - 1, cap - 1, q', rfl, by omega, by omega, by omega, rfl, HT.out⟩, ?_⟩
    exact hS
end Go.Proofs.YtmfilblbofkmcaaDoor

/- ask: the parser's steps: must, name, code, literal. -/
namespace Go.Proofs.YtmfilblbofkmcaaDoor
set_option linter.unusedSimpArgs false
set_option linter.unusedVariables false
open Go.RowKit
set_option linter.all false
theorem gsub2 {B : Nat} {w0 W : World} {a y R : Item} {M : List Item} (h : Hp B w0 W (a :: y :: R :: M)) : Hp B w0 W [R] := h.sub (by simp)
theorem gpar2 {B : Nat} {w0 W : World} {a y R : Item} {M : List Item} (h : Hp B w0 W (a :: y :: R :: M)) : Hp B w0 W (y :: R :: M) := h.tail
theorem grest1 {B : Nat} {w0 W : World} {y R : Item} {M : List Item} (h : Hp B w0 W (y :: R :: M)) : Hp B w0 W M := h.tail.tail
/-- the words that are no names, in the program's variable -/
def KeptA (w : World) : Prop := ∀ j, j < 11 → w.cell? ⟨3, j, none⟩ = some (.string (kept11.getD j ByteArray.empty))
theorem KeptA.ext {w w' : World} (h : KeptA w) (hx : Ext w w') : KeptA w' := fun j hj => hx.keeps (h j hj)
theorem keptA_any (s : ByteArray) (w : World) (h : KeptA w) : Calls Tryd.prog 67 #[.slice (some ⟨3, 0, none⟩) 11 11, .string s] w fun e w' => e = .returned (.bool (Lib.containsS kept11 s)) ∧ Ext w w' :=
  (Tryd.slices_Contains_string 3 0 11 11 kept11 s w (by decide) (by decide) (fun j hj => by rw [Nat.zero_add]; exact h j hj)).mono fun e w' ⟨h1, h2⟩ => ⟨h1, by rw [h2]; exact Ext.refl _⟩
/-- what stands all the time -/
def EnvA (B : Nat) (w0 : World) (R : Item) : Prop := ∀ W, Hp B w0 W [R] → KeptA W ∧ SynAt W ∧ RngAt W
set_option maxRecDepth 100000 in
set_option maxHeartbeats 8000000 in
theorem must_any {B : Nat} {w0 w : World} {R : Item} {gt gp : Nat} {l : List Tk} {y : Item} {M : List Item} (s : ByteArray) (hl : EndT l) (hP : PAt B w0 R gt gp l y) (hS : Hp B w0 w (y :: R :: M)) :
    Calls Tryd.prog 55 #[.pointer (some ⟨gp, 0, none⟩), .string s] w fun e w' =>
      if seeT l s.data.toList then e = .returned (.tuple #[]) ∧ ∃ y', PAt B w0 R gt gp l.tail y' ∧ Hp B w0 w' (y' :: R :: M) else Fails e ∧ Hp B w0 w' M := by
  have HTA := Lib.hid (fun (W : World) (h : Hp B w0 W (y :: R :: M)) => take_any s hl hP h)
  have HFL := Lib.hid (fun (y' : Item) (h' : PAt B w0 R gt gp l y') (W : World) (h : Hp B w0 W (y' :: R :: M)) => fail_any 3 hl.ne h' h)
  clear hP
  cases hb : seeT l s.data.toList with
  | true =>
    rw [hb] at HTA
    simp only [if_true] at HTA ⊢
    clear hb HFL hl
    go_enter Tryd.func55, Tryd.ntmps55
    go_wp2_with (first | ((with_reducible first | refine nhLa ?_ | refine nhLs ?_ | refine nhLd ?_ | refine nhCa ?_ | refine nhCs ?_ | refine nhCd ?_ | refine nhPa ?_ | refine nhPs ?_ | refine nhPd ?_ | refine nhKa ?_ | refine nhKs ?_ | refine nhKd ?_); ((try clear hF); clear hS; intro wk hS; (try simp only [List.set_cons_zero, List.set_cons_succ, heap_size, heap_set_size] at hS); ((try clear hF); (first | have hF := And.intro hS.facts (HRD.out _ (hS.sub (by first | simp | ((repeat (first | exact List.nil_sublist _ | exact List.Sublist.refl _ | with_reducible apply List.Sublist.cons₂ | apply List.Sublist.cons)))))) | have hF := And.intro hS.facts (hR.at hS.ext) | have hF := hS.facts); simp only [HFacts, cellFacts, RFacts, cellOnly, and_true, true_and, Nat.zero_add, Nat.reduceAdd] at hF))) | (go_at_call 30; (with_reducible refine Calls.mono (HTA.out _ hS) ?_); clear hS; rintro e wk ⟨rfl, y', HY, hS⟩))
    go_end0
    exact ⟨rfl, y', HY, hS⟩
  | false =>
    rw [hb] at HTA
    simp only [Bool.false_eq_true, if_false] at HTA ⊢
    clear hb hl
    go_enter Tryd.func55, Tryd.ntmps55
    go_wp2_with (first | ((with_reducible first | refine nhLa ?_ | refine nhLs ?_ | refine nhLd ?_ | refine nhCa ?_ | refine nhCs ?_ | refine nhCd ?_ | refine nhPa ?_ | refine nhPs ?_ | refine nhPd ?_ | refine nhKa ?_ | refine nhKs ?_ | refine nhKd ?_); ((try clear hF); clear hS; intro wk hS; (try simp only [List.set_cons_zero, List.set_cons_succ, heap_size, heap_set_size] at hS); ((try clear hF); (first | have hF := And.intro hS.facts (HRD.out _ (hS.sub (by first | simp | ((repeat (first | exact List.nil_sublist _ | exact List.Sublist.refl _ | with_reducible apply List.Sublist.cons₂ | apply List.Sublist.cons)))))) | have hF := And.intro hS.facts (hR.at hS.ext) | have hF := hS.facts); simp only [HFacts, cellFacts, RFacts, cellOnly, and_true, true_and, Nat.zero_add, Nat.reduceAdd] at hF))) | (go_at_call 30; (with_reducible refine Calls.mono (HTA.out _ hS) ?_); clear hS; rintro e wk ⟨rfl, y', HY, hS⟩) | (go_at_call 28; (with_reducible refine (HFL.out _ HY _ hS).mono ?_); rintro e wk ⟨⟨tp, pv, rfl⟩, hX⟩; replace hS := hS.step hX; clear hX))
    exact ⟨rfl, ⟨_, _, rfl⟩, grest1 hS⟩
def NameRes (B : Nat) (w0 : World) (R : Item) (gt gp : Nat) (M : List Item) (r : Option (ByteArray × List Tk)) (e : Ending) (w' : World) : Prop := match r with
  | some (n, r) => e = .returned (.string n) ∧ ∃ y', PAt B w0 R gt gp r y' ∧ Hp B w0 w' (y' :: R :: M)
  | none => Fails e ∧ Hp B w0 w' M
set_option maxRecDepth 100000 in
set_option maxHeartbeats 8000000 in
theorem name_par {B : Nat} {w0 w : World} {R : Item} {gt gp : Nat} {l : List Tk} {y : Item} {M : List Item} (hE : EnvA B w0 R) (hl : EndT l) (hP : PAt B w0 R gt gp l y) (hS : Hp B w0 w (y :: R :: M)) :
    Calls Tryd.prog 56 #[.pointer (some ⟨gp, 0, none⟩)] w (NameRes B w0 R gt gp M (nameP l)) := by
  have HFL := Lib.hid (fun (er : Int) (W : World) (h : Hp B w0 W (y :: R :: M)) => fail_any er hl.ne hP h)
  have HP := Lib.hid hP
  obtain ⟨off, n, cap, q, rfl, hn, hc, hc2, rfl, hT⟩ := hP
  cases q with
  | nil => exact absurd rfl hl.ne
  | cons x q =>
    have HRD := Lib.hid hT.hd
    have HTL := Lib.hid hT.tl
    have HKC := Lib.hid (fun (W : World) (h : Hp B w0 W [R]) => keptA_any x.1.text W (hE W h).1)
    have HNM := Lib.hid (fun (W : World) => name_any x.1.text W)
    have hE1 : x.1.kind ≠ 5 → EndT (q.map (·.1)) := fun h => EndT.tl (by simpa using hl) h
    have hn0 : 0 < n := by rw [← hn]; simp
    have hq : q.length = n - 1 := by rw [← hn]; simp
    have hE2 : x.1.kind ≠ 5 → 1 ≤ q.length := fun h => by
      have := (hE1 h).ne
      cases q with
      | nil => exact absurd rfl this
      | cons _ _ => simp
    clear hE hT hn hl hE1
    obtain ⟨⟨kd, tx⟩, pos⟩ := x
    simp only at HRD HKC HNM hE2
    obtain ⟨D, hD⟩ : ∃ D, D = nameP (((⟨kd, tx⟩, pos) :: q : List (Tk × Nat)).map (·.1)) := ⟨_, rfl⟩
    rw [← hD]
    by_cases hk : kd = 1
    · have hq1 := hE2 (by omega)
      have h1 : 1 ≤ n := by omega
      have h1c : 1 ≤ cap := by omega
      have q1 : (kd == 1) = true := by simp [hk]
      subst hk
      clear hE2
      cases hcn : Lib.containsS kept11 tx with
      | true =>
        rw [hcn] at HKC
        obtain rfl : D = none := by rw [hD]; simp [nameP, nameT, hcn]
        clear hcn HNM HTL hD
        ((try clear hF); (first | have hF := And.intro hS.facts (HRD.out _ (hS.sub (by first | simp | ((repeat (first | exact List.nil_sublist _ | exact List.Sublist.refl _ | with_reducible apply List.Sublist.cons₂ | apply List.Sublist.cons)))))) | have hF := And.intro hS.facts (hR.at hS.ext) | have hF := hS.facts); simp only [HFacts, cellFacts, RFacts, cellOnly, and_true, true_and, Nat.zero_add, Nat.reduceAdd] at hF)
        go_enter Tryd.func56, Tryd.ntmps56
        go_wp2_with (first | ((with_reducible first | refine nhLa ?_ | refine nhLs ?_ | refine nhLd ?_ | refine nhCa ?_ | refine nhCs ?_ | refine nhCd ?_ | refine nhPa ?_ | refine nhPs ?_ | refine nhPd ?_ | refine nhKa ?_ | refine nhKs ?_ | refine nhKd ?_); ((try clear hF); clear hS; intro wk hS; (try simp only [List.set_cons_zero, List.set_cons_succ, heap_size, heap_set_size] at hS); ((try clear hF); (first | have hF := And.intro hS.facts (HRD.out _ (hS.sub (by first | simp | ((repeat (first | exact List.nil_sublist _ | exact List.Sublist.refl _ | with_reducible apply List.Sublist.cons₂ | apply List.Sublist.cons)))))) | have hF := And.intro hS.facts (hR.at hS.ext) | have hF := hS.facts); simp only [HFacts, cellFacts, RFacts, cellOnly, and_true, true_and, Nat.zero_add, Nat.reduceAdd] at hF))) | (first | (with_reducible refine wp_region_hp (draw := true) (by kernel_rfl) (by kernel_rfl) hS ?_) | ((with_reducible refine Fixed.here ?_); (first | ((with_reducible apply Fixed.skip); (first | rfl | exact wanted_false rfl rfl rfl (by assumption)); try simp only [Act.put, List.setIfInBounds_toArray, List.set_cons_zero, List.set_cons_succ]) | ((with_reducible apply Fixed.val); (first | rfl | exact wanted_true rfl rfl rfl (by assumption)); (rintro w hS; ((try clear hF); (first | have hF := And.intro hS.facts (HRD.out _ (hS.sub (by first | simp | ((repeat (first | exact List.nil_sublist _ | exact List.Sublist.refl _ | with_reducible apply List.Sublist.cons₂ | apply List.Sublist.cons)))))) | have hF := And.intro hS.facts (hR.at hS.ext) | have hF := hS.facts); simp only [HFacts, cellFacts, RFacts, cellOnly, and_true, true_and, Nat.zero_add, Nat.reduceAdd] at hF); go_simp; with_reducible rfl); try simp only [Act.put, List.setIfInBounds_toArray, List.set_cons_zero, List.set_cons_succ]) | ((with_reducible apply Fixed.call); (first | rfl | exact wanted_true rfl rfl rfl (by assumption)); (rintro w hS; ((try clear hF); (first | have hF := And.intro hS.facts (HRD.out _ (hS.sub (by first | simp | ((repeat (first | exact List.nil_sublist _ | exact List.Sublist.refl _ | with_reducible apply List.Sublist.cons₂ | apply List.Sublist.cons)))))) | have hF := And.intro hS.facts (hR.at hS.ext) | have hF := hS.facts); simp only [HFacts, cellFacts, RFacts, cellOnly, and_true, true_and, Nat.zero_add, Nat.reduceAdd] at hF); go_simp; exact ⟨rfl, rfl⟩); (rintro w hS; first | (with_reducible exact (HKC.out _ (gsub2 hS)))); try simp only [Act.put, List.setIfInBounds_toArray, List.set_cons_zero, List.set_cons_succ]) | ((with_reducible apply Fixed.guardT); rfl; rfl; rfl; (all_goals intro hg)) | ((with_reducible apply Fixed.guardF); rfl; rfl; rfl; (all_goals intro hg)) | (with_reducible refine Fixed.done ?_; (try clear hF); clear hS; intro wk hS; ((try clear hF); (first | have hF := And.intro hS.facts (HRD.out _ (hS.sub (by first | simp | ((repeat (first | exact List.nil_sublist _ | exact List.Sublist.refl _ | with_reducible apply List.Sublist.cons₂ | apply List.Sublist.cons)))))) | have hF := And.intro hS.facts (hR.at hS.ext) | have hF := hS.facts); simp only [HFacts, cellFacts, RFacts, cellOnly, and_true, true_and, Nat.zero_add, Nat.reduceAdd] at hF))))) | (go_at_call 28; (with_reducible refine (HFL.out _ _ (gpar2 hS)).mono ?_); rintro e wk ⟨⟨tp, pv, rfl⟩, hX⟩; replace hS := hS.step hX; clear hX))
        exact ⟨rfl, ⟨_, _, rfl⟩, grest1 (gpar2 hS)⟩
      | false =>
        rw [hcn] at HKC
        cases hnb : nameB tx with
        | false =>
          rw [hnb] at HNM
          obtain rfl : D = none := by rw [hD]; simp [nameP, nameT, hnb]
          clear hnb HTL hD hcn
          ((try clear hF); (first | have hF := And.intro hS.facts (HRD.out _ (hS.sub (by first | simp | ((repeat (first | exact List.nil_sublist _ | exact List.Sublist.refl _ | with_reducible apply List.Sublist.cons₂ | apply List.Sublist.cons)))))) | have hF := And.intro hS.facts (hR.at hS.ext) | have hF := hS.facts); simp only [HFacts, cellFacts, RFacts, cellOnly, and_true, true_and, Nat.zero_add, Nat.reduceAdd] at hF)
          go_enter Tryd.func56, Tryd.ntmps56
          go_wp2_with (first | ((with_reducible first | refine nhLa ?_ | refine nhLs ?_ | refine nhLd ?_ | refine nhCa ?_ | refine nhCs ?_ | refine nhCd ?_ | refine nhPa ?_ | refine nhPs ?_ | refine nhPd ?_ | refine nhKa ?_ | refine nhKs ?_ | refine nhKd ?_); ((try clear hF); clear hS; intro wk hS; (try simp only [List.set_cons_zero, List.set_cons_succ, heap_size, heap_set_size] at hS); ((try clear hF); (first | have hF := And.intro hS.facts (HRD.out _ (hS.sub (by first | simp | ((repeat (first | exact List.nil_sublist _ | exact List.Sublist.refl _ | with_reducible apply List.Sublist.cons₂ | apply List.Sublist.cons)))))) | have hF := And.intro hS.facts (hR.at hS.ext) | have hF := hS.facts); simp only [HFacts, cellFacts, RFacts, cellOnly, and_true, true_and, Nat.zero_add, Nat.reduceAdd] at hF))) | (first | (with_reducible refine wp_region_hp (draw := true) (by kernel_rfl) (by kernel_rfl) hS ?_) | ((with_reducible refine Fixed.here ?_); (first | ((with_reducible apply Fixed.skip); (first | rfl | exact wanted_false rfl rfl rfl (by assumption)); try simp only [Act.put, List.setIfInBounds_toArray, List.set_cons_zero, List.set_cons_succ]) | ((with_reducible apply Fixed.val); (first | rfl | exact wanted_true rfl rfl rfl (by assumption)); (rintro w hS; ((try clear hF); (first | have hF := And.intro hS.facts (HRD.out _ (hS.sub (by first | simp | ((repeat (first | exact List.nil_sublist _ | exact List.Sublist.refl _ | with_reducible apply List.Sublist.cons₂ | apply List.Sublist.cons)))))) | have hF := And.intro hS.facts (hR.at hS.ext) | have hF := hS.facts); simp only [HFacts, cellFacts, RFacts, cellOnly, and_true, true_and, Nat.zero_add, Nat.reduceAdd] at hF); go_simp; with_reducible rfl); try simp only [Act.put, List.setIfInBounds_toArray, List.set_cons_zero, List.set_cons_succ]) | ((with_reducible apply Fixed.call); (first | rfl | exact wanted_true rfl rfl rfl (by assumption)); (rintro w hS; ((try clear hF); (first | have hF := And.intro hS.facts (HRD.out _ (hS.sub (by first | simp | ((repeat (first | exact List.nil_sublist _ | exact List.Sublist.refl _ | with_reducible apply List.Sublist.cons₂ | apply List.Sublist.cons)))))) | have hF := And.intro hS.facts (hR.at hS.ext) | have hF := hS.facts); simp only [HFacts, cellFacts, RFacts, cellOnly, and_true, true_and, Nat.zero_add, Nat.reduceAdd] at hF); go_simp; exact ⟨rfl, rfl⟩); (rintro w hS; first | (with_reducible exact (HKC.out _ (gsub2 hS)))); try simp only [Act.put, List.setIfInBounds_toArray, List.set_cons_zero, List.set_cons_succ]) | ((with_reducible apply Fixed.guardT); rfl; rfl; rfl; (all_goals intro hg)) | ((with_reducible apply Fixed.guardF); rfl; rfl; rfl; (all_goals intro hg)) | (with_reducible refine Fixed.done ?_; (try clear hF); clear hS; intro wk hS; ((try clear hF); (first | have hF := And.intro hS.facts (HRD.out _ (hS.sub (by first | simp | ((repeat (first | exact List.nil_sublist _ | exact List.Sublist.refl _ | with_reducible apply List.Sublist.cons₂ | apply List.Sublist.cons)))))) | have hF := And.intro hS.facts (hR.at hS.ext) | have hF := hS.facts); simp only [HFacts, cellFacts, RFacts, cellOnly, and_true, true_and, Nat.zero_add, Nat.reduceAdd] at hF))))) | (go_at_call 68; (with_reducible refine (HNM.out _).mono ?_); rintro e wk ⟨rfl, hX⟩; replace hS := hS.step hX; clear hX; ((try clear hF); (first | have hF := And.intro hS.facts (HRD.out _ (hS.sub (by first | simp | ((repeat (first | exact List.nil_sublist _ | exact List.Sublist.refl _ | with_reducible apply List.Sublist.cons₂ | apply List.Sublist.cons)))))) | have hF := And.intro hS.facts (hR.at hS.ext) | have hF := hS.facts); simp only [HFacts, cellFacts, RFacts, cellOnly, and_true, true_and, Nat.zero_add, Nat.reduceAdd] at hF)) | (go_at_call 28; (with_reducible refine (HFL.out _ _ (gpar2 hS)).mono ?_); rintro e wk ⟨⟨tp, pv, rfl⟩, hX⟩; replace hS := hS.step hX; clear hX))
          exact ⟨rfl, ⟨_, _, rfl⟩, grest1 (gpar2 hS)⟩
        | true =>
          rw [hnb] at HNM
          obtain rfl : D = some (tx, q.map (·.1)) := by rw [hD]; simp [nameP, nameT, hnb, hcn]
          clear hnb HFL HP hD hcn
          ((try clear hF); (first | have hF := And.intro hS.facts (HRD.out _ (hS.sub (by first | simp | ((repeat (first | exact List.nil_sublist _ | exact List.Sublist.refl _ | with_reducible apply List.Sublist.cons₂ | apply List.Sublist.cons)))))) | have hF := And.intro hS.facts (hR.at hS.ext) | have hF := hS.facts); simp only [HFacts, cellFacts, RFacts, cellOnly, and_true, true_and, Nat.zero_add, Nat.reduceAdd] at hF)
          go_enter Tryd.func56, Tryd.ntmps56
          go_wp2_with (first | ((with_reducible first | refine nhLa ?_ | refine nhLs ?_ | refine nhLd ?_ | refine nhCa ?_ | refine nhCs ?_ | refine nhCd ?_ | refine nhPa ?_ | refine nhPs ?_ | refine nhPd ?_ | refine nhKa ?_ | refine nhKs ?_ | refine nhKd ?_); ((try clear hF); clear hS; intro wk hS; (try simp only [List.set_cons_zero, List.set_cons_succ, heap_size, heap_set_size] at hS); ((try clear hF); (first | have hF := And.intro hS.facts (HRD.out _ (hS.sub (by first | simp | ((repeat (first | exact List.nil_sublist _ | exact List.Sublist.refl _ | with_reducible apply List.Sublist.cons₂ | apply List.Sublist.cons)))))) | have hF := And.intro hS.facts (hR.at hS.ext) | have hF := hS.facts); simp only [HFacts, cellFacts, RFacts, cellOnly, and_true, true_and, Nat.zero_add, Nat.reduceAdd] at hF))) | (first | (with_reducible refine wp_region_hp (draw := true) (by kernel_rfl) (by kernel_rfl) hS ?_) | ((with_reducible refine Fixed.here ?_); (first | ((with_reducible apply Fixed.skip); (first | rfl | exact wanted_false rfl rfl rfl (by assumption)); try simp only [Act.put, List.setIfInBounds_toArray, List.set_cons_zero, List.set_cons_succ]) | ((with_reducible apply Fixed.val); (first | rfl | exact wanted_true rfl rfl rfl (by assumption)); (rintro w hS; ((try clear hF); (first | have hF := And.intro hS.facts (HRD.out _ (hS.sub (by first | simp | ((repeat (first | exact List.nil_sublist _ | exact List.Sublist.refl _ | with_reducible apply List.Sublist.cons₂ | apply List.Sublist.cons)))))) | have hF := And.intro hS.facts (hR.at hS.ext) | have hF := hS.facts); simp only [HFacts, cellFacts, RFacts, cellOnly, and_true, true_and, Nat.zero_add, Nat.reduceAdd] at hF); go_simp; with_reducible rfl); try simp only [Act.put, List.setIfInBounds_toArray, List.set_cons_zero, List.set_cons_succ]) | ((with_reducible apply Fixed.call); (first | rfl | exact wanted_true rfl rfl rfl (by assumption)); (rintro w hS; ((try clear hF); (first | have hF := And.intro hS.facts (HRD.out _ (hS.sub (by first | simp | ((repeat (first | exact List.nil_sublist _ | exact List.Sublist.refl _ | with_reducible apply List.Sublist.cons₂ | apply List.Sublist.cons)))))) | have hF := And.intro hS.facts (hR.at hS.ext) | have hF := hS.facts); simp only [HFacts, cellFacts, RFacts, cellOnly, and_true, true_and, Nat.zero_add, Nat.reduceAdd] at hF); go_simp; exact ⟨rfl, rfl⟩); (rintro w hS; first | (with_reducible exact (HKC.out _ (gsub2 hS)))); try simp only [Act.put, List.setIfInBounds_toArray, List.set_cons_zero, List.set_cons_succ]) | ((with_reducible apply Fixed.guardT); rfl; rfl; rfl; (all_goals intro hg)) | ((with_reducible apply Fixed.guardF); rfl; rfl; rfl; (all_goals intro hg)) | (with_reducible refine Fixed.done ?_; (try clear hF); clear hS; intro wk hS; ((try clear hF); (first | have hF := And.intro hS.facts (HRD.out _ (hS.sub (by first | simp | ((repeat (first | exact List.nil_sublist _ | exact List.Sublist.refl _ | with_reducible apply List.Sublist.cons₂ | apply List.Sublist.cons)))))) | have hF := And.intro hS.facts (hR.at hS.ext) | have hF := hS.facts); simp only [HFacts, cellFacts, RFacts, cellOnly, and_true, true_and, Nat.zero_add, Nat.reduceAdd] at hF))))) | (go_at_call 68; (with_reducible refine (HNM.out _).mono ?_); rintro e wk ⟨rfl, hX⟩; replace hS := hS.step hX; clear hX; ((try clear hF); (first | have hF := And.intro hS.facts (HRD.out _ (hS.sub (by first | simp | ((repeat (first | exact List.nil_sublist _ | exact List.Sublist.refl _ | with_reducible apply List.Sublist.cons₂ | apply List.Sublist.cons)))))) | have hF := And.intro hS.facts (hR.at hS.ext) | have hF := hS.facts); simp only [HFacts, cellFacts, RFacts, cellOnly, and_true, true_and, Nat.zero_add, Nat.reduceAdd] at hF)))
          go_ret
          refine ⟨rfl, _, ⟨off + 3, n - 1, cap - 1, q, rfl, hq, by omega, by omega, rfl, HTL.out⟩, ?_⟩
          exact hS.tail
    · have q1 : (kd == 1) = false := by simp [hk]
      have q2 : (kd != 1) = true := by simp [hk]
      obtain rfl : D = none := by rw [hD]; simp [nameP, nameT, hk]
      clear hE2 HKC HNM HTL hk hD
      ((try clear hF); (first | have hF := And.intro hS.facts (HRD.out _ (hS.sub (by first | simp | ((repeat (first | exact List.nil_sublist _ | exact List.Sublist.refl _ | with_reducible apply List.Sublist.cons₂ | apply List.Sublist.cons)))))) | have hF := And.intro hS.facts (hR.at hS.ext) | have hF := hS.facts); simp only [HFacts, cellFacts, RFacts, cellOnly, and_true, true_and, Nat.zero_add, Nat.reduceAdd] at hF)
      go_enter Tryd.func56, Tryd.ntmps56
      go_wp2_with (first | ((with_reducible first | refine nhLa ?_ | refine nhLs ?_ | refine nhLd ?_ | refine nhCa ?_ | refine nhCs ?_ | refine nhCd ?_ | refine nhPa ?_ | refine nhPs ?_ | refine nhPd ?_ | refine nhKa ?_ | refine nhKs ?_ | refine nhKd ?_); ((try clear hF); clear hS; intro wk hS; (try simp only [List.set_cons_zero, List.set_cons_succ, heap_size, heap_set_size] at hS); ((try clear hF); (first | have hF := And.intro hS.facts (HRD.out _ (hS.sub (by first | simp | ((repeat (first | exact List.nil_sublist _ | exact List.Sublist.refl _ | with_reducible apply List.Sublist.cons₂ | apply List.Sublist.cons)))))) | have hF := And.intro hS.facts (hR.at hS.ext) | have hF := hS.facts); simp only [HFacts, cellFacts, RFacts, cellOnly, and_true, true_and, Nat.zero_add, Nat.reduceAdd] at hF))) | (first | (with_reducible refine wp_region_hp (draw := true) (by kernel_rfl) (by kernel_rfl) hS ?_) | ((with_reducible refine Fixed.here ?_); (first | ((with_reducible apply Fixed.skip); (first | rfl | exact wanted_false rfl rfl rfl (by assumption)); try simp only [Act.put, List.setIfInBounds_toArray, List.set_cons_zero, List.set_cons_succ]) | ((with_reducible apply Fixed.val); (first | rfl | exact wanted_true rfl rfl rfl (by assumption)); (rintro w hS; ((try clear hF); (first | have hF := And.intro hS.facts (HRD.out _ (hS.sub (by first | simp | ((repeat (first | exact List.nil_sublist _ | exact List.Sublist.refl _ | with_reducible apply List.Sublist.cons₂ | apply List.Sublist.cons)))))) | have hF := And.intro hS.facts (hR.at hS.ext) | have hF := hS.facts); simp only [HFacts, cellFacts, RFacts, cellOnly, and_true, true_and, Nat.zero_add, Nat.reduceAdd] at hF); go_simp; with_reducible rfl); try simp only [Act.put, List.setIfInBounds_toArray, List.set_cons_zero, List.set_cons_succ]) | ((with_reducible apply Fixed.guardT); rfl; rfl; rfl; (all_goals intro hg)) | ((with_reducible apply Fixed.guardF); rfl; rfl; rfl; (all_goals intro hg)) | (with_reducible refine Fixed.done ?_; (try clear hF); clear hS; intro wk hS; ((try clear hF); (first | have hF := And.intro hS.facts (HRD.out _ (hS.sub (by first | simp | ((repeat (first | exact List.nil_sublist _ | exact List.Sublist.refl _ | with_reducible apply List.Sublist.cons₂ | apply List.Sublist.cons)))))) | have hF := And.intro hS.facts (hR.at hS.ext) | have hF := hS.facts); simp only [HFacts, cellFacts, RFacts, cellOnly, and_true, true_and, Nat.zero_add, Nat.reduceAdd] at hF))))) | (go_at_call 28; (with_reducible refine (HFL.out _ _ (gpar2 hS)).mono ?_); rintro e wk ⟨⟨tp, pv, rfl⟩, hX⟩; replace hS := hS.step hX; clear hX))
      exact ⟨rfl, ⟨_, _, rfl⟩, grest1 (gpar2 hS)⟩
end Go.Proofs.YtmfilblbofkmcaaDoor
