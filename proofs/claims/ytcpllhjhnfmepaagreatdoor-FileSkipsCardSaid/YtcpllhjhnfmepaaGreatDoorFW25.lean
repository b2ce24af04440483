/- file.right: a file is one that Make makes. -/
import Derived.Test.YtcpllhjhnfmepaaGreatDoorFW22
import Derived.Test.YtcpllhjhnfmepaaGreatDoorFW18
import Derived.Test.YtcpllhjhnfmepaaGreatDoorFW05
namespace Go.Proofs.YtcpllhjhnfmepaaGreatDoor
set_option linter.all false
set_option linter.unusedSimpArgs false
set_option linter.unusedVariables false
open Go.RowKit
open Go.Lib (uvarint zigzag)
theorem decode_none {kind : Int} {s : ByteArray} (hm : decO kind s.data.toList = none) (hs : s.size ≤ 100000) (w : World) :
    Calls Tryz.prog 33 #[.int .i64 kind, .string s] w fun e w' => e = .returned (.tuple #[.slice none 0 0, .iface 86 (.int .i64 3)]) ∧ Ext w w' := by
  have := decode_any kind s hs w
  rw [hm] at this
  exact this
set_option maxRecDepth 100000 in
theorem eg_fright1 : ∀ args w, (callFunc 65 args).run Tryz.prog w = .ok (.enter 65 args) w := fun _ _ => by kernel_rfl
set_option maxRecDepth 100000 in
set_option maxHeartbeats 8000000 in
theorem fright1_any (c d : CG) (bk : Nat) (w : World) (h : w.cell? ⟨bk, 0, none⟩ = some (.int .i64 c.id)) :
    Calls Tryz.prog 65 #[.agg #[.int .i64 d.id, .string d.name, .int .i64 d.kind, .bool d.must, .int .i64 d.d.kind, .int .i64 d.d.num, .string d.d.text], .pointer (some ⟨bk, 0, none⟩)] w fun e w' => e = .returned (.bool (idEq c d)) ∧ Ext w w' := by
  have hS := Hp.init w
  have hR := Reads.cell h (Reads.nil w)
  go_enter Tryz.func65, Tryz.ntmps65
  go_wp2_with (first | ((with_reducible first | refine nhLa ?_ | refine nhLs ?_ | refine nhLd ?_ | refine nhCa ?_ | refine nhCs ?_ | refine nhCd ?_ | refine nhPa ?_ | refine nhPs ?_ | refine nhPd ?_ | refine nhKa ?_ | refine nhKs ?_ | refine nhKd ?_); ((try clear hF); clear hS; intro wk hS; (try simp only [List.set_cons_zero, List.set_cons_succ, heap_size, heap_set_size] at hS); ((try clear hF); (first | have hF := And.intro hS.facts (hR.at hS.ext) | have hF := hS.facts); simp only [HFacts, cellFacts, RFacts, cellOnly, and_true, true_and, Nat.zero_add, Nat.reduceAdd] at hF))) | fail)
  go_ret
  exact ⟨rfl, hS.ext⟩
theorem Hp.named {B : Nat} {w0 w : World} {L : List Item} {g : Nat} {cs : List Value} {T : TypeId} (_ : Hp B w0 w (.blk g cs T :: L)) : ∃ g', g' = g := ⟨g, rfl⟩
theorem nat_bne (a b : Nat) : ((a : Int) != (b : Int)) = !decide (a = b) := by
  rw [bne, int_beq]
  congr 1
  exact decide_eq_decide.2 (by omega)
theorem ifs8 {α : Type} (s t : ST) (h : s ≠ t) (A B : α) : (if s.count = t.count then if s.nulls = t.nulls then if s.mn.kind = t.mn.kind then if s.mn.num = t.mn.num then if s.mn.text.toList = t.mn.text.toList then if s.mx.kind = t.mx.kind then if s.mx.num = t.mx.num then if s.mx.text.toList = t.mx.text.toList then A else B else B else B else B else B else B else B else B) = B := by
  obtain ⟨sc, sn, ⟨a1, a2, a3⟩, ⟨a4, a5, a6⟩⟩ := s
  obtain ⟨tc, tn, ⟨b1, b2, b3⟩, ⟨b4, b5, b6⟩⟩ := t
  dsimp only
  repeat' split
  all_goals first
    | rfl
    | (exfalso; apply h; simp_all [text_eqL])
theorem dropS_at {l : List ST} {k : Nat} {x : ST} (h : l[k]? = some x) : l.drop k = x :: l.drop (k + 1) := by
  obtain ⟨hk, e⟩ := List.getElem?_eq_some_iff.1 h
  rw [List.drop_eq_getElem_cons hk, e]
theorem dropY_at {l : List ByteArray} {k : Nat} {x : ByteArray} (h : l[k]? = some x) : l.drop k = x :: l.drop (k + 1) := by
  obtain ⟨hk, e⟩ := List.getElem?_eq_some_iff.1 h
  rw [List.drop_eq_getElem_cons hk, e]
theorem dropGG_at {l : List GG} {k : Nat} {x : GG} (h : l[k]? = some x) : l.drop k = x :: l.drop (k + 1) := by
  obtain ⟨hk, e⟩ := List.getElem?_eq_some_iff.1 h
  rw [List.drop_eq_getElem_cons hk, e]
theorem grH_last {gs : List GG} {q m : Nat} (hm : m = gs.length) (hq : q < m) : (gs.drop (q + 1)).isEmpty = ((q : Int) == (m : Int) - 1) := by
  cases hb : ((q : Int) == (m : Int) - 1) with
  | true =>
    have : (q : Int) = (m : Int) - 1 := by simpa using hb
    rw [List.drop_eq_nil_of_le (by omega)]
    rfl
  | false =>
    have : ¬ (q : Int) = (m : Int) - 1 := by simpa using hb
    have h2 : 0 < (gs.drop (q + 1)).length := by rw [List.length_drop]; omega
    cases hd : gs.drop (q + 1) with
    | nil => rw [hd] at h2; cases h2
    | cons x l => rfl
set_option maxRecDepth 100000 in
set_option maxHeartbeats 8000000 in
theorem fright_any (f : FG) (v : Value) (w : World) (hf : RF w v f) (hl : f.groups.length ≤ 100000) (hb : ∀ g ∈ f.groups, ∀ b ∈ g.bytes, b.size ≤ 100000) (hc : f.cols.length ≤ 100000) (hst : ∀ g ∈ f.groups, g.stats.length ≤ 100000 ∧ g.bytes.length ≤ 100000) :
    Calls Tryz.prog 34 #[v] w fun e w' => e = .returned (.bool (rightF f)) ∧ Ext w w' := by
  have HRO := Lib.hid (fun (W : World) (hx : Ext w W) => frows_any f v W (hf.ext hx) (by omega))
  obtain ⟨rs, hrs⟩ : ∃ r, r = rowsF f := ⟨_, rfl⟩
  obtain ⟨Ac, cc, Ag, cg, rfl, hcap, hcs, hgs⟩ := hf
  unfold rightF
  rw [← hrs] at HRO ⊢
  clear hrs
  generalize f.cols = cs at *
  generalize f.groups = gs at *
  obtain ⟨n, hn⟩ : ∃ n, n = cs.length := ⟨_, rfl⟩
  obtain ⟨m, hm⟩ : ∃ m, m = gs.length := ⟨_, rfl⟩
  rw [← hn] at hc hcap HRO ⊢
  rw [← hm] at hl HRO ⊢
  have Hn := Lib.hid hn
  have Hm := Lib.hid hm
  clear hn hm
  have hS := Hp.init w
  have hR := Reads.nil w
  by_cases h0 : n < 1
  · rw [decide_eq_false (p := 1 ≤ n) (by omega)]
    go_enter Tryz.func34, Tryz.ntmps34
    go_wp2_with (first | ((with_reducible first | refine nhLa ?_ | refine nhLs ?_ | refine nhLd ?_ | refine nhCa ?_ | refine nhCs ?_ | refine nhCd ?_ | refine nhPa ?_ | refine nhPs ?_ | refine nhPd ?_ | refine nhKa ?_ | refine nhKs ?_ | refine nhKd ?_); ((try clear hF); clear hS; intro wk hS; (try simp only [List.set_cons_zero, List.set_cons_succ, heap_size, heap_set_size] at hS); ((try clear hF); (first | have hF := And.intro hS.facts (hR.at hS.ext) | have hF := hS.facts); simp only [HFacts, cellFacts, RFacts, cellOnly, and_true, true_and, Nat.zero_add, Nat.reduceAdd] at hF))) | fail)
    go_ret
    exact ⟨rfl, hS.ext⟩
  by_cases h8 : 8 < n
  · rw [decide_eq_false (p := n ≤ 8) (by omega), Bool.and_false]
    go_enter Tryz.func34, Tryz.ntmps34
    go_wp2_with (first | ((with_reducible first | refine nhLa ?_ | refine nhLs ?_ | refine nhLd ?_ | refine nhCa ?_ | refine nhCs ?_ | refine nhCd ?_ | refine nhPa ?_ | refine nhPs ?_ | refine nhPd ?_ | refine nhKa ?_ | refine nhKs ?_ | refine nhKd ?_); ((try clear hF); clear hS; intro wk hS; (try simp only [List.set_cons_zero, List.set_cons_succ, heap_size, heap_set_size] at hS); ((try clear hF); (first | have hF := And.intro hS.facts (hR.at hS.ext) | have hF := hS.facts); simp only [HFacts, cellFacts, RFacts, cellOnly, and_true, true_and, Nat.zero_add, Nat.reduceAdd] at hF))) | fail)
    go_ret
    exact ⟨rfl, hS.ext⟩
  by_cases hm0 : m < 1
  · rw [decide_eq_false (p := 1 ≤ m) (by omega), Bool.and_false]
    go_enter Tryz.func34, Tryz.ntmps34
    go_wp2_with (first | ((with_reducible first | refine nhLa ?_ | refine nhLs ?_ | refine nhLd ?_ | refine nhCa ?_ | refine nhCs ?_ | refine nhCd ?_ | refine nhPa ?_ | refine nhPs ?_ | refine nhPd ?_ | refine nhKa ?_ | refine nhKs ?_ | refine nhKd ?_); ((try clear hF); clear hS; intro wk hS; (try simp only [List.set_cons_zero, List.set_cons_succ, heap_size, heap_set_size] at hS); ((try clear hF); (first | have hF := And.intro hS.facts (hR.at hS.ext) | have hF := hS.facts); simp only [HFacts, cellFacts, RFacts, cellOnly, and_true, true_and, Nat.zero_add, Nat.reduceAdd] at hF))) | fail)
    go_ret
    exact ⟨rfl, hS.ext⟩
  rw [decide_eq_true (p := 1 ≤ n) (by omega), decide_eq_true (p := n ≤ 8) (by omega), decide_eq_true (p := 1 ≤ m) (by omega), Bool.and_self, Bool.true_and]
  go_enter Tryz.func34, Tryz.ntmps34
  go_wp2_with (first | ((with_reducible first | refine nhLa ?_ | refine nhLs ?_ | refine nhLd ?_ | refine nhCa ?_ | refine nhCs ?_ | refine nhCd ?_ | refine nhPa ?_ | refine nhPs ?_ | refine nhPd ?_ | refine nhKa ?_ | refine nhKs ?_ | refine nhKd ?_); ((try clear hF); clear hS; intro wk hS; (try simp only [List.set_cons_zero, List.set_cons_succ, heap_size, heap_set_size] at hS); ((try clear hF); (first | have hF := And.intro hS.facts (hR.at hS.ext) | have hF := hS.facts); simp only [HFacts, cellFacts, RFacts, cellOnly, and_true, true_and, Nat.zero_add, Nat.reduceAdd] at hF))) | fail)
  go_loopw [31] (fun i wr => ∃ k : Nat, i = .int .i64 k ∧ k ≤ n ∧ Hid (frC [] cs = frC (cs.take k) (cs.drop k)) ∧ Hp w.heap.size w wr [.blk w.heap.size [.slice Ac n cc, .slice Ag m cg] 29]) (fun i _ => n - (intOf i).toNat)
  case atStart => exact ⟨0, rfl, Nat.zero_le _, Lib.hid rfl, hS⟩
  case round =>
    clear hS
    obtain ⟨k, rfl, hk, hf, hS⟩ := hrel
    have hkc : k ≤ cc := by omega
    by_cases hlt : k < n
--<C
    · have hlt' : k < cs.length := by rw [← Hn.out]; exact hlt
      obtain ⟨c, hx'⟩ : ∃ x, cs[k]? = some x := ⟨cs[k], List.getElem?_eq_getElem hlt'⟩
      obtain ⟨xb, hxb⟩ : ∃ b, b = (cs.take k).any (idEq c) := ⟨_, rfl⟩
      have HXB := Lib.hid (fun (W : World) bk (hx : Ext w W) (h0 : W.cell? ⟨bk, 0, none⟩ = some (.int .i64 c.id)) => show Calls Tryz.prog 64 #[.slice Ac k cc, .func (.func 65) #[] #[.pointer (some ⟨bk, 0, none⟩)]] W fun e w' => e = .returned (.bool ((cs.take k).any (idEq c))) ∧ Ext W w' from by
        have := ccontainsFunc_any (cs.take k) Ac cc 65 #[.pointer (some ⟨bk, 0, none⟩)] (idEq c) W ((hcs.ext hx).take k) (by rw [List.length_take]; omega) eg_fright1 (fun W' hx' d => fright1_any c d bk W' (hx'.keeps h0))
        rw [List.length_take, Nat.min_eq_left (by omega)] at this
        exact this)
      have HST := Lib.hid (show frC (cs.take k) (cs.drop k) = (colF c && !(cs.take k).any (idEq c) && frC (cs.take (k + 1)) (cs.drop (k + 1))) by
        rw [dropC_at hx', frC, List.take_add_one, hx']; rfl)
      obtain ⟨b, o, rfl, c0, c1, c2, c3, c4, c5, c6⟩ := hcs k c hx'
      have hR := Reads.cell c0 (Reads.cell c1 (Reads.cell c2 (Reads.cell c3 (Reads.cell c4 (Reads.cell c5 (Reads.cell c6 (Reads.nil w)))))))
      rw [← hxb] at HXB HST
      clear hx' hlt' c0 c1 c2 c3 c4 c5 c6 hcs hxb
      obtain ⟨cfb, hcf⟩ : ∃ b, b = colF c := ⟨_, rfl⟩
      rw [← hcf] at HST
      obtain ⟨ci, cn, ck, cm, cd⟩ := c
      unfold colF at hcf
      dsimp only at hR HXB hcf
      by_cases hid : ci < 1
      · have hd1 : decide (ci < 1) = true := by simp [hid]
        have hcf0 : cfb = false := by rw [hcf, decide_eq_false (p := 1 ≤ ci) (by omega)]; rfl
        subst hcf0
        clear hid hcf
        ((try clear hF); (first | have hF := And.intro hS.facts (hR.at hS.ext) | have hF := hS.facts); simp only [HFacts, cellFacts, RFacts, cellOnly, and_true, true_and, Nat.zero_add, Nat.reduceAdd] at hF)
        go_wp2_with (first | ((with_reducible first | refine nhLa ?_ | refine nhLs ?_ | refine nhLd ?_ | refine nhCa ?_ | refine nhCs ?_ | refine nhCd ?_ | refine nhPa ?_ | refine nhPs ?_ | refine nhPd ?_ | refine nhKa ?_ | refine nhKs ?_ | refine nhKd ?_); ((try clear hF); clear hS; intro wk hS; (try simp only [List.set_cons_zero, List.set_cons_succ, heap_size, heap_set_size] at hS); ((try clear hF); (first | have hF := And.intro hS.facts (hR.at hS.ext) | have hF := hS.facts); simp only [HFacts, cellFacts, RFacts, cellOnly, and_true, true_and, Nat.zero_add, Nat.reduceAdd] at hF))) | (go_at_call 64; (with_reducible refine (HXB.out _ _ hS.ext hF.1.1.1.1).mono ?_); rintro e wk ⟨rfl, hX⟩; replace hS := hS.step hX; clear hX; ((try clear hF); (first | have hF := And.intro hS.facts (hR.at hS.ext) | have hF := hS.facts); simp only [HFacts, cellFacts, RFacts, cellOnly, and_true, true_and, Nat.zero_add, Nat.reduceAdd] at hF)))
        go_ret
        exact ⟨by rw [hf.out, HST.out]; rfl, hS.ext⟩
      have hd1 : decide (ci < 1) = false := by simp; omega
      rw [decide_eq_true (p := 1 ≤ ci) (by omega), Bool.true_and] at hcf
      clear hid
      by_cases hk1 : ck = 1
      · subst hk1
        have hcf0 : cfb = true := hcf
        subst hcf0
        clear hcf
        cases xb with
        | false =>
          ((try clear hF); (first | have hF := And.intro hS.facts (hR.at hS.ext) | have hF := hS.facts); simp only [HFacts, cellFacts, RFacts, cellOnly, and_true, true_and, Nat.zero_add, Nat.reduceAdd] at hF)
          go_wp2_with (first | ((with_reducible first | refine nhLa ?_ | refine nhLs ?_ | refine nhLd ?_ | refine nhCa ?_ | refine nhCs ?_ | refine nhCd ?_ | refine nhPa ?_ | refine nhPs ?_ | refine nhPd ?_ | refine nhKa ?_ | refine nhKs ?_ | refine nhKd ?_); ((try clear hF); clear hS; intro wk hS; (try simp only [List.set_cons_zero, List.set_cons_succ, heap_size, heap_set_size] at hS); ((try clear hF); (first | have hF := And.intro hS.facts (hR.at hS.ext) | have hF := hS.facts); simp only [HFacts, cellFacts, RFacts, cellOnly, and_true, true_and, Nat.zero_add, Nat.reduceAdd] at hF))) | (go_at_call 64; (with_reducible refine (HXB.out _ _ hS.ext hF.1.1.1.1).mono ?_); rintro e wk ⟨rfl, hX⟩; replace hS := hS.step hX; clear hX; ((try clear hF); (first | have hF := And.intro hS.facts (hR.at hS.ext) | have hF := hS.facts); simp only [HFacts, cellFacts, RFacts, cellOnly, and_true, true_and, Nat.zero_add, Nat.reduceAdd] at hF)))
          go_roundw
          case rel => exact ⟨k + 1, by go_num, by omega, Lib.hid (by rw [hf.out, HST.out]; rfl), hS.sub (by simp)⟩
          case measure => simp [intOf]; omega
        | true =>
          ((try clear hF); (first | have hF := And.intro hS.facts (hR.at hS.ext) | have hF := hS.facts); simp only [HFacts, cellFacts, RFacts, cellOnly, and_true, true_and, Nat.zero_add, Nat.reduceAdd] at hF)
          go_wp2_with (first | ((with_reducible first | refine nhLa ?_ | refine nhLs ?_ | refine nhLd ?_ | refine nhCa ?_ | refine nhCs ?_ | refine nhCd ?_ | refine nhPa ?_ | refine nhPs ?_ | refine nhPd ?_ | refine nhKa ?_ | refine nhKs ?_ | refine nhKd ?_); ((try clear hF); clear hS; intro wk hS; (try simp only [List.set_cons_zero, List.set_cons_succ, heap_size, heap_set_size] at hS); ((try clear hF); (first | have hF := And.intro hS.facts (hR.at hS.ext) | have hF := hS.facts); simp only [HFacts, cellFacts, RFacts, cellOnly, and_true, true_and, Nat.zero_add, Nat.reduceAdd] at hF))) | (go_at_call 64; (with_reducible refine (HXB.out _ _ hS.ext hF.1.1.1.1).mono ?_); rintro e wk ⟨rfl, hX⟩; replace hS := hS.step hX; clear hX; ((try clear hF); (first | have hF := And.intro hS.facts (hR.at hS.ext) | have hF := hS.facts); simp only [HFacts, cellFacts, RFacts, cellOnly, and_true, true_and, Nat.zero_add, Nat.reduceAdd] at hF)))
          go_ret
          exact ⟨by rw [hf.out, HST.out]; rfl, hS.ext⟩
      by_cases hk2 : ck = 2
      · subst hk2
        have hcf0 : cfb = true := hcf
        subst hcf0
        clear hcf
        cases xb with
        | false =>
          ((try clear hF); (first | have hF := And.intro hS.facts (hR.at hS.ext) | have hF := hS.facts); simp only [HFacts, cellFacts, RFacts, cellOnly, and_true, true_and, Nat.zero_add, Nat.reduceAdd] at hF)
          go_wp2_with (first | ((with_reducible first | refine nhLa ?_ | refine nhLs ?_ | refine nhLd ?_ | refine nhCa ?_ | refine nhCs ?_ | refine nhCd ?_ | refine nhPa ?_ | refine nhPs ?_ | refine nhPd ?_ | refine nhKa ?_ | refine nhKs ?_ | refine nhKd ?_); ((try clear hF); clear hS; intro wk hS; (try simp only [List.set_cons_zero, List.set_cons_succ, heap_size, heap_set_size] at hS); ((try clear hF); (first | have hF := And.intro hS.facts (hR.at hS.ext) | have hF := hS.facts); simp only [HFacts, cellFacts, RFacts, cellOnly, and_true, true_and, Nat.zero_add, Nat.reduceAdd] at hF))) | (go_at_call 64; (with_reducible refine (HXB.out _ _ hS.ext hF.1.1.1.1).mono ?_); rintro e wk ⟨rfl, hX⟩; replace hS := hS.step hX; clear hX; ((try clear hF); (first | have hF := And.intro hS.facts (hR.at hS.ext) | have hF := hS.facts); simp only [HFacts, cellFacts, RFacts, cellOnly, and_true, true_and, Nat.zero_add, Nat.reduceAdd] at hF)))
          go_roundw
          case rel => exact ⟨k + 1, by go_num, by omega, Lib.hid (by rw [hf.out, HST.out]; rfl), hS.sub (by simp)⟩
          case measure => simp [intOf]; omega
        | true =>
          ((try clear hF); (first | have hF := And.intro hS.facts (hR.at hS.ext) | have hF := hS.facts); simp only [HFacts, cellFacts, RFacts, cellOnly, and_true, true_and, Nat.zero_add, Nat.reduceAdd] at hF)
          go_wp2_with (first | ((with_reducible first | refine nhLa ?_ | refine nhLs ?_ | refine nhLd ?_ | refine nhCa ?_ | refine nhCs ?_ | refine nhCd ?_ | refine nhPa ?_ | refine nhPs ?_ | refine nhPd ?_ | refine nhKa ?_ | refine nhKs ?_ | refine nhKd ?_); ((try clear hF); clear hS; intro wk hS; (try simp only [List.set_cons_zero, List.set_cons_succ, heap_size, heap_set_size] at hS); ((try clear hF); (first | have hF := And.intro hS.facts (hR.at hS.ext) | have hF := hS.facts); simp only [HFacts, cellFacts, RFacts, cellOnly, and_true, true_and, Nat.zero_add, Nat.reduceAdd] at hF))) | (go_at_call 64; (with_reducible refine (HXB.out _ _ hS.ext hF.1.1.1.1).mono ?_); rintro e wk ⟨rfl, hX⟩; replace hS := hS.step hX; clear hX; ((try clear hF); (first | have hF := And.intro hS.facts (hR.at hS.ext) | have hF := hS.facts); simp only [HFacts, cellFacts, RFacts, cellOnly, and_true, true_and, Nat.zero_add, Nat.reduceAdd] at hF)))
          go_ret
          exact ⟨by rw [hf.out, HST.out]; rfl, hS.ext⟩
      have hcf0 : cfb = false := by rw [hcf]; simp [hk1, hk2]
      subst hcf0
      have hk1b : (ck == 1) = false := by simp [hk1]
      have hk2b : (ck == 2) = false := by simp [hk2]
      clear hcf
      ((try clear hF); (first | have hF := And.intro hS.facts (hR.at hS.ext) | have hF := hS.facts); simp only [HFacts, cellFacts, RFacts, cellOnly, and_true, true_and, Nat.zero_add, Nat.reduceAdd] at hF)
      go_wp2_with (first | ((with_reducible first | refine nhLa ?_ | refine nhLs ?_ | refine nhLd ?_ | refine nhCa ?_ | refine nhCs ?_ | refine nhCd ?_ | refine nhPa ?_ | refine nhPs ?_ | refine nhPd ?_ | refine nhKa ?_ | refine nhKs ?_ | refine nhKd ?_); ((try clear hF); clear hS; intro wk hS; (try simp only [List.set_cons_zero, List.set_cons_succ, heap_size, heap_set_size] at hS); ((try clear hF); (first | have hF := And.intro hS.facts (hR.at hS.ext) | have hF := hS.facts); simp only [HFacts, cellFacts, RFacts, cellOnly, and_true, true_and, Nat.zero_add, Nat.reduceAdd] at hF))) | (go_at_call 64; (with_reducible refine (HXB.out _ _ hS.ext hF.1.1.1.1).mono ?_); rintro e wk ⟨rfl, hX⟩; replace hS := hS.step hX; clear hX; ((try clear hF); (first | have hF := And.intro hS.facts (hR.at hS.ext) | have hF := hS.facts); simp only [HFacts, cellFacts, RFacts, cellOnly, and_true, true_and, Nat.zero_add, Nat.reduceAdd] at hF)))
      go_ret
      exact ⟨by rw [hf.out, HST.out]; rfl, hS.ext⟩
--C>
    · obtain rfl : k = n := by omega
      have HC0 := Lib.hid (show frC [] cs = true by rw [hf.out, Hn.out, List.drop_length]; rfl)
      clear hf
      ((try clear hF); (first | have hF := And.intro hS.facts (hR.at hS.ext) | have hF := hS.facts); simp only [HFacts, cellFacts, RFacts, cellOnly, and_true, true_and, Nat.zero_add, Nat.reduceAdd] at hF)
      go_wp2_with (first | ((with_reducible first | refine nhLa ?_ | refine nhLs ?_ | refine nhLd ?_ | refine nhCa ?_ | refine nhCs ?_ | refine nhCd ?_ | refine nhPa ?_ | refine nhPs ?_ | refine nhPd ?_ | refine nhKa ?_ | refine nhKs ?_ | refine nhKd ?_); ((try clear hF); clear hS; intro wk hS; (try simp only [List.set_cons_zero, List.set_cons_succ, heap_size, heap_set_size] at hS); ((try clear hF); (first | have hF := And.intro hS.facts (hR.at hS.ext) | have hF := hS.facts); simp only [HFacts, cellFacts, RFacts, cellOnly, and_true, true_and, Nat.zero_add, Nat.reduceAdd] at hF))) | fail)
      go_loopw [61] (fun i wr => ∃ q : Nat, i = .int .i64 q ∧ q ≤ m ∧ Hid (frG cs gs = frG cs (gs.drop q)) ∧ Hp w.heap.size w wr [.blk w.heap.size [.slice Ac k cc, .slice Ag m cg] 29]) (fun i _ => m - (intOf i).toNat)
      case atStart => exact ⟨0, rfl, Nat.zero_le _, Lib.hid rfl, hS⟩
      case round =>
        clear hS hF
        obtain ⟨q, rfl, hq, hg, hS⟩ := hrel
        by_cases hlt2 : q < m
        · obtain ⟨g, hx'⟩ : ∃ x, gs[q]? = some x := ⟨gs[q]'(by rw [← Hm.out]; exact hlt2), List.getElem?_eq_getElem _⟩
          obtain ⟨b, o, As, cas, Ab, cab, rfl, h0, h1, h2, hK, hB⟩ := hgs q g hx'
          have HLB := Lib.hid (hb g (List.mem_of_getElem? hx'))
          have HLS := Lib.hid (hst g (List.mem_of_getElem? hx'))
          obtain ⟨last, hlast⟩ : ∃ x, x = ((q : Int) == (m : Int) - 1) := ⟨_, rfl⟩
          have HST := Lib.hid (show frG cs (gs.drop q) = (grH k last g && colG g.rows cs g.stats g.bytes && frG cs (gs.drop (q + 1))) by
            rw [dropGG_at hx', frG, grH_last Hm.out hlt2, ← hlast, ← Hn.out])
          obtain ⟨rw, gst, gby⟩ := g
          dsimp only at h0 h1 h2 hK hB HST HLB HLS
          obtain ⟨ns, hns⟩ : ∃ x, x = gst.length := ⟨_, rfl⟩
          obtain ⟨nb, hnb⟩ : ∃ x, x = gby.length := ⟨_, rfl⟩
          have Hns := Lib.hid hns
          have Hnb := Lib.hid hnb
          have HG := Lib.hid (show grH k last ⟨rw, gst, gby⟩ = (decide (1 ≤ rw) && decide (rw ≤ 6) && (last || decide (6 ≤ rw)) && decide (nb = k) && decide (ns = k)) by rw [hns, hnb]; rfl)
          rw [← hns] at h1
          rw [← hnb] at h2
          have hR := Reads.cell h0 (Reads.cell h1 (Reads.cell h2 (Reads.nil w)))
          have hm64 : IntKind.i64.wrap ((m : Int) - 1) = (m : Int) - 1 := IntWalk.i64_in _ (by omega)
          have hlast2 : ((q : Int) == (m : Int) - 1) = last := hlast.symm
          have hns' : ns ≤ 100000 := by rw [hns]; exact HLS.out.1
          have hnb' : nb ≤ 100000 := by rw [hnb]; exact HLS.out.2
          clear hx' hlast hns hnb h0 h1 h2 hgs
          obtain ⟨gh, hgh⟩ : ∃ x, x = grH k last ⟨rw, gst, gby⟩ := ⟨_, rfl⟩
          rw [← hgh] at HG HST
          clear hgh
          ((try clear hF); (first | have hF := And.intro hS.facts (hR.at hS.ext) | have hF := hS.facts); simp only [HFacts, cellFacts, RFacts, cellOnly, and_true, true_and, Nat.zero_add, Nat.reduceAdd] at hF)
          go_upto_region 13 with (first | ((with_reducible first | refine nhLa ?_ | refine nhLs ?_ | refine nhLd ?_ | refine nhCa ?_ | refine nhCs ?_ | refine nhCd ?_ | refine nhPa ?_ | refine nhPs ?_ | refine nhPd ?_ | refine nhKa ?_ | refine nhKs ?_ | refine nhKd ?_); ((try clear hF); clear hS; intro wk hS; (try simp only [List.set_cons_zero, List.set_cons_succ, heap_size, heap_set_size] at hS); ((try clear hF); (first | have hF := And.intro hS.facts (hR.at hS.ext) | have hF := hS.facts); simp only [HFacts, cellFacts, RFacts, cellOnly, and_true, true_and, Nat.zero_add, Nat.reduceAdd] at hF))) | fail)
          obtain ⟨gx, hgx⟩ := hS.named
          rw [← hgx] at hS hF ⊢
          clear hgx
          go_cut [106] from 72 to 106 (fun c wx => c = .bool (!gh) ∧ Hp w.heap.size w wx [.blk gx [.int .i64 rw, .slice As ns cas, .slice Ab nb cab] 81, .blk w.heap.size [.slice Ac k cc, .slice (some ⟨b, o, none⟩) m cg] 29])
          case first =>
            by_cases r1 : rw < 1
            · skip
              ((try clear hF); (first | have hF := And.intro hS.facts (hR.at hS.ext) | have hF := hS.facts); simp only [HFacts, cellFacts, RFacts, cellOnly, and_true, true_and, Nat.zero_add, Nat.reduceAdd] at hF)
              go_wp2_with (first | ((with_reducible first | refine nhLa ?_ | refine nhLs ?_ | refine nhLd ?_ | refine nhCa ?_ | refine nhCs ?_ | refine nhCd ?_ | refine nhPa ?_ | refine nhPs ?_ | refine nhPd ?_ | refine nhKa ?_ | refine nhKs ?_ | refine nhKd ?_); ((try clear hF); clear hS; intro wk hS; (try simp only [List.set_cons_zero, List.set_cons_succ, heap_size, heap_set_size] at hS); ((try clear hF); (first | have hF := And.intro hS.facts (hR.at hS.ext) | have hF := hS.facts); simp only [HFacts, cellFacts, RFacts, cellOnly, and_true, true_and, Nat.zero_add, Nat.reduceAdd] at hF))) | fail)
              go_meet
              case rel => exact ⟨congrArg Value.bool (by rw [HG.out]; simp; omega), hS⟩
            by_cases r6 : 6 < rw
            · skip
              ((try clear hF); (first | have hF := And.intro hS.facts (hR.at hS.ext) | have hF := hS.facts); simp only [HFacts, cellFacts, RFacts, cellOnly, and_true, true_and, Nat.zero_add, Nat.reduceAdd] at hF)
              go_wp2_with (first | ((with_reducible first | refine nhLa ?_ | refine nhLs ?_ | refine nhLd ?_ | refine nhCa ?_ | refine nhCs ?_ | refine nhCd ?_ | refine nhPa ?_ | refine nhPs ?_ | refine nhPd ?_ | refine nhKa ?_ | refine nhKs ?_ | refine nhKd ?_); ((try clear hF); clear hS; intro wk hS; (try simp only [List.set_cons_zero, List.set_cons_succ, heap_size, heap_set_size] at hS); ((try clear hF); (first | have hF := And.intro hS.facts (hR.at hS.ext) | have hF := hS.facts); simp only [HFacts, cellFacts, RFacts, cellOnly, and_true, true_and, Nat.zero_add, Nat.reduceAdd] at hF))) | fail)
              go_meet
              case rel => exact ⟨congrArg Value.bool (by rw [HG.out]; simp; omega), hS⟩
            by_cases hbk : nb = k
            · subst hbk
              by_cases rl : rw < 6
              · cases last with
                | true =>
                  ((try clear hF); (first | have hF := And.intro hS.facts (hR.at hS.ext) | have hF := hS.facts); simp only [HFacts, cellFacts, RFacts, cellOnly, and_true, true_and, Nat.zero_add, Nat.reduceAdd] at hF)
                  go_wp2_with (first | ((with_reducible first | refine nhLa ?_ | refine nhLs ?_ | refine nhLd ?_ | refine nhCa ?_ | refine nhCs ?_ | refine nhCd ?_ | refine nhPa ?_ | refine nhPs ?_ | refine nhPd ?_ | refine nhKa ?_ | refine nhKs ?_ | refine nhKd ?_); ((try clear hF); clear hS; intro wk hS; (try simp only [List.set_cons_zero, List.set_cons_succ, heap_size, heap_set_size] at hS); ((try clear hF); (first | have hF := And.intro hS.facts (hR.at hS.ext) | have hF := hS.facts); simp only [HFacts, cellFacts, RFacts, cellOnly, and_true, true_and, Nat.zero_add, Nat.reduceAdd] at hF))) | fail)
                  go_meet
                  case rel => exact ⟨congrArg Value.bool (by rw [HG.out]; rw [decide_eq_true (p := 1 ≤ rw) (by omega), decide_eq_true (p := rw ≤ 6) (by omega)]; simp [nat_bne]), hS⟩
                | false =>
                  ((try clear hF); (first | have hF := And.intro hS.facts (hR.at hS.ext) | have hF := hS.facts); simp only [HFacts, cellFacts, RFacts, cellOnly, and_true, true_and, Nat.zero_add, Nat.reduceAdd] at hF)
                  go_wp2_with (first | ((with_reducible first | refine nhLa ?_ | refine nhLs ?_ | refine nhLd ?_ | refine nhCa ?_ | refine nhCs ?_ | refine nhCd ?_ | refine nhPa ?_ | refine nhPs ?_ | refine nhPd ?_ | refine nhKa ?_ | refine nhKs ?_ | refine nhKd ?_); ((try clear hF); clear hS; intro wk hS; (try simp only [List.set_cons_zero, List.set_cons_succ, heap_size, heap_set_size] at hS); ((try clear hF); (first | have hF := And.intro hS.facts (hR.at hS.ext) | have hF := hS.facts); simp only [HFacts, cellFacts, RFacts, cellOnly, and_true, true_and, Nat.zero_add, Nat.reduceAdd] at hF))) | fail)
                  go_meet
                  case rel => exact ⟨congrArg Value.bool (by rw [HG.out]; simp; omega), hS⟩
              · cases last with
                | true =>
                  ((try clear hF); (first | have hF := And.intro hS.facts (hR.at hS.ext) | have hF := hS.facts); simp only [HFacts, cellFacts, RFacts, cellOnly, and_true, true_and, Nat.zero_add, Nat.reduceAdd] at hF)
                  go_wp2_with (first | ((with_reducible first | refine nhLa ?_ | refine nhLs ?_ | refine nhLd ?_ | refine nhCa ?_ | refine nhCs ?_ | refine nhCd ?_ | refine nhPa ?_ | refine nhPs ?_ | refine nhPd ?_ | refine nhKa ?_ | refine nhKs ?_ | refine nhKd ?_); ((try clear hF); clear hS; intro wk hS; (try simp only [List.set_cons_zero, List.set_cons_succ, heap_size, heap_set_size] at hS); ((try clear hF); (first | have hF := And.intro hS.facts (hR.at hS.ext) | have hF := hS.facts); simp only [HFacts, cellFacts, RFacts, cellOnly, and_true, true_and, Nat.zero_add, Nat.reduceAdd] at hF))) | fail)
                  go_meet
                  case rel => exact ⟨congrArg Value.bool (by rw [HG.out]; rw [decide_eq_true (p := 1 ≤ rw) (by omega), decide_eq_true (p := rw ≤ 6) (by omega)]; simp [nat_bne]), hS⟩
                | false =>
                  ((try clear hF); (first | have hF := And.intro hS.facts (hR.at hS.ext) | have hF := hS.facts); simp only [HFacts, cellFacts, RFacts, cellOnly, and_true, true_and, Nat.zero_add, Nat.reduceAdd] at hF)
                  go_wp2_with (first | ((with_reducible first | refine nhLa ?_ | refine nhLs ?_ | refine nhLd ?_ | refine nhCa ?_ | refine nhCs ?_ | refine nhCd ?_ | refine nhPa ?_ | refine nhPs ?_ | refine nhPd ?_ | refine nhKa ?_ | refine nhKs ?_ | refine nhKd ?_); ((try clear hF); clear hS; intro wk hS; (try simp only [List.set_cons_zero, List.set_cons_succ, heap_size, heap_set_size] at hS); ((try clear hF); (first | have hF := And.intro hS.facts (hR.at hS.ext) | have hF := hS.facts); simp only [HFacts, cellFacts, RFacts, cellOnly, and_true, true_and, Nat.zero_add, Nat.reduceAdd] at hF))) | fail)
                  go_meet
                  case rel => exact ⟨congrArg Value.bool (by rw [HG.out]; rw [decide_eq_true (p := 1 ≤ rw) (by omega), decide_eq_true (p := rw ≤ 6) (by omega)]; rw [decide_eq_true (p := 6 ≤ rw) (by omega)]; simp [nat_bne]), hS⟩
            · have hbk2 : ¬ ((nb : Int) = (k : Int)) := by omega
              by_cases rl : rw < 6
              · cases last with
                | true =>
                  ((try clear hF); (first | have hF := And.intro hS.facts (hR.at hS.ext) | have hF := hS.facts); simp only [HFacts, cellFacts, RFacts, cellOnly, and_true, true_and, Nat.zero_add, Nat.reduceAdd] at hF)
                  go_wp2_with (first | ((with_reducible first | refine nhLa ?_ | refine nhLs ?_ | refine nhLd ?_ | refine nhCa ?_ | refine nhCs ?_ | refine nhCd ?_ | refine nhPa ?_ | refine nhPs ?_ | refine nhPd ?_ | refine nhKa ?_ | refine nhKs ?_ | refine nhKd ?_); ((try clear hF); clear hS; intro wk hS; (try simp only [List.set_cons_zero, List.set_cons_succ, heap_size, heap_set_size] at hS); ((try clear hF); (first | have hF := And.intro hS.facts (hR.at hS.ext) | have hF := hS.facts); simp only [HFacts, cellFacts, RFacts, cellOnly, and_true, true_and, Nat.zero_add, Nat.reduceAdd] at hF))) | fail)
                  go_meet
                  case rel => exact ⟨congrArg Value.bool (by rw [HG.out]; simp; omega), hS⟩
                | false =>
                  ((try clear hF); (first | have hF := And.intro hS.facts (hR.at hS.ext) | have hF := hS.facts); simp only [HFacts, cellFacts, RFacts, cellOnly, and_true, true_and, Nat.zero_add, Nat.reduceAdd] at hF)
                  go_wp2_with (first | ((with_reducible first | refine nhLa ?_ | refine nhLs ?_ | refine nhLd ?_ | refine nhCa ?_ | refine nhCs ?_ | refine nhCd ?_ | refine nhPa ?_ | refine nhPs ?_ | refine nhPd ?_ | refine nhKa ?_ | refine nhKs ?_ | refine nhKd ?_); ((try clear hF); clear hS; intro wk hS; (try simp only [List.set_cons_zero, List.set_cons_succ, heap_size, heap_set_size] at hS); ((try clear hF); (first | have hF := And.intro hS.facts (hR.at hS.ext) | have hF := hS.facts); simp only [HFacts, cellFacts, RFacts, cellOnly, and_true, true_and, Nat.zero_add, Nat.reduceAdd] at hF))) | fail)
                  go_meet
                  case rel => exact ⟨congrArg Value.bool (by rw [HG.out]; simp; omega), hS⟩
              · cases last with
                | true =>
                  ((try clear hF); (first | have hF := And.intro hS.facts (hR.at hS.ext) | have hF := hS.facts); simp only [HFacts, cellFacts, RFacts, cellOnly, and_true, true_and, Nat.zero_add, Nat.reduceAdd] at hF)
                  go_wp2_with (first | ((with_reducible first | refine nhLa ?_ | refine nhLs ?_ | refine nhLd ?_ | refine nhCa ?_ | refine nhCs ?_ | refine nhCd ?_ | refine nhPa ?_ | refine nhPs ?_ | refine nhPd ?_ | refine nhKa ?_ | refine nhKs ?_ | refine nhKd ?_); ((try clear hF); clear hS; intro wk hS; (try simp only [List.set_cons_zero, List.set_cons_succ, heap_size, heap_set_size] at hS); ((try clear hF); (first | have hF := And.intro hS.facts (hR.at hS.ext) | have hF := hS.facts); simp only [HFacts, cellFacts, RFacts, cellOnly, and_true, true_and, Nat.zero_add, Nat.reduceAdd] at hF))) | fail)
                  go_meet
                  case rel => exact ⟨congrArg Value.bool (by rw [HG.out]; simp; omega), hS⟩
                | false =>
                  ((try clear hF); (first | have hF := And.intro hS.facts (hR.at hS.ext) | have hF := hS.facts); simp only [HFacts, cellFacts, RFacts, cellOnly, and_true, true_and, Nat.zero_add, Nat.reduceAdd] at hF)
                  go_wp2_with (first | ((with_reducible first | refine nhLa ?_ | refine nhLs ?_ | refine nhLd ?_ | refine nhCa ?_ | refine nhCs ?_ | refine nhCd ?_ | refine nhPa ?_ | refine nhPs ?_ | refine nhPd ?_ | refine nhKa ?_ | refine nhKs ?_ | refine nhKd ?_); ((try clear hF); clear hS; intro wk hS; (try simp only [List.set_cons_zero, List.set_cons_succ, heap_size, heap_set_size] at hS); ((try clear hF); (first | have hF := And.intro hS.facts (hR.at hS.ext) | have hF := hS.facts); simp only [HFacts, cellFacts, RFacts, cellOnly, and_true, true_and, Nat.zero_add, Nat.reduceAdd] at hF))) | fail)
                  go_meet
                  case rel => exact ⟨congrArg Value.bool (by rw [HG.out]; simp; omega), hS⟩
          case rest =>
            obtain ⟨rfl, hS⟩ := hcut
            cases gh with
            | false =>
              ((try clear hF); (first | have hF := And.intro hS.facts (hR.at hS.ext) | have hF := hS.facts); simp only [HFacts, cellFacts, RFacts, cellOnly, and_true, true_and, Nat.zero_add, Nat.reduceAdd] at hF)
              go_wp2_with (first | ((with_reducible first | refine nhLa ?_ | refine nhLs ?_ | refine nhLd ?_ | refine nhCa ?_ | refine nhCs ?_ | refine nhCd ?_ | refine nhPa ?_ | refine nhPs ?_ | refine nhPd ?_ | refine nhKa ?_ | refine nhKs ?_ | refine nhKd ?_); ((try clear hF); clear hS; intro wk hS; (try simp only [List.set_cons_zero, List.set_cons_succ, heap_size, heap_set_size] at hS); ((try clear hF); (first | have hF := And.intro hS.facts (hR.at hS.ext) | have hF := hS.facts); simp only [HFacts, cellFacts, RFacts, cellOnly, and_true, true_and, Nat.zero_add, Nat.reduceAdd] at hF))) | fail)
              go_ret
              exact ⟨by rw [hg.out, HST.out, Bool.false_and, Bool.false_and, Bool.and_false, Bool.false_and]; rfl, hS.ext⟩
            | true =>
              have HGT := HG.out.symm
              simp only [Bool.and_eq_true, decide_eq_true_eq] at HGT
              obtain ⟨⟨⟨⟨hr1, hr6⟩, _⟩, hbk⟩, hsk⟩ := HGT
              clear HG
              subst hbk
              obtain rfl : ns = nb := hsk
              ((try clear hF); (first | have hF := And.intro hS.facts (hR.at hS.ext) | have hF := hS.facts); simp only [HFacts, cellFacts, RFacts, cellOnly, and_true, true_and, Nat.zero_add, Nat.reduceAdd] at hF)
              go_wp2_with (first | ((with_reducible first | refine nhLa ?_ | refine nhLs ?_ | refine nhLd ?_ | refine nhCa ?_ | refine nhCs ?_ | refine nhCd ?_ | refine nhPa ?_ | refine nhPs ?_ | refine nhPd ?_ | refine nhKa ?_ | refine nhKs ?_ | refine nhKd ?_); ((try clear hF); clear hS; intro wk hS; (try simp only [List.set_cons_zero, List.set_cons_succ, heap_size, heap_set_size] at hS); ((try clear hF); (first | have hF := And.intro hS.facts (hR.at hS.ext) | have hF := hS.facts); simp only [HFacts, cellFacts, RFacts, cellOnly, and_true, true_and, Nat.zero_add, Nat.reduceAdd] at hF))) | fail)
              go_loopw [110] (fun i wr2 => ∃ j : Nat, i = .int .i64 j ∧ j ≤ ns ∧ Hid (colG rw cs gst gby = colG rw (cs.drop j) (gst.drop j) (gby.drop j)) ∧ Hp w.heap.size w wr2 [.blk gx [.int .i64 rw, .slice As ns cas, .slice Ab ns cab] 81, .blk w.heap.size [.slice Ac ns cc, .slice (some ⟨b, o, none⟩) m cg] 29]) (fun i _ => ns - (intOf i).toNat)
              case atStart => exact ⟨0, rfl, Nat.zero_le _, Lib.hid rfl, hS⟩
              case round =>
                clear hS hF
                obtain ⟨j, rfl, hj, hcg, hS⟩ := hrel
                by_cases hlj : j < ns
                · obtain ⟨c, hc'⟩ : ∃ x, cs[j]? = some x := ⟨cs[j]'(by rw [← Hn.out]; exact hlj), List.getElem?_eq_getElem _⟩
                  obtain ⟨s, hs'⟩ : ∃ x, gst[j]? = some x := ⟨gst[j]'(by rw [← Hns.out]; exact hlj), List.getElem?_eq_getElem _⟩
                  obtain ⟨y, hy'⟩ : ∃ x, gby[j]? = some x := ⟨gby[j]'(by rw [← Hnb.out]; exact hlj), List.getElem?_eq_getElem _⟩
                  obtain ⟨b1, o1, rfl, c0, c1, c2, c3, c4, c5, c6⟩ := hcs j c hc'
                  obtain ⟨b2, o2, rfl, s0, s1, s2, s3, s4, s5, s6, s7⟩ := hK j s hs'
                  obtain ⟨b3, o3, rfl, y0⟩ := hB j y hy'
                  have hR1 := Reads.cell c0 (Reads.cell c1 (Reads.cell c2 (Reads.cell c3 (Reads.cell c4 (Reads.cell c5 (Reads.cell c6 (Reads.nil w)))))))
                  have hR2 := Reads.cell y0 (Reads.nil w)
                  have hR3 := Reads.cell s0 (Reads.cell s1 (Reads.cell s2 (Reads.cell s3 (Reads.cell s4 (Reads.cell s5 (Reads.cell s6 (Reads.cell s7 (Reads.nil w))))))))
                  clear hR
                  have hR := hR1
                  have HSTC := Lib.hid (show colG rw (cs.drop j) (gst.drop j) (gby.drop j) = ((match decO c.kind y.data.toList with | none => false | some l => decide ((l.length : Int) = rw) && decide (s = ofS l)) && colG rw (cs.drop (j + 1)) (gst.drop (j + 1)) (gby.drop (j + 1))) by
                    rw [dropC_at hc', dropS_at hs', dropY_at hy']; rfl)
                  have hys : y.size ≤ 100000 := HLB.out y (List.mem_of_getElem? hy')
                  clear c0 c1 c2 c3 c4 c5 c6 s0 s1 s2 s3 s4 s5 s6 s7 y0 hc' hs' hy' hcs hK hB
                  cases hd : decO c.kind y.data.toList with
                  | none =>
                    rw [hd] at HSTC
                    have HDN := Lib.hid (fun W => decode_none hd hys W)
                    have HG0 := Lib.hid (show frG cs gs = false by rw [hg.out, HST.out, hcg.out, HSTC.out]; rfl)
                    clear HSTC hd
                    clear hR3
                    ((try clear hF); (first | have hF := And.intro hS.facts (hR.at hS.ext) | have hF := hS.facts); simp only [HFacts, cellFacts, RFacts, cellOnly, and_true, true_and, Nat.zero_add, Nat.reduceAdd] at hF)
                    go_upto_region 18 with (first | ((with_reducible first | refine nhLa ?_ | refine nhLs ?_ | refine nhLd ?_ | refine nhCa ?_ | refine nhCs ?_ | refine nhCd ?_ | refine nhPa ?_ | refine nhPs ?_ | refine nhPd ?_ | refine nhKa ?_ | refine nhKs ?_ | refine nhKd ?_); ((try clear hF); clear hS; intro wk hS; (try simp only [List.set_cons_zero, List.set_cons_succ, heap_size, heap_set_size] at hS); ((try clear hF); (first | have hF := And.intro hS.facts (hR.at hS.ext) | have hF := hS.facts); simp only [HFacts, cellFacts, RFacts, cellOnly, and_true, true_and, Nat.zero_add, Nat.reduceAdd] at hF))) | fail)
                    clear hR hR1
                    have hR := hR2
                    ((try clear hF); (first | have hF := And.intro hS.facts (hR.at hS.ext) | have hF := hS.facts); simp only [HFacts, cellFacts, RFacts, cellOnly, and_true, true_and, Nat.zero_add, Nat.reduceAdd] at hF)
                    go_wp2_with (first | ((with_reducible first | refine nhLa ?_ | refine nhLs ?_ | refine nhLd ?_ | refine nhCa ?_ | refine nhCs ?_ | refine nhCd ?_ | refine nhPa ?_ | refine nhPs ?_ | refine nhPd ?_ | refine nhKa ?_ | refine nhKs ?_ | refine nhKd ?_); ((try clear hF); clear hS; intro wk hS; (try simp only [List.set_cons_zero, List.set_cons_succ, heap_size, heap_set_size] at hS); ((try clear hF); (first | have hF := And.intro hS.facts (hR.at hS.ext) | have hF := hS.facts); simp only [HFacts, cellFacts, RFacts, cellOnly, and_true, true_and, Nat.zero_add, Nat.reduceAdd] at hF))) | (first | (with_reducible refine wp_region_hp (draw := true) (by kernel_rfl) (by kernel_rfl) hS ?_) | ((with_reducible refine Fixed.here ?_); (first | ((with_reducible apply Fixed.skip); (first | rfl | exact wanted_false rfl rfl rfl (by assumption)); try simp only [Act.put, List.setIfInBounds_toArray, List.set_cons_zero, List.set_cons_succ]) | ((with_reducible apply Fixed.val); (first | rfl | exact wanted_true rfl rfl rfl (by assumption)); (rintro w hS; ((try clear hF); (first | have hF := And.intro hS.facts (hR.at hS.ext) | have hF := hS.facts); simp only [HFacts, cellFacts, RFacts, cellOnly, and_true, true_and, Nat.zero_add, Nat.reduceAdd] at hF); go_simp; with_reducible rfl); try simp only [Act.put, List.setIfInBounds_toArray, List.set_cons_zero, List.set_cons_succ]) | ((with_reducible apply Fixed.call); (first | rfl | exact wanted_true rfl rfl rfl (by assumption)); (rintro w hS; ((try clear hF); (first | have hF := And.intro hS.facts (hR.at hS.ext) | have hF := hS.facts); simp only [HFacts, cellFacts, RFacts, cellOnly, and_true, true_and, Nat.zero_add, Nat.reduceAdd] at hF); go_simp; exact ⟨rfl, rfl⟩); (rintro w hS; first | (with_reducible exact HDN.out w)); try simp only [Act.put, List.setIfInBounds_toArray, List.set_cons_zero, List.set_cons_succ]) | ((with_reducible apply Fixed.guardT); rfl; rfl; rfl; (all_goals intro hg)) | ((with_reducible apply Fixed.guardF); rfl; rfl; rfl; (all_goals intro hg)) | (with_reducible refine Fixed.done ?_; (try clear hF); clear hS; intro wk hS; ((try clear hF); (first | have hF := And.intro hS.facts (hR.at hS.ext) | have hF := hS.facts); simp only [HFacts, cellFacts, RFacts, cellOnly, and_true, true_and, Nat.zero_add, Nat.reduceAdd] at hF))))))
                    go_ret
                    exact ⟨by rw [HG0.out, Bool.and_false, Bool.false_and]; rfl, hS.ext⟩
                  | some l =>
                    rw [hd] at HSTC
                    dsimp only at HSTC
                    have hl60 := decO_short hd
                    obtain ⟨ln, hln⟩ : ∃ x, x = l.length := ⟨_, rfl⟩
                    have HDS := Lib.hid (fun (W : World) (L : List Item) (hW : Hp w.heap.size w W L) => show Calls Tryz.prog 33 #[.int .i64 c.kind, .string y] W fun e w' => ∃ A cap, e = .returned (.tuple #[.slice A ln cap, .nilIface]) ∧ Hp w.heap.size w w' (.row 45 3 A ln cap (cellsV l) :: L) from by
                      have := decode_any c.kind y hys W
                      rw [hd] at this
                      refine this.mono fun e w' ⟨A, cap, he, hp⟩ => ⟨A, cap, by rw [hln]; exact he, ?_⟩
                      have := hW.join hp
                      unfold vRow at this
                      rw [← hln] at this
                      exact this)
                    have HOF := Lib.hid (fun (W : World) (A : Option Addr) (cap : Nat) (hr : RV W A l) => show Calls Tryz.prog 29 #[.slice A ln cap] W fun e w' => e = .returned (stV (ofS l)) ∧ Ext W w' from by rw [hln]; exact of_any l A cap W hr (by omega))
                    unfold stV at HOF
                    rw [← hln] at HSTC hl60
                    obtain ⟨t, ht⟩ : ∃ t, t = ofS l := ⟨_, rfl⟩
                    rw [← ht] at HOF HSTC
                    clear hd hln ht
                    by_cases hlr : (ln : Int) = rw
--<L
                    case neg =>
                      have hlr2 : ((ln : Int) != rw) = true := by simp [hlr]
                      have HG0 := Lib.hid (show frG cs gs = false by rw [hg.out, HST.out, hcg.out, HSTC.out, decide_eq_false hlr]; rfl)
                      clear HSTC
                      ((try clear hF); (first | have hF := And.intro hS.facts (hR.at hS.ext) | have hF := hS.facts); simp only [HFacts, cellFacts, RFacts, cellOnly, and_true, true_and, Nat.zero_add, Nat.reduceAdd] at hF)
                      go_upto_region 18 with (first | ((with_reducible first | refine nhLa ?_ | refine nhLs ?_ | refine nhLd ?_ | refine nhCa ?_ | refine nhCs ?_ | refine nhCd ?_ | refine nhPa ?_ | refine nhPs ?_ | refine nhPd ?_ | refine nhKa ?_ | refine nhKs ?_ | refine nhKd ?_); ((try clear hF); clear hS; intro wk hS; (try simp only [List.set_cons_zero, List.set_cons_succ, heap_size, heap_set_size] at hS); ((try clear hF); (first | have hF := And.intro hS.facts (hR.at hS.ext) | have hF := hS.facts); simp only [HFacts, cellFacts, RFacts, cellOnly, and_true, true_and, Nat.zero_add, Nat.reduceAdd] at hF))) | fail)
                      obtain ⟨gc, hgc⟩ := hS.named
                      rw [← hgc] at hS hF ⊢
                      clear hgc hR hR1
                      have hR := hR2
                      ((try clear hF); (first | have hF := And.intro hS.facts (hR.at hS.ext) | have hF := hS.facts); simp only [HFacts, cellFacts, RFacts, cellOnly, and_true, true_and, Nat.zero_add, Nat.reduceAdd] at hF)
                      ((with_reducible refine wp_region_call_hp 7 (by kernel_rfl) (by kernel_rfl) hS ?_); clear hS; (repeat ((with_reducible refine CallWalk.here ?_); (first | ((with_reducible apply CallWalk.skip); (first | rfl | exact wanted_false rfl rfl rfl (by assumption)); try simp only [Act.put, List.setIfInBounds_toArray, List.set_cons_zero, List.set_cons_succ]) | ((with_reducible apply CallWalk.val); (first | rfl | exact wanted_true rfl rfl rfl (by assumption)); (rintro w hS; ((try clear hF); (first | have hF := And.intro hS.facts (hR.at hS.ext) | have hF := hS.facts); simp only [HFacts, cellFacts, RFacts, cellOnly, and_true, true_and, Nat.zero_add, Nat.reduceAdd] at hF); go_simp; with_reducible rfl); try simp only [Act.put, List.setIfInBounds_toArray, List.set_cons_zero, List.set_cons_succ])))); ((with_reducible apply CallWalk.call); (first | rfl | exact wanted_true rfl rfl rfl (by assumption)); (rintro w hS; ((try clear hF); (first | have hF := And.intro hS.facts (hR.at hS.ext) | have hF := hS.facts); simp only [HFacts, cellFacts, RFacts, cellOnly, and_true, true_and, Nat.zero_add, Nat.reduceAdd] at hF); go_simp; exact ⟨rfl, rfl⟩); (intro w hS); (with_reducible refine Calls.mono (HDS.out _ _ hS) ?_); clear hS; rintro e wk ⟨Al, cl, rfl, hS⟩; (try simp only [List.eraseIdx_cons_zero, List.eraseIdx_cons_succ, List.set_cons_zero, List.set_cons_succ] at hS); refine ⟨_, _, rfl, hS, (fun w h => h.sub (by simp)), ?_⟩; (clear hS); try simp only [Act.put, List.setIfInBounds_toArray, List.set_cons_zero, List.set_cons_succ]); (repeat ((with_reducible refine Fixed.here ?_); (first | ((with_reducible apply Fixed.skip); (first | rfl | exact wanted_false rfl rfl rfl (by assumption)); try simp only [Act.put, List.setIfInBounds_toArray, List.set_cons_zero, List.set_cons_succ]) | ((with_reducible apply Fixed.val); (first | rfl | exact wanted_true rfl rfl rfl (by assumption)); (rintro w hS; ((try clear hF); (first | have hF := And.intro hS.facts (hR.at hS.ext) | have hF := hS.facts); simp only [HFacts, cellFacts, RFacts, cellOnly, and_true, true_and, Nat.zero_add, Nat.reduceAdd] at hF); go_simp; with_reducible rfl); try simp only [Act.put, List.setIfInBounds_toArray, List.set_cons_zero, List.set_cons_succ])))); (with_reducible refine Fixed.done ?_); (try clear hF); intro wk hS; ((try clear hF); (first | have hF := And.intro hS.facts (hR.at hS.ext) | have hF := hS.facts); simp only [HFacts, cellFacts, RFacts, cellOnly, and_true, true_and, Nat.zero_add, Nat.reduceAdd] at hF))
                      clear hR hR2
                      have hR := hR3
                      ((try clear hF); (first | have hF := And.intro hS.facts (hR.at hS.ext) | have hF := hS.facts); simp only [HFacts, cellFacts, RFacts, cellOnly, and_true, true_and, Nat.zero_add, Nat.reduceAdd] at hF)
                      go_wp2_with (first | ((with_reducible first | refine nhLa ?_ | refine nhLs ?_ | refine nhLd ?_ | refine nhCa ?_ | refine nhCs ?_ | refine nhCd ?_ | refine nhPa ?_ | refine nhPs ?_ | refine nhPd ?_ | refine nhKa ?_ | refine nhKs ?_ | refine nhKd ?_); ((try clear hF); clear hS; intro wk hS; (try simp only [List.set_cons_zero, List.set_cons_succ, heap_size, heap_set_size] at hS); ((try clear hF); (first | have hF := And.intro hS.facts (hR.at hS.ext) | have hF := hS.facts); simp only [HFacts, cellFacts, RFacts, cellOnly, and_true, true_and, Nat.zero_add, Nat.reduceAdd] at hF))) | (first | (with_reducible refine wp_region_hp (draw := true) (by kernel_rfl) (by kernel_rfl) hS ?_) | ((with_reducible refine Fixed.here ?_); (first | ((with_reducible apply Fixed.skip); (first | rfl | exact wanted_false rfl rfl rfl (by assumption)); try simp only [Act.put, List.setIfInBounds_toArray, List.set_cons_zero, List.set_cons_succ]) | ((with_reducible apply Fixed.val); (first | rfl | exact wanted_true rfl rfl rfl (by assumption)); (rintro w hS; ((try clear hF); (first | have hF := And.intro hS.facts (hR.at hS.ext) | have hF := hS.facts); simp only [HFacts, cellFacts, RFacts, cellOnly, and_true, true_and, Nat.zero_add, Nat.reduceAdd] at hF); go_simp; with_reducible rfl); try simp only [Act.put, List.setIfInBounds_toArray, List.set_cons_zero, List.set_cons_succ]) | ((with_reducible apply Fixed.call); (first | rfl | exact wanted_true rfl rfl rfl (by assumption)); (rintro w hS; ((try clear hF); (first | have hF := And.intro hS.facts (hR.at hS.ext) | have hF := hS.facts); simp only [HFacts, cellFacts, RFacts, cellOnly, and_true, true_and, Nat.zero_add, Nat.reduceAdd] at hF); go_simp; exact ⟨rfl, rfl⟩); (rintro w hS; first | (with_reducible exact HOF.out w _ _ (hS.rv 0 rfl))); try simp only [Act.put, List.setIfInBounds_toArray, List.set_cons_zero, List.set_cons_succ]) | ((with_reducible apply Fixed.guardT); rfl; rfl; rfl; (all_goals intro hg)) | ((with_reducible apply Fixed.guardF); rfl; rfl; rfl; (all_goals intro hg)) | (with_reducible refine Fixed.done ?_; (try clear hF); clear hS; intro wk hS; ((try clear hF); (first | have hF := And.intro hS.facts (hR.at hS.ext) | have hF := hS.facts); simp only [HFacts, cellFacts, RFacts, cellOnly, and_true, true_and, Nat.zero_add, Nat.reduceAdd] at hF))))))
                      go_ret
                      exact ⟨by rw [HG0.out, Bool.and_false, Bool.false_and]; rfl, hS.ext⟩
--L>
                    subst hlr
                    ((try clear hF); (first | have hF := And.intro hS.facts (hR.at hS.ext) | have hF := hS.facts); simp only [HFacts, cellFacts, RFacts, cellOnly, and_true, true_and, Nat.zero_add, Nat.reduceAdd] at hF)
                    go_upto_region 18 with (first | ((with_reducible first | refine nhLa ?_ | refine nhLs ?_ | refine nhLd ?_ | refine nhCa ?_ | refine nhCs ?_ | refine nhCd ?_ | refine nhPa ?_ | refine nhPs ?_ | refine nhPd ?_ | refine nhKa ?_ | refine nhKs ?_ | refine nhKd ?_); ((try clear hF); clear hS; intro wk hS; (try simp only [List.set_cons_zero, List.set_cons_succ, heap_size, heap_set_size] at hS); ((try clear hF); (first | have hF := And.intro hS.facts (hR.at hS.ext) | have hF := hS.facts); simp only [HFacts, cellFacts, RFacts, cellOnly, and_true, true_and, Nat.zero_add, Nat.reduceAdd] at hF))) | fail)
                    obtain ⟨gc, hgc⟩ := hS.named
                    rw [← hgc] at hS hF ⊢
                    clear hgc hR hR1
                    have hR := hR2
                    ((try clear hF); (first | have hF := And.intro hS.facts (hR.at hS.ext) | have hF := hS.facts); simp only [HFacts, cellFacts, RFacts, cellOnly, and_true, true_and, Nat.zero_add, Nat.reduceAdd] at hF)
                    ((with_reducible refine wp_region_call_hp 7 (by kernel_rfl) (by kernel_rfl) hS ?_); clear hS; (repeat ((with_reducible refine CallWalk.here ?_); (first | ((with_reducible apply CallWalk.skip); (first | rfl | exact wanted_false rfl rfl rfl (by assumption)); try simp only [Act.put, List.setIfInBounds_toArray, List.set_cons_zero, List.set_cons_succ]) | ((with_reducible apply CallWalk.val); (first | rfl | exact wanted_true rfl rfl rfl (by assumption)); (rintro w hS; ((try clear hF); (first | have hF := And.intro hS.facts (hR.at hS.ext) | have hF := hS.facts); simp only [HFacts, cellFacts, RFacts, cellOnly, and_true, true_and, Nat.zero_add, Nat.reduceAdd] at hF); go_simp; with_reducible rfl); try simp only [Act.put, List.setIfInBounds_toArray, List.set_cons_zero, List.set_cons_succ])))); ((with_reducible apply CallWalk.call); (first | rfl | exact wanted_true rfl rfl rfl (by assumption)); (rintro w hS; ((try clear hF); (first | have hF := And.intro hS.facts (hR.at hS.ext) | have hF := hS.facts); simp only [HFacts, cellFacts, RFacts, cellOnly, and_true, true_and, Nat.zero_add, Nat.reduceAdd] at hF); go_simp; exact ⟨rfl, rfl⟩); (intro w hS); (with_reducible refine Calls.mono (HDS.out _ _ hS) ?_); clear hS; rintro e wk ⟨Al, cl, rfl, hS⟩; (try simp only [List.eraseIdx_cons_zero, List.eraseIdx_cons_succ, List.set_cons_zero, List.set_cons_succ] at hS); refine ⟨_, _, rfl, hS, (fun w h => h.sub (by simp)), ?_⟩; (clear hS); try simp only [Act.put, List.setIfInBounds_toArray, List.set_cons_zero, List.set_cons_succ]); (repeat ((with_reducible refine Fixed.here ?_); (first | ((with_reducible apply Fixed.skip); (first | rfl | exact wanted_false rfl rfl rfl (by assumption)); try simp only [Act.put, List.setIfInBounds_toArray, List.set_cons_zero, List.set_cons_succ]) | ((with_reducible apply Fixed.val); (first | rfl | exact wanted_true rfl rfl rfl (by assumption)); (rintro w hS; ((try clear hF); (first | have hF := And.intro hS.facts (hR.at hS.ext) | have hF := hS.facts); simp only [HFacts, cellFacts, RFacts, cellOnly, and_true, true_and, Nat.zero_add, Nat.reduceAdd] at hF); go_simp; with_reducible rfl); try simp only [Act.put, List.setIfInBounds_toArray, List.set_cons_zero, List.set_cons_succ])))); (with_reducible refine Fixed.done ?_); (try clear hF); intro wk hS; ((try clear hF); (first | have hF := And.intro hS.facts (hR.at hS.ext) | have hF := hS.facts); simp only [HFacts, cellFacts, RFacts, cellOnly, and_true, true_and, Nat.zero_add, Nat.reduceAdd] at hF))
                    clear hR hR2
                    have hR := hR3
                    by_cases hst2 : s = t
                    · subst hst2
                      ((try clear hF); (first | have hF := And.intro hS.facts (hR.at hS.ext) | have hF := hS.facts); simp only [HFacts, cellFacts, RFacts, cellOnly, and_true, true_and, Nat.zero_add, Nat.reduceAdd] at hF)
                      go_wp2_with (first | ((with_reducible first | refine nhLa ?_ | refine nhLs ?_ | refine nhLd ?_ | refine nhCa ?_ | refine nhCs ?_ | refine nhCd ?_ | refine nhPa ?_ | refine nhPs ?_ | refine nhPd ?_ | refine nhKa ?_ | refine nhKs ?_ | refine nhKd ?_); ((try clear hF); clear hS; intro wk hS; (try simp only [List.set_cons_zero, List.set_cons_succ, heap_size, heap_set_size] at hS); ((try clear hF); (first | have hF := And.intro hS.facts (hR.at hS.ext) | have hF := hS.facts); simp only [HFacts, cellFacts, RFacts, cellOnly, and_true, true_and, Nat.zero_add, Nat.reduceAdd] at hF))) | (first | (with_reducible refine wp_region_hp (draw := true) (by kernel_rfl) (by kernel_rfl) hS ?_) | ((with_reducible refine Fixed.here ?_); (first | ((with_reducible apply Fixed.skip); (first | rfl | exact wanted_false rfl rfl rfl (by assumption)); try simp only [Act.put, List.setIfInBounds_toArray, List.set_cons_zero, List.set_cons_succ]) | ((with_reducible apply Fixed.val); (first | rfl | exact wanted_true rfl rfl rfl (by assumption)); (rintro w hS; ((try clear hF); (first | have hF := And.intro hS.facts (hR.at hS.ext) | have hF := hS.facts); simp only [HFacts, cellFacts, RFacts, cellOnly, and_true, true_and, Nat.zero_add, Nat.reduceAdd] at hF); go_simp; with_reducible rfl); try simp only [Act.put, List.setIfInBounds_toArray, List.set_cons_zero, List.set_cons_succ]) | ((with_reducible apply Fixed.call); (first | rfl | exact wanted_true rfl rfl rfl (by assumption)); (rintro w hS; ((try clear hF); (first | have hF := And.intro hS.facts (hR.at hS.ext) | have hF := hS.facts); simp only [HFacts, cellFacts, RFacts, cellOnly, and_true, true_and, Nat.zero_add, Nat.reduceAdd] at hF); go_simp; exact ⟨rfl, rfl⟩); (rintro w hS; first | (with_reducible exact HOF.out w _ _ (hS.rv 0 rfl))); try simp only [Act.put, List.setIfInBounds_toArray, List.set_cons_zero, List.set_cons_succ]) | ((with_reducible apply Fixed.guardT); rfl; rfl; rfl; (all_goals intro hg)) | ((with_reducible apply Fixed.guardF); rfl; rfl; rfl; (all_goals intro hg)) | (with_reducible refine Fixed.done ?_; (try clear hF); clear hS; intro wk hS; ((try clear hF); (first | have hF := And.intro hS.facts (hR.at hS.ext) | have hF := hS.facts); simp only [HFacts, cellFacts, RFacts, cellOnly, and_true, true_and, Nat.zero_add, Nat.reduceAdd] at hF))))))
                      go_roundw
                      case rel => exact ⟨j + 1, by go_num, by omega, Lib.hid (by rw [hcg.out, HSTC.out]; simp), hS.sub (by simp)⟩
                      case measure => simp [intOf]; omega
                    · have HG0 := Lib.hid (show frG cs gs = false by rw [hg.out, HST.out, hcg.out, HSTC.out, decide_eq_false hst2]; simp)
                      clear HSTC
                      ((try clear hF); (first | have hF := And.intro hS.facts (hR.at hS.ext) | have hF := hS.facts); simp only [HFacts, cellFacts, RFacts, cellOnly, and_true, true_and, Nat.zero_add, Nat.reduceAdd] at hF)
                      go_wp2_with (first | ((with_reducible first | refine nhLa ?_ | refine nhLs ?_ | refine nhLd ?_ | refine nhCa ?_ | refine nhCs ?_ | refine nhCd ?_ | refine nhPa ?_ | refine nhPs ?_ | refine nhPd ?_ | refine nhKa ?_ | refine nhKs ?_ | refine nhKd ?_); ((try clear hF); clear hS; intro wk hS; (try simp only [List.set_cons_zero, List.set_cons_succ, heap_size, heap_set_size] at hS); ((try clear hF); (first | have hF := And.intro hS.facts (hR.at hS.ext) | have hF := hS.facts); simp only [HFacts, cellFacts, RFacts, cellOnly, and_true, true_and, Nat.zero_add, Nat.reduceAdd] at hF))) | (first | (with_reducible refine wp_region_hp (draw := true) (by kernel_rfl) (by kernel_rfl) hS ?_) | ((with_reducible refine Fixed.here ?_); (first | ((with_reducible apply Fixed.skip); (first | rfl | exact wanted_false rfl rfl rfl (by assumption)); try simp only [Act.put, List.setIfInBounds_toArray, List.set_cons_zero, List.set_cons_succ]) | ((with_reducible apply Fixed.val); (first | rfl | exact wanted_true rfl rfl rfl (by assumption)); (rintro w hS; ((try clear hF); (first | have hF := And.intro hS.facts (hR.at hS.ext) | have hF := hS.facts); simp only [HFacts, cellFacts, RFacts, cellOnly, and_true, true_and, Nat.zero_add, Nat.reduceAdd] at hF); go_simp; (first | with_reducible rfl | (exact ifs8 _ _ hst2 _ _))); try simp only [Act.put, List.setIfInBounds_toArray, List.set_cons_zero, List.set_cons_succ]) | ((with_reducible apply Fixed.call); (first | rfl | exact wanted_true rfl rfl rfl (by assumption)); (rintro w hS; ((try clear hF); (first | have hF := And.intro hS.facts (hR.at hS.ext) | have hF := hS.facts); simp only [HFacts, cellFacts, RFacts, cellOnly, and_true, true_and, Nat.zero_add, Nat.reduceAdd] at hF); go_simp; exact ⟨rfl, rfl⟩); (rintro w hS; first | (with_reducible exact HOF.out w _ _ (hS.rv 0 rfl))); try simp only [Act.put, List.setIfInBounds_toArray, List.set_cons_zero, List.set_cons_succ]) | ((with_reducible apply Fixed.guardT); rfl; rfl; rfl; (all_goals intro hg)) | ((with_reducible apply Fixed.guardF); rfl; rfl; rfl; (all_goals intro hg)) | (with_reducible refine Fixed.done ?_; (try clear hF); clear hS; intro wk hS; ((try clear hF); (first | have hF := And.intro hS.facts (hR.at hS.ext) | have hF := hS.facts); simp only [HFacts, cellFacts, RFacts, cellOnly, and_true, true_and, Nat.zero_add, Nat.reduceAdd] at hF))))))
                      go_ret
                      exact ⟨by rw [HG0.out, Bool.and_false, Bool.false_and]; rfl, hS.ext⟩
                · obtain rfl : j = ns := by omega
                  have HG1 := Lib.hid (show frG cs gs = frG cs (gs.drop (q + 1)) by
                    rw [hg.out, HST.out, hcg.out, show cs.drop j = [] by rw [Hn.out, List.drop_length]]
                    simp [colG])
                  ((try clear hF); (first | have hF := And.intro hS.facts (hR.at hS.ext) | have hF := hS.facts); simp only [HFacts, cellFacts, RFacts, cellOnly, and_true, true_and, Nat.zero_add, Nat.reduceAdd] at hF)
                  go_wp2_with (first | ((with_reducible first | refine nhLa ?_ | refine nhLs ?_ | refine nhLd ?_ | refine nhCa ?_ | refine nhCs ?_ | refine nhCd ?_ | refine nhPa ?_ | refine nhPs ?_ | refine nhPd ?_ | refine nhKa ?_ | refine nhKs ?_ | refine nhKd ?_); ((try clear hF); clear hS; intro wk hS; (try simp only [List.set_cons_zero, List.set_cons_succ, heap_size, heap_set_size] at hS); ((try clear hF); (first | have hF := And.intro hS.facts (hR.at hS.ext) | have hF := hS.facts); simp only [HFacts, cellFacts, RFacts, cellOnly, and_true, true_and, Nat.zero_add, Nat.reduceAdd] at hF))) | fail)
                  go_roundw
                  case rel => exact ⟨q + 1, by go_num, by omega, HG1, hS.sub (by simp)⟩
                  case measure => simp [intOf]; omega
        · obtain rfl : q = m := by omega
          have HG1 := Lib.hid (show frG cs gs = true by rw [hg.out, Hm.out, List.drop_length]; rfl)
          ((try clear hF); (first | have hF := And.intro hS.facts (hR.at hS.ext) | have hF := hS.facts); simp only [HFacts, cellFacts, RFacts, cellOnly, and_true, true_and, Nat.zero_add, Nat.reduceAdd] at hF)
          go_wp2_with (first | ((with_reducible first | refine nhLa ?_ | refine nhLs ?_ | refine nhLd ?_ | refine nhCa ?_ | refine nhCs ?_ | refine nhCd ?_ | refine nhPa ?_ | refine nhPs ?_ | refine nhPd ?_ | refine nhKa ?_ | refine nhKs ?_ | refine nhKd ?_); ((try clear hF); clear hS; intro wk hS; (try simp only [List.set_cons_zero, List.set_cons_succ, heap_size, heap_set_size] at hS); ((try clear hF); (first | have hF := And.intro hS.facts (hR.at hS.ext) | have hF := hS.facts); simp only [HFacts, cellFacts, RFacts, cellOnly, and_true, true_and, Nat.zero_add, Nat.reduceAdd] at hF))) | (go_at_call 12; (with_reducible refine (HRO.out _ hS.ext).mono ?_); rintro e wk ⟨rfl, hX⟩; replace hS := hS.step hX; clear hX; ((try clear hF); (first | have hF := And.intro hS.facts (hR.at hS.ext) | have hF := hS.facts); simp only [HFacts, cellFacts, RFacts, cellOnly, and_true, true_and, Nat.zero_add, Nat.reduceAdd] at hF)))
          go_ret
          exact ⟨by rw [HC0.out, HG1.out, Bool.true_and, Bool.true_and]; rfl, hS.ext⟩
end Go.Proofs.YtcpllhjhnfmepaaGreatDoor
