/- log.Parse: the walk. -/
import Derived.Test.YtcpnnffnkegamaaGreatDoorLZ18
import Derived.Test.YtcpnnffnkegamaaGreatDoorLZ19
namespace Go.Proofs.YtcpnnffnkegamaaGreatDoor
set_option linter.unusedSimpArgs false
set_option linter.unusedVariables false
open Go.RowKit
set_option linter.all false
/-- what log.Parse answers -/
def PaRes (s : ByteArray) (wI : World) (e : Ending) (w' : World) : Prop :=
  match parseP s with
  | none => e = .returned (.tuple #[coV ⟨#[]⟩ false none 0 0, .iface 66 (.int .i64 3)]) ∧ Ext wI w'
  | some (tx, rd, al) => ∃ (l : List (AN × AV)) (A : Option Addr) (cap : Nat) (M : List Item), l.map (·.1) = al ∧ e = .returned (.tuple #[coV tx rd A l.length cap, .nilIface]) ∧ Hp wI.heap.size wI w' M ∧
    (∀ (B : Nat) (w0 W : World), Hp B w0 W M → CmAt W ⟨tx, rd, l, A, l.length, cap⟩) ∧ ∀ a v, (a, v) ∈ l → LnOk a v (s.size + 1)
theorem PaRes.no {s : ByteArray} {wI w' : World} (h : parseP s = none) (hx : Ext wI w') : PaRes s wI (.returned (.tuple #[coV ⟨#[]⟩ false none 0 0, .iface 66 (.int .i64 3)])) w' := by
  unfold PaRes
  rw [h]
  exact ⟨rfl, hx⟩
/-- the cells of actions -/
def cellsA : List (AN × AV) → List Value
  | [] => []
  | (a, v) :: l => aC a v ++ cellsA l
theorem cellsA_append : ∀ l m : List (AN × AV), cellsA (l ++ m) = cellsA l ++ cellsA m
  | [], m => rfl
  | (a, v) :: l, m => by rw [List.cons_append, cellsA, cellsA, cellsA_append l m, List.append_assoc]
theorem cellsA_at : ∀ (l : List (AN × AV)) (i : Nat) (a : AN) (v : AV), l[i]? = some (a, v) → ∀ j u, (aC a v)[j]? = some u → (cellsA l)[i * 6 + j]? = some u
  | [], i, a, v, h, j, u, hu => by simp at h
  | (b, q) :: l, 0, a, v, h, j, u, hu => by
    obtain ⟨rfl, rfl⟩ : b = a ∧ q = v := by simpa using h
    have hj := (List.getElem?_eq_some_iff.1 hu).1
    rw [cellsA, Nat.zero_mul, Nat.zero_add, List.getElem?_append_left hj, hu]
  | (b, q) :: l, i + 1, a, v, h, j, u, hu => by
    have := cellsA_at l i a v (by simpa using h) j u hu
    rw [cellsA, show (i + 1) * 6 + j = (aC b q).length + (i * 6 + j) by simp; omega, List.getElem?_append_right (by omega), Nat.add_sub_cancel_left, this]
theorem Hp.ra {B : Nat} {w0 w : World} {L : List Item} {A : Option Addr} {cap n : Nat} {l : List (AN × AV)} (h : Hp B w0 w L) (i : Nat) (hi : L[i]? = some (.row 63 6 A n cap (cellsA l))) : RA w A l := by
  intro k a v hk
  have hc := cellsA_at l k a v hk
  obtain ⟨g, hg, c0, _⟩ := h.rowCell i hi (hc 0 _ rfl)
  have h1 : ∀ j u, (aC a v)[j]? = some u → w.cell? ⟨g, k * 6 + j, none⟩ = some u := fun j u hu => by
    obtain ⟨g', hg', c, _⟩ := h.rowCell i hi (hc j u hu)
    rw [hg] at hg'
    obtain rfl : g = g' := by simpa using hg'
    exact c
  refine ⟨g, 0, hg, ?_, ?_, ?_, ?_, ?_, ?_⟩ <;> rw [Nat.zero_add]
  · exact h1 0 _ rfl
  · exact h1 1 _ rfl
  · exact h1 2 _ rfl
  · exact h1 3 _ rfl
  · exact h1 4 _ rfl
  · exact h1 5 _ rfl
theorem Tryz.elem_acts : Elem Tryz.prog 33 63 6 88 := by
  obtain ⟨i0, hi0, hz0, hz1, hz2⟩ := info_parts (show (Tryz.prog.info? 63).map (fun i => (i.zero, i.size, i.bytes)) = some (some (.agg #[.int .i64 0, .string ⟨#[]⟩, .int .i64 0, .slice none 0 0, .slice none 0 0, .int .i64 0]), 6, 88) by kernel_rfl)
  exact ⟨Tryz.underlying33, ⟨i0, _, hi0, hz0, hz1, hz2, rfl⟩, by omega⟩
/-- what is known of the lines so far -/
def PaF (ls : List ByteArray) (z k : Nat) (l : List (AN × AV)) (K : List Item) : Prop :=
  linesP (ls.take k) = some (l.map (·.1)) ∧ l.length = k ∧ (∀ a v, (a, v) ∈ l → LnOk a v z ∧ ∀ (B : Nat) (w0 W : World), Hp B w0 W K → RI W v.qa a.mask ∧ RC W v.ra a.cols)
theorem LnOk.mono {a : AN} {v : AV} {z z2 : Nat} (h : LnOk a v z) (hz : z ≤ z2) : LnOk a v z2 :=
  ⟨h.q, Nat.le_trans h.q2 hz, h.qz, h.r, Nat.le_trans h.r2 hz, h.r3, h.n64, h.r64, h.m64, h.c64, Nat.le_trans h.cs hz, Nat.le_trans h.p hz⟩
theorem PaF.step {ls : List ByteArray} {z k : Nat} {l : List (AN × AV)} {K M : List Item} {t : ByteArray} {a : AN} {v : AV} (h : PaF ls z k l K) (ht : ls[k]? = some t) (hz : t.size + 1 ≤ z) (hl : LnF t a v true M) : PaF ls z (k + 1) (l ++ [(a, v)]) (M ++ K) := by
  obtain ⟨h1, h2, h3⟩ := h
  obtain ⟨h4, h5⟩ := hl
  obtain ⟨h6, h7⟩ := h4 rfl
  refine ⟨?_, by rw [List.length_append, h2]; rfl, fun a' v' hm => ?_⟩
  · rw [linesP_step ht, h1, h5, List.map_append]
    rfl
  · rcases List.mem_append.1 hm with hm | hm
    · obtain ⟨h8, h9⟩ := h3 a' v' hm
      exact ⟨h8, fun B w0 W hW => h9 B w0 W (hW.sub (List.sublist_append_right _ _))⟩
    · obtain ⟨rfl, rfl⟩ : a' = a ∧ v' = v := by simpa using hm
      exact ⟨h7.mono hz, fun B w0 W hW => h6 B w0 W (hW.sub (List.sublist_append_left _ _))⟩
theorem headP_bad (ws : List ByteArray) (okb : Bool) (lr : List ByteArray) {s : ByteArray} (h : (!okb || decide (ws.length ≠ 3) || !((ws.getD 0 ⟨#[]⟩).toList == [99, 111, 109, 109, 105, 116]) || (!((ws.getD 2 ⟨#[]⟩).toList == [114, 101, 97, 100, 115]) && !((ws.getD 2 ⟨#[]⟩).toList == [98, 108, 105, 110, 100]))) = true) :
    (if okb = true then (match headP ws, linesP lr with | some (tx, rd), some al => if printC tx rd al = some s then some (tx, rd, al) else none | _, _ => none) else none) = none := by
  cases okb with
  | false => rfl
  | true =>
    have hh : headP ws = none := by
      unfold headP
      split
      · rename_i c tx rd
        rw [if_neg]
        rintro ⟨h1, h2⟩
        simp only [Bool.not_true, Bool.false_or, List.length_cons, List.length_nil, List.getD_cons_zero, List.getD_cons_succ, h1] at h
        rcases h2 with h2 | h2 <;> (rw [h2] at h; simp at h)
      · rfl
    rw [if_pos rfl, hh]
theorem headP_good {x0 x1 x2 : ByteArray} {q1 q2 : Bool} (h0 : (([x0, x1, x2] : List ByteArray).getD 0 ⟨#[]⟩).toList == [99, 111, 109, 109, 105, 116]) (h1 : ((([x0, x1, x2] : List ByteArray).getD 2 ⟨#[]⟩).toList == [114, 101, 97, 100, 115]) = q1) (h2 : ((([x0, x1, x2] : List ByteArray).getD 2 ⟨#[]⟩).toList == [98, 108, 105, 110, 100]) = q2) (hb : (!q1 && !q2) = false) :
    headP [x0, x1, x2] = some (x1, q1) := by
  unfold headP
  simp only
  have h1 : (x2.toList == [114, 101, 97, 100, 115]) = q1 := h1
  have h2 : (x2.toList == [98, 108, 105, 110, 100]) = q2 := h2
  rw [h1, h2, if_pos]
  refine ⟨h0, ?_⟩
  cases q1 <;> cases q2 <;> simp_all
set_option maxRecDepth 100000 in
set_option maxHeartbeats 8000000 in
theorem parse_any (s : ByteArray) (hs : s.size ≤ 13600) (wI : World) (ht : TabAt wI) (hy : SynAt wI) (hr : RngAt wI) (hkp : KeptAt wI) (hmx : MaxAt wI) :
    Calls Tryz.prog 15 #[.string s] wI fun e w' => PaRes s wI e w' := by
  obtain ⟨body, hbody⟩ : ∃ b : ByteArray, ⟨(Lib.trimSuffix s.data.toList [10]).toArray⟩ = b := ⟨_, rfl⟩
  obtain ⟨okb, hokb⟩ : ∃ b, Lib.hasSuffix s.data.toList [10] = b := ⟨_, rfl⟩
  have hbz : body.size ≤ s.size := by
    rw [← hbody]
    have := Lib.trimSuffix_le s.data.toList [10]
    show (Lib.trimSuffix s.data.toList [10]).toArray.size ≤ s.data.size
    simpa using this
  have HCS := Lib.hid (fun (W : World) => show Calls Tryz.prog 28 #[.string s, .string ⟨#[10]⟩] W fun e w' => e = .returned (.tuple #[.string body, .bool okb]) ∧ Ext W w' from by
    have := cutSuf_any s (by omega) W
    rw [hbody, hokb] at this
    exact this)
  obtain ⟨ls, hls⟩ : ∃ l, splitS 10 body = l := ⟨_, rfl⟩
  have hlz := splitS_lenS 10 body
  have hl0 := splitS_pos 10 body
  rw [hls] at hlz hl0
  obtain ⟨h0, lr, rfl⟩ : ∃ h lr, ls = h :: lr := by
    cases ls with
    | nil => simp at hl0
    | cons h lr => exact ⟨h, lr, rfl⟩
  obtain ⟨n, hn⟩ : ∃ n, (h0 :: lr).length = n := ⟨_, rfl⟩
  have HSP := Lib.hid (fun (W : World) (L : List Item) (hW : Hp wI.heap.size wI W L) => show Calls Tryz.prog 29 #[.string body, .string ⟨#[10]⟩] W fun e w' => ∃ g : Nat, e = .returned (.slice (some ⟨g, 0, none⟩) n n) ∧ Hp wI.heap.size wI w' (.blk g (strV (h0 :: lr)) 9 :: L) from by
    have := splitA_any body 10 (by omega) W (hmx.ext hW.ext)
    rw [hls, hn] at this
    exact this.mono fun e w' ⟨g, h1, h2⟩ => ⟨g, h1, hW.join h2⟩)
  rw [lenS] at hlz
  have hll := lenS_length lr
  obtain ⟨ws, hws⟩ : ∃ l, splitS 32 h0 = l := ⟨_, rfl⟩
  obtain ⟨n3, hn3⟩ : ∃ n, ws.length = n := ⟨_, rfl⟩
  have hwz := splitS_lenS 32 h0
  rw [hws] at hwz
  have hwl := lenS_length ws
  have HS2 := Lib.hid (fun (W : World) (L : List Item) (hW : Hp wI.heap.size wI W L) => show Calls Tryz.prog 29 #[.string h0, .string ⟨#[32]⟩] W fun e w' => ∃ g : Nat, e = .returned (.slice (some ⟨g, 0, none⟩) n3 n3) ∧ Hp wI.heap.size wI w' (.blk g (strV ws) 9 :: L) from by
    have := splitA_any h0 32 (by omega) W (hmx.ext hW.ext)
    rw [hws, hn3] at this
    exact this.mono fun e w' ⟨g, h1, h2⟩ => ⟨g, h1, hW.join h2⟩)
  have HLN := Lib.hid (fun (t : ByteArray) (hz : t.size ≤ 13600) (W : World) (hx : Ext wI W) => line_any t hz W (ht.ext hx) (hy.ext hx) (hr.ext hx))
  have HKT := Lib.hid (show ∀ W, Ext wI W → TabAt W ∧ KeptAt W from fun W hx => ⟨ht.ext hx, hkp.ext hx⟩)
  have HPA := Lib.hid (show parseP s = if okb = true then (match headP ws, linesP lr with | some (tx, rd), some al => if printC tx rd al = some s then some (tx, rd, al) else none | _, _ => none) else none by
    unfold parseP
    rw [hokb, hbody, hls]
    simp only
    rw [hws]
    cases okb <;> cases headP ws <;> cases linesP lr <;> rfl)
  clear ht hy hr hkp hmx hbody hokb hls hws
  have hS := Hp.init wI
  have hR := Reads.nil wI
  have hn2 : n = lr.length + 1 := by rw [← hn]; rfl
  have hn1 : 1 ≤ n := by omega
  have hnz : n ≤ 13601 := by omega
  have HN := Lib.hid hn2
  have HN3 := Lib.hid hn3
  have HLZ := Lib.hid hlz
  have hn3z : n3 ≤ 13601 := by omega
  have HWZ := Lib.hid hwz
  clear hn hn2 hn3 hlz hll hwz hwl
  go_enter Tryz.func15, Tryz.ntmps15
  go_upto_region 3 with (first | ((with_reducible first | refine nhLa ?_ | refine nhLs ?_ | refine nhLd ?_ | refine nhCa ?_ | refine nhCs ?_ | refine nhCd ?_ | refine nhPa ?_ | refine nhPs ?_ | refine nhPd ?_ | refine nhKa ?_ | refine nhKs ?_ | refine nhKd ?_); ((try clear hF); clear hS; intro wk hS; (try simp only [List.set_cons_zero, List.set_cons_succ, heap_size, heap_set_size] at hS); ((try clear hF); (first | have hF := And.intro hS.facts (HRD.out _ (hS.sub (by first | simp | ((repeat (first | exact List.nil_sublist _ | exact List.Sublist.refl _ | with_reducible apply List.Sublist.cons₂ | apply List.Sublist.cons)))))) | have hF := And.intro hS.facts (hR.at hS.ext) | have hF := hS.facts); simp only [HFacts, cellFacts, RFacts, cellOnly, and_true, true_and, Nat.zero_add, Nat.reduceAdd] at hF))) | (go_at_call 28; (with_reducible refine (HCS.out _).mono ?_); rintro e wk ⟨rfl, hX⟩; replace hS := hS.step hX; clear hX; ((try clear hF); (first | have hF := And.intro hS.facts (HRD.out _ (hS.sub (by first | simp | ((repeat (first | exact List.nil_sublist _ | exact List.Sublist.refl _ | with_reducible apply List.Sublist.cons₂ | apply List.Sublist.cons)))))) | have hF := And.intro hS.facts (hR.at hS.ext) | have hF := hS.facts); simp only [HFacts, cellFacts, RFacts, cellOnly, and_true, true_and, Nat.zero_add, Nat.reduceAdd] at hF)) | (go_at_call 29; (with_reducible refine Calls.mono (HSP.out _ _ hS) ?_); rintro e wk ⟨g, rfl, hS⟩; ((try clear hF); (first | have hF := And.intro hS.facts (HRD.out _ (hS.sub (by first | simp | ((repeat (first | exact List.nil_sublist _ | exact List.Sublist.refl _ | with_reducible apply List.Sublist.cons₂ | apply List.Sublist.cons)))))) | have hF := And.intro hS.facts (hR.at hS.ext) | have hF := hS.facts); simp only [HFacts, cellFacts, RFacts, cellOnly, and_true, true_and, Nat.zero_add, Nat.reduceAdd] at hF)))
  have hc0 : wk.cell? ⟨g, 0, none⟩ = some (.string h0) := by simp [World.cell?, hS.blkAt 0 rfl, strV]
  clear HCS HSP
  ((try clear hF); (first | have hF := And.intro hS.facts (HRD.out _ (hS.sub (by first | simp | ((repeat (first | exact List.nil_sublist _ | exact List.Sublist.refl _ | with_reducible apply List.Sublist.cons₂ | apply List.Sublist.cons)))))) | have hF := And.intro hS.facts (hR.at hS.ext) | have hF := hS.facts); simp only [HFacts, cellFacts, RFacts, cellOnly, and_true, true_and, Nat.zero_add, Nat.reduceAdd] at hF)
  go_upto_region 4 with (first | ((with_reducible first | refine nhLa ?_ | refine nhLs ?_ | refine nhLd ?_ | refine nhCa ?_ | refine nhCs ?_ | refine nhCd ?_ | refine nhPa ?_ | refine nhPs ?_ | refine nhPd ?_ | refine nhKa ?_ | refine nhKs ?_ | refine nhKd ?_); ((try clear hF); clear hS; intro wk hS; (try simp only [List.set_cons_zero, List.set_cons_succ, heap_size, heap_set_size] at hS); ((try clear hF); (first | have hF := And.intro hS.facts (HRD.out _ (hS.sub (by first | simp | ((repeat (first | exact List.nil_sublist _ | exact List.Sublist.refl _ | with_reducible apply List.Sublist.cons₂ | apply List.Sublist.cons)))))) | have hF := And.intro hS.facts (hR.at hS.ext) | have hF := hS.facts); simp only [HFacts, cellFacts, RFacts, cellOnly, and_true, true_and, Nat.zero_add, Nat.reduceAdd] at hF))) | (go_at_call 29; (with_reducible refine Calls.mono (HS2.out _ _ hS) ?_); rintro e wk ⟨g3, rfl, hS⟩; ((try clear hF); (first | have hF := And.intro hS.facts (HRD.out _ (hS.sub (by first | simp | ((repeat (first | exact List.nil_sublist _ | exact List.Sublist.refl _ | with_reducible apply List.Sublist.cons₂ | apply List.Sublist.cons)))))) | have hF := And.intro hS.facts (hR.at hS.ext) | have hF := hS.facts); simp only [HFacts, cellFacts, RFacts, cellOnly, and_true, true_and, Nat.zero_add, Nat.reduceAdd] at hF)))
  clear HS2 hc0
  obtain ⟨p0, hp0⟩ : ∃ q, ((ws.getD 0 ⟨#[]⟩).toList == [99, 111, 109, 109, 105, 116]) = q := ⟨_, rfl⟩
  obtain ⟨q1, hq1⟩ : ∃ q, ((ws.getD 2 ⟨#[]⟩).toList == [114, 101, 97, 100, 115]) = q := ⟨_, rfl⟩
  obtain ⟨q2, hq2⟩ : ∃ q, ((ws.getD 2 ⟨#[]⟩).toList == [98, 108, 105, 110, 100]) = q := ⟨_, rfl⟩
  obtain ⟨bad, hbad⟩ : ∃ x, (!okb || decide (n3 ≠ 3) || !p0 || (!q1 && !q2)) = x := ⟨_, rfl⟩
  have HB := Lib.hid hbad
  have HP0 := Lib.hid hp0
  have HQ1 := Lib.hid hq1
  have HQ2 := Lib.hid hq2
  clear hbad hp0 hq1 hq2
  go_cut [50] (fun c wx => c = .bool bad ∧ Hp wI.heap.size wI wx [.blk g3 (strV ws) 9, .blk g (strV (h0 :: lr)) 9, .blk wI.heap.size [.string ⟨#[]⟩, .bool false, .slice none 0 0] 35])
  case first =>
    clear HLN HKT HPA HLZ HWZ
    cases okb with
    | false => as_aux_lemma =>
      obtain rfl : true = bad := by have := HB.out; simp at this; exact this.symm
      clear HB HP0 HQ1 HQ2
      ((try clear hF); (first | have hF := And.intro hS.facts (HRD.out _ (hS.sub (by first | simp | ((repeat (first | exact List.nil_sublist _ | exact List.Sublist.refl _ | with_reducible apply List.Sublist.cons₂ | apply List.Sublist.cons)))))) | have hF := And.intro hS.facts (hR.at hS.ext) | have hF := hS.facts); simp only [HFacts, cellFacts, RFacts, cellOnly, and_true, true_and, Nat.zero_add, Nat.reduceAdd] at hF)
      go_wp2_with (first | ((with_reducible first | refine nhLa ?_ | refine nhLs ?_ | refine nhLd ?_ | refine nhCa ?_ | refine nhCs ?_ | refine nhCd ?_ | refine nhPa ?_ | refine nhPs ?_ | refine nhPd ?_ | refine nhKa ?_ | refine nhKs ?_ | refine nhKd ?_); ((try clear hF); clear hS; intro wk hS; (try simp only [List.set_cons_zero, List.set_cons_succ, heap_size, heap_set_size] at hS); ((try clear hF); (first | have hF := And.intro hS.facts (HRD.out _ (hS.sub (by first | simp | ((repeat (first | exact List.nil_sublist _ | exact List.Sublist.refl _ | with_reducible apply List.Sublist.cons₂ | apply List.Sublist.cons)))))) | have hF := And.intro hS.facts (hR.at hS.ext) | have hF := hS.facts); simp only [HFacts, cellFacts, RFacts, cellOnly, and_true, true_and, Nat.zero_add, Nat.reduceAdd] at hF))) | fail)
      go_meet
      case rel => exact ⟨rfl, hS⟩
    | true =>
      by_cases h3 : n3 = 3
      · subst h3
        obtain ⟨x0, x1, x2, rfl⟩ : ∃ x0 x1 x2, ws = [x0, x1, x2] := by
          have := HN3.out
          match ws, this with
          | [x0, x1, x2], _ => exact ⟨x0, x1, x2, rfl⟩
        have hx0 : wk.cell? ⟨g3, 0, none⟩ = some (.string x0) := by simp [World.cell?, hS.blkAt 0 rfl, strV]
        have hx2 : wk.cell? ⟨g3, 2, none⟩ = some (.string x2) := by simp [World.cell?, hS.blkAt 0 rfl, strV]
        have hp0 : (x0.toList == [99, 111, 109, 109, 105, 116]) = p0 := HP0.out
        have hq1 : (x2.toList == [114, 101, 97, 100, 115]) = q1 := HQ1.out
        have hq2 : (x2.toList == [98, 108, 105, 110, 100]) = q2 := HQ2.out
        have hb := HB.out
        clear HB HP0 HQ1 HQ2 HN3 HN
        cases p0 with
        | false => as_aux_lemma =>
          obtain rfl : true = bad := by rw [← hb]; rfl
          clear hb hq1 hq2
          ((try clear hF); (first | have hF := And.intro hS.facts (HRD.out _ (hS.sub (by first | simp | ((repeat (first | exact List.nil_sublist _ | exact List.Sublist.refl _ | with_reducible apply List.Sublist.cons₂ | apply List.Sublist.cons)))))) | have hF := And.intro hS.facts (hR.at hS.ext) | have hF := hS.facts); simp only [HFacts, cellFacts, RFacts, cellOnly, and_true, true_and, Nat.zero_add, Nat.reduceAdd] at hF)
          go_wp2_with (first | ((with_reducible first | refine nhLa ?_ | refine nhLs ?_ | refine nhLd ?_ | refine nhCa ?_ | refine nhCs ?_ | refine nhCd ?_ | refine nhPa ?_ | refine nhPs ?_ | refine nhPd ?_ | refine nhKa ?_ | refine nhKs ?_ | refine nhKd ?_); ((try clear hF); clear hS; intro wk hS; (try simp only [List.set_cons_zero, List.set_cons_succ, heap_size, heap_set_size] at hS); ((try clear hF); (first | have hF := And.intro hS.facts (HRD.out _ (hS.sub (by first | simp | ((repeat (first | exact List.nil_sublist _ | exact List.Sublist.refl _ | with_reducible apply List.Sublist.cons₂ | apply List.Sublist.cons)))))) | have hF := And.intro hS.facts (hR.at hS.ext) | have hF := hS.facts); simp only [HFacts, cellFacts, RFacts, cellOnly, and_true, true_and, Nat.zero_add, Nat.reduceAdd] at hF))) | fail)
          go_meet
          case rel => exact ⟨rfl, hS⟩
        | true =>
          cases q1 with
          | true => as_aux_lemma =>
            obtain rfl : false = bad := by rw [← hb]; rfl
            clear hb hq2
            ((try clear hF); (first | have hF := And.intro hS.facts (HRD.out _ (hS.sub (by first | simp | ((repeat (first | exact List.nil_sublist _ | exact List.Sublist.refl _ | with_reducible apply List.Sublist.cons₂ | apply List.Sublist.cons)))))) | have hF := And.intro hS.facts (hR.at hS.ext) | have hF := hS.facts); simp only [HFacts, cellFacts, RFacts, cellOnly, and_true, true_and, Nat.zero_add, Nat.reduceAdd] at hF)
            go_wp2_with (first | ((with_reducible first | refine nhLa ?_ | refine nhLs ?_ | refine nhLd ?_ | refine nhCa ?_ | refine nhCs ?_ | refine nhCd ?_ | refine nhPa ?_ | refine nhPs ?_ | refine nhPd ?_ | refine nhKa ?_ | refine nhKs ?_ | refine nhKd ?_); ((try clear hF); clear hS; intro wk hS; (try simp only [List.set_cons_zero, List.set_cons_succ, heap_size, heap_set_size] at hS); ((try clear hF); (first | have hF := And.intro hS.facts (HRD.out _ (hS.sub (by first | simp | ((repeat (first | exact List.nil_sublist _ | exact List.Sublist.refl _ | with_reducible apply List.Sublist.cons₂ | apply List.Sublist.cons)))))) | have hF := And.intro hS.facts (hR.at hS.ext) | have hF := hS.facts); simp only [HFacts, cellFacts, RFacts, cellOnly, and_true, true_and, Nat.zero_add, Nat.reduceAdd] at hF))) | fail)
            go_meet
            case rel => exact ⟨rfl, hS⟩
          | false =>
            cases q2 with
            | true => as_aux_lemma =>
              obtain rfl : false = bad := by rw [← hb]; rfl
              clear hb
              ((try clear hF); (first | have hF := And.intro hS.facts (HRD.out _ (hS.sub (by first | simp | ((repeat (first | exact List.nil_sublist _ | exact List.Sublist.refl _ | with_reducible apply List.Sublist.cons₂ | apply List.Sublist.cons)))))) | have hF := And.intro hS.facts (hR.at hS.ext) | have hF := hS.facts); simp only [HFacts, cellFacts, RFacts, cellOnly, and_true, true_and, Nat.zero_add, Nat.reduceAdd] at hF)
              go_wp2_with (first | ((with_reducible first | refine nhLa ?_ | refine nhLs ?_ | refine nhLd ?_ | refine nhCa ?_ | refine nhCs ?_ | refine nhCd ?_ | refine nhPa ?_ | refine nhPs ?_ | refine nhPd ?_ | refine nhKa ?_ | refine nhKs ?_ | refine nhKd ?_); ((try clear hF); clear hS; intro wk hS; (try simp only [List.set_cons_zero, List.set_cons_succ, heap_size, heap_set_size] at hS); ((try clear hF); (first | have hF := And.intro hS.facts (HRD.out _ (hS.sub (by first | simp | ((repeat (first | exact List.nil_sublist _ | exact List.Sublist.refl _ | with_reducible apply List.Sublist.cons₂ | apply List.Sublist.cons)))))) | have hF := And.intro hS.facts (hR.at hS.ext) | have hF := hS.facts); simp only [HFacts, cellFacts, RFacts, cellOnly, and_true, true_and, Nat.zero_add, Nat.reduceAdd] at hF))) | fail)
              go_meet
              case rel => exact ⟨rfl, hS⟩
            | false => as_aux_lemma =>
              obtain rfl : true = bad := by rw [← hb]; rfl
              clear hb
              ((try clear hF); (first | have hF := And.intro hS.facts (HRD.out _ (hS.sub (by first | simp | ((repeat (first | exact List.nil_sublist _ | exact List.Sublist.refl _ | with_reducible apply List.Sublist.cons₂ | apply List.Sublist.cons)))))) | have hF := And.intro hS.facts (hR.at hS.ext) | have hF := hS.facts); simp only [HFacts, cellFacts, RFacts, cellOnly, and_true, true_and, Nat.zero_add, Nat.reduceAdd] at hF)
              go_wp2_with (first | ((with_reducible first | refine nhLa ?_ | refine nhLs ?_ | refine nhLd ?_ | refine nhCa ?_ | refine nhCs ?_ | refine nhCd ?_ | refine nhPa ?_ | refine nhPs ?_ | refine nhPd ?_ | refine nhKa ?_ | refine nhKs ?_ | refine nhKd ?_); ((try clear hF); clear hS; intro wk hS; (try simp only [List.set_cons_zero, List.set_cons_succ, heap_size, heap_set_size] at hS); ((try clear hF); (first | have hF := And.intro hS.facts (HRD.out _ (hS.sub (by first | simp | ((repeat (first | exact List.nil_sublist _ | exact List.Sublist.refl _ | with_reducible apply List.Sublist.cons₂ | apply List.Sublist.cons)))))) | have hF := And.intro hS.facts (hR.at hS.ext) | have hF := hS.facts); simp only [HFacts, cellFacts, RFacts, cellOnly, and_true, true_and, Nat.zero_add, Nat.reduceAdd] at hF))) | fail)
              go_meet
              case rel => exact ⟨rfl, hS⟩
      · as_aux_lemma =>
        have h3' : ((n3 : Int) != 3) = true := by simp; omega
        obtain rfl : true = bad := by have := HB.out; simp [h3] at this; exact this.symm
        clear HB HP0 HQ1 HQ2 HN3 HN h3
        ((try clear hF); (first | have hF := And.intro hS.facts (HRD.out _ (hS.sub (by first | simp | ((repeat (first | exact List.nil_sublist _ | exact List.Sublist.refl _ | with_reducible apply List.Sublist.cons₂ | apply List.Sublist.cons)))))) | have hF := And.intro hS.facts (hR.at hS.ext) | have hF := hS.facts); simp only [HFacts, cellFacts, RFacts, cellOnly, and_true, true_and, Nat.zero_add, Nat.reduceAdd] at hF)
        go_wp2_with (first | ((with_reducible first | refine nhLa ?_ | refine nhLs ?_ | refine nhLd ?_ | refine nhCa ?_ | refine nhCs ?_ | refine nhCd ?_ | refine nhPa ?_ | refine nhPs ?_ | refine nhPd ?_ | refine nhKa ?_ | refine nhKs ?_ | refine nhKd ?_); ((try clear hF); clear hS; intro wk hS; (try simp only [List.set_cons_zero, List.set_cons_succ, heap_size, heap_set_size] at hS); ((try clear hF); (first | have hF := And.intro hS.facts (HRD.out _ (hS.sub (by first | simp | ((repeat (first | exact List.nil_sublist _ | exact List.Sublist.refl _ | with_reducible apply List.Sublist.cons₂ | apply List.Sublist.cons)))))) | have hF := And.intro hS.facts (hR.at hS.ext) | have hF := hS.facts); simp only [HFacts, cellFacts, RFacts, cellOnly, and_true, true_and, Nat.zero_add, Nat.reduceAdd] at hF))) | fail)
        go_meet
        case rel => exact ⟨rfl, hS⟩
  case rest =>
    obtain ⟨rfl, hS⟩ := hcut
    cases bad with
    | true => as_aux_lemma =>
      have HPN := Lib.hid (show parseP s = none by
        rw [HPA.out, headP_bad ws okb lr (by rw [HN3.out, HP0.out, HQ1.out, HQ2.out]; exact HB.out)])
      clear HLN HKT HPA HLZ HWZ HB HP0 HQ1 HQ2 HN3 HN
      ((try clear hF); (first | have hF := And.intro hS.facts (HRD.out _ (hS.sub (by first | simp | ((repeat (first | exact List.nil_sublist _ | exact List.Sublist.refl _ | with_reducible apply List.Sublist.cons₂ | apply List.Sublist.cons)))))) | have hF := And.intro hS.facts (hR.at hS.ext) | have hF := hS.facts); simp only [HFacts, cellFacts, RFacts, cellOnly, and_true, true_and, Nat.zero_add, Nat.reduceAdd] at hF)
      go_wp2_with (first | ((with_reducible first | refine nhLa ?_ | refine nhLs ?_ | refine nhLd ?_ | refine nhCa ?_ | refine nhCs ?_ | refine nhCd ?_ | refine nhPa ?_ | refine nhPs ?_ | refine nhPd ?_ | refine nhKa ?_ | refine nhKs ?_ | refine nhKd ?_); ((try clear hF); clear hS; intro wk hS; (try simp only [List.set_cons_zero, List.set_cons_succ, heap_size, heap_set_size] at hS); ((try clear hF); (first | have hF := And.intro hS.facts (HRD.out _ (hS.sub (by first | simp | ((repeat (first | exact List.nil_sublist _ | exact List.Sublist.refl _ | with_reducible apply List.Sublist.cons₂ | apply List.Sublist.cons)))))) | have hF := And.intro hS.facts (hR.at hS.ext) | have hF := hS.facts); simp only [HFacts, cellFacts, RFacts, cellOnly, and_true, true_and, Nat.zero_add, Nat.reduceAdd] at hF))) | fail)
      refine ⟨rfl, .tuple #[coV ⟨#[]⟩ false none 0 0, .iface 66 (.int .i64 3)], ?_, PaRes.no HPN.out hS.ext⟩
      simp [results, Tryz.results15, go_sem, hF]
    | false =>
      have hb := HB.out
      simp only [Bool.or_eq_false_iff, Bool.not_eq_false'] at hb
      obtain ⟨⟨⟨rfl, hb3⟩, rfl⟩, hbq⟩ := hb
      obtain rfl : n3 = 3 := by simpa using hb3
      obtain ⟨x0, x1, x2, rfl⟩ : ∃ x0 x1 x2, ws = [x0, x1, x2] := by
        have := HN3.out
        match ws, this with
        | [x0, x1, x2], _ => exact ⟨x0, x1, x2, rfl⟩
      have hq1 : (x2.toList == [114, 101, 97, 100, 115]) = q1 := HQ1.out
      have hwz := HWZ.out
      simp only [lenS] at hwz
      have hlz := HLZ.out
      have hx1z : x1.size ≤ 13600 := by omega
      have HHD := Lib.hid (show headP [x0, x1, x2] = some (x1, q1) from headP_good HP0.out HQ1.out HQ2.out hbq)
      change Hp wI.heap.size wI _ [.blk g3 [.string x0, .string x1, .string x2] 9, .blk g (strV (h0 :: lr)) 9, .blk wI.heap.size [.string ⟨#[]⟩, .bool false, .slice none 0 0] 35] at hS
      clear HP0 HQ1 HQ2 HB hb3 hbq HN3 hwz HWZ
      ((try clear hF); (first | have hF := And.intro hS.facts (HRD.out _ (hS.sub (by first | simp | ((repeat (first | exact List.nil_sublist _ | exact List.Sublist.refl _ | with_reducible apply List.Sublist.cons₂ | apply List.Sublist.cons)))))) | have hF := And.intro hS.facts (hR.at hS.ext) | have hF := hS.facts); simp only [HFacts, cellFacts, RFacts, cellOnly, and_true, true_and, Nat.zero_add, Nat.reduceAdd] at hF)
      go_wp2_with (first | ((with_reducible first | refine nhLa ?_ | refine nhLs ?_ | refine nhLd ?_ | refine nhCa ?_ | refine nhCs ?_ | refine nhCd ?_ | refine nhPa ?_ | refine nhPs ?_ | refine nhPd ?_ | refine nhKa ?_ | refine nhKs ?_ | refine nhKd ?_); ((try clear hF); clear hS; intro wk hS; (try simp only [List.set_cons_zero, List.set_cons_succ, heap_size, heap_set_size] at hS); ((try clear hF); (first | have hF := And.intro hS.facts (HRD.out _ (hS.sub (by first | simp | ((repeat (first | exact List.nil_sublist _ | exact List.Sublist.refl _ | with_reducible apply List.Sublist.cons₂ | apply List.Sublist.cons)))))) | have hF := And.intro hS.facts (hR.at hS.ext) | have hF := hS.facts); simp only [HFacts, cellFacts, RFacts, cellOnly, and_true, true_and, Nat.zero_add, Nat.reduceAdd] at hF))) | fail)
      ((with_reducible refine wp_region_braidz_hp [.q, .q, .q, .q, .q, .q, .q, .q, .t, .t] 9 [.blk g3 [.string x0, .string x1, .string x2] 9] (by kernel_rfl) rfl (by kernel_rfl) hS (fun w h => h.sub (by simp)) ?_); clear hS; (repeat ((with_reducible refine Walk.here ?_); (first | ((with_reducible apply Walk.skipQ); (first | rfl | exact wanted_false rfl rfl rfl (by assumption)); (try simp only [Mark.isQ, if_true, Bool.false_eq_true, if_false, Act.put, List.setIfInBounds_toArray, List.set_cons_zero, List.set_cons_succ])) | ((with_reducible apply Walk.val); (first | rfl | exact wanted_true rfl rfl rfl (by assumption)); (rintro w hS; ((try clear hF); (first | have hF := And.intro hS.facts (HRD.out _ (hS.sub (by first | simp | ((repeat (first | exact List.nil_sublist _ | exact List.Sublist.refl _ | with_reducible apply List.Sublist.cons₂ | apply List.Sublist.cons)))))) | have hF := And.intro hS.facts (hR.at hS.ext) | have hF := hS.facts); simp only [HFacts, cellFacts, RFacts, cellOnly, and_true, true_and, Nat.zero_add, Nat.reduceAdd] at hF); go_simp; first | with_reducible rfl | (rw [if_neg (by first | omega | (simp only [ByteArray.size_append]; omega) | (simp [ByteArray.size_append]; omega))]; try with_reducible rfl)); (try simp only [Mark.isQ, if_true, Bool.false_eq_true, if_false, Act.put, List.setIfInBounds_toArray, List.set_cons_zero, List.set_cons_succ])) | ((with_reducible apply Walk.tail); (try simp only [Mark.isQ, if_true, Bool.false_eq_true, if_false, Act.put, List.setIfInBounds_toArray, List.set_cons_zero, List.set_cons_succ])) | ((with_reducible apply Walk.guardT); rfl; rfl; rfl; (all_goals intro hg)) | ((with_reducible apply Walk.guardF); rfl; rfl; rfl; (all_goals intro hg))))); refine Walk.done ?_; show BraidZ _ _ _ _ 9 2 [8, 9] _ _)
      (refine BraidZ.next1 (i := 8) (by kernel_rfl) (by kernel_rfl) rfl ?_; (try simp only [List.getElem_toArray, List.getElem_cons_succ, List.getElem_cons_zero]))
      (refine ZStep.alloc (cs := [.string ⟨#[]⟩, .bool false, .slice none 0 0]) (t := 35) (f := fun g => .pointer (some ⟨g, 0, none⟩)) (by (first | rfl | exact wanted_true rfl rfl rfl (by assumption))) (fun w h => h.sub (by simp)) (fun w hS => by ((try clear hF); (first | have hF := And.intro hS.facts (HRD.out _ (hS.sub (by first | simp | ((repeat (first | exact List.nil_sublist _ | exact List.Sublist.refl _ | with_reducible apply List.Sublist.cons₂ | apply List.Sublist.cons)))))) | have hF := And.intro hS.facts (hR.at hS.ext) | have hF := hS.facts); simp only [HFacts, cellFacts, RFacts, cellOnly, and_true, true_and, Nat.zero_add, Nat.reduceAdd] at hF); go_simp) (fun gc => ?_); try simp only [Act.put, List.setIfInBounds_toArray, List.set_cons_zero, List.set_cons_succ])
      (refine BraidZ.next1 (i := 9) (by kernel_rfl) (by kernel_rfl) rfl ?_; (try simp only [List.getElem_toArray, List.getElem_cons_succ, List.getElem_cons_zero]))
      (show ZStep _ _ _ true _ _ _ _; refine ZStep.storeRow (i := 0) (g := gc) (us := [.string x1, .bool q1, .slice none 0 0]) (.inl rfl) (by (first | rfl | exact wanted_true rfl rfl rfl (by assumption))) rfl rfl rfl rfl (by kernel_rfl) rfl (by simp [Value.oneCell']) ?_; try simp only [Act.put, List.setIfInBounds_toArray, List.set_cons_zero, List.set_cons_succ])
      (refine BraidZ.last (by kernel_rfl) ?_; (try clear hF); intro wk hS; ((try clear hF); (first | have hF := And.intro hS.facts (HRD.out _ (hS.sub (by first | simp | ((repeat (first | exact List.nil_sublist _ | exact List.Sublist.refl _ | with_reducible apply List.Sublist.cons₂ | apply List.Sublist.cons)))))) | have hF := And.intro hS.facts (hR.at hS.ext) | have hF := hS.facts); simp only [HFacts, cellFacts, RFacts, cellOnly, and_true, true_and, Nat.zero_add, Nat.reduceAdd] at hF))
      clear hq1
      obtain ⟨m, hm⟩ : ∃ m, m = lr.length := ⟨_, rfl⟩
      have hnm : n = m + 1 := by rw [hm]; exact HN.out
      have HM := Lib.hid hm
      clear hm
      go_upto_region 7 with (first | ((with_reducible first | refine nhLa ?_ | refine nhLs ?_ | refine nhLd ?_ | refine nhCa ?_ | refine nhCs ?_ | refine nhCd ?_ | refine nhPa ?_ | refine nhPs ?_ | refine nhPd ?_ | refine nhKa ?_ | refine nhKs ?_ | refine nhKd ?_); ((try clear hF); clear hS; intro wk hS; (try simp only [List.set_cons_zero, List.set_cons_succ, heap_size, heap_set_size] at hS); ((try clear hF); (first | have hF := And.intro hS.facts (HRD.out _ (hS.sub (by first | simp | ((repeat (first | exact List.nil_sublist _ | exact List.Sublist.refl _ | with_reducible apply List.Sublist.cons₂ | apply List.Sublist.cons)))))) | have hF := And.intro hS.facts (hR.at hS.ext) | have hF := hS.facts); simp only [HFacts, cellFacts, RFacts, cellOnly, and_true, true_and, Nat.zero_add, Nat.reduceAdd] at hF))) | fail)
      go_cut [62, 63, 64] (fun v u u0 wx => ∃ (A1 : Option Addr) (c1 : Nat), v = .slice A1 m c1 ∧ u = .int .i64 m ∧ u0 = .int .i64 0 ∧ Hid (1 ≤ m → A1 = some ⟨g, 1, none⟩) ∧ m ≤ c1 ∧ Hp wI.heap.size wI wx [.blk gc [.string x1, .bool q1, .slice none 0 0] 35, .blk g (strV (h0 :: lr)) 9, .blk wI.heap.size [.string ⟨#[]⟩, .bool false, .slice none 0 0] 35])
      case first =>
        by_cases h1 : n = 1
        · obtain rfl : m = 0 := by omega
          subst hnm
          clear HLN HKT HPA HLZ HHD HM HN
          ((try clear hF); (first | have hF := And.intro hS.facts (HRD.out _ (hS.sub (by first | simp | ((repeat (first | exact List.nil_sublist _ | exact List.Sublist.refl _ | with_reducible apply List.Sublist.cons₂ | apply List.Sublist.cons)))))) | have hF := And.intro hS.facts (hR.at hS.ext) | have hF := hS.facts); simp only [HFacts, cellFacts, RFacts, cellOnly, and_true, true_and, Nat.zero_add, Nat.reduceAdd] at hF)
          go_wp2_with (first | ((with_reducible first | refine nhLa ?_ | refine nhLs ?_ | refine nhLd ?_ | refine nhCa ?_ | refine nhCs ?_ | refine nhCd ?_ | refine nhPa ?_ | refine nhPs ?_ | refine nhPd ?_ | refine nhKa ?_ | refine nhKs ?_ | refine nhKd ?_); ((try clear hF); clear hS; intro wk hS; (try simp only [List.set_cons_zero, List.set_cons_succ, heap_size, heap_set_size] at hS); ((try clear hF); (first | have hF := And.intro hS.facts (HRD.out _ (hS.sub (by first | simp | ((repeat (first | exact List.nil_sublist _ | exact List.Sublist.refl _ | with_reducible apply List.Sublist.cons₂ | apply List.Sublist.cons)))))) | have hF := And.intro hS.facts (hR.at hS.ext) | have hF := hS.facts); simp only [HFacts, cellFacts, RFacts, cellOnly, and_true, true_and, Nat.zero_add, Nat.reduceAdd] at hF))) | fail)
          go_meet
          case rel => exact ⟨_, _, rfl, rfl, rfl, Lib.hid (fun h => by omega), Nat.zero_le _, hS.drop 1⟩
        · clear HLN HKT HPA HLZ HHD HM HN
          ((try clear hF); (first | have hF := And.intro hS.facts (HRD.out _ (hS.sub (by first | simp | ((repeat (first | exact List.nil_sublist _ | exact List.Sublist.refl _ | with_reducible apply List.Sublist.cons₂ | apply List.Sublist.cons)))))) | have hF := And.intro hS.facts (hR.at hS.ext) | have hF := hS.facts); simp only [HFacts, cellFacts, RFacts, cellOnly, and_true, true_and, Nat.zero_add, Nat.reduceAdd] at hF)
          go_wp2_with (first | ((with_reducible first | refine nhLa ?_ | refine nhLs ?_ | refine nhLd ?_ | refine nhCa ?_ | refine nhCs ?_ | refine nhCd ?_ | refine nhPa ?_ | refine nhPs ?_ | refine nhPd ?_ | refine nhKa ?_ | refine nhKs ?_ | refine nhKd ?_); ((try clear hF); clear hS; intro wk hS; (try simp only [List.set_cons_zero, List.set_cons_succ, heap_size, heap_set_size] at hS); ((try clear hF); (first | have hF := And.intro hS.facts (HRD.out _ (hS.sub (by first | simp | ((repeat (first | exact List.nil_sublist _ | exact List.Sublist.refl _ | with_reducible apply List.Sublist.cons₂ | apply List.Sublist.cons)))))) | have hF := And.intro hS.facts (hR.at hS.ext) | have hF := hS.facts); simp only [HFacts, cellFacts, RFacts, cellOnly, and_true, true_and, Nat.zero_add, Nat.reduceAdd] at hF))) | fail)
          go_meet
          case rel =>
            refine ⟨some ⟨g, 1, none⟩, m, ?_, ?_, rfl, Lib.hid (fun _ => rfl), Nat.le_refl _, hS.drop 1⟩ <;> first | rfl | (congr 1; omega) | (simp; omega)
      case rest =>
        obtain ⟨A1, c1, rfl, rfl, rfl, HA1, hmc, hS⟩ := hcut
        have HLI := Lib.hid (fun (t : ByteArray) (hz : t.size ≤ 13600) (W : World) (X K : List Item) (hW : Hp wI.heap.size wI W (X ++ K)) => show Calls Tryz.prog 30 #[.string t] W fun e w' => ∃ (a : AN) (v : AV) (b : Bool) (M : List Item), e = .returned (.tuple #[aV a v, .bool b]) ∧ Hp wI.heap.size wI w' (X ++ (M ++ K)) ∧ LnF t a v b M from
          (HLN.out t hz W hW.ext).mono fun e w' ⟨a, v, b, M, h1, h2, h3⟩ => ⟨a, v, b, M, h1, (hW.join h2).perm (by
            rw [← List.append_assoc, ← List.append_assoc]
            exact List.Perm.append_right _ List.perm_append_comm), h3⟩)
        clear HLN
        replace hS := hS.nilRow 63 6
        have hgl : ∀ (k : Nat) (t : ByteArray) (W : World) (L : List Item) (i : Nat), lr[k]? = some t → Hp wI.heap.size wI W L → L[i]? = some (.blk g (strV (h0 :: lr)) 9) → W.cell? ⟨g, 1 + k, none⟩ = some (.string t) := fun k t W L i ht h hi => by
          simp [World.cell?, h.blkAt i hi, strV, Nat.add_comm 1 k, ht]
        have HGL := Lib.hid hgl
        clear hgl
        have hmz : m ≤ 13601 := by omega
        clear hnm
        have hlz := HLZ.out
        have HTZ := Lib.hid (fun (t : ByteArray) (ht : t ∈ lr) => show t.size + 1 ≤ s.size + 1 by have := lenS_le ht; omega)
        clear hlz HLZ
        ((try clear hF); (first | have hF := And.intro hS.facts (HRD.out _ (hS.sub (by first | simp | ((repeat (first | exact List.nil_sublist _ | exact List.Sublist.refl _ | with_reducible apply List.Sublist.cons₂ | apply List.Sublist.cons)))))) | have hF := And.intro hS.facts (hR.at hS.ext) | have hF := hS.facts); simp only [HFacts, cellFacts, RFacts, cellOnly, and_true, true_and, Nat.zero_add, Nat.reduceAdd] at hF)
        go_wp2_with (first | ((with_reducible first | refine nhLa ?_ | refine nhLs ?_ | refine nhLd ?_ | refine nhCa ?_ | refine nhCs ?_ | refine nhCd ?_ | refine nhPa ?_ | refine nhPs ?_ | refine nhPd ?_ | refine nhKa ?_ | refine nhKs ?_ | refine nhKd ?_); ((try clear hF); clear hS; intro wk hS; (try simp only [List.set_cons_zero, List.set_cons_succ, heap_size, heap_set_size] at hS); ((try clear hF); (first | have hF := And.intro hS.facts (HRD.out _ (hS.sub (by first | simp | ((repeat (first | exact List.nil_sublist _ | exact List.Sublist.refl _ | with_reducible apply List.Sublist.cons₂ | apply List.Sublist.cons)))))) | have hF := And.intro hS.facts (hR.at hS.ext) | have hF := hS.facts); simp only [HFacts, cellFacts, RFacts, cellOnly, and_true, true_and, Nat.zero_add, Nat.reduceAdd] at hF))) | fail)
        go_loopw [64] (fun i wr => ∃ (k : Nat) (Ar : Option Addr) (cr : Nat) (l : List (AN × AV)) (K : List Item), i = .int .i64 k ∧ k ≤ m ∧ Hid (PaF lr (s.size + 1) k l K) ∧
          Hp wI.heap.size wI wr (.row 63 6 Ar k cr (cellsA l) :: .blk gc [.string x1, .bool q1, .slice Ar k cr] 35 :: .blk g (strV (h0 :: lr)) 9 :: .blk wI.heap.size [.string ⟨#[]⟩, .bool false, .slice none 0 0] 35 :: K)) (fun i _ => m - (intOf i).toNat)
        case atStart => exact ⟨0, none, 0, [], [], rfl, Nat.zero_le _, Lib.hid ⟨rfl, rfl, fun a v h => by cases h⟩, hS⟩
        case round =>
          clear hS hF
          obtain ⟨k, Ar, cr, l, K, rfl, hk, HPF, hS⟩ := hrel
          by_cases hlt : k < m
          · obtain ⟨t, ht⟩ : ∃ t, lr[k]? = some t := ⟨lr[k]'(by rw [← HM.out]; exact hlt), List.getElem?_eq_getElem _⟩
            have hct := HGL.out k t _ _ 2 ht hS rfl
            have HTT := Lib.hid ht
            have htz := HTZ.out t (List.mem_of_getElem? ht)
            have HL1 := Lib.hid (fun W X K hW => HLI.out t (by omega) W X K hW)
            obtain rfl : A1 = some ⟨g, 1, none⟩ := HA1.out (by omega)
            clear ht HLI HA1
            ((try clear hF); (first | have hF := And.intro hS.facts (HRD.out _ (hS.sub (by first | simp | ((repeat (first | exact List.nil_sublist _ | exact List.Sublist.refl _ | with_reducible apply List.Sublist.cons₂ | apply List.Sublist.cons)))))) | have hF := And.intro hS.facts (hR.at hS.ext) | have hF := hS.facts); simp only [HFacts, cellFacts, RFacts, cellOnly, and_true, true_and, Nat.zero_add, Nat.reduceAdd] at hF)
            go_upto_region 11 with (first | ((with_reducible first | refine nhLa ?_ | refine nhLs ?_ | refine nhLd ?_ | refine nhCa ?_ | refine nhCs ?_ | refine nhCd ?_ | refine nhPa ?_ | refine nhPs ?_ | refine nhPd ?_ | refine nhKa ?_ | refine nhKs ?_ | refine nhKd ?_); ((try clear hF); clear hS; intro wk hS; (try simp only [List.set_cons_zero, List.set_cons_succ, heap_size, heap_set_size] at hS); ((try clear hF); (first | have hF := And.intro hS.facts (HRD.out _ (hS.sub (by first | simp | ((repeat (first | exact List.nil_sublist _ | exact List.Sublist.refl _ | with_reducible apply List.Sublist.cons₂ | apply List.Sublist.cons)))))) | have hF := And.intro hS.facts (hR.at hS.ext) | have hF := hS.facts); simp only [HFacts, cellFacts, RFacts, cellOnly, and_true, true_and, Nat.zero_add, Nat.reduceAdd] at hF))) | (go_at_call 30; (have hS3 : Hp _ _ _ ([_, _, _, _] ++ K) := hS); (with_reducible refine Calls.mono (HL1.out _ _ _ hS3) ?_); clear hS hS3; rintro e wk ⟨a, v, b, M, rfl, hS, hln⟩; simp only [List.cons_append, List.nil_append] at hS; ((try clear hF); (first | have hF := And.intro hS.facts (HRD.out _ (hS.sub (by first | simp | ((repeat (first | exact List.nil_sublist _ | exact List.Sublist.refl _ | with_reducible apply List.Sublist.cons₂ | apply List.Sublist.cons)))))) | have hF := And.intro hS.facts (hR.at hS.ext) | have hF := hS.facts); simp only [HFacts, cellFacts, RFacts, cellOnly, and_true, true_and, Nat.zero_add, Nat.reduceAdd] at hF)))
            clear hct HL1
            have HLF := Lib.hid hln
            clear hln
            cases b with
            | false => as_aux_lemma =>
              have HPN := Lib.hid (show parseP s = none by
                rw [HPA.out, HHD.out, linesP_none HTT.out HLF.out.2]
                rfl)
              clear HKT HPA HHD HM HN HGL HTZ HPF HTT HLF
              ((try clear hF); (first | have hF := And.intro hS.facts (HRD.out _ (hS.sub (by first | simp | ((repeat (first | exact List.nil_sublist _ | exact List.Sublist.refl _ | with_reducible apply List.Sublist.cons₂ | apply List.Sublist.cons)))))) | have hF := And.intro hS.facts (hR.at hS.ext) | have hF := hS.facts); simp only [HFacts, cellFacts, RFacts, cellOnly, and_true, true_and, Nat.zero_add, Nat.reduceAdd] at hF)
              go_wp2_with (first | ((with_reducible first | refine nhLa ?_ | refine nhLs ?_ | refine nhLd ?_ | refine nhCa ?_ | refine nhCs ?_ | refine nhCd ?_ | refine nhPa ?_ | refine nhPs ?_ | refine nhPd ?_ | refine nhKa ?_ | refine nhKs ?_ | refine nhKd ?_); ((try clear hF); clear hS; intro wk hS; (try simp only [List.set_cons_zero, List.set_cons_succ, heap_size, heap_set_size] at hS); ((try clear hF); (first | have hF := And.intro hS.facts (HRD.out _ (hS.sub (by first | simp | ((repeat (first | exact List.nil_sublist _ | exact List.Sublist.refl _ | with_reducible apply List.Sublist.cons₂ | apply List.Sublist.cons)))))) | have hF := And.intro hS.facts (hR.at hS.ext) | have hF := hS.facts); simp only [HFacts, cellFacts, RFacts, cellOnly, and_true, true_and, Nat.zero_add, Nat.reduceAdd] at hF))) | fail)
              refine ⟨rfl, .tuple #[coV ⟨#[]⟩ false none 0 0, .iface 66 (.int .i64 3)], ?_, PaRes.no HPN.out hS.ext⟩
              simp [results, Tryz.results15, go_sem, hF]
            | true =>
              have HP2 := Lib.hid (Lib.hid (HPF.out.step HTT.out htz HLF.out))
              clear HKT HPA HHD HM HN HGL HTZ HPF HTT HLF
              ((try clear hF); (first | have hF := And.intro hS.facts (HRD.out _ (hS.sub (by first | simp | ((repeat (first | exact List.nil_sublist _ | exact List.Sublist.refl _ | with_reducible apply List.Sublist.cons₂ | apply List.Sublist.cons)))))) | have hF := And.intro hS.facts (hR.at hS.ext) | have hF := hS.facts); simp only [HFacts, cellFacts, RFacts, cellOnly, and_true, true_and, Nat.zero_add, Nat.reduceAdd] at hF)
              go_wp2_with (first | ((with_reducible first | refine nhLa ?_ | refine nhLs ?_ | refine nhLd ?_ | refine nhCa ?_ | refine nhCs ?_ | refine nhCd ?_ | refine nhPa ?_ | refine nhPs ?_ | refine nhPd ?_ | refine nhKa ?_ | refine nhKs ?_ | refine nhKd ?_); ((try clear hF); clear hS; intro wk hS; (try simp only [List.set_cons_zero, List.set_cons_succ, heap_size, heap_set_size] at hS); ((try clear hF); (first | have hF := And.intro hS.facts (HRD.out _ (hS.sub (by first | simp | ((repeat (first | exact List.nil_sublist _ | exact List.Sublist.refl _ | with_reducible apply List.Sublist.cons₂ | apply List.Sublist.cons)))))) | have hF := And.intro hS.facts (hR.at hS.ext) | have hF := hS.facts); simp only [HFacts, cellFacts, RFacts, cellOnly, and_true, true_and, Nat.zero_add, Nat.reduceAdd] at hF))) | (at_builtin; refine wpList_push_hp Tryz.elem_acts rfl (.tmp 78) (.tmp 80) rfl (hS.second 1 rfl) rfl rfl rfl (by simp [Value.oneCell']) (by omega) (by omega) ?_; clear hS; intro Ak capk wk hS; (try simp only [List.eraseIdx_cons_zero, List.eraseIdx_cons_succ, List.set_cons_zero, List.set_cons_succ] at hS); ((try clear hF); (first | have hF := And.intro hS.facts (HRD.out _ (hS.sub (by first | simp | ((repeat (first | exact List.nil_sublist _ | exact List.Sublist.refl _ | with_reducible apply List.Sublist.cons₂ | apply List.Sublist.cons)))))) | have hF := And.intro hS.facts (hR.at hS.ext) | have hF := hS.facts); simp only [HFacts, cellFacts, RFacts, cellOnly, and_true, true_and, Nat.zero_add, Nat.reduceAdd] at hF)))
              go_roundw
              case rel => exact ⟨k + 1, Ak, capk, l ++ [(a, v)], M ++ K, by go_num, by omega, HP2.out, by
                rw [cellsA_append, show cellsA [(a, v)] = aC a v from List.append_nil _]
                exact (((((hS.drop 1).front 3 rfl).front 3 rfl).front 3 rfl).front 3 rfl)⟩
              case measure => simp [intOf]; omega
          · obtain rfl : k = m := by omega
            have hpf := HPF.out
            have hll : l.length = k := hpf.2.1
            obtain ⟨D, hD⟩ : ∃ D, printC x1 q1 (l.map (·.1)) = D := ⟨_, rfl⟩
            have HPD := Lib.hid (show parseP s = if D = some s then some (x1, q1, l.map (·.1)) else none by
              have h1 := hpf.1
              rw [HM.out, List.take_length] at h1
              rw [HPA.out, HHD.out, h1, ← hD]
              rfl)
            have HPR := Lib.hid (fun (W : World) (hW : Hp wI.heap.size wI W (.row 63 6 Ar k cr (cellsA l) :: .blk gc [.string x1, .bool q1, .slice Ar k cr] 35 :: .blk g (strV (h0 :: lr)) 9 :: .blk wI.heap.size [.string ⟨#[]⟩, .bool false, .slice none 0 0] 35 :: K)) => show Calls Tryz.prog 16 #[.agg #[.string x1, .bool q1, .slice Ar k cr]] W fun e w' => PrRes D e ∧ Ext W w' from by
              have := lprint_any x1 q1 l Ar k cr W hll (by omega) (by omega) (hW.ra 0 rfl) (fun a v hm => ⟨(hpf.2.2 a v hm).1.pr (by omega), (hpf.2.2 a v hm).2 _ _ W (hW.sub (by
                repeat (first | exact List.Sublist.refl _ | apply List.Sublist.cons)))⟩) (HKT.out W hW.ext).1 (HKT.out W hW.ext).2
              rw [hD] at this
              exact this)
            have HCM := Lib.hid (fun (B : Nat) (w0 W : World) (hW : Hp B w0 W (.row 63 6 Ar k cr (cellsA l) :: K)) => show CmAt W ⟨x1, q1, l, Ar, l.length, cr⟩ from
              ⟨rfl, hW.ra 0 rfl, fun a v hm => by
                obtain ⟨h1, h2⟩ := hpf.2.2 a v hm
                obtain ⟨h3, h4⟩ := h2 _ _ W hW.tail
                exact ⟨h1.q, h1.qz, h3, h1.r, h1.r3, h4⟩⟩)
            have HLO := Lib.hid (fun a v (hm : (a, v) ∈ l) => (hpf.2.2 a v hm).1)
            have HLL := Lib.hid hll
            clear HKT HPA HHD HM HN HGL HTZ HPF HLI HA1 hpf hll hD
            cases D with
            | none => as_aux_lemma =>
              have HPN := Lib.hid (show parseP s = none by rw [HPD.out]; rfl)
              clear HPD HCM HLO HLL
              ((try clear hF); (first | have hF := And.intro hS.facts (HRD.out _ (hS.sub (by first | simp | ((repeat (first | exact List.nil_sublist _ | exact List.Sublist.refl _ | with_reducible apply List.Sublist.cons₂ | apply List.Sublist.cons)))))) | have hF := And.intro hS.facts (hR.at hS.ext) | have hF := hS.facts); simp only [HFacts, cellFacts, RFacts, cellOnly, and_true, true_and, Nat.zero_add, Nat.reduceAdd] at hF)
              go_wp2_with (first | ((with_reducible first | refine nhLa ?_ | refine nhLs ?_ | refine nhLd ?_ | refine nhCa ?_ | refine nhCs ?_ | refine nhCd ?_ | refine nhPa ?_ | refine nhPs ?_ | refine nhPd ?_ | refine nhKa ?_ | refine nhKs ?_ | refine nhKd ?_); ((try clear hF); clear hS; intro wk hS; (try simp only [List.set_cons_zero, List.set_cons_succ, heap_size, heap_set_size] at hS); ((try clear hF); (first | have hF := And.intro hS.facts (HRD.out _ (hS.sub (by first | simp | ((repeat (first | exact List.nil_sublist _ | exact List.Sublist.refl _ | with_reducible apply List.Sublist.cons₂ | apply List.Sublist.cons)))))) | have hF := And.intro hS.facts (hR.at hS.ext) | have hF := hS.facts); simp only [HFacts, cellFacts, RFacts, cellOnly, and_true, true_and, Nat.zero_add, Nat.reduceAdd] at hF))) | (go_at_call 16; (with_reducible refine Calls.mono (HPR.out _ hS) ?_); rintro e wk ⟨rfl, hX⟩; replace hS := hS.step hX; clear hX HPR; ((try clear hF); (first | have hF := And.intro hS.facts (HRD.out _ (hS.sub (by first | simp | ((repeat (first | exact List.nil_sublist _ | exact List.Sublist.refl _ | with_reducible apply List.Sublist.cons₂ | apply List.Sublist.cons)))))) | have hF := And.intro hS.facts (hR.at hS.ext) | have hF := hS.facts); simp only [HFacts, cellFacts, RFacts, cellOnly, and_true, true_and, Nat.zero_add, Nat.reduceAdd] at hF)))
              refine ⟨rfl, .tuple #[coV ⟨#[]⟩ false none 0 0, .iface 66 (.int .i64 3)], ?_, PaRes.no HPN.out hS.ext⟩
              simp [results, Tryz.results15, go_sem, hF]
            | some t =>
              obtain ⟨qt, hqt⟩ : ∃ q, (t.toList == s.toList) = q := ⟨_, rfl⟩
              have HQT := Lib.hid hqt
              cases qt with
              | false => as_aux_lemma =>
                have HPN := Lib.hid (show parseP s = none by
                  rw [HPD.out, if_neg]
                  intro e
                  obtain rfl := Option.some.inj e
                  have := HQT.out
                  simp at this)
                clear HPD HCM HLO HLL HQT
                ((try clear hF); (first | have hF := And.intro hS.facts (HRD.out _ (hS.sub (by first | simp | ((repeat (first | exact List.nil_sublist _ | exact List.Sublist.refl _ | with_reducible apply List.Sublist.cons₂ | apply List.Sublist.cons)))))) | have hF := And.intro hS.facts (hR.at hS.ext) | have hF := hS.facts); simp only [HFacts, cellFacts, RFacts, cellOnly, and_true, true_and, Nat.zero_add, Nat.reduceAdd] at hF)
                go_wp2_with (first | ((with_reducible first | refine nhLa ?_ | refine nhLs ?_ | refine nhLd ?_ | refine nhCa ?_ | refine nhCs ?_ | refine nhCd ?_ | refine nhPa ?_ | refine nhPs ?_ | refine nhPd ?_ | refine nhKa ?_ | refine nhKs ?_ | refine nhKd ?_); ((try clear hF); clear hS; intro wk hS; (try simp only [List.set_cons_zero, List.set_cons_succ, heap_size, heap_set_size] at hS); ((try clear hF); (first | have hF := And.intro hS.facts (HRD.out _ (hS.sub (by first | simp | ((repeat (first | exact List.nil_sublist _ | exact List.Sublist.refl _ | with_reducible apply List.Sublist.cons₂ | apply List.Sublist.cons)))))) | have hF := And.intro hS.facts (hR.at hS.ext) | have hF := hS.facts); simp only [HFacts, cellFacts, RFacts, cellOnly, and_true, true_and, Nat.zero_add, Nat.reduceAdd] at hF))) | (go_at_call 16; (with_reducible refine Calls.mono (HPR.out _ hS) ?_); rintro e wk ⟨rfl, hX⟩; replace hS := hS.step hX; clear hX HPR; ((try clear hF); (first | have hF := And.intro hS.facts (HRD.out _ (hS.sub (by first | simp | ((repeat (first | exact List.nil_sublist _ | exact List.Sublist.refl _ | with_reducible apply List.Sublist.cons₂ | apply List.Sublist.cons)))))) | have hF := And.intro hS.facts (hR.at hS.ext) | have hF := hS.facts); simp only [HFacts, cellFacts, RFacts, cellOnly, and_true, true_and, Nat.zero_add, Nat.reduceAdd] at hF)))
                refine ⟨rfl, .tuple #[coV ⟨#[]⟩ false none 0 0, .iface 66 (.int .i64 3)], ?_, PaRes.no HPN.out hS.ext⟩
                simp [results, Tryz.results15, go_sem, hF]
              | true => as_aux_lemma =>
                have HPS := Lib.hid (show parseP s = some (x1, q1, l.map (·.1)) by
                  obtain rfl := ba_beq.1 HQT.out
                  rw [HPD.out, if_pos rfl])
                clear HPD HQT
                ((try clear hF); (first | have hF := And.intro hS.facts (HRD.out _ (hS.sub (by first | simp | ((repeat (first | exact List.nil_sublist _ | exact List.Sublist.refl _ | with_reducible apply List.Sublist.cons₂ | apply List.Sublist.cons)))))) | have hF := And.intro hS.facts (hR.at hS.ext) | have hF := hS.facts); simp only [HFacts, cellFacts, RFacts, cellOnly, and_true, true_and, Nat.zero_add, Nat.reduceAdd] at hF)
                go_wp2_with (first | ((with_reducible first | refine nhLa ?_ | refine nhLs ?_ | refine nhLd ?_ | refine nhCa ?_ | refine nhCs ?_ | refine nhCd ?_ | refine nhPa ?_ | refine nhPs ?_ | refine nhPd ?_ | refine nhKa ?_ | refine nhKs ?_ | refine nhKd ?_); ((try clear hF); clear hS; intro wk hS; (try simp only [List.set_cons_zero, List.set_cons_succ, heap_size, heap_set_size] at hS); ((try clear hF); (first | have hF := And.intro hS.facts (HRD.out _ (hS.sub (by first | simp | ((repeat (first | exact List.nil_sublist _ | exact List.Sublist.refl _ | with_reducible apply List.Sublist.cons₂ | apply List.Sublist.cons)))))) | have hF := And.intro hS.facts (hR.at hS.ext) | have hF := hS.facts); simp only [HFacts, cellFacts, RFacts, cellOnly, and_true, true_and, Nat.zero_add, Nat.reduceAdd] at hF))) | (go_at_call 16; (with_reducible refine Calls.mono (HPR.out _ hS) ?_); rintro e wk ⟨rfl, hX⟩; replace hS := hS.step hX; clear hX HPR; ((try clear hF); (first | have hF := And.intro hS.facts (HRD.out _ (hS.sub (by first | simp | ((repeat (first | exact List.nil_sublist _ | exact List.Sublist.refl _ | with_reducible apply List.Sublist.cons₂ | apply List.Sublist.cons)))))) | have hF := And.intro hS.facts (hR.at hS.ext) | have hF := hS.facts); simp only [HFacts, cellFacts, RFacts, cellOnly, and_true, true_and, Nat.zero_add, Nat.reduceAdd] at hF)))
                refine ⟨rfl, .tuple #[coV x1 q1 Ar l.length cr, .nilIface], ?_, ?_⟩
                · rw [HLL.out]
                  simp [results, Tryz.results15, go_sem, hF]
                · unfold PaRes
                  rw [HPS.out]
                  exact ⟨l, Ar, cr, .row 63 6 Ar k cr (cellsA l) :: K, rfl, rfl, hS.sub (List.Sublist.cons_cons _ (by repeat (first | exact List.Sublist.refl _ | apply List.Sublist.cons))), HCM.out, HLO.out⟩
end Go.Proofs.YtcpnnffnkegamaaGreatDoor
