/- log.line: columns, read. -/
import Derived.Test.YtlgidjanmaijaaaGreatDoorCX08
import Derived.Test.YtlgidjanmaijaaaGreatDoorCX04
namespace Go.Proofs.YtlgidjanmaijaaaGreatDoor
set_option linter.unusedSimpArgs false
set_option linter.unusedVariables false
open Go.RowKit
set_option linter.all false
theorem lit_some {s : ByteArray} {v : GV} (h : litOf s = some v) : i64 v.num ∧ v.text.size ≤ s.size := by
  unfold litOf at h
  split at h
  · obtain rfl := Option.some.inj h
    exact ⟨⟨by decide, by decide⟩, Nat.zero_le _⟩
  split at h
  · rename_i n hn
    obtain rfl := Option.some.inj h
    exact ⟨(numOf_iff.1 hn).1, Nat.zero_le _⟩
  split at h
  · cases h
  split at h
  · obtain rfl := Option.some.inj h
    refine ⟨show i64 0 from ⟨by decide, by decide⟩, ?_⟩
    show (s.extract 1 (s.size - 1)).size ≤ s.size
    rw [ByteArray.size_extract]
    omega
  · cases h
theorem colOf_some {t : ByteArray} {c : CG} (h : colOf t = some c) : (i64 c.id ∧ i64 c.kind ∧ i64 c.d.num) ∧ c.name.size + c.d.text.size ≤ t.size := by
  have hl := quotedS_len t 32
  unfold colOf at h
  split at h
  · rename_i x0 x1 x2 x3 x4 hq
    rw [hq] at hl
    simp only [lenS] at hl
    split at h
    · cases h
    split at h
    · rename_i a b v h0 h2 h4
      obtain rfl := Option.some.inj h
      refine ⟨⟨(numOf_iff.1 h0).1, (numOf_iff.1 h2).1, ?_⟩, ?_⟩
      · exact (lit_some h4).1
      · have := (lit_some h4).2
        show x1.size + v.text.size ≤ t.size
        omega
    · cases h
  · cases h
theorem colsOf_some : ∀ {l : List ByteArray} {cs : List CG}, colsOf l = some cs → (∀ c ∈ cs, i64 c.id ∧ i64 c.kind ∧ i64 c.d.num) ∧ sumC cs ≤ lenS l
  | [], cs, h => by
    obtain rfl := Option.some.inj h
    exact ⟨fun c h => (by cases h), Nat.zero_le _⟩
  | t :: l, cs, h => by
    rw [colsOf] at h
    split at h
    · rename_i c r h1 h2
      obtain rfl := Option.some.inj h
      obtain ⟨h3, h4⟩ := colOf_some h1
      obtain ⟨h5, h6⟩ := colsOf_some h2
      refine ⟨fun x hx => ?_, by rw [sumC, lenS]; omega⟩
      rcases List.mem_cons.1 hx with rfl | hx
      · exact h3
      · exact h5 x hx
    · cases h
theorem colsOf_step {ts : List ByteArray} {k : Nat} {t : ByteArray} (h : ts[k]? = some t) : colsOf (ts.take (k + 1)) = match colsOf (ts.take k), colOf t with | some r, some n => some (r ++ [n]) | _, _ => none := by
  rw [List.take_add_one, h]
  show colsOf (ts.take k ++ [t]) = _
  rw [colsOf_snoc]
  cases colsOf (ts.take k) <;> cases colOf t <;> rfl
theorem colsOf_none {ts : List ByteArray} {k : Nat} {t : ByteArray} (h : ts[k]? = some t) (hc : colOf t = none) : colsOf ts = none := by
  obtain ⟨hk, e⟩ := List.getElem?_eq_some_iff.1 h
  have : ts = ts.take k ++ t :: ts.drop (k + 1) := by rw [← e, ← List.drop_eq_getElem_cons hk, List.take_append_drop]
  rw [this, colsOf_bad hc]
theorem colOf_bad {t : ByteArray} {xs : List ByteArray} (h : quotedS t 32 = xs) (hb : (decide (xs.length ≠ 5) || (!((xs.getD 3 ⟨#[]⟩).toList == [109, 117, 115, 116]) && !((xs.getD 3 ⟨#[]⟩).toList == [109, 97, 121]))) = true) : colOf t = none := by
  unfold colOf
  rw [h]
  split
  · rename_i x0 x1 x2 x3 x4
    rw [if_pos]
    simpa using hb
  · rfl
theorem colOf_good {t x0 x1 x2 x3 x4 : ByteArray} {q1 q2 : Bool} (h : quotedS t 32 = [x0, x1, x2, x3, x4]) (h1 : (x3.toList == [109, 117, 115, 116]) = q1) (h2 : (x3.toList == [109, 97, 121]) = q2) (hb : (!q1 && !q2) = false) {a k : Int} {v : GV} {e1 e2 e3 : Bool}
    (n1 : numOf x0 = if e1 = true then some a else none) (n2 : numOf x2 = if e2 = true then some k else none) (n3 : litOf x4 = if e3 = true then some v else none) : colOf t = if (e1 && e2 && e3) = true then some ⟨a, x1, k, q1, v⟩ else none := by
  unfold colOf
  rw [h]
  simp only
  rw [h1, h2, if_neg (by rintro ⟨rfl, rfl⟩; simp at hb), n1, n2, n3]
  cases e1 <;> cases e2 <;> cases e3 <;> rfl
/-- what the columns so far are -/
def ScF (w1 : ByteArray) (ts : List ByteArray) (nx : Int) (k : Nat) (b : Bool) (cs : List CG) : Prop :=
  cs.length = k ∧ if b = true then numOf w1 = some nx ∧ colsOf (ts.take k) = some cs else numOf w1 = none ∨ colsOf (ts.take k) = none
theorem ScF.step {w1 : ByteArray} {ts : List ByteArray} {nx : Int} {k : Nat} {b b2 : Bool} {cs : List CG} {c : CG} {t : ByteArray} (h : ScF w1 ts nx k b cs) (ht : ts[k]? = some t) (hb : b2 = true → b = true ∧ colOf t = some c) (hb2 : b2 = false → b = false ∨ colOf t = none) : ScF w1 ts nx (k + 1) b2 (cs ++ [c]) := by
  refine ⟨by rw [List.length_append, h.1]; rfl, ?_⟩
  have h2 := h.2
  rw [colsOf_step ht]
  cases b2 with
  | true =>
    obtain ⟨h3, h4⟩ := hb rfl
    rw [h3, if_pos rfl] at h2
    rw [if_pos rfl, h2.2, h4]
    exact ⟨h2.1, rfl⟩
  | false =>
    rw [if_neg (by simp)]
    rcases hb2 rfl with h3 | h3
    · rw [h3, if_neg (by simp)] at h2
      rcases h2 with h2 | h2
      · exact .inl h2
      · right; rw [h2]
    · right
      rw [h3]
      cases colsOf (ts.take k) <;> rfl
theorem ScF.line {s w1 : ByteArray} {ts : List ByteArray} {nx : Int} {b : Bool} {cs : List CG} (h : ScF w1 ts nx ts.length b cs) (hl : lineP s = match numOf w1, colsOf ts with | some n, some c => some ⟨4, ⟨#[]⟩, 0, [], c, n⟩ | _, _ => none) : lineP s = if b = true then some ⟨4, ⟨#[]⟩, 0, [], cs, nx⟩ else none := by
  have h2 := h.2
  rw [List.take_length] at h2
  cases b with
  | true =>
    rw [if_pos rfl] at h2
    rw [hl, h2.1, h2.2]
    rfl
  | false =>
    rw [if_neg (by simp)] at h2
    rw [hl]
    rcases h2 with h2 | h2
    · rw [h2]; rfl
    · rw [h2]; cases numOf w1 <;> rfl
set_option maxRecDepth 100000 in
set_option maxHeartbeats 8000000 in
theorem line_schema (s w0 w1 : ByteArray) (r : List ByteArray) (hs : s.size ≤ 13600) (hq : quotedS s 32 = w0 :: w1 :: r) (h0 : (w0.toList == [115, 99, 104, 101, 109, 97]) = true) (wI : World) (ht : TabAt wI) (hy : SynAt wI) (hr : RngAt wI) :
    Calls Tryz.prog 27 #[.string s] wI fun e w' => LineE s wI e w' := by
  obtain ⟨n, hn⟩ : ∃ n, n = r.length + 2 := ⟨_, rfl⟩
  have HQ := Lib.hid (fun (W : World) (L : List Item) (hW : Hp wI.heap.size wI W L) => show Calls Tryz.prog 49 #[.string s, .int .u8 32] W fun e w' => ∃ A c, e = .returned (.slice A n c) ∧ Hp wI.heap.size wI w' (.row 9 1 A n c (strV (w0 :: w1 :: r)) :: L) from by
    have := quoted_any s 32 W s.size rfl (by omega)
    rw [hq] at this
    exact this.mono fun e w' ⟨A, m, c, h1, h2, h3⟩ => by
      obtain rfl : n = m := by rw [← h1, hn]; rfl
      exact ⟨A, c, h2, hW.join h3⟩)
  have HNM := Lib.hid (fun (t : ByteArray) (hz : t.size ≤ 1000000) (W : World) (hx : Ext wI W) => number_any t hz W (ht.ext hx) (hy.ext hx) (hr.ext hx))
  have HLI := Lib.hid (fun (t : ByteArray) (hz : t.size ≤ 1000000) (W : World) (hx : Ext wI W) => literal_any t hz W (ht.ext hx) (hy.ext hx) (hr.ext hx))
  clear ht hy hr
  have hln := quotedS_len s 32
  have hsa := schema_at hq h0
  rw [hq, lenS, lenS] at hln
  have hrl := lenS_length r
  have hL : w0.toList = [115, 99, 104, 101, 109, 97] := eq_of_beq h0
  have e1 : (w0.toList == [97, 100, 100]) = false := by rw [hL]; rfl
  have e2 : (w0.toList == [114, 101, 109, 111, 118, 101]) = false := by rw [hL]; rfl
  have e3 : (w0.toList == [109, 97, 115, 107]) = false := by rw [hL]; rfl
  obtain ⟨at7, h7⟩ : ∃ k, 7 + w1.size + min 1 r.length = k := ⟨_, rfl⟩
  rw [h7] at hsa
  obtain ⟨ts, hts⟩ : ∃ l, quotedS (s.extract at7 s.size) 59 = l := ⟨_, rfl⟩
  have HL := Lib.hid (show lineP s = match numOf w1, colsOf ts with | some n, some c => some ⟨4, ⟨#[]⟩, 0, [], c, n⟩ | _, _ => none by
    unfold lineP
    rw [hq]
    simp only
    rw [if_neg (by simp [e1]), if_neg (by simp [e2]), if_neg (by simp [e3]), if_pos h0, h7, hts]
    cases numOf w1 <;> cases colsOf ts <;> rfl)
  have htl := quotedS_len (s.extract at7 s.size) 59
  rw [hts, ByteArray.size_extract] at htl
  have htn := lenS_length ts
  obtain ⟨m, hm⟩ : ∃ m, m = ts.length := ⟨_, rfl⟩
  have HQ2 := Lib.hid (fun (W : World) (L : List Item) (hW : Hp wI.heap.size wI W L) => show Calls Tryz.prog 49 #[.string (s.extract at7 s.size), .int .u8 59] W fun e w' => ∃ A c, e = .returned (.slice A m c) ∧ Hp wI.heap.size wI w' (.row 9 1 A m c (strV ts) :: L) from by
    have := quoted_any (s.extract at7 s.size) 59 W _ rfl (by rw [ByteArray.size_extract]; omega)
    rw [hts] at this
    exact this.mono fun e w' ⟨A, k, c, h1, h2, h3⟩ => by
      obtain rfl : m = k := by rw [← h1, hm]
      exact ⟨A, c, h2, hW.join h3⟩)
  have HM := Lib.hid hm
  have hmz : m ≤ s.size + 1 := by omega
  clear hL hts hq hm
  have hS := Hp.init wI
  have hR := Reads.nil wI
  have HW1 := Lib.hid (fun (g c0 : Nat) (W : World) (L : List Item) (i : Nat) (h : Hp wI.heap.size wI W L) (hi : L[i]? = some (.row 9 1 (some ⟨g, 0, none⟩) n c0 (strV (w0 :: w1 :: r)))) => show W.cell? ⟨g, 1, none⟩ = some (.string w1) from by
    obtain ⟨g', e, c, _⟩ := h.rowCell (j := 1) (u := .string w1) i hi rfl
    obtain rfl : g = g' := by simpa using e
    exact c)
  have hw2 : ¬ (n : Int) < 2 := by omega
  have hwn : IntKind.i64.wrap ((n : Int) - 2) = (r.length : Int) := by rw [IntWalk.i64_in _ (by omega)]; omega
  have hw7 : IntKind.i64.wrap (7 + (w1.size : Int)) = 7 + (w1.size : Int) := IntWalk.i64_in _ (by omega)
  have hw8 : IntKind.i64.wrap (7 + (w1.size : Int) + min 1 (r.length : Int)) = (at7 : Int) := by rw [IntWalk.i64_in _ (by omega)]; omega
  have hn100 : n ≤ 20000 := by omega
  clear hn
  go_enter Tryz.func27, Tryz.ntmps27
  go_upto_region 2 with (first | (refine hab ?_; (try clear hF); clear hS; intro wk hS; (try simp only [List.set_cons_zero, List.set_cons_succ, heap_size, heap_set_size] at hS); ((try clear hF); refine hfI ?_; intro hF)) | (go_at_call 49; (with_reducible refine Calls.mono (HQ.out _ _ hS) ?_); rintro e wk ⟨A, c0, rfl, hS⟩; ((try clear hF); refine hfI ?_; intro hF)))
  obtain ⟨gk, hgk⟩ := hS.nameL 1 rfl
  rw [← hgk] at hS hF ⊢
  clear hgk HQ
  obtain ⟨g, rfl, hw0, _⟩ := hS.rowCell (j := 0) (u := .string w0) 0 rfl rfl
  ((try clear hF); refine hfI ?_; intro hF)
  go_upto_region 17 with (first | (refine hab ?_; (try clear hF); clear hS; intro wk hS; (try simp only [List.set_cons_zero, List.set_cons_succ, heap_size, heap_set_size] at hS); ((try clear hF); refine hfI ?_; intro hF)) | fail)
  clear e1 e2 e3 h0 hw0 hw2
  have hw1 := HW1.out _ _ _ _ 0 hS rfl
  have HNM1 := Lib.hid (HNM.out w1 (by omega))
  ((try clear hF); refine hfI ?_; intro hF)
  go_upto_region 18 with (first | (refine hab ?_; (try clear hF); clear hS; intro wk hS; (try simp only [List.set_cons_zero, List.set_cons_succ, heap_size, heap_set_size] at hS); ((try clear hF); refine hfI ?_; intro hF)) | (go_at_call 50; (with_reducible refine Calls.mono (HNM1.out _ hS.ext) ?_); rintro e wk ⟨⟨nx, b0, rfl, hnx, hnl⟩, hX⟩; replace hS := hS.step hX; clear hX; ((try clear hF); refine hfI ?_; intro hF)))
  have HNL := Lib.hid hnl
  clear hnl HNM1 hw1
  have hw1 := HW1.out _ _ _ _ 0 hS rfl
  ((try clear hF); refine hfI ?_; intro hF)
  go_wp2_with (first | (refine hab ?_; (try clear hF); clear hS; intro wk hS; (try simp only [List.set_cons_zero, List.set_cons_succ, heap_size, heap_set_size] at hS); ((try clear hF); refine hfI ?_; intro hF)) | (go_at_call 49; (with_reducible refine Calls.mono (HQ2.out _ _ hS) ?_); rintro e wk ⟨A2, c2, rfl, hS⟩; ((try clear hF); refine hfI ?_; intro hF)))
  clear HW1 HQ2 hw1 hwn hw7 hw8 h7 hsa hrl
  replace hS := (hS.drop 1).nilRow 61 7
  simp only [List.eraseIdx_cons_succ, List.eraseIdx_cons_zero] at hS
  have HTL := Lib.hid htl
  have HLE := Lib.hid (fun (x : ByteArray) (hx : x ∈ ts) => show x.size ≤ 1000000 by have := lenS_le hx; omega)
  clear htl htn
  go_loopw [122] (fun i wr => ∃ (k : Nat) (Ar : Option Addr) (cr : Nat) (b : Bool) (cs : List CG), i = .int .i64 k ∧ k ≤ m ∧ Hid (ScF w1 ts nx k b cs) ∧
    Hp wI.heap.size wI wr [.row 61 7 Ar k cr (cellsC cs), .row 9 1 A2 m c2 (strV ts), .blk gk [.bool b] 4, .blk wI.heap.size [.int .i64 4, .string ⟨#[]⟩, .int .i64 0, .slice none 0 0, .slice Ar k cr, .int .i64 nx] 63]) (fun i _ => m - (intOf i).toNat)
  case atStart => exact ⟨0, none, 0, b0, [], rfl, Nat.zero_le _, Lib.hid ⟨rfl, by have := HNL.out; cases b0 with | true => exact ⟨this, rfl⟩ | false => exact .inl this⟩, hS⟩
  case round =>
    clear hS hF HNL
    obtain ⟨k, Ar, cr, b, cs, rfl, hk, HSC, hS⟩ := hrel
    by_cases hlt : k < m
    · obtain ⟨t, hx⟩ : ∃ t, ts[k]? = some t := ⟨ts[k]'(by rw [← HM.out]; exact hlt), List.getElem?_eq_getElem _⟩
      have htz := HLE.out t (List.mem_of_getElem? hx)
      obtain ⟨g2, rfl, hct, _⟩ := hS.rowCell (j := k) (u := .string t) 1 rfl (by simp [strV, hx])
      obtain ⟨xs, hxs⟩ : ∃ l, quotedS t 32 = l := ⟨_, rfl⟩
      have hxl := quotedS_len t 32
      rw [hxs] at hxl
      obtain ⟨n5, hn5⟩ : ∃ n, n = xs.length := ⟨_, rfl⟩
      have HQX := Lib.hid (fun (W : World) (L : List Item) (hW : Hp wI.heap.size wI W L) => show Calls Tryz.prog 49 #[.string t, .int .u8 32] W fun e w' => ∃ A c, e = .returned (.slice A n5 c) ∧ Hp wI.heap.size wI w' (.row 9 1 A n5 c (strV xs) :: L) from by
        have := quoted_any t 32 W _ rfl (by omega)
        rw [hxs] at this
        exact this.mono fun e w' ⟨A, k, c, h1, h2, h3⟩ => by
          obtain rfl : n5 = k := by rw [← h1, hn5]
          exact ⟨A, c, h2, hW.join h3⟩)
      have HX := Lib.hid hx
      clear hx
      obtain ⟨q1, hq1⟩ : ∃ q, ((xs.getD 3 ⟨#[]⟩).toList == [109, 117, 115, 116]) = q := ⟨_, rfl⟩
      obtain ⟨q2, hq2⟩ : ∃ q, ((xs.getD 3 ⟨#[]⟩).toList == [109, 97, 121]) = q := ⟨_, rfl⟩
      obtain ⟨bad, hbad⟩ : ∃ x, (decide (n5 ≠ 5) || (!q1 && !q2)) = x := ⟨_, rfl⟩
      have hn5z : n5 ≤ 2000000 := by have := lenS_length xs; omega
      have HXS := Lib.hid hxs
      have HXL := Lib.hid hxl
      have HN5 := Lib.hid hn5
      have HB := Lib.hid hbad
      have HQ1 := Lib.hid hq1
      have HQ2 := Lib.hid hq2
      clear hxs hxl hn5 hbad hq1 hq2
      ((try clear hF); refine hfI ?_; intro hF)
      go_upto_region 22 with (first | (refine hab ?_; (try clear hF); clear hS; intro wk hS; (try simp only [List.set_cons_zero, List.set_cons_succ, heap_size, heap_set_size] at hS); ((try clear hF); refine hfI ?_; intro hF)) | (go_at_call 49; (with_reducible refine Calls.mono (HQX.out _ _ hS) ?_); rintro e wk ⟨A5, c5, rfl, hS⟩; ((try clear hF); refine hfI ?_; intro hF)))
      clear hct HQX
      go_cut [142] (fun c wx => c = .bool bad ∧ Hp wI.heap.size wI wx [.row 9 1 A5 n5 c5 (strV xs), .row 61 7 Ar k cr (cellsC cs), .row 9 1 (some ⟨g2, 0, none⟩) m c2 (strV ts), .blk gk [.bool b] 4, .blk wI.heap.size [.int .i64 4, .string ⟨#[]⟩, .int .i64 0, .slice none 0 0, .slice Ar k cr, .int .i64 nx] 63])
      case first => as_aux_lemma =>
        clear HNM HLI HL HM hnx HSC HLE HX HXL HTL
        by_cases h5 : n5 = 5
        · subst h5
          obtain ⟨x0, x1, x2, x3, x4, rfl⟩ : ∃ x0 x1 x2 x3 x4, xs = [x0, x1, x2, x3, x4] := by
            have := HN5.out
            match xs, this with
            | [x0, x1, x2, x3, x4], _ => exact ⟨x0, x1, x2, x3, x4, rfl⟩
          obtain ⟨g5, rfl, hx3, _⟩ := hS.rowCell (j := 3) (u := .string x3) 0 rfl rfl
          have hq1 : (x3.toList == [109, 117, 115, 116]) = q1 := HQ1.out
          have hq2 : (x3.toList == [109, 97, 121]) = q2 := HQ2.out
          have hb := HB.out
          clear HB HQ1 HQ2 HN5 HXS
          cases q1 with
          | true =>
            obtain rfl : false = bad := by rw [← hb]; rfl
            clear hb hq2
            ((try clear hF); refine hfI ?_; intro hF)
            go_wp2_with (first | (refine hab ?_; (try clear hF); clear hS; intro wk hS; (try simp only [List.set_cons_zero, List.set_cons_succ, heap_size, heap_set_size] at hS); ((try clear hF); refine hfI ?_; intro hF)) | fail)
            go_meet
            case rel => exact ⟨rfl, hS⟩
          | false =>
            cases q2 with
            | true =>
              obtain rfl : false = bad := by rw [← hb]; rfl
              clear hb
              ((try clear hF); refine hfI ?_; intro hF)
              go_wp2_with (first | (refine hab ?_; (try clear hF); clear hS; intro wk hS; (try simp only [List.set_cons_zero, List.set_cons_succ, heap_size, heap_set_size] at hS); ((try clear hF); refine hfI ?_; intro hF)) | fail)
              go_meet
              case rel => exact ⟨rfl, hS⟩
            | false =>
              obtain rfl : true = bad := by rw [← hb]; rfl
              clear hb
              ((try clear hF); refine hfI ?_; intro hF)
              go_wp2_with (first | (refine hab ?_; (try clear hF); clear hS; intro wk hS; (try simp only [List.set_cons_zero, List.set_cons_succ, heap_size, heap_set_size] at hS); ((try clear hF); refine hfI ?_; intro hF)) | fail)
              go_meet
              case rel => exact ⟨rfl, hS⟩
        · have h5' : ((n5 : Int) != 5) = true := by simp; omega
          obtain rfl : true = bad := by have := HB.out; simp [h5] at this; exact this.symm
          clear HB HQ1 HQ2 HN5 HXS h5
          ((try clear hF); refine hfI ?_; intro hF)
          go_wp2_with (first | (refine hab ?_; (try clear hF); clear hS; intro wk hS; (try simp only [List.set_cons_zero, List.set_cons_succ, heap_size, heap_set_size] at hS); ((try clear hF); refine hfI ?_; intro hF)) | fail)
          go_meet
          case rel => exact ⟨rfl, hS⟩
      case rest =>
        obtain ⟨rfl, hS⟩ := hcut
        cases bad with
        | true => as_aux_lemma =>
          have HLN := Lib.hid (show lineP s = none by
            rw [HL.out, colsOf_none HX.out (colOf_bad HXS.out (by rw [HQ1.out, HQ2.out, ← HN5.out]; exact HB.out))]
            cases numOf w1 <;> rfl)
          clear HNM HLI HL HM hnx HSC HLE HX HXL HTL HB HQ1 HQ2 HN5 HXS
          ((try clear hF); refine hfI ?_; intro hF)
          go_wp2_with (first | (refine hab ?_; (try clear hF); clear hS; intro wk hS; (try simp only [List.set_cons_zero, List.set_cons_succ, heap_size, heap_set_size] at hS); ((try clear hF); refine hfI ?_; intro hF)) | fail)
          refine ⟨rfl, .tuple #[aV ⟨4, ⟨#[]⟩, 0, [], cs, nx⟩ ⟨none, 0, 0, Ar, k, cr⟩, .bool false], ?_, LineE.mk _ _ false _ hS.forget (LnF.no HLN.out)⟩
          simp [results, Tryz.results27, go_sem, hF]
        | false => as_aux_lemma =>
          have hb := HB.out
          rw [Bool.or_eq_false_iff] at hb
          obtain rfl : n5 = 5 := by simpa using hb.1
          obtain ⟨x0, x1, x2, x3, x4, rfl⟩ : ∃ x0 x1 x2 x3 x4, xs = [x0, x1, x2, x3, x4] := by
            have := HN5.out
            match xs, this with
            | [x0, x1, x2, x3, x4], _ => exact ⟨x0, x1, x2, x3, x4, rfl⟩
          have hq1 : (x3.toList == [109, 117, 115, 116]) = q1 := HQ1.out
          have hxl := HXL.out
          simp only [lenS] at hxl
          have HNM0 := Lib.hid (HNM.out x0 (by omega))
          have HNM2 := Lib.hid (HNM.out x2 (by omega))
          have HLI4 := Lib.hid (HLI.out x4 (by omega))
          have HCG := Lib.hid (fun (a k : Int) (v : GV) (e1 e2 e3 : Bool) n1 n2 n3 => colOf_good (a := a) (k := k) (v := v) (e1 := e1) (e2 := e2) (e3 := e3) HXS.out HQ1.out HQ2.out hb.2 n1 n2 n3)
          obtain ⟨g5, rfl, _⟩ := hS.rowCell (j := 3) (u := .string x3) 0 rfl rfl
          have HX0 := Lib.hid (fun (W : World) (L : List Item) (i : Nat) (h : Hp wI.heap.size wI W L) (hi : L[i]? = some (.row 9 1 (some ⟨g5, 0, none⟩) 5 c5 (strV [x0, x1, x2, x3, x4]))) => show W.cell? ⟨g5, 0, none⟩ = some (.string x0) from by
            obtain ⟨g', e, c, _⟩ := h.rowCell (j := 0) (u := .string x0) i hi rfl
            obtain rfl : g5 = g' := by simpa using e
            exact c)
          have HX1 := Lib.hid (fun (W : World) (L : List Item) (i : Nat) (h : Hp wI.heap.size wI W L) (hi : L[i]? = some (.row 9 1 (some ⟨g5, 0, none⟩) 5 c5 (strV [x0, x1, x2, x3, x4]))) => show W.cell? ⟨g5, 1, none⟩ = some (.string x1) from by
            obtain ⟨g', e, c, _⟩ := h.rowCell (j := 1) (u := .string x1) i hi rfl
            obtain rfl : g5 = g' := by simpa using e
            exact c)
          have HX2 := Lib.hid (fun (W : World) (L : List Item) (i : Nat) (h : Hp wI.heap.size wI W L) (hi : L[i]? = some (.row 9 1 (some ⟨g5, 0, none⟩) 5 c5 (strV [x0, x1, x2, x3, x4]))) => show W.cell? ⟨g5, 2, none⟩ = some (.string x2) from by
            obtain ⟨g', e, c, _⟩ := h.rowCell (j := 2) (u := .string x2) i hi rfl
            obtain rfl : g5 = g' := by simpa using e
            exact c)
          have HX3 := Lib.hid (fun (W : World) (L : List Item) (i : Nat) (h : Hp wI.heap.size wI W L) (hi : L[i]? = some (.row 9 1 (some ⟨g5, 0, none⟩) 5 c5 (strV [x0, x1, x2, x3, x4]))) => show W.cell? ⟨g5, 3, none⟩ = some (.string x3) from by
            obtain ⟨g', e, c, _⟩ := h.rowCell (j := 3) (u := .string x3) i hi rfl
            obtain rfl : g5 = g' := by simpa using e
            exact c)
          have HX4 := Lib.hid (fun (W : World) (L : List Item) (i : Nat) (h : Hp wI.heap.size wI W L) (hi : L[i]? = some (.row 9 1 (some ⟨g5, 0, none⟩) 5 c5 (strV [x0, x1, x2, x3, x4]))) => show W.cell? ⟨g5, 4, none⟩ = some (.string x4) from by
            obtain ⟨g', e, c, _⟩ := h.rowCell (j := 4) (u := .string x4) i hi rfl
            obtain rfl : g5 = g' := by simpa using e
            exact c)
          clear HNM HLI HL HM hnx HLE HXL HTL HB HQ1 HQ2 HN5 HXS hb hxl hF
          go_wp2_with (first | (refine hab ?_; (try clear hF); clear hS; intro wk hS; (try simp only [List.set_cons_zero, List.set_cons_succ, heap_size, heap_set_size] at hS); ((try clear hF); refine hfI ?_; intro hF)) | fail)
          have hF := hS.facts
          ((with_reducible refine wp_region_braidz_hp [.q, .q, .q, .q, .q, .q, .q, .q, .t, .t] 9 [.row 9 1 (some ⟨g5, 0, none⟩) 5 c5 (strV [x0, x1, x2, x3, x4])] (by kernel_rfl) rfl (by kernel_rfl) hS (fun w h => h.sub (by simp)) ?_); clear hS; (repeat ((with_reducible refine Walk.here ?_); (first | ((with_reducible apply Walk.skipQ); (first | rfl | exact wanted_false rfl rfl rfl (by assumption)); (try simp only [Mark.isQ, if_true, Bool.false_eq_true, if_false, Act.put, List.setIfInBounds_toArray, List.set_cons_zero, List.set_cons_succ])) | ((with_reducible apply Walk.val); (first | rfl | exact wanted_true rfl rfl rfl (by assumption)); (rintro w hS; ((try clear hF); refine hfI ?_; intro hF); (have hx1 := HX1.out _ _ 0 hS rfl; have hx3 := HX3.out _ _ 0 hS rfl); go_simp; first | with_reducible rfl | (rw [if_neg (by first | omega | (simp only [ByteArray.size_append]; omega) | (simp [ByteArray.size_append]; omega))]; try with_reducible rfl)); (try simp only [Mark.isQ, if_true, Bool.false_eq_true, if_false, Act.put, List.setIfInBounds_toArray, List.set_cons_zero, List.set_cons_succ])) | ((with_reducible apply Walk.tail); (try simp only [Mark.isQ, if_true, Bool.false_eq_true, if_false, Act.put, List.setIfInBounds_toArray, List.set_cons_zero, List.set_cons_succ])) | ((with_reducible apply Walk.guardT); rfl; rfl; rfl; (all_goals intro hg)) | ((with_reducible apply Walk.guardF); rfl; rfl; rfl; (all_goals intro hg))))); refine Walk.done ?_; show BraidZ _ _ _ _ 9 2 [8, 9] _ _)
          (refine BraidZ.next1 (i := 8) (by kernel_rfl) (by kernel_rfl) rfl ?_; (try simp only [List.getElem_toArray, List.getElem_cons_succ, List.getElem_cons_zero]))
          (refine ZStep.alloc (cs := [.int .i64 0, .string ⟨#[]⟩, .int .i64 0, .bool false, .int .i64 0, .int .i64 0, .string ⟨#[]⟩]) (t := 61) (f := fun g => .pointer (some ⟨g, 0, none⟩)) (by (first | rfl | exact wanted_true rfl rfl rfl (by assumption))) (fun w h => h.sub (by simp)) (fun w hS => by ((try clear hF); refine hfI ?_; intro hF); go_simp) (fun gc => ?_); try simp only [Act.put, List.setIfInBounds_toArray, List.set_cons_zero, List.set_cons_succ])
          (refine BraidZ.next1 (i := 9) (by kernel_rfl) (by kernel_rfl) rfl ?_; (try simp only [List.getElem_toArray, List.getElem_cons_succ, List.getElem_cons_zero]))
          (show ZStep _ _ _ true _ _ _ _; refine ZStep.storeRow (i := 0) (g := gc) (us := [.int .i64 0, .string x1, .int .i64 0, .bool q1, .int .i64 0, .int .i64 0, .string ⟨#[]⟩]) (.inl rfl) (by (first | rfl | exact wanted_true rfl rfl rfl (by assumption))) rfl rfl rfl rfl (by kernel_rfl) rfl (by simp [Value.oneCell']) ?_; try simp only [Act.put, List.setIfInBounds_toArray, List.set_cons_zero, List.set_cons_succ])
          (refine BraidZ.last (by kernel_rfl) ?_; (try clear hF); intro wk hS; ((try clear hF); refine hfI ?_; intro hF))
          clear HX1 HX3 hq1
          go_upto_region 26 with (first | (refine hab ?_; (try clear hF); clear hS; intro wk hS; (try simp only [List.set_cons_zero, List.set_cons_succ, heap_size, heap_set_size] at hS); ((try clear hF); refine hfI ?_; intro hF)) | fail)
          have hx0 := HX0.out _ _ 1 hS rfl
          ((try clear hF); refine hfI ?_; intro hF)
          go_upto_region 27 with (first | (refine hab ?_; (try clear hF); clear hS; intro wk hS; (try simp only [List.set_cons_zero, List.set_cons_succ, heap_size, heap_set_size] at hS); ((try clear hF); refine hfI ?_; intro hF)) | (go_at_call 50; (with_reducible refine Calls.mono (HNM0.out _ hS.ext) ?_); rintro e wk ⟨⟨id, e1, rfl, hi1, n1⟩, hX⟩; replace hS := hS.step hX; clear hX; ((try clear hF); refine hfI ?_; intro hF)))
          have N1 := Lib.hid n1
          clear n1 hx0 HX0 HNM0
          have hx2 := HX2.out _ _ 1 hS rfl
          ((try clear hF); refine hfI ?_; intro hF)
          go_upto_region 28 with (first | (refine hab ?_; (try clear hF); clear hS; intro wk hS; (try simp only [List.set_cons_zero, List.set_cons_succ, heap_size, heap_set_size] at hS); ((try clear hF); refine hfI ?_; intro hF)) | (go_at_call 50; (with_reducible refine Calls.mono (HNM2.out _ hS.ext) ?_); rintro e wk ⟨⟨kd, e2, rfl, hi2, n2⟩, hX⟩; replace hS := hS.step hX; clear hX; ((try clear hF); refine hfI ?_; intro hF)))
          have N2 := Lib.hid n2
          clear n2 hx2 HX2 HNM2
          have hx4 := HX4.out _ _ 1 hS rfl
          ((try clear hF); refine hfI ?_; intro hF)
          go_upto_region 29 with (first | (refine hab ?_; (try clear hF); clear hS; intro wk hS; (try simp only [List.set_cons_zero, List.set_cons_succ, heap_size, heap_set_size] at hS); ((try clear hF); refine hfI ?_; intro hF)) | (go_at_call 52; (with_reducible refine Calls.mono (HLI4.out _ hS.ext) ?_); rintro e wk ⟨⟨d, e3, rfl, hi3, n3⟩, hX⟩; replace hS := hS.step hX; clear hX; ((try clear hF); refine hfI ?_; intro hF)))
          have HCO := Lib.hid (HCG.out id kd d e1 e2 e3 N1.out N2.out n3)
          clear n3 hx4 HX4 HLI4 HCG N1 N2 hi1 hi2 hi3
          have fin := Lib.hid (fun (iv : Value) (hiv : iv = .int .i64 (k + 1 : Nat)) (wz : World) (A3 : Option Addr) (c3 : Nat) (b2 : Bool) (hb2 : b2 = (b && (e1 && e2 && e3))) (h : Hp wI.heap.size wI wz [.row 61 7 A3 (k + 1) c3 (cellsC cs ++ [.int .i64 id, .string x1, .int .i64 kd, .bool q1, .int .i64 d.kind, .int .i64 d.num, .string d.text]), .row 9 1 (some ⟨g2, 0, none⟩) m c2 (strV ts), .blk gk [.bool b2] 4, .blk wI.heap.size [.int .i64 4, .string ⟨#[]⟩, .int .i64 0, .slice none 0 0, .slice A3 (k + 1 : Nat) c3, .int .i64 nx] 63]) =>
            show ∃ (k' : Nat) (Ar : Option Addr) (cr : Nat) (b : Bool) (cs : List CG), iv = .int .i64 k' ∧ k' ≤ m ∧ Hid (ScF w1 ts nx k' b cs) ∧ Hp wI.heap.size wI wz [.row 61 7 Ar k' cr (cellsC cs), .row 9 1 (some ⟨g2, 0, none⟩) m c2 (strV ts), .blk gk [.bool b] 4, .blk wI.heap.size [.int .i64 4, .string ⟨#[]⟩, .int .i64 0, .slice none 0 0, .slice Ar k' cr, .int .i64 nx] 63] from
            ⟨k + 1, A3, c3, b2, cs ++ [⟨id, x1, kd, q1, d⟩], hiv, by omega, Lib.hid (HSC.out.step HX.out (fun hb => by
              rw [hb2, Bool.and_eq_true] at hb
              exact ⟨hb.1, by rw [HCO.out, if_pos hb.2]⟩) (fun hb => by
              rw [hb2] at hb
              cases hq : b with
              | false => exact .inl rfl
              | true =>
                rw [hq, Bool.true_and] at hb
                exact .inr (by rw [HCO.out, hb]; rfl))), by rw [cellsC_append]; exact h⟩)
          clear HCO HSC HX
          cases b with
          | false =>
            have fin := fun iv hiv wz A3 c3 => fin.out iv hiv wz A3 c3 false rfl
            ((with_reducible refine wp_region_braidz_hp [.q, .q, .q, .t, .t, .t, .t, .t, .t, .t, .t, .t, .t, .t, .t, .t, .t, .t] 6 [.blk gc [.int .i64 id, .string x1, .int .i64 kd, .bool q1, .int .i64 d.kind, .int .i64 d.num, .string d.text] 61, .blk wI.heap.size [.int .i64 4, .string ⟨#[]⟩, .int .i64 0, .slice none 0 0, .slice Ar k cr, .int .i64 nx] 63] (by kernel_rfl) rfl (by kernel_rfl) hS (fun w h => h.sub (by simp)) ?_); clear hS; (repeat ((with_reducible refine Walk.here ?_); (first | ((with_reducible apply Walk.skipQ); (first | rfl | exact wanted_false rfl rfl rfl (by assumption)); (try simp only [Mark.isQ, if_true, Bool.false_eq_true, if_false, Act.put, List.setIfInBounds_toArray, List.set_cons_zero, List.set_cons_succ])) | ((with_reducible apply Walk.val); (first | rfl | exact wanted_true rfl rfl rfl (by assumption)); (rintro w hS; ((try clear hF); refine hfI ?_; intro hF); go_simp; first | with_reducible rfl | (rw [if_neg (by first | omega | (simp only [ByteArray.size_append]; omega) | (simp [ByteArray.size_append]; omega))]; try with_reducible rfl)); (try simp only [Mark.isQ, if_true, Bool.false_eq_true, if_false, Act.put, List.setIfInBounds_toArray, List.set_cons_zero, List.set_cons_succ])) | ((with_reducible apply Walk.tail); (try simp only [Mark.isQ, if_true, Bool.false_eq_true, if_false, Act.put, List.setIfInBounds_toArray, List.set_cons_zero, List.set_cons_succ])) | ((with_reducible apply Walk.guardT); rfl; rfl; rfl; (all_goals intro hg)) | ((with_reducible apply Walk.guardF); rfl; rfl; rfl; (all_goals intro hg))))); refine Walk.done ?_; show BraidZ _ _ _ _ 6 15 [3, 4, 5, 6, 7, 8, 9, 10, 11, 12, 13, 14, 15, 16, 17] _ _)
            (refine BraidZ.next2 (i := 3) (j := 5) (by kernel_rfl) (by kernel_rfl) rfl rfl ?_ ?_ <;> (try simp only [List.getElem_toArray, List.getElem_cons_succ, List.getElem_cons_zero]))
            · (refine ZStep.build1 Tryz.elem_cols (us := [.int .i64 id, .string x1, .int .i64 kd, .bool q1, .int .i64 d.kind, .int .i64 d.num, .string d.text]) (by (first | rfl | exact wanted_true rfl rfl rfl (by assumption))) (fun w h => h.sub (by simp)) rfl rfl rfl (by decide) (fun ge => ?_); try simp only [Act.put, List.setIfInBounds_toArray, List.set_cons_zero, List.set_cons_succ])
              (refine BraidZ.next2 (i := 4) (j := 5) (by kernel_rfl) (by kernel_rfl) rfl rfl ?_ ?_ <;> (try simp only [List.getElem_toArray, List.getElem_cons_succ, List.getElem_cons_zero]))
              · (refine ZStep.append Tryz.elem_cols (by (first | rfl | exact wanted_true rfl rfl rfl (by assumption))) (.tmp 177) (.tmp 179) rfl 3 rfl (by (try simp only [List.eraseIdx_cons_zero, List.eraseIdx_cons_succ]); rfl) rfl ⟨ge, 0, none⟩ rfl rfl (fun w hS jj u hu => World.news_of_block (hS.blkAt 0 rfl) jj u (by simpa using hu)) (by simp [Value.oneCell']) (by omega) (by omega) (fun w h => h.sub (by first | simp | ((try simp only [List.eraseIdx_cons_zero, List.eraseIdx_cons_succ]); (repeat (first | exact List.nil_sublist _ | exact List.Sublist.refl _ | with_reducible apply List.Sublist.cons₂ | apply List.Sublist.cons))))) (fun A3 c3 => ?_); try simp only [Act.put, List.setIfInBounds_toArray, List.set_cons_zero, List.set_cons_succ])
                (refine BraidZ.earlyN (i := 15) (by kernel_rfl) (by kernel_rfl) (by kernel_rfl) (by kernel_rfl) rfl (fun _ _ h hx => h.step hx) ?_; (try simp only [List.getElem_toArray, List.getElem_cons_succ, List.getElem_cons_zero]); refine EStep.val (by (first | rfl | exact wanted_true rfl rfl rfl (by assumption))) (fun w => by go_simp; with_reducible rfl) ?_; try simp only [Act.put, List.setIfInBounds_toArray, List.set_cons_zero, List.set_cons_succ])
                (refine BraidZ.next1 (i := 5) (by kernel_rfl) (by kernel_rfl) rfl ?_; (try simp only [List.getElem_toArray, List.getElem_cons_succ, List.getElem_cons_zero]))
                (refine ZStep.val (by (first | rfl | exact wanted_true rfl rfl rfl (by assumption))) (fun w h => h.sub (by first | simp | ((try simp only [List.eraseIdx_cons_zero, List.eraseIdx_cons_succ]); (repeat (first | exact List.nil_sublist _ | exact List.Sublist.refl _ | with_reducible apply List.Sublist.cons₂ | apply List.Sublist.cons))))) (by rintro w hS; ((try clear hF); refine hfI ?_; intro hF); go_simp; with_reducible rfl) ?_; try simp only [Act.put, List.setIfInBounds_toArray, List.set_cons_zero, List.set_cons_succ])
                (refine BraidZ.earlyN (i := 6) (by kernel_rfl) (by kernel_rfl) (by kernel_rfl) (by kernel_rfl) rfl (fun _ _ h hx => h.step hx) ?_; (try simp only [List.getElem_toArray, List.getElem_cons_succ, List.getElem_cons_zero]); refine EStep.val (by (first | rfl | exact wanted_true rfl rfl rfl (by assumption))) (fun w => by go_simp; with_reducible rfl) ?_; try simp only [Act.put, List.setIfInBounds_toArray, List.set_cons_zero, List.set_cons_succ])
                (refine BraidZ.earlyN (i := 7) (by kernel_rfl) (by kernel_rfl) (by kernel_rfl) (by kernel_rfl) rfl (fun _ _ h hx => h.step hx) ?_; (try simp only [List.getElem_toArray, List.getElem_cons_succ, List.getElem_cons_zero]); refine EStep.skip (by (first | rfl | exact wanted_false rfl rfl rfl (by assumption))) ?_; try simp only [Act.put, List.setIfInBounds_toArray, List.set_cons_zero, List.set_cons_succ])
                (refine BraidZ.earlyN (i := 8) (by kernel_rfl) (by kernel_rfl) (by kernel_rfl) (by kernel_rfl) rfl (fun _ _ h hx => h.step hx) ?_; (try simp only [List.getElem_toArray, List.getElem_cons_succ, List.getElem_cons_zero]); refine EStep.val (by (first | rfl | exact wanted_true rfl rfl rfl (by assumption))) (fun w => by go_simp; with_reducible rfl) ?_; try simp only [Act.put, List.setIfInBounds_toArray, List.set_cons_zero, List.set_cons_succ])
                (refine BraidZ.earlyN (i := 9) (by kernel_rfl) (by kernel_rfl) (by kernel_rfl) (by kernel_rfl) rfl (fun _ _ h hx => h.step hx) ?_; (try simp only [List.getElem_toArray, List.getElem_cons_succ, List.getElem_cons_zero]); refine EStep.val (by (first | rfl | exact wanted_true rfl rfl rfl (by assumption))) (fun w => by go_simp; with_reducible rfl) ?_; try simp only [Act.put, List.setIfInBounds_toArray, List.set_cons_zero, List.set_cons_succ])
                (refine BraidZ.earlyN (i := 10) (by kernel_rfl) (by kernel_rfl) (by kernel_rfl) (by kernel_rfl) rfl (fun _ _ h hx => h.step hx) ?_; (try simp only [List.getElem_toArray, List.getElem_cons_succ, List.getElem_cons_zero]); refine EStep.skip (by (first | rfl | exact wanted_false rfl rfl rfl (by assumption))) ?_; try simp only [Act.put, List.setIfInBounds_toArray, List.set_cons_zero, List.set_cons_succ])
                (refine BraidZ.earlyN (i := 11) (by kernel_rfl) (by kernel_rfl) (by kernel_rfl) (by kernel_rfl) rfl (fun _ _ h hx => h.step hx) ?_; (try simp only [List.getElem_toArray, List.getElem_cons_succ, List.getElem_cons_zero]); refine EStep.val (by (first | rfl | exact wanted_true rfl rfl rfl (by assumption))) (fun w => by go_simp; with_reducible rfl) ?_; try simp only [Act.put, List.setIfInBounds_toArray, List.set_cons_zero, List.set_cons_succ])
                (refine BraidZ.earlyN (i := 12) (by kernel_rfl) (by kernel_rfl) (by kernel_rfl) (by kernel_rfl) rfl (fun _ _ h hx => h.step hx) ?_; (try simp only [List.getElem_toArray, List.getElem_cons_succ, List.getElem_cons_zero]); refine EStep.val (by (first | rfl | exact wanted_true rfl rfl rfl (by assumption))) (fun w => by go_simp; with_reducible rfl) ?_; try simp only [Act.put, List.setIfInBounds_toArray, List.set_cons_zero, List.set_cons_succ])
                (refine BraidZ.earlyN (i := 13) (by kernel_rfl) (by kernel_rfl) (by kernel_rfl) (by kernel_rfl) rfl (fun _ _ h hx => h.step hx) ?_; (try simp only [List.getElem_toArray, List.getElem_cons_succ, List.getElem_cons_zero]); refine EStep.skip (by (first | rfl | exact wanted_false rfl rfl rfl (by assumption))) ?_; try simp only [Act.put, List.setIfInBounds_toArray, List.set_cons_zero, List.set_cons_succ])
                (refine BraidZ.earlyN (i := 14) (by kernel_rfl) (by kernel_rfl) (by kernel_rfl) (by kernel_rfl) rfl (fun _ _ h hx => h.step hx) ?_; (try simp only [List.getElem_toArray, List.getElem_cons_succ, List.getElem_cons_zero]); refine EStep.val (by (first | rfl | exact wanted_true rfl rfl rfl (by assumption))) (fun w => by go_simp; with_reducible rfl) ?_; try simp only [Act.put, List.setIfInBounds_toArray, List.set_cons_zero, List.set_cons_succ])
                (refine BraidZ.next1 (i := 16) (by kernel_rfl) (by kernel_rfl) rfl ?_; (try simp only [List.getElem_toArray, List.getElem_cons_succ, List.getElem_cons_zero]))
                (show ZStep _ _ _ true _ _ _ _; refine ZStep.turn (by (first | rfl | exact wanted_true rfl rfl rfl (by assumption))) (fun w hS => ⟨w.setCell ⟨wI.heap.size, 4, none⟩ (.slice A3 (k + 1 : Nat) c3), .inl (by ((try clear hF); refine hfI ?_; intro hF); go_simp), hS.put (i := 6) rfl⟩) ?_; try simp only [Act.put, List.setIfInBounds_toArray, List.set_cons_zero, List.set_cons_succ])
                (refine BraidZ.next1 (i := 17) (by kernel_rfl) (by kernel_rfl) rfl ?_; (try simp only [List.getElem_toArray, List.getElem_cons_succ, List.getElem_cons_zero]))
                (show ZStep _ _ _ true _ _ _ _; refine ZStep.turn (by (first | rfl | exact wanted_true rfl rfl rfl (by assumption))) (fun w hS => ⟨w.setCell ⟨gk, 0, none⟩ (.bool false), .inl (by ((try clear hF); refine hfI ?_; intro hF); go_simp), hS.put (i := 5) rfl⟩) ?_; try simp only [Act.put, List.setIfInBounds_toArray, List.set_cons_zero, List.set_cons_succ])
                (refine BraidZ.last (by kernel_rfl) ?_; (try clear hF); intro wk hS; ((try clear hF); refine hfI ?_; intro hF))
                go_wp2_with (first | (refine hab ?_; (try clear hF); clear hS; intro wk hS; (try simp only [List.set_cons_zero, List.set_cons_succ, heap_size, heap_set_size] at hS); ((try clear hF); refine hfI ?_; intro hF)) | fail)
                go_roundw
                case rel => exact fin _ (by go_num) _ _ _ (((((((hS.drop 1).drop 1).drop 1).front 3 rfl).front 3 rfl).front 3 rfl).front 3 rfl)
                case measure => simp [intOf]; omega
              · (refine ZStep.val (by (first | rfl | exact wanted_true rfl rfl rfl (by assumption))) (fun w h => h.sub (by first | simp | ((try simp only [List.eraseIdx_cons_zero, List.eraseIdx_cons_succ]); (repeat (first | exact List.nil_sublist _ | exact List.Sublist.refl _ | with_reducible apply List.Sublist.cons₂ | apply List.Sublist.cons))))) (by rintro w hS; ((try clear hF); refine hfI ?_; intro hF); go_simp; with_reducible rfl) ?_; try simp only [Act.put, List.setIfInBounds_toArray, List.set_cons_zero, List.set_cons_succ])
                (refine BraidZ.next1 (i := 4) (by kernel_rfl) (by kernel_rfl) rfl ?_; (try simp only [List.getElem_toArray, List.getElem_cons_succ, List.getElem_cons_zero]))
                (refine ZStep.append Tryz.elem_cols (by (first | rfl | exact wanted_true rfl rfl rfl (by assumption))) (.tmp 177) (.tmp 179) rfl 3 rfl (by (try simp only [List.eraseIdx_cons_zero, List.eraseIdx_cons_succ]); rfl) rfl ⟨ge, 0, none⟩ rfl rfl (fun w hS jj u hu => World.news_of_block (hS.blkAt 0 rfl) jj u (by simpa using hu)) (by simp [Value.oneCell']) (by omega) (by omega) (fun w h => h.sub (by first | simp | ((try simp only [List.eraseIdx_cons_zero, List.eraseIdx_cons_succ]); (repeat (first | exact List.nil_sublist _ | exact List.Sublist.refl _ | with_reducible apply List.Sublist.cons₂ | apply List.Sublist.cons))))) (fun A3 c3 => ?_); try simp only [Act.put, List.setIfInBounds_toArray, List.set_cons_zero, List.set_cons_succ])
                (refine BraidZ.earlyN (i := 15) (by kernel_rfl) (by kernel_rfl) (by kernel_rfl) (by kernel_rfl) rfl (fun _ _ h hx => h.step hx) ?_; (try simp only [List.getElem_toArray, List.getElem_cons_succ, List.getElem_cons_zero]); refine EStep.val (by (first | rfl | exact wanted_true rfl rfl rfl (by assumption))) (fun w => by go_simp; with_reducible rfl) ?_; try simp only [Act.put, List.setIfInBounds_toArray, List.set_cons_zero, List.set_cons_succ])
                (refine BraidZ.earlyN (i := 6) (by kernel_rfl) (by kernel_rfl) (by kernel_rfl) (by kernel_rfl) rfl (fun _ _ h hx => h.step hx) ?_; (try simp only [List.getElem_toArray, List.getElem_cons_succ, List.getElem_cons_zero]); refine EStep.val (by (first | rfl | exact wanted_true rfl rfl rfl (by assumption))) (fun w => by go_simp; with_reducible rfl) ?_; try simp only [Act.put, List.setIfInBounds_toArray, List.set_cons_zero, List.set_cons_succ])
                (refine BraidZ.earlyN (i := 7) (by kernel_rfl) (by kernel_rfl) (by kernel_rfl) (by kernel_rfl) rfl (fun _ _ h hx => h.step hx) ?_; (try simp only [List.getElem_toArray, List.getElem_cons_succ, List.getElem_cons_zero]); refine EStep.skip (by (first | rfl | exact wanted_false rfl rfl rfl (by assumption))) ?_; try simp only [Act.put, List.setIfInBounds_toArray, List.set_cons_zero, List.set_cons_succ])
                (refine BraidZ.earlyN (i := 8) (by kernel_rfl) (by kernel_rfl) (by kernel_rfl) (by kernel_rfl) rfl (fun _ _ h hx => h.step hx) ?_; (try simp only [List.getElem_toArray, List.getElem_cons_succ, List.getElem_cons_zero]); refine EStep.val (by (first | rfl | exact wanted_true rfl rfl rfl (by assumption))) (fun w => by go_simp; with_reducible rfl) ?_; try simp only [Act.put, List.setIfInBounds_toArray, List.set_cons_zero, List.set_cons_succ])
                (refine BraidZ.earlyN (i := 9) (by kernel_rfl) (by kernel_rfl) (by kernel_rfl) (by kernel_rfl) rfl (fun _ _ h hx => h.step hx) ?_; (try simp only [List.getElem_toArray, List.getElem_cons_succ, List.getElem_cons_zero]); refine EStep.val (by (first | rfl | exact wanted_true rfl rfl rfl (by assumption))) (fun w => by go_simp; with_reducible rfl) ?_; try simp only [Act.put, List.setIfInBounds_toArray, List.set_cons_zero, List.set_cons_succ])
                (refine BraidZ.earlyN (i := 10) (by kernel_rfl) (by kernel_rfl) (by kernel_rfl) (by kernel_rfl) rfl (fun _ _ h hx => h.step hx) ?_; (try simp only [List.getElem_toArray, List.getElem_cons_succ, List.getElem_cons_zero]); refine EStep.skip (by (first | rfl | exact wanted_false rfl rfl rfl (by assumption))) ?_; try simp only [Act.put, List.setIfInBounds_toArray, List.set_cons_zero, List.set_cons_succ])
                (refine BraidZ.earlyN (i := 11) (by kernel_rfl) (by kernel_rfl) (by kernel_rfl) (by kernel_rfl) rfl (fun _ _ h hx => h.step hx) ?_; (try simp only [List.getElem_toArray, List.getElem_cons_succ, List.getElem_cons_zero]); refine EStep.val (by (first | rfl | exact wanted_true rfl rfl rfl (by assumption))) (fun w => by go_simp; with_reducible rfl) ?_; try simp only [Act.put, List.setIfInBounds_toArray, List.set_cons_zero, List.set_cons_succ])
                (refine BraidZ.earlyN (i := 12) (by kernel_rfl) (by kernel_rfl) (by kernel_rfl) (by kernel_rfl) rfl (fun _ _ h hx => h.step hx) ?_; (try simp only [List.getElem_toArray, List.getElem_cons_succ, List.getElem_cons_zero]); refine EStep.val (by (first | rfl | exact wanted_true rfl rfl rfl (by assumption))) (fun w => by go_simp; with_reducible rfl) ?_; try simp only [Act.put, List.setIfInBounds_toArray, List.set_cons_zero, List.set_cons_succ])
                (refine BraidZ.earlyN (i := 13) (by kernel_rfl) (by kernel_rfl) (by kernel_rfl) (by kernel_rfl) rfl (fun _ _ h hx => h.step hx) ?_; (try simp only [List.getElem_toArray, List.getElem_cons_succ, List.getElem_cons_zero]); refine EStep.skip (by (first | rfl | exact wanted_false rfl rfl rfl (by assumption))) ?_; try simp only [Act.put, List.setIfInBounds_toArray, List.set_cons_zero, List.set_cons_succ])
                (refine BraidZ.earlyN (i := 14) (by kernel_rfl) (by kernel_rfl) (by kernel_rfl) (by kernel_rfl) rfl (fun _ _ h hx => h.step hx) ?_; (try simp only [List.getElem_toArray, List.getElem_cons_succ, List.getElem_cons_zero]); refine EStep.val (by (first | rfl | exact wanted_true rfl rfl rfl (by assumption))) (fun w => by go_simp; with_reducible rfl) ?_; try simp only [Act.put, List.setIfInBounds_toArray, List.set_cons_zero, List.set_cons_succ])
                (refine BraidZ.next1 (i := 16) (by kernel_rfl) (by kernel_rfl) rfl ?_; (try simp only [List.getElem_toArray, List.getElem_cons_succ, List.getElem_cons_zero]))
                (show ZStep _ _ _ true _ _ _ _; refine ZStep.turn (by (first | rfl | exact wanted_true rfl rfl rfl (by assumption))) (fun w hS => ⟨w.setCell ⟨wI.heap.size, 4, none⟩ (.slice A3 (k + 1 : Nat) c3), .inl (by ((try clear hF); refine hfI ?_; intro hF); go_simp), hS.put (i := 6) rfl⟩) ?_; try simp only [Act.put, List.setIfInBounds_toArray, List.set_cons_zero, List.set_cons_succ])
                (refine BraidZ.next1 (i := 17) (by kernel_rfl) (by kernel_rfl) rfl ?_; (try simp only [List.getElem_toArray, List.getElem_cons_succ, List.getElem_cons_zero]))
                (show ZStep _ _ _ true _ _ _ _; refine ZStep.turn (by (first | rfl | exact wanted_true rfl rfl rfl (by assumption))) (fun w hS => ⟨w.setCell ⟨gk, 0, none⟩ (.bool false), .inl (by ((try clear hF); refine hfI ?_; intro hF); go_simp), hS.put (i := 5) rfl⟩) ?_; try simp only [Act.put, List.setIfInBounds_toArray, List.set_cons_zero, List.set_cons_succ])
                (refine BraidZ.last (by kernel_rfl) ?_; (try clear hF); intro wk hS; ((try clear hF); refine hfI ?_; intro hF))
                go_wp2_with (first | (refine hab ?_; (try clear hF); clear hS; intro wk hS; (try simp only [List.set_cons_zero, List.set_cons_succ, heap_size, heap_set_size] at hS); ((try clear hF); refine hfI ?_; intro hF)) | fail)
                go_roundw
                case rel => exact fin _ (by go_num) _ _ _ (((((((hS.drop 1).drop 1).drop 1).front 3 rfl).front 3 rfl).front 3 rfl).front 3 rfl)
                case measure => simp [intOf]; omega
            · (refine ZStep.val (by (first | rfl | exact wanted_true rfl rfl rfl (by assumption))) (fun w h => h.sub (by first | simp | ((try simp only [List.eraseIdx_cons_zero, List.eraseIdx_cons_succ]); (repeat (first | exact List.nil_sublist _ | exact List.Sublist.refl _ | with_reducible apply List.Sublist.cons₂ | apply List.Sublist.cons))))) (by rintro w hS; ((try clear hF); refine hfI ?_; intro hF); go_simp; with_reducible rfl) ?_; try simp only [Act.put, List.setIfInBounds_toArray, List.set_cons_zero, List.set_cons_succ])
              (refine BraidZ.next1 (i := 3) (by kernel_rfl) (by kernel_rfl) rfl ?_; (try simp only [List.getElem_toArray, List.getElem_cons_succ, List.getElem_cons_zero]))
              (refine ZStep.build1 Tryz.elem_cols (us := [.int .i64 id, .string x1, .int .i64 kd, .bool q1, .int .i64 d.kind, .int .i64 d.num, .string d.text]) (by (first | rfl | exact wanted_true rfl rfl rfl (by assumption))) (fun w h => h.sub (by simp)) rfl rfl rfl (by decide) (fun ge => ?_); try simp only [Act.put, List.setIfInBounds_toArray, List.set_cons_zero, List.set_cons_succ])
              (refine BraidZ.next1 (i := 4) (by kernel_rfl) (by kernel_rfl) rfl ?_; (try simp only [List.getElem_toArray, List.getElem_cons_succ, List.getElem_cons_zero]))
              (refine ZStep.append Tryz.elem_cols (by (first | rfl | exact wanted_true rfl rfl rfl (by assumption))) (.tmp 177) (.tmp 179) rfl 3 rfl (by (try simp only [List.eraseIdx_cons_zero, List.eraseIdx_cons_succ]); rfl) rfl ⟨ge, 0, none⟩ rfl rfl (fun w hS jj u hu => World.news_of_block (hS.blkAt 0 rfl) jj u (by simpa using hu)) (by simp [Value.oneCell']) (by omega) (by omega) (fun w h => h.sub (by first | simp | ((try simp only [List.eraseIdx_cons_zero, List.eraseIdx_cons_succ]); (repeat (first | exact List.nil_sublist _ | exact List.Sublist.refl _ | with_reducible apply List.Sublist.cons₂ | apply List.Sublist.cons))))) (fun A3 c3 => ?_); try simp only [Act.put, List.setIfInBounds_toArray, List.set_cons_zero, List.set_cons_succ])
              (refine BraidZ.earlyN (i := 15) (by kernel_rfl) (by kernel_rfl) (by kernel_rfl) (by kernel_rfl) rfl (fun _ _ h hx => h.step hx) ?_; (try simp only [List.getElem_toArray, List.getElem_cons_succ, List.getElem_cons_zero]); refine EStep.val (by (first | rfl | exact wanted_true rfl rfl rfl (by assumption))) (fun w => by go_simp; with_reducible rfl) ?_; try simp only [Act.put, List.setIfInBounds_toArray, List.set_cons_zero, List.set_cons_succ])
              (refine BraidZ.earlyN (i := 6) (by kernel_rfl) (by kernel_rfl) (by kernel_rfl) (by kernel_rfl) rfl (fun _ _ h hx => h.step hx) ?_; (try simp only [List.getElem_toArray, List.getElem_cons_succ, List.getElem_cons_zero]); refine EStep.val (by (first | rfl | exact wanted_true rfl rfl rfl (by assumption))) (fun w => by go_simp; with_reducible rfl) ?_; try simp only [Act.put, List.setIfInBounds_toArray, List.set_cons_zero, List.set_cons_succ])
              (refine BraidZ.earlyN (i := 7) (by kernel_rfl) (by kernel_rfl) (by kernel_rfl) (by kernel_rfl) rfl (fun _ _ h hx => h.step hx) ?_; (try simp only [List.getElem_toArray, List.getElem_cons_succ, List.getElem_cons_zero]); refine EStep.skip (by (first | rfl | exact wanted_false rfl rfl rfl (by assumption))) ?_; try simp only [Act.put, List.setIfInBounds_toArray, List.set_cons_zero, List.set_cons_succ])
              (refine BraidZ.earlyN (i := 8) (by kernel_rfl) (by kernel_rfl) (by kernel_rfl) (by kernel_rfl) rfl (fun _ _ h hx => h.step hx) ?_; (try simp only [List.getElem_toArray, List.getElem_cons_succ, List.getElem_cons_zero]); refine EStep.val (by (first | rfl | exact wanted_true rfl rfl rfl (by assumption))) (fun w => by go_simp; with_reducible rfl) ?_; try simp only [Act.put, List.setIfInBounds_toArray, List.set_cons_zero, List.set_cons_succ])
              (refine BraidZ.earlyN (i := 9) (by kernel_rfl) (by kernel_rfl) (by kernel_rfl) (by kernel_rfl) rfl (fun _ _ h hx => h.step hx) ?_; (try simp only [List.getElem_toArray, List.getElem_cons_succ, List.getElem_cons_zero]); refine EStep.val (by (first | rfl | exact wanted_true rfl rfl rfl (by assumption))) (fun w => by go_simp; with_reducible rfl) ?_; try simp only [Act.put, List.setIfInBounds_toArray, List.set_cons_zero, List.set_cons_succ])
              (refine BraidZ.earlyN (i := 10) (by kernel_rfl) (by kernel_rfl) (by kernel_rfl) (by kernel_rfl) rfl (fun _ _ h hx => h.step hx) ?_; (try simp only [List.getElem_toArray, List.getElem_cons_succ, List.getElem_cons_zero]); refine EStep.skip (by (first | rfl | exact wanted_false rfl rfl rfl (by assumption))) ?_; try simp only [Act.put, List.setIfInBounds_toArray, List.set_cons_zero, List.set_cons_succ])
              (refine BraidZ.earlyN (i := 11) (by kernel_rfl) (by kernel_rfl) (by kernel_rfl) (by kernel_rfl) rfl (fun _ _ h hx => h.step hx) ?_; (try simp only [List.getElem_toArray, List.getElem_cons_succ, List.getElem_cons_zero]); refine EStep.val (by (first | rfl | exact wanted_true rfl rfl rfl (by assumption))) (fun w => by go_simp; with_reducible rfl) ?_; try simp only [Act.put, List.setIfInBounds_toArray, List.set_cons_zero, List.set_cons_succ])
              (refine BraidZ.earlyN (i := 12) (by kernel_rfl) (by kernel_rfl) (by kernel_rfl) (by kernel_rfl) rfl (fun _ _ h hx => h.step hx) ?_; (try simp only [List.getElem_toArray, List.getElem_cons_succ, List.getElem_cons_zero]); refine EStep.val (by (first | rfl | exact wanted_true rfl rfl rfl (by assumption))) (fun w => by go_simp; with_reducible rfl) ?_; try simp only [Act.put, List.setIfInBounds_toArray, List.set_cons_zero, List.set_cons_succ])
              (refine BraidZ.earlyN (i := 13) (by kernel_rfl) (by kernel_rfl) (by kernel_rfl) (by kernel_rfl) rfl (fun _ _ h hx => h.step hx) ?_; (try simp only [List.getElem_toArray, List.getElem_cons_succ, List.getElem_cons_zero]); refine EStep.skip (by (first | rfl | exact wanted_false rfl rfl rfl (by assumption))) ?_; try simp only [Act.put, List.setIfInBounds_toArray, List.set_cons_zero, List.set_cons_succ])
              (refine BraidZ.earlyN (i := 14) (by kernel_rfl) (by kernel_rfl) (by kernel_rfl) (by kernel_rfl) rfl (fun _ _ h hx => h.step hx) ?_; (try simp only [List.getElem_toArray, List.getElem_cons_succ, List.getElem_cons_zero]); refine EStep.val (by (first | rfl | exact wanted_true rfl rfl rfl (by assumption))) (fun w => by go_simp; with_reducible rfl) ?_; try simp only [Act.put, List.setIfInBounds_toArray, List.set_cons_zero, List.set_cons_succ])
              (refine BraidZ.next1 (i := 16) (by kernel_rfl) (by kernel_rfl) rfl ?_; (try simp only [List.getElem_toArray, List.getElem_cons_succ, List.getElem_cons_zero]))
              (show ZStep _ _ _ true _ _ _ _; refine ZStep.turn (by (first | rfl | exact wanted_true rfl rfl rfl (by assumption))) (fun w hS => ⟨w.setCell ⟨wI.heap.size, 4, none⟩ (.slice A3 (k + 1 : Nat) c3), .inl (by ((try clear hF); refine hfI ?_; intro hF); go_simp), hS.put (i := 6) rfl⟩) ?_; try simp only [Act.put, List.setIfInBounds_toArray, List.set_cons_zero, List.set_cons_succ])
              (refine BraidZ.next1 (i := 17) (by kernel_rfl) (by kernel_rfl) rfl ?_; (try simp only [List.getElem_toArray, List.getElem_cons_succ, List.getElem_cons_zero]))
              (show ZStep _ _ _ true _ _ _ _; refine ZStep.turn (by (first | rfl | exact wanted_true rfl rfl rfl (by assumption))) (fun w hS => ⟨w.setCell ⟨gk, 0, none⟩ (.bool false), .inl (by ((try clear hF); refine hfI ?_; intro hF); go_simp), hS.put (i := 5) rfl⟩) ?_; try simp only [Act.put, List.setIfInBounds_toArray, List.set_cons_zero, List.set_cons_succ])
              (refine BraidZ.last (by kernel_rfl) ?_; (try clear hF); intro wk hS; ((try clear hF); refine hfI ?_; intro hF))
              go_wp2_with (first | (refine hab ?_; (try clear hF); clear hS; intro wk hS; (try simp only [List.set_cons_zero, List.set_cons_succ, heap_size, heap_set_size] at hS); ((try clear hF); refine hfI ?_; intro hF)) | fail)
              go_roundw
              case rel => exact fin _ (by go_num) _ _ _ (((((((hS.drop 1).drop 1).drop 1).front 3 rfl).front 3 rfl).front 3 rfl).front 3 rfl)
              case measure => simp [intOf]; omega
          | true =>
            cases e1 with
            | false =>
              have fin := fun iv hiv wz A3 c3 => fin.out iv hiv wz A3 c3 false rfl
              ((with_reducible refine wp_region_braidz_hp [.q, .q, .q, .t, .t, .t, .t, .t, .t, .t, .t, .t, .t, .t, .t, .t, .t, .t] 6 [.blk gc [.int .i64 id, .string x1, .int .i64 kd, .bool q1, .int .i64 d.kind, .int .i64 d.num, .string d.text] 61, .blk wI.heap.size [.int .i64 4, .string ⟨#[]⟩, .int .i64 0, .slice none 0 0, .slice Ar k cr, .int .i64 nx] 63] (by kernel_rfl) rfl (by kernel_rfl) hS (fun w h => h.sub (by simp)) ?_); clear hS; (repeat ((with_reducible refine Walk.here ?_); (first | ((with_reducible apply Walk.skipQ); (first | rfl | exact wanted_false rfl rfl rfl (by assumption)); (try simp only [Mark.isQ, if_true, Bool.false_eq_true, if_false, Act.put, List.setIfInBounds_toArray, List.set_cons_zero, List.set_cons_succ])) | ((with_reducible apply Walk.val); (first | rfl | exact wanted_true rfl rfl rfl (by assumption)); (rintro w hS; ((try clear hF); refine hfI ?_; intro hF); go_simp; first | with_reducible rfl | (rw [if_neg (by first | omega | (simp only [ByteArray.size_append]; omega) | (simp [ByteArray.size_append]; omega))]; try with_reducible rfl)); (try simp only [Mark.isQ, if_true, Bool.false_eq_true, if_false, Act.put, List.setIfInBounds_toArray, List.set_cons_zero, List.set_cons_succ])) | ((with_reducible apply Walk.tail); (try simp only [Mark.isQ, if_true, Bool.false_eq_true, if_false, Act.put, List.setIfInBounds_toArray, List.set_cons_zero, List.set_cons_succ])) | ((with_reducible apply Walk.guardT); rfl; rfl; rfl; (all_goals intro hg)) | ((with_reducible apply Walk.guardF); rfl; rfl; rfl; (all_goals intro hg))))); refine Walk.done ?_; show BraidZ _ _ _ _ 6 15 [3, 4, 5, 6, 7, 8, 9, 10, 11, 12, 13, 14, 15, 16, 17] _ _)
              (refine BraidZ.next2 (i := 3) (j := 5) (by kernel_rfl) (by kernel_rfl) rfl rfl ?_ ?_ <;> (try simp only [List.getElem_toArray, List.getElem_cons_succ, List.getElem_cons_zero]))
              · (refine ZStep.build1 Tryz.elem_cols (us := [.int .i64 id, .string x1, .int .i64 kd, .bool q1, .int .i64 d.kind, .int .i64 d.num, .string d.text]) (by (first | rfl | exact wanted_true rfl rfl rfl (by assumption))) (fun w h => h.sub (by simp)) rfl rfl rfl (by decide) (fun ge => ?_); try simp only [Act.put, List.setIfInBounds_toArray, List.set_cons_zero, List.set_cons_succ])
                (refine BraidZ.next2 (i := 4) (j := 5) (by kernel_rfl) (by kernel_rfl) rfl rfl ?_ ?_ <;> (try simp only [List.getElem_toArray, List.getElem_cons_succ, List.getElem_cons_zero]))
                · (refine ZStep.append Tryz.elem_cols (by (first | rfl | exact wanted_true rfl rfl rfl (by assumption))) (.tmp 177) (.tmp 179) rfl 3 rfl (by (try simp only [List.eraseIdx_cons_zero, List.eraseIdx_cons_succ]); rfl) rfl ⟨ge, 0, none⟩ rfl rfl (fun w hS jj u hu => World.news_of_block (hS.blkAt 0 rfl) jj u (by simpa using hu)) (by simp [Value.oneCell']) (by omega) (by omega) (fun w h => h.sub (by first | simp | ((try simp only [List.eraseIdx_cons_zero, List.eraseIdx_cons_succ]); (repeat (first | exact List.nil_sublist _ | exact List.Sublist.refl _ | with_reducible apply List.Sublist.cons₂ | apply List.Sublist.cons))))) (fun A3 c3 => ?_); try simp only [Act.put, List.setIfInBounds_toArray, List.set_cons_zero, List.set_cons_succ])
                  (refine BraidZ.earlyN (i := 15) (by kernel_rfl) (by kernel_rfl) (by kernel_rfl) (by kernel_rfl) rfl (fun _ _ h hx => h.step hx) ?_; (try simp only [List.getElem_toArray, List.getElem_cons_succ, List.getElem_cons_zero]); refine EStep.val (by (first | rfl | exact wanted_true rfl rfl rfl (by assumption))) (fun w => by go_simp; with_reducible rfl) ?_; try simp only [Act.put, List.setIfInBounds_toArray, List.set_cons_zero, List.set_cons_succ])
                  (refine BraidZ.next1 (i := 5) (by kernel_rfl) (by kernel_rfl) rfl ?_; (try simp only [List.getElem_toArray, List.getElem_cons_succ, List.getElem_cons_zero]))
                  (refine ZStep.val (by (first | rfl | exact wanted_true rfl rfl rfl (by assumption))) (fun w h => h.sub (by first | simp | ((try simp only [List.eraseIdx_cons_zero, List.eraseIdx_cons_succ]); (repeat (first | exact List.nil_sublist _ | exact List.Sublist.refl _ | with_reducible apply List.Sublist.cons₂ | apply List.Sublist.cons))))) (by rintro w hS; ((try clear hF); refine hfI ?_; intro hF); go_simp; with_reducible rfl) ?_; try simp only [Act.put, List.setIfInBounds_toArray, List.set_cons_zero, List.set_cons_succ])
                  (refine BraidZ.earlyN (i := 6) (by kernel_rfl) (by kernel_rfl) (by kernel_rfl) (by kernel_rfl) rfl (fun _ _ h hx => h.step hx) ?_; (try simp only [List.getElem_toArray, List.getElem_cons_succ, List.getElem_cons_zero]); refine EStep.val (by (first | rfl | exact wanted_true rfl rfl rfl (by assumption))) (fun w => by go_simp; with_reducible rfl) ?_; try simp only [Act.put, List.setIfInBounds_toArray, List.set_cons_zero, List.set_cons_succ])
                  (refine BraidZ.earlyN (i := 7) (by kernel_rfl) (by kernel_rfl) (by kernel_rfl) (by kernel_rfl) rfl (fun _ _ h hx => h.step hx) ?_; (try simp only [List.getElem_toArray, List.getElem_cons_succ, List.getElem_cons_zero]); refine EStep.val (by (first | rfl | exact wanted_true rfl rfl rfl (by assumption))) (fun w => by go_simp; with_reducible rfl) ?_; try simp only [Act.put, List.setIfInBounds_toArray, List.set_cons_zero, List.set_cons_succ])
                  (refine BraidZ.earlyN (i := 8) (by kernel_rfl) (by kernel_rfl) (by kernel_rfl) (by kernel_rfl) rfl (fun _ _ h hx => h.step hx) ?_; (try simp only [List.getElem_toArray, List.getElem_cons_succ, List.getElem_cons_zero]); refine EStep.val (by (first | rfl | exact wanted_true rfl rfl rfl (by assumption))) (fun w => by go_simp; with_reducible rfl) ?_; try simp only [Act.put, List.setIfInBounds_toArray, List.set_cons_zero, List.set_cons_succ])
                  (refine BraidZ.earlyN (i := 9) (by kernel_rfl) (by kernel_rfl) (by kernel_rfl) (by kernel_rfl) rfl (fun _ _ h hx => h.step hx) ?_; (try simp only [List.getElem_toArray, List.getElem_cons_succ, List.getElem_cons_zero]); refine EStep.val (by (first | rfl | exact wanted_true rfl rfl rfl (by assumption))) (fun w => by go_simp; with_reducible rfl) ?_; try simp only [Act.put, List.setIfInBounds_toArray, List.set_cons_zero, List.set_cons_succ])
                  (refine BraidZ.earlyN (i := 10) (by kernel_rfl) (by kernel_rfl) (by kernel_rfl) (by kernel_rfl) rfl (fun _ _ h hx => h.step hx) ?_; (try simp only [List.getElem_toArray, List.getElem_cons_succ, List.getElem_cons_zero]); refine EStep.skip (by (first | rfl | exact wanted_false rfl rfl rfl (by assumption))) ?_; try simp only [Act.put, List.setIfInBounds_toArray, List.set_cons_zero, List.set_cons_succ])
                  (refine BraidZ.earlyN (i := 11) (by kernel_rfl) (by kernel_rfl) (by kernel_rfl) (by kernel_rfl) rfl (fun _ _ h hx => h.step hx) ?_; (try simp only [List.getElem_toArray, List.getElem_cons_succ, List.getElem_cons_zero]); refine EStep.val (by (first | rfl | exact wanted_true rfl rfl rfl (by assumption))) (fun w => by go_simp; with_reducible rfl) ?_; try simp only [Act.put, List.setIfInBounds_toArray, List.set_cons_zero, List.set_cons_succ])
                  (refine BraidZ.earlyN (i := 12) (by kernel_rfl) (by kernel_rfl) (by kernel_rfl) (by kernel_rfl) rfl (fun _ _ h hx => h.step hx) ?_; (try simp only [List.getElem_toArray, List.getElem_cons_succ, List.getElem_cons_zero]); refine EStep.val (by (first | rfl | exact wanted_true rfl rfl rfl (by assumption))) (fun w => by go_simp; with_reducible rfl) ?_; try simp only [Act.put, List.setIfInBounds_toArray, List.set_cons_zero, List.set_cons_succ])
                  (refine BraidZ.earlyN (i := 13) (by kernel_rfl) (by kernel_rfl) (by kernel_rfl) (by kernel_rfl) rfl (fun _ _ h hx => h.step hx) ?_; (try simp only [List.getElem_toArray, List.getElem_cons_succ, List.getElem_cons_zero]); refine EStep.skip (by (first | rfl | exact wanted_false rfl rfl rfl (by assumption))) ?_; try simp only [Act.put, List.setIfInBounds_toArray, List.set_cons_zero, List.set_cons_succ])
                  (refine BraidZ.earlyN (i := 14) (by kernel_rfl) (by kernel_rfl) (by kernel_rfl) (by kernel_rfl) rfl (fun _ _ h hx => h.step hx) ?_; (try simp only [List.getElem_toArray, List.getElem_cons_succ, List.getElem_cons_zero]); refine EStep.val (by (first | rfl | exact wanted_true rfl rfl rfl (by assumption))) (fun w => by go_simp; with_reducible rfl) ?_; try simp only [Act.put, List.setIfInBounds_toArray, List.set_cons_zero, List.set_cons_succ])
                  (refine BraidZ.next1 (i := 16) (by kernel_rfl) (by kernel_rfl) rfl ?_; (try simp only [List.getElem_toArray, List.getElem_cons_succ, List.getElem_cons_zero]))
                  (show ZStep _ _ _ true _ _ _ _; refine ZStep.turn (by (first | rfl | exact wanted_true rfl rfl rfl (by assumption))) (fun w hS => ⟨w.setCell ⟨wI.heap.size, 4, none⟩ (.slice A3 (k + 1 : Nat) c3), .inl (by ((try clear hF); refine hfI ?_; intro hF); go_simp), hS.put (i := 6) rfl⟩) ?_; try simp only [Act.put, List.setIfInBounds_toArray, List.set_cons_zero, List.set_cons_succ])
                  (refine BraidZ.next1 (i := 17) (by kernel_rfl) (by kernel_rfl) rfl ?_; (try simp only [List.getElem_toArray, List.getElem_cons_succ, List.getElem_cons_zero]))
                  (show ZStep _ _ _ true _ _ _ _; refine ZStep.turn (by (first | rfl | exact wanted_true rfl rfl rfl (by assumption))) (fun w hS => ⟨w.setCell ⟨gk, 0, none⟩ (.bool false), .inl (by ((try clear hF); refine hfI ?_; intro hF); go_simp), hS.put (i := 5) rfl⟩) ?_; try simp only [Act.put, List.setIfInBounds_toArray, List.set_cons_zero, List.set_cons_succ])
                  (refine BraidZ.last (by kernel_rfl) ?_; (try clear hF); intro wk hS; ((try clear hF); refine hfI ?_; intro hF))
                  go_wp2_with (first | (refine hab ?_; (try clear hF); clear hS; intro wk hS; (try simp only [List.set_cons_zero, List.set_cons_succ, heap_size, heap_set_size] at hS); ((try clear hF); refine hfI ?_; intro hF)) | fail)
                  go_roundw
                  case rel => exact fin _ (by go_num) _ _ _ (((((((hS.drop 1).drop 1).drop 1).front 3 rfl).front 3 rfl).front 3 rfl).front 3 rfl)
                  case measure => simp [intOf]; omega
                · (refine ZStep.val (by (first | rfl | exact wanted_true rfl rfl rfl (by assumption))) (fun w h => h.sub (by first | simp | ((try simp only [List.eraseIdx_cons_zero, List.eraseIdx_cons_succ]); (repeat (first | exact List.nil_sublist _ | exact List.Sublist.refl _ | with_reducible apply List.Sublist.cons₂ | apply List.Sublist.cons))))) (by rintro w hS; ((try clear hF); refine hfI ?_; intro hF); go_simp; with_reducible rfl) ?_; try simp only [Act.put, List.setIfInBounds_toArray, List.set_cons_zero, List.set_cons_succ])
                  (refine BraidZ.next1 (i := 4) (by kernel_rfl) (by kernel_rfl) rfl ?_; (try simp only [List.getElem_toArray, List.getElem_cons_succ, List.getElem_cons_zero]))
                  (refine ZStep.append Tryz.elem_cols (by (first | rfl | exact wanted_true rfl rfl rfl (by assumption))) (.tmp 177) (.tmp 179) rfl 3 rfl (by (try simp only [List.eraseIdx_cons_zero, List.eraseIdx_cons_succ]); rfl) rfl ⟨ge, 0, none⟩ rfl rfl (fun w hS jj u hu => World.news_of_block (hS.blkAt 0 rfl) jj u (by simpa using hu)) (by simp [Value.oneCell']) (by omega) (by omega) (fun w h => h.sub (by first | simp | ((try simp only [List.eraseIdx_cons_zero, List.eraseIdx_cons_succ]); (repeat (first | exact List.nil_sublist _ | exact List.Sublist.refl _ | with_reducible apply List.Sublist.cons₂ | apply List.Sublist.cons))))) (fun A3 c3 => ?_); try simp only [Act.put, List.setIfInBounds_toArray, List.set_cons_zero, List.set_cons_succ])
                  (refine BraidZ.earlyN (i := 15) (by kernel_rfl) (by kernel_rfl) (by kernel_rfl) (by kernel_rfl) rfl (fun _ _ h hx => h.step hx) ?_; (try simp only [List.getElem_toArray, List.getElem_cons_succ, List.getElem_cons_zero]); refine EStep.val (by (first | rfl | exact wanted_true rfl rfl rfl (by assumption))) (fun w => by go_simp; with_reducible rfl) ?_; try simp only [Act.put, List.setIfInBounds_toArray, List.set_cons_zero, List.set_cons_succ])
                  (refine BraidZ.earlyN (i := 6) (by kernel_rfl) (by kernel_rfl) (by kernel_rfl) (by kernel_rfl) rfl (fun _ _ h hx => h.step hx) ?_; (try simp only [List.getElem_toArray, List.getElem_cons_succ, List.getElem_cons_zero]); refine EStep.val (by (first | rfl | exact wanted_true rfl rfl rfl (by assumption))) (fun w => by go_simp; with_reducible rfl) ?_; try simp only [Act.put, List.setIfInBounds_toArray, List.set_cons_zero, List.set_cons_succ])
                  (refine BraidZ.earlyN (i := 7) (by kernel_rfl) (by kernel_rfl) (by kernel_rfl) (by kernel_rfl) rfl (fun _ _ h hx => h.step hx) ?_; (try simp only [List.getElem_toArray, List.getElem_cons_succ, List.getElem_cons_zero]); refine EStep.val (by (first | rfl | exact wanted_true rfl rfl rfl (by assumption))) (fun w => by go_simp; with_reducible rfl) ?_; try simp only [Act.put, List.setIfInBounds_toArray, List.set_cons_zero, List.set_cons_succ])
                  (refine BraidZ.earlyN (i := 8) (by kernel_rfl) (by kernel_rfl) (by kernel_rfl) (by kernel_rfl) rfl (fun _ _ h hx => h.step hx) ?_; (try simp only [List.getElem_toArray, List.getElem_cons_succ, List.getElem_cons_zero]); refine EStep.val (by (first | rfl | exact wanted_true rfl rfl rfl (by assumption))) (fun w => by go_simp; with_reducible rfl) ?_; try simp only [Act.put, List.setIfInBounds_toArray, List.set_cons_zero, List.set_cons_succ])
                  (refine BraidZ.earlyN (i := 9) (by kernel_rfl) (by kernel_rfl) (by kernel_rfl) (by kernel_rfl) rfl (fun _ _ h hx => h.step hx) ?_; (try simp only [List.getElem_toArray, List.getElem_cons_succ, List.getElem_cons_zero]); refine EStep.val (by (first | rfl | exact wanted_true rfl rfl rfl (by assumption))) (fun w => by go_simp; with_reducible rfl) ?_; try simp only [Act.put, List.setIfInBounds_toArray, List.set_cons_zero, List.set_cons_succ])
                  (refine BraidZ.earlyN (i := 10) (by kernel_rfl) (by kernel_rfl) (by kernel_rfl) (by kernel_rfl) rfl (fun _ _ h hx => h.step hx) ?_; (try simp only [List.getElem_toArray, List.getElem_cons_succ, List.getElem_cons_zero]); refine EStep.skip (by (first | rfl | exact wanted_false rfl rfl rfl (by assumption))) ?_; try simp only [Act.put, List.setIfInBounds_toArray, List.set_cons_zero, List.set_cons_succ])
                  (refine BraidZ.earlyN (i := 11) (by kernel_rfl) (by kernel_rfl) (by kernel_rfl) (by kernel_rfl) rfl (fun _ _ h hx => h.step hx) ?_; (try simp only [List.getElem_toArray, List.getElem_cons_succ, List.getElem_cons_zero]); refine EStep.val (by (first | rfl | exact wanted_true rfl rfl rfl (by assumption))) (fun w => by go_simp; with_reducible rfl) ?_; try simp only [Act.put, List.setIfInBounds_toArray, List.set_cons_zero, List.set_cons_succ])
                  (refine BraidZ.earlyN (i := 12) (by kernel_rfl) (by kernel_rfl) (by kernel_rfl) (by kernel_rfl) rfl (fun _ _ h hx => h.step hx) ?_; (try simp only [List.getElem_toArray, List.getElem_cons_succ, List.getElem_cons_zero]); refine EStep.val (by (first | rfl | exact wanted_true rfl rfl rfl (by assumption))) (fun w => by go_simp; with_reducible rfl) ?_; try simp only [Act.put, List.setIfInBounds_toArray, List.set_cons_zero, List.set_cons_succ])
                  (refine BraidZ.earlyN (i := 13) (by kernel_rfl) (by kernel_rfl) (by kernel_rfl) (by kernel_rfl) rfl (fun _ _ h hx => h.step hx) ?_; (try simp only [List.getElem_toArray, List.getElem_cons_succ, List.getElem_cons_zero]); refine EStep.skip (by (first | rfl | exact wanted_false rfl rfl rfl (by assumption))) ?_; try simp only [Act.put, List.setIfInBounds_toArray, List.set_cons_zero, List.set_cons_succ])
                  (refine BraidZ.earlyN (i := 14) (by kernel_rfl) (by kernel_rfl) (by kernel_rfl) (by kernel_rfl) rfl (fun _ _ h hx => h.step hx) ?_; (try simp only [List.getElem_toArray, List.getElem_cons_succ, List.getElem_cons_zero]); refine EStep.val (by (first | rfl | exact wanted_true rfl rfl rfl (by assumption))) (fun w => by go_simp; with_reducible rfl) ?_; try simp only [Act.put, List.setIfInBounds_toArray, List.set_cons_zero, List.set_cons_succ])
                  (refine BraidZ.next1 (i := 16) (by kernel_rfl) (by kernel_rfl) rfl ?_; (try simp only [List.getElem_toArray, List.getElem_cons_succ, List.getElem_cons_zero]))
                  (show ZStep _ _ _ true _ _ _ _; refine ZStep.turn (by (first | rfl | exact wanted_true rfl rfl rfl (by assumption))) (fun w hS => ⟨w.setCell ⟨wI.heap.size, 4, none⟩ (.slice A3 (k + 1 : Nat) c3), .inl (by ((try clear hF); refine hfI ?_; intro hF); go_simp), hS.put (i := 6) rfl⟩) ?_; try simp only [Act.put, List.setIfInBounds_toArray, List.set_cons_zero, List.set_cons_succ])
                  (refine BraidZ.next1 (i := 17) (by kernel_rfl) (by kernel_rfl) rfl ?_; (try simp only [List.getElem_toArray, List.getElem_cons_succ, List.getElem_cons_zero]))
                  (show ZStep _ _ _ true _ _ _ _; refine ZStep.turn (by (first | rfl | exact wanted_true rfl rfl rfl (by assumption))) (fun w hS => ⟨w.setCell ⟨gk, 0, none⟩ (.bool false), .inl (by ((try clear hF); refine hfI ?_; intro hF); go_simp), hS.put (i := 5) rfl⟩) ?_; try simp only [Act.put, List.setIfInBounds_toArray, List.set_cons_zero, List.set_cons_succ])
                  (refine BraidZ.last (by kernel_rfl) ?_; (try clear hF); intro wk hS; ((try clear hF); refine hfI ?_; intro hF))
                  go_wp2_with (first | (refine hab ?_; (try clear hF); clear hS; intro wk hS; (try simp only [List.set_cons_zero, List.set_cons_succ, heap_size, heap_set_size] at hS); ((try clear hF); refine hfI ?_; intro hF)) | fail)
                  go_roundw
                  case rel => exact fin _ (by go_num) _ _ _ (((((((hS.drop 1).drop 1).drop 1).front 3 rfl).front 3 rfl).front 3 rfl).front 3 rfl)
                  case measure => simp [intOf]; omega
              · (refine ZStep.val (by (first | rfl | exact wanted_true rfl rfl rfl (by assumption))) (fun w h => h.sub (by first | simp | ((try simp only [List.eraseIdx_cons_zero, List.eraseIdx_cons_succ]); (repeat (first | exact List.nil_sublist _ | exact List.Sublist.refl _ | with_reducible apply List.Sublist.cons₂ | apply List.Sublist.cons))))) (by rintro w hS; ((try clear hF); refine hfI ?_; intro hF); go_simp; with_reducible rfl) ?_; try simp only [Act.put, List.setIfInBounds_toArray, List.set_cons_zero, List.set_cons_succ])
                (refine BraidZ.next1 (i := 3) (by kernel_rfl) (by kernel_rfl) rfl ?_; (try simp only [List.getElem_toArray, List.getElem_cons_succ, List.getElem_cons_zero]))
                (refine ZStep.build1 Tryz.elem_cols (us := [.int .i64 id, .string x1, .int .i64 kd, .bool q1, .int .i64 d.kind, .int .i64 d.num, .string d.text]) (by (first | rfl | exact wanted_true rfl rfl rfl (by assumption))) (fun w h => h.sub (by simp)) rfl rfl rfl (by decide) (fun ge => ?_); try simp only [Act.put, List.setIfInBounds_toArray, List.set_cons_zero, List.set_cons_succ])
                (refine BraidZ.next1 (i := 4) (by kernel_rfl) (by kernel_rfl) rfl ?_; (try simp only [List.getElem_toArray, List.getElem_cons_succ, List.getElem_cons_zero]))
                (refine ZStep.append Tryz.elem_cols (by (first | rfl | exact wanted_true rfl rfl rfl (by assumption))) (.tmp 177) (.tmp 179) rfl 3 rfl (by (try simp only [List.eraseIdx_cons_zero, List.eraseIdx_cons_succ]); rfl) rfl ⟨ge, 0, none⟩ rfl rfl (fun w hS jj u hu => World.news_of_block (hS.blkAt 0 rfl) jj u (by simpa using hu)) (by simp [Value.oneCell']) (by omega) (by omega) (fun w h => h.sub (by first | simp | ((try simp only [List.eraseIdx_cons_zero, List.eraseIdx_cons_succ]); (repeat (first | exact List.nil_sublist _ | exact List.Sublist.refl _ | with_reducible apply List.Sublist.cons₂ | apply List.Sublist.cons))))) (fun A3 c3 => ?_); try simp only [Act.put, List.setIfInBounds_toArray, List.set_cons_zero, List.set_cons_succ])
                (refine BraidZ.earlyN (i := 15) (by kernel_rfl) (by kernel_rfl) (by kernel_rfl) (by kernel_rfl) rfl (fun _ _ h hx => h.step hx) ?_; (try simp only [List.getElem_toArray, List.getElem_cons_succ, List.getElem_cons_zero]); refine EStep.val (by (first | rfl | exact wanted_true rfl rfl rfl (by assumption))) (fun w => by go_simp; with_reducible rfl) ?_; try simp only [Act.put, List.setIfInBounds_toArray, List.set_cons_zero, List.set_cons_succ])
                (refine BraidZ.earlyN (i := 6) (by kernel_rfl) (by kernel_rfl) (by kernel_rfl) (by kernel_rfl) rfl (fun _ _ h hx => h.step hx) ?_; (try simp only [List.getElem_toArray, List.getElem_cons_succ, List.getElem_cons_zero]); refine EStep.val (by (first | rfl | exact wanted_true rfl rfl rfl (by assumption))) (fun w => by go_simp; with_reducible rfl) ?_; try simp only [Act.put, List.setIfInBounds_toArray, List.set_cons_zero, List.set_cons_succ])
                (refine BraidZ.earlyN (i := 7) (by kernel_rfl) (by kernel_rfl) (by kernel_rfl) (by kernel_rfl) rfl (fun _ _ h hx => h.step hx) ?_; (try simp only [List.getElem_toArray, List.getElem_cons_succ, List.getElem_cons_zero]); refine EStep.val (by (first | rfl | exact wanted_true rfl rfl rfl (by assumption))) (fun w => by go_simp; with_reducible rfl) ?_; try simp only [Act.put, List.setIfInBounds_toArray, List.set_cons_zero, List.set_cons_succ])
                (refine BraidZ.earlyN (i := 8) (by kernel_rfl) (by kernel_rfl) (by kernel_rfl) (by kernel_rfl) rfl (fun _ _ h hx => h.step hx) ?_; (try simp only [List.getElem_toArray, List.getElem_cons_succ, List.getElem_cons_zero]); refine EStep.val (by (first | rfl | exact wanted_true rfl rfl rfl (by assumption))) (fun w => by go_simp; with_reducible rfl) ?_; try simp only [Act.put, List.setIfInBounds_toArray, List.set_cons_zero, List.set_cons_succ])
                (refine BraidZ.earlyN (i := 9) (by kernel_rfl) (by kernel_rfl) (by kernel_rfl) (by kernel_rfl) rfl (fun _ _ h hx => h.step hx) ?_; (try simp only [List.getElem_toArray, List.getElem_cons_succ, List.getElem_cons_zero]); refine EStep.val (by (first | rfl | exact wanted_true rfl rfl rfl (by assumption))) (fun w => by go_simp; with_reducible rfl) ?_; try simp only [Act.put, List.setIfInBounds_toArray, List.set_cons_zero, List.set_cons_succ])
                (refine BraidZ.earlyN (i := 10) (by kernel_rfl) (by kernel_rfl) (by kernel_rfl) (by kernel_rfl) rfl (fun _ _ h hx => h.step hx) ?_; (try simp only [List.getElem_toArray, List.getElem_cons_succ, List.getElem_cons_zero]); refine EStep.skip (by (first | rfl | exact wanted_false rfl rfl rfl (by assumption))) ?_; try simp only [Act.put, List.setIfInBounds_toArray, List.set_cons_zero, List.set_cons_succ])
                (refine BraidZ.earlyN (i := 11) (by kernel_rfl) (by kernel_rfl) (by kernel_rfl) (by kernel_rfl) rfl (fun _ _ h hx => h.step hx) ?_; (try simp only [List.getElem_toArray, List.getElem_cons_succ, List.getElem_cons_zero]); refine EStep.val (by (first | rfl | exact wanted_true rfl rfl rfl (by assumption))) (fun w => by go_simp; with_reducible rfl) ?_; try simp only [Act.put, List.setIfInBounds_toArray, List.set_cons_zero, List.set_cons_succ])
                (refine BraidZ.earlyN (i := 12) (by kernel_rfl) (by kernel_rfl) (by kernel_rfl) (by kernel_rfl) rfl (fun _ _ h hx => h.step hx) ?_; (try simp only [List.getElem_toArray, List.getElem_cons_succ, List.getElem_cons_zero]); refine EStep.val (by (first | rfl | exact wanted_true rfl rfl rfl (by assumption))) (fun w => by go_simp; with_reducible rfl) ?_; try simp only [Act.put, List.setIfInBounds_toArray, List.set_cons_zero, List.set_cons_succ])
                (refine BraidZ.earlyN (i := 13) (by kernel_rfl) (by kernel_rfl) (by kernel_rfl) (by kernel_rfl) rfl (fun _ _ h hx => h.step hx) ?_; (try simp only [List.getElem_toArray, List.getElem_cons_succ, List.getElem_cons_zero]); refine EStep.skip (by (first | rfl | exact wanted_false rfl rfl rfl (by assumption))) ?_; try simp only [Act.put, List.setIfInBounds_toArray, List.set_cons_zero, List.set_cons_succ])
                (refine BraidZ.earlyN (i := 14) (by kernel_rfl) (by kernel_rfl) (by kernel_rfl) (by kernel_rfl) rfl (fun _ _ h hx => h.step hx) ?_; (try simp only [List.getElem_toArray, List.getElem_cons_succ, List.getElem_cons_zero]); refine EStep.val (by (first | rfl | exact wanted_true rfl rfl rfl (by assumption))) (fun w => by go_simp; with_reducible rfl) ?_; try simp only [Act.put, List.setIfInBounds_toArray, List.set_cons_zero, List.set_cons_succ])
                (refine BraidZ.next1 (i := 16) (by kernel_rfl) (by kernel_rfl) rfl ?_; (try simp only [List.getElem_toArray, List.getElem_cons_succ, List.getElem_cons_zero]))
                (show ZStep _ _ _ true _ _ _ _; refine ZStep.turn (by (first | rfl | exact wanted_true rfl rfl rfl (by assumption))) (fun w hS => ⟨w.setCell ⟨wI.heap.size, 4, none⟩ (.slice A3 (k + 1 : Nat) c3), .inl (by ((try clear hF); refine hfI ?_; intro hF); go_simp), hS.put (i := 6) rfl⟩) ?_; try simp only [Act.put, List.setIfInBounds_toArray, List.set_cons_zero, List.set_cons_succ])
                (refine BraidZ.next1 (i := 17) (by kernel_rfl) (by kernel_rfl) rfl ?_; (try simp only [List.getElem_toArray, List.getElem_cons_succ, List.getElem_cons_zero]))
                (show ZStep _ _ _ true _ _ _ _; refine ZStep.turn (by (first | rfl | exact wanted_true rfl rfl rfl (by assumption))) (fun w hS => ⟨w.setCell ⟨gk, 0, none⟩ (.bool false), .inl (by ((try clear hF); refine hfI ?_; intro hF); go_simp), hS.put (i := 5) rfl⟩) ?_; try simp only [Act.put, List.setIfInBounds_toArray, List.set_cons_zero, List.set_cons_succ])
                (refine BraidZ.last (by kernel_rfl) ?_; (try clear hF); intro wk hS; ((try clear hF); refine hfI ?_; intro hF))
                go_wp2_with (first | (refine hab ?_; (try clear hF); clear hS; intro wk hS; (try simp only [List.set_cons_zero, List.set_cons_succ, heap_size, heap_set_size] at hS); ((try clear hF); refine hfI ?_; intro hF)) | fail)
                go_roundw
                case rel => exact fin _ (by go_num) _ _ _ (((((((hS.drop 1).drop 1).drop 1).front 3 rfl).front 3 rfl).front 3 rfl).front 3 rfl)
                case measure => simp [intOf]; omega
            | true =>
              cases e2 with
              | false =>
                have fin := fun iv hiv wz A3 c3 => fin.out iv hiv wz A3 c3 false rfl
                ((with_reducible refine wp_region_braidz_hp [.q, .q, .q, .t, .t, .t, .t, .t, .t, .t, .t, .t, .t, .t, .t, .t, .t, .t] 6 [.blk gc [.int .i64 id, .string x1, .int .i64 kd, .bool q1, .int .i64 d.kind, .int .i64 d.num, .string d.text] 61, .blk wI.heap.size [.int .i64 4, .string ⟨#[]⟩, .int .i64 0, .slice none 0 0, .slice Ar k cr, .int .i64 nx] 63] (by kernel_rfl) rfl (by kernel_rfl) hS (fun w h => h.sub (by simp)) ?_); clear hS; (repeat ((with_reducible refine Walk.here ?_); (first | ((with_reducible apply Walk.skipQ); (first | rfl | exact wanted_false rfl rfl rfl (by assumption)); (try simp only [Mark.isQ, if_true, Bool.false_eq_true, if_false, Act.put, List.setIfInBounds_toArray, List.set_cons_zero, List.set_cons_succ])) | ((with_reducible apply Walk.val); (first | rfl | exact wanted_true rfl rfl rfl (by assumption)); (rintro w hS; ((try clear hF); refine hfI ?_; intro hF); go_simp; first | with_reducible rfl | (rw [if_neg (by first | omega | (simp only [ByteArray.size_append]; omega) | (simp [ByteArray.size_append]; omega))]; try with_reducible rfl)); (try simp only [Mark.isQ, if_true, Bool.false_eq_true, if_false, Act.put, List.setIfInBounds_toArray, List.set_cons_zero, List.set_cons_succ])) | ((with_reducible apply Walk.tail); (try simp only [Mark.isQ, if_true, Bool.false_eq_true, if_false, Act.put, List.setIfInBounds_toArray, List.set_cons_zero, List.set_cons_succ])) | ((with_reducible apply Walk.guardT); rfl; rfl; rfl; (all_goals intro hg)) | ((with_reducible apply Walk.guardF); rfl; rfl; rfl; (all_goals intro hg))))); refine Walk.done ?_; show BraidZ _ _ _ _ 6 15 [3, 4, 5, 6, 7, 8, 9, 10, 11, 12, 13, 14, 15, 16, 17] _ _)
                (refine BraidZ.next2 (i := 3) (j := 5) (by kernel_rfl) (by kernel_rfl) rfl rfl ?_ ?_ <;> (try simp only [List.getElem_toArray, List.getElem_cons_succ, List.getElem_cons_zero]))
                · (refine ZStep.build1 Tryz.elem_cols (us := [.int .i64 id, .string x1, .int .i64 kd, .bool q1, .int .i64 d.kind, .int .i64 d.num, .string d.text]) (by (first | rfl | exact wanted_true rfl rfl rfl (by assumption))) (fun w h => h.sub (by simp)) rfl rfl rfl (by decide) (fun ge => ?_); try simp only [Act.put, List.setIfInBounds_toArray, List.set_cons_zero, List.set_cons_succ])
                  (refine BraidZ.next2 (i := 4) (j := 5) (by kernel_rfl) (by kernel_rfl) rfl rfl ?_ ?_ <;> (try simp only [List.getElem_toArray, List.getElem_cons_succ, List.getElem_cons_zero]))
                  · (refine ZStep.append Tryz.elem_cols (by (first | rfl | exact wanted_true rfl rfl rfl (by assumption))) (.tmp 177) (.tmp 179) rfl 3 rfl (by (try simp only [List.eraseIdx_cons_zero, List.eraseIdx_cons_succ]); rfl) rfl ⟨ge, 0, none⟩ rfl rfl (fun w hS jj u hu => World.news_of_block (hS.blkAt 0 rfl) jj u (by simpa using hu)) (by simp [Value.oneCell']) (by omega) (by omega) (fun w h => h.sub (by first | simp | ((try simp only [List.eraseIdx_cons_zero, List.eraseIdx_cons_succ]); (repeat (first | exact List.nil_sublist _ | exact List.Sublist.refl _ | with_reducible apply List.Sublist.cons₂ | apply List.Sublist.cons))))) (fun A3 c3 => ?_); try simp only [Act.put, List.setIfInBounds_toArray, List.set_cons_zero, List.set_cons_succ])
                    (refine BraidZ.earlyN (i := 15) (by kernel_rfl) (by kernel_rfl) (by kernel_rfl) (by kernel_rfl) rfl (fun _ _ h hx => h.step hx) ?_; (try simp only [List.getElem_toArray, List.getElem_cons_succ, List.getElem_cons_zero]); refine EStep.val (by (first | rfl | exact wanted_true rfl rfl rfl (by assumption))) (fun w => by go_simp; with_reducible rfl) ?_; try simp only [Act.put, List.setIfInBounds_toArray, List.set_cons_zero, List.set_cons_succ])
                    (refine BraidZ.next1 (i := 5) (by kernel_rfl) (by kernel_rfl) rfl ?_; (try simp only [List.getElem_toArray, List.getElem_cons_succ, List.getElem_cons_zero]))
                    (refine ZStep.val (by (first | rfl | exact wanted_true rfl rfl rfl (by assumption))) (fun w h => h.sub (by first | simp | ((try simp only [List.eraseIdx_cons_zero, List.eraseIdx_cons_succ]); (repeat (first | exact List.nil_sublist _ | exact List.Sublist.refl _ | with_reducible apply List.Sublist.cons₂ | apply List.Sublist.cons))))) (by rintro w hS; ((try clear hF); refine hfI ?_; intro hF); go_simp; with_reducible rfl) ?_; try simp only [Act.put, List.setIfInBounds_toArray, List.set_cons_zero, List.set_cons_succ])
                    (refine BraidZ.earlyN (i := 6) (by kernel_rfl) (by kernel_rfl) (by kernel_rfl) (by kernel_rfl) rfl (fun _ _ h hx => h.step hx) ?_; (try simp only [List.getElem_toArray, List.getElem_cons_succ, List.getElem_cons_zero]); refine EStep.val (by (first | rfl | exact wanted_true rfl rfl rfl (by assumption))) (fun w => by go_simp; with_reducible rfl) ?_; try simp only [Act.put, List.setIfInBounds_toArray, List.set_cons_zero, List.set_cons_succ])
                    (refine BraidZ.earlyN (i := 7) (by kernel_rfl) (by kernel_rfl) (by kernel_rfl) (by kernel_rfl) rfl (fun _ _ h hx => h.step hx) ?_; (try simp only [List.getElem_toArray, List.getElem_cons_succ, List.getElem_cons_zero]); refine EStep.val (by (first | rfl | exact wanted_true rfl rfl rfl (by assumption))) (fun w => by go_simp; with_reducible rfl) ?_; try simp only [Act.put, List.setIfInBounds_toArray, List.set_cons_zero, List.set_cons_succ])
                    (refine BraidZ.earlyN (i := 8) (by kernel_rfl) (by kernel_rfl) (by kernel_rfl) (by kernel_rfl) rfl (fun _ _ h hx => h.step hx) ?_; (try simp only [List.getElem_toArray, List.getElem_cons_succ, List.getElem_cons_zero]); refine EStep.val (by (first | rfl | exact wanted_true rfl rfl rfl (by assumption))) (fun w => by go_simp; with_reducible rfl) ?_; try simp only [Act.put, List.setIfInBounds_toArray, List.set_cons_zero, List.set_cons_succ])
                    (refine BraidZ.earlyN (i := 9) (by kernel_rfl) (by kernel_rfl) (by kernel_rfl) (by kernel_rfl) rfl (fun _ _ h hx => h.step hx) ?_; (try simp only [List.getElem_toArray, List.getElem_cons_succ, List.getElem_cons_zero]); refine EStep.val (by (first | rfl | exact wanted_true rfl rfl rfl (by assumption))) (fun w => by go_simp; with_reducible rfl) ?_; try simp only [Act.put, List.setIfInBounds_toArray, List.set_cons_zero, List.set_cons_succ])
                    (refine BraidZ.earlyN (i := 10) (by kernel_rfl) (by kernel_rfl) (by kernel_rfl) (by kernel_rfl) rfl (fun _ _ h hx => h.step hx) ?_; (try simp only [List.getElem_toArray, List.getElem_cons_succ, List.getElem_cons_zero]); refine EStep.val (by (first | rfl | exact wanted_true rfl rfl rfl (by assumption))) (fun w => by go_simp; with_reducible rfl) ?_; try simp only [Act.put, List.setIfInBounds_toArray, List.set_cons_zero, List.set_cons_succ])
                    (refine BraidZ.earlyN (i := 11) (by kernel_rfl) (by kernel_rfl) (by kernel_rfl) (by kernel_rfl) rfl (fun _ _ h hx => h.step hx) ?_; (try simp only [List.getElem_toArray, List.getElem_cons_succ, List.getElem_cons_zero]); refine EStep.val (by (first | rfl | exact wanted_true rfl rfl rfl (by assumption))) (fun w => by go_simp; with_reducible rfl) ?_; try simp only [Act.put, List.setIfInBounds_toArray, List.set_cons_zero, List.set_cons_succ])
                    (refine BraidZ.earlyN (i := 12) (by kernel_rfl) (by kernel_rfl) (by kernel_rfl) (by kernel_rfl) rfl (fun _ _ h hx => h.step hx) ?_; (try simp only [List.getElem_toArray, List.getElem_cons_succ, List.getElem_cons_zero]); refine EStep.val (by (first | rfl | exact wanted_true rfl rfl rfl (by assumption))) (fun w => by go_simp; with_reducible rfl) ?_; try simp only [Act.put, List.setIfInBounds_toArray, List.set_cons_zero, List.set_cons_succ])
                    (refine BraidZ.earlyN (i := 13) (by kernel_rfl) (by kernel_rfl) (by kernel_rfl) (by kernel_rfl) rfl (fun _ _ h hx => h.step hx) ?_; (try simp only [List.getElem_toArray, List.getElem_cons_succ, List.getElem_cons_zero]); refine EStep.skip (by (first | rfl | exact wanted_false rfl rfl rfl (by assumption))) ?_; try simp only [Act.put, List.setIfInBounds_toArray, List.set_cons_zero, List.set_cons_succ])
                    (refine BraidZ.earlyN (i := 14) (by kernel_rfl) (by kernel_rfl) (by kernel_rfl) (by kernel_rfl) rfl (fun _ _ h hx => h.step hx) ?_; (try simp only [List.getElem_toArray, List.getElem_cons_succ, List.getElem_cons_zero]); refine EStep.val (by (first | rfl | exact wanted_true rfl rfl rfl (by assumption))) (fun w => by go_simp; with_reducible rfl) ?_; try simp only [Act.put, List.setIfInBounds_toArray, List.set_cons_zero, List.set_cons_succ])
                    (refine BraidZ.next1 (i := 16) (by kernel_rfl) (by kernel_rfl) rfl ?_; (try simp only [List.getElem_toArray, List.getElem_cons_succ, List.getElem_cons_zero]))
                    (show ZStep _ _ _ true _ _ _ _; refine ZStep.turn (by (first | rfl | exact wanted_true rfl rfl rfl (by assumption))) (fun w hS => ⟨w.setCell ⟨wI.heap.size, 4, none⟩ (.slice A3 (k + 1 : Nat) c3), .inl (by ((try clear hF); refine hfI ?_; intro hF); go_simp), hS.put (i := 6) rfl⟩) ?_; try simp only [Act.put, List.setIfInBounds_toArray, List.set_cons_zero, List.set_cons_succ])
                    (refine BraidZ.next1 (i := 17) (by kernel_rfl) (by kernel_rfl) rfl ?_; (try simp only [List.getElem_toArray, List.getElem_cons_succ, List.getElem_cons_zero]))
                    (show ZStep _ _ _ true _ _ _ _; refine ZStep.turn (by (first | rfl | exact wanted_true rfl rfl rfl (by assumption))) (fun w hS => ⟨w.setCell ⟨gk, 0, none⟩ (.bool false), .inl (by ((try clear hF); refine hfI ?_; intro hF); go_simp), hS.put (i := 5) rfl⟩) ?_; try simp only [Act.put, List.setIfInBounds_toArray, List.set_cons_zero, List.set_cons_succ])
                    (refine BraidZ.last (by kernel_rfl) ?_; (try clear hF); intro wk hS; ((try clear hF); refine hfI ?_; intro hF))
                    go_wp2_with (first | (refine hab ?_; (try clear hF); clear hS; intro wk hS; (try simp only [List.set_cons_zero, List.set_cons_succ, heap_size, heap_set_size] at hS); ((try clear hF); refine hfI ?_; intro hF)) | fail)
                    go_roundw
                    case rel => exact fin _ (by go_num) _ _ _ (((((((hS.drop 1).drop 1).drop 1).front 3 rfl).front 3 rfl).front 3 rfl).front 3 rfl)
                    case measure => simp [intOf]; omega
                  · (refine ZStep.val (by (first | rfl | exact wanted_true rfl rfl rfl (by assumption))) (fun w h => h.sub (by first | simp | ((try simp only [List.eraseIdx_cons_zero, List.eraseIdx_cons_succ]); (repeat (first | exact List.nil_sublist _ | exact List.Sublist.refl _ | with_reducible apply List.Sublist.cons₂ | apply List.Sublist.cons))))) (by rintro w hS; ((try clear hF); refine hfI ?_; intro hF); go_simp; with_reducible rfl) ?_; try simp only [Act.put, List.setIfInBounds_toArray, List.set_cons_zero, List.set_cons_succ])
                    (refine BraidZ.next1 (i := 4) (by kernel_rfl) (by kernel_rfl) rfl ?_; (try simp only [List.getElem_toArray, List.getElem_cons_succ, List.getElem_cons_zero]))
                    (refine ZStep.append Tryz.elem_cols (by (first | rfl | exact wanted_true rfl rfl rfl (by assumption))) (.tmp 177) (.tmp 179) rfl 3 rfl (by (try simp only [List.eraseIdx_cons_zero, List.eraseIdx_cons_succ]); rfl) rfl ⟨ge, 0, none⟩ rfl rfl (fun w hS jj u hu => World.news_of_block (hS.blkAt 0 rfl) jj u (by simpa using hu)) (by simp [Value.oneCell']) (by omega) (by omega) (fun w h => h.sub (by first | simp | ((try simp only [List.eraseIdx_cons_zero, List.eraseIdx_cons_succ]); (repeat (first | exact List.nil_sublist _ | exact List.Sublist.refl _ | with_reducible apply List.Sublist.cons₂ | apply List.Sublist.cons))))) (fun A3 c3 => ?_); try simp only [Act.put, List.setIfInBounds_toArray, List.set_cons_zero, List.set_cons_succ])
                    (refine BraidZ.earlyN (i := 15) (by kernel_rfl) (by kernel_rfl) (by kernel_rfl) (by kernel_rfl) rfl (fun _ _ h hx => h.step hx) ?_; (try simp only [List.getElem_toArray, List.getElem_cons_succ, List.getElem_cons_zero]); refine EStep.val (by (first | rfl | exact wanted_true rfl rfl rfl (by assumption))) (fun w => by go_simp; with_reducible rfl) ?_; try simp only [Act.put, List.setIfInBounds_toArray, List.set_cons_zero, List.set_cons_succ])
                    (refine BraidZ.earlyN (i := 6) (by kernel_rfl) (by kernel_rfl) (by kernel_rfl) (by kernel_rfl) rfl (fun _ _ h hx => h.step hx) ?_; (try simp only [List.getElem_toArray, List.getElem_cons_succ, List.getElem_cons_zero]); refine EStep.val (by (first | rfl | exact wanted_true rfl rfl rfl (by assumption))) (fun w => by go_simp; with_reducible rfl) ?_; try simp only [Act.put, List.setIfInBounds_toArray, List.set_cons_zero, List.set_cons_succ])
                    (refine BraidZ.earlyN (i := 7) (by kernel_rfl) (by kernel_rfl) (by kernel_rfl) (by kernel_rfl) rfl (fun _ _ h hx => h.step hx) ?_; (try simp only [List.getElem_toArray, List.getElem_cons_succ, List.getElem_cons_zero]); refine EStep.val (by (first | rfl | exact wanted_true rfl rfl rfl (by assumption))) (fun w => by go_simp; with_reducible rfl) ?_; try simp only [Act.put, List.setIfInBounds_toArray, List.set_cons_zero, List.set_cons_succ])
                    (refine BraidZ.earlyN (i := 8) (by kernel_rfl) (by kernel_rfl) (by kernel_rfl) (by kernel_rfl) rfl (fun _ _ h hx => h.step hx) ?_; (try simp only [List.getElem_toArray, List.getElem_cons_succ, List.getElem_cons_zero]); refine EStep.val (by (first | rfl | exact wanted_true rfl rfl rfl (by assumption))) (fun w => by go_simp; with_reducible rfl) ?_; try simp only [Act.put, List.setIfInBounds_toArray, List.set_cons_zero, List.set_cons_succ])
                    (refine BraidZ.earlyN (i := 9) (by kernel_rfl) (by kernel_rfl) (by kernel_rfl) (by kernel_rfl) rfl (fun _ _ h hx => h.step hx) ?_; (try simp only [List.getElem_toArray, List.getElem_cons_succ, List.getElem_cons_zero]); refine EStep.val (by (first | rfl | exact wanted_true rfl rfl rfl (by assumption))) (fun w => by go_simp; with_reducible rfl) ?_; try simp only [Act.put, List.setIfInBounds_toArray, List.set_cons_zero, List.set_cons_succ])
                    (refine BraidZ.earlyN (i := 10) (by kernel_rfl) (by kernel_rfl) (by kernel_rfl) (by kernel_rfl) rfl (fun _ _ h hx => h.step hx) ?_; (try simp only [List.getElem_toArray, List.getElem_cons_succ, List.getElem_cons_zero]); refine EStep.val (by (first | rfl | exact wanted_true rfl rfl rfl (by assumption))) (fun w => by go_simp; with_reducible rfl) ?_; try simp only [Act.put, List.setIfInBounds_toArray, List.set_cons_zero, List.set_cons_succ])
                    (refine BraidZ.earlyN (i := 11) (by kernel_rfl) (by kernel_rfl) (by kernel_rfl) (by kernel_rfl) rfl (fun _ _ h hx => h.step hx) ?_; (try simp only [List.getElem_toArray, List.getElem_cons_succ, List.getElem_cons_zero]); refine EStep.val (by (first | rfl | exact wanted_true rfl rfl rfl (by assumption))) (fun w => by go_simp; with_reducible rfl) ?_; try simp only [Act.put, List.setIfInBounds_toArray, List.set_cons_zero, List.set_cons_succ])
                    (refine BraidZ.earlyN (i := 12) (by kernel_rfl) (by kernel_rfl) (by kernel_rfl) (by kernel_rfl) rfl (fun _ _ h hx => h.step hx) ?_; (try simp only [List.getElem_toArray, List.getElem_cons_succ, List.getElem_cons_zero]); refine EStep.val (by (first | rfl | exact wanted_true rfl rfl rfl (by assumption))) (fun w => by go_simp; with_reducible rfl) ?_; try simp only [Act.put, List.setIfInBounds_toArray, List.set_cons_zero, List.set_cons_succ])
                    (refine BraidZ.earlyN (i := 13) (by kernel_rfl) (by kernel_rfl) (by kernel_rfl) (by kernel_rfl) rfl (fun _ _ h hx => h.step hx) ?_; (try simp only [List.getElem_toArray, List.getElem_cons_succ, List.getElem_cons_zero]); refine EStep.skip (by (first | rfl | exact wanted_false rfl rfl rfl (by assumption))) ?_; try simp only [Act.put, List.setIfInBounds_toArray, List.set_cons_zero, List.set_cons_succ])
                    (refine BraidZ.earlyN (i := 14) (by kernel_rfl) (by kernel_rfl) (by kernel_rfl) (by kernel_rfl) rfl (fun _ _ h hx => h.step hx) ?_; (try simp only [List.getElem_toArray, List.getElem_cons_succ, List.getElem_cons_zero]); refine EStep.val (by (first | rfl | exact wanted_true rfl rfl rfl (by assumption))) (fun w => by go_simp; with_reducible rfl) ?_; try simp only [Act.put, List.setIfInBounds_toArray, List.set_cons_zero, List.set_cons_succ])
                    (refine BraidZ.next1 (i := 16) (by kernel_rfl) (by kernel_rfl) rfl ?_; (try simp only [List.getElem_toArray, List.getElem_cons_succ, List.getElem_cons_zero]))
                    (show ZStep _ _ _ true _ _ _ _; refine ZStep.turn (by (first | rfl | exact wanted_true rfl rfl rfl (by assumption))) (fun w hS => ⟨w.setCell ⟨wI.heap.size, 4, none⟩ (.slice A3 (k + 1 : Nat) c3), .inl (by ((try clear hF); refine hfI ?_; intro hF); go_simp), hS.put (i := 6) rfl⟩) ?_; try simp only [Act.put, List.setIfInBounds_toArray, List.set_cons_zero, List.set_cons_succ])
                    (refine BraidZ.next1 (i := 17) (by kernel_rfl) (by kernel_rfl) rfl ?_; (try simp only [List.getElem_toArray, List.getElem_cons_succ, List.getElem_cons_zero]))
                    (show ZStep _ _ _ true _ _ _ _; refine ZStep.turn (by (first | rfl | exact wanted_true rfl rfl rfl (by assumption))) (fun w hS => ⟨w.setCell ⟨gk, 0, none⟩ (.bool false), .inl (by ((try clear hF); refine hfI ?_; intro hF); go_simp), hS.put (i := 5) rfl⟩) ?_; try simp only [Act.put, List.setIfInBounds_toArray, List.set_cons_zero, List.set_cons_succ])
                    (refine BraidZ.last (by kernel_rfl) ?_; (try clear hF); intro wk hS; ((try clear hF); refine hfI ?_; intro hF))
                    go_wp2_with (first | (refine hab ?_; (try clear hF); clear hS; intro wk hS; (try simp only [List.set_cons_zero, List.set_cons_succ, heap_size, heap_set_size] at hS); ((try clear hF); refine hfI ?_; intro hF)) | fail)
                    go_roundw
                    case rel => exact fin _ (by go_num) _ _ _ (((((((hS.drop 1).drop 1).drop 1).front 3 rfl).front 3 rfl).front 3 rfl).front 3 rfl)
                    case measure => simp [intOf]; omega
                · (refine ZStep.val (by (first | rfl | exact wanted_true rfl rfl rfl (by assumption))) (fun w h => h.sub (by first | simp | ((try simp only [List.eraseIdx_cons_zero, List.eraseIdx_cons_succ]); (repeat (first | exact List.nil_sublist _ | exact List.Sublist.refl _ | with_reducible apply List.Sublist.cons₂ | apply List.Sublist.cons))))) (by rintro w hS; ((try clear hF); refine hfI ?_; intro hF); go_simp; with_reducible rfl) ?_; try simp only [Act.put, List.setIfInBounds_toArray, List.set_cons_zero, List.set_cons_succ])
                  (refine BraidZ.next1 (i := 3) (by kernel_rfl) (by kernel_rfl) rfl ?_; (try simp only [List.getElem_toArray, List.getElem_cons_succ, List.getElem_cons_zero]))
                  (refine ZStep.build1 Tryz.elem_cols (us := [.int .i64 id, .string x1, .int .i64 kd, .bool q1, .int .i64 d.kind, .int .i64 d.num, .string d.text]) (by (first | rfl | exact wanted_true rfl rfl rfl (by assumption))) (fun w h => h.sub (by simp)) rfl rfl rfl (by decide) (fun ge => ?_); try simp only [Act.put, List.setIfInBounds_toArray, List.set_cons_zero, List.set_cons_succ])
                  (refine BraidZ.next1 (i := 4) (by kernel_rfl) (by kernel_rfl) rfl ?_; (try simp only [List.getElem_toArray, List.getElem_cons_succ, List.getElem_cons_zero]))
                  (refine ZStep.append Tryz.elem_cols (by (first | rfl | exact wanted_true rfl rfl rfl (by assumption))) (.tmp 177) (.tmp 179) rfl 3 rfl (by (try simp only [List.eraseIdx_cons_zero, List.eraseIdx_cons_succ]); rfl) rfl ⟨ge, 0, none⟩ rfl rfl (fun w hS jj u hu => World.news_of_block (hS.blkAt 0 rfl) jj u (by simpa using hu)) (by simp [Value.oneCell']) (by omega) (by omega) (fun w h => h.sub (by first | simp | ((try simp only [List.eraseIdx_cons_zero, List.eraseIdx_cons_succ]); (repeat (first | exact List.nil_sublist _ | exact List.Sublist.refl _ | with_reducible apply List.Sublist.cons₂ | apply List.Sublist.cons))))) (fun A3 c3 => ?_); try simp only [Act.put, List.setIfInBounds_toArray, List.set_cons_zero, List.set_cons_succ])
                  (refine BraidZ.earlyN (i := 15) (by kernel_rfl) (by kernel_rfl) (by kernel_rfl) (by kernel_rfl) rfl (fun _ _ h hx => h.step hx) ?_; (try simp only [List.getElem_toArray, List.getElem_cons_succ, List.getElem_cons_zero]); refine EStep.val (by (first | rfl | exact wanted_true rfl rfl rfl (by assumption))) (fun w => by go_simp; with_reducible rfl) ?_; try simp only [Act.put, List.setIfInBounds_toArray, List.set_cons_zero, List.set_cons_succ])
                  (refine BraidZ.earlyN (i := 6) (by kernel_rfl) (by kernel_rfl) (by kernel_rfl) (by kernel_rfl) rfl (fun _ _ h hx => h.step hx) ?_; (try simp only [List.getElem_toArray, List.getElem_cons_succ, List.getElem_cons_zero]); refine EStep.val (by (first | rfl | exact wanted_true rfl rfl rfl (by assumption))) (fun w => by go_simp; with_reducible rfl) ?_; try simp only [Act.put, List.setIfInBounds_toArray, List.set_cons_zero, List.set_cons_succ])
                  (refine BraidZ.earlyN (i := 7) (by kernel_rfl) (by kernel_rfl) (by kernel_rfl) (by kernel_rfl) rfl (fun _ _ h hx => h.step hx) ?_; (try simp only [List.getElem_toArray, List.getElem_cons_succ, List.getElem_cons_zero]); refine EStep.val (by (first | rfl | exact wanted_true rfl rfl rfl (by assumption))) (fun w => by go_simp; with_reducible rfl) ?_; try simp only [Act.put, List.setIfInBounds_toArray, List.set_cons_zero, List.set_cons_succ])
                  (refine BraidZ.earlyN (i := 8) (by kernel_rfl) (by kernel_rfl) (by kernel_rfl) (by kernel_rfl) rfl (fun _ _ h hx => h.step hx) ?_; (try simp only [List.getElem_toArray, List.getElem_cons_succ, List.getElem_cons_zero]); refine EStep.val (by (first | rfl | exact wanted_true rfl rfl rfl (by assumption))) (fun w => by go_simp; with_reducible rfl) ?_; try simp only [Act.put, List.setIfInBounds_toArray, List.set_cons_zero, List.set_cons_succ])
                  (refine BraidZ.earlyN (i := 9) (by kernel_rfl) (by kernel_rfl) (by kernel_rfl) (by kernel_rfl) rfl (fun _ _ h hx => h.step hx) ?_; (try simp only [List.getElem_toArray, List.getElem_cons_succ, List.getElem_cons_zero]); refine EStep.val (by (first | rfl | exact wanted_true rfl rfl rfl (by assumption))) (fun w => by go_simp; with_reducible rfl) ?_; try simp only [Act.put, List.setIfInBounds_toArray, List.set_cons_zero, List.set_cons_succ])
                  (refine BraidZ.earlyN (i := 10) (by kernel_rfl) (by kernel_rfl) (by kernel_rfl) (by kernel_rfl) rfl (fun _ _ h hx => h.step hx) ?_; (try simp only [List.getElem_toArray, List.getElem_cons_succ, List.getElem_cons_zero]); refine EStep.val (by (first | rfl | exact wanted_true rfl rfl rfl (by assumption))) (fun w => by go_simp; with_reducible rfl) ?_; try simp only [Act.put, List.setIfInBounds_toArray, List.set_cons_zero, List.set_cons_succ])
                  (refine BraidZ.earlyN (i := 11) (by kernel_rfl) (by kernel_rfl) (by kernel_rfl) (by kernel_rfl) rfl (fun _ _ h hx => h.step hx) ?_; (try simp only [List.getElem_toArray, List.getElem_cons_succ, List.getElem_cons_zero]); refine EStep.val (by (first | rfl | exact wanted_true rfl rfl rfl (by assumption))) (fun w => by go_simp; with_reducible rfl) ?_; try simp only [Act.put, List.setIfInBounds_toArray, List.set_cons_zero, List.set_cons_succ])
                  (refine BraidZ.earlyN (i := 12) (by kernel_rfl) (by kernel_rfl) (by kernel_rfl) (by kernel_rfl) rfl (fun _ _ h hx => h.step hx) ?_; (try simp only [List.getElem_toArray, List.getElem_cons_succ, List.getElem_cons_zero]); refine EStep.val (by (first | rfl | exact wanted_true rfl rfl rfl (by assumption))) (fun w => by go_simp; with_reducible rfl) ?_; try simp only [Act.put, List.setIfInBounds_toArray, List.set_cons_zero, List.set_cons_succ])
                  (refine BraidZ.earlyN (i := 13) (by kernel_rfl) (by kernel_rfl) (by kernel_rfl) (by kernel_rfl) rfl (fun _ _ h hx => h.step hx) ?_; (try simp only [List.getElem_toArray, List.getElem_cons_succ, List.getElem_cons_zero]); refine EStep.skip (by (first | rfl | exact wanted_false rfl rfl rfl (by assumption))) ?_; try simp only [Act.put, List.setIfInBounds_toArray, List.set_cons_zero, List.set_cons_succ])
                  (refine BraidZ.earlyN (i := 14) (by kernel_rfl) (by kernel_rfl) (by kernel_rfl) (by kernel_rfl) rfl (fun _ _ h hx => h.step hx) ?_; (try simp only [List.getElem_toArray, List.getElem_cons_succ, List.getElem_cons_zero]); refine EStep.val (by (first | rfl | exact wanted_true rfl rfl rfl (by assumption))) (fun w => by go_simp; with_reducible rfl) ?_; try simp only [Act.put, List.setIfInBounds_toArray, List.set_cons_zero, List.set_cons_succ])
                  (refine BraidZ.next1 (i := 16) (by kernel_rfl) (by kernel_rfl) rfl ?_; (try simp only [List.getElem_toArray, List.getElem_cons_succ, List.getElem_cons_zero]))
                  (show ZStep _ _ _ true _ _ _ _; refine ZStep.turn (by (first | rfl | exact wanted_true rfl rfl rfl (by assumption))) (fun w hS => ⟨w.setCell ⟨wI.heap.size, 4, none⟩ (.slice A3 (k + 1 : Nat) c3), .inl (by ((try clear hF); refine hfI ?_; intro hF); go_simp), hS.put (i := 6) rfl⟩) ?_; try simp only [Act.put, List.setIfInBounds_toArray, List.set_cons_zero, List.set_cons_succ])
                  (refine BraidZ.next1 (i := 17) (by kernel_rfl) (by kernel_rfl) rfl ?_; (try simp only [List.getElem_toArray, List.getElem_cons_succ, List.getElem_cons_zero]))
                  (show ZStep _ _ _ true _ _ _ _; refine ZStep.turn (by (first | rfl | exact wanted_true rfl rfl rfl (by assumption))) (fun w hS => ⟨w.setCell ⟨gk, 0, none⟩ (.bool false), .inl (by ((try clear hF); refine hfI ?_; intro hF); go_simp), hS.put (i := 5) rfl⟩) ?_; try simp only [Act.put, List.setIfInBounds_toArray, List.set_cons_zero, List.set_cons_succ])
                  (refine BraidZ.last (by kernel_rfl) ?_; (try clear hF); intro wk hS; ((try clear hF); refine hfI ?_; intro hF))
                  go_wp2_with (first | (refine hab ?_; (try clear hF); clear hS; intro wk hS; (try simp only [List.set_cons_zero, List.set_cons_succ, heap_size, heap_set_size] at hS); ((try clear hF); refine hfI ?_; intro hF)) | fail)
                  go_roundw
                  case rel => exact fin _ (by go_num) _ _ _ (((((((hS.drop 1).drop 1).drop 1).front 3 rfl).front 3 rfl).front 3 rfl).front 3 rfl)
                  case measure => simp [intOf]; omega
              | true =>
                have fin := fun iv hiv wz A3 c3 => fin.out iv hiv wz A3 c3 e3 rfl
                ((with_reducible refine wp_region_braidz_hp [.q, .q, .q, .t, .t, .t, .t, .t, .t, .t, .t, .t, .t, .t, .t, .t, .t, .t] 6 [.blk gc [.int .i64 id, .string x1, .int .i64 kd, .bool q1, .int .i64 d.kind, .int .i64 d.num, .string d.text] 61, .blk wI.heap.size [.int .i64 4, .string ⟨#[]⟩, .int .i64 0, .slice none 0 0, .slice Ar k cr, .int .i64 nx] 63] (by kernel_rfl) rfl (by kernel_rfl) hS (fun w h => h.sub (by simp)) ?_); clear hS; (repeat ((with_reducible refine Walk.here ?_); (first | ((with_reducible apply Walk.skipQ); (first | rfl | exact wanted_false rfl rfl rfl (by assumption)); (try simp only [Mark.isQ, if_true, Bool.false_eq_true, if_false, Act.put, List.setIfInBounds_toArray, List.set_cons_zero, List.set_cons_succ])) | ((with_reducible apply Walk.val); (first | rfl | exact wanted_true rfl rfl rfl (by assumption)); (rintro w hS; ((try clear hF); refine hfI ?_; intro hF); go_simp; first | with_reducible rfl | (rw [if_neg (by first | omega | (simp only [ByteArray.size_append]; omega) | (simp [ByteArray.size_append]; omega))]; try with_reducible rfl)); (try simp only [Mark.isQ, if_true, Bool.false_eq_true, if_false, Act.put, List.setIfInBounds_toArray, List.set_cons_zero, List.set_cons_succ])) | ((with_reducible apply Walk.tail); (try simp only [Mark.isQ, if_true, Bool.false_eq_true, if_false, Act.put, List.setIfInBounds_toArray, List.set_cons_zero, List.set_cons_succ])) | ((with_reducible apply Walk.guardT); rfl; rfl; rfl; (all_goals intro hg)) | ((with_reducible apply Walk.guardF); rfl; rfl; rfl; (all_goals intro hg))))); refine Walk.done ?_; show BraidZ _ _ _ _ 6 15 [3, 4, 5, 6, 7, 8, 9, 10, 11, 12, 13, 14, 15, 16, 17] _ _)
                (refine BraidZ.next2 (i := 3) (j := 5) (by kernel_rfl) (by kernel_rfl) rfl rfl ?_ ?_ <;> (try simp only [List.getElem_toArray, List.getElem_cons_succ, List.getElem_cons_zero]))
                · (refine ZStep.build1 Tryz.elem_cols (us := [.int .i64 id, .string x1, .int .i64 kd, .bool q1, .int .i64 d.kind, .int .i64 d.num, .string d.text]) (by (first | rfl | exact wanted_true rfl rfl rfl (by assumption))) (fun w h => h.sub (by simp)) rfl rfl rfl (by decide) (fun ge => ?_); try simp only [Act.put, List.setIfInBounds_toArray, List.set_cons_zero, List.set_cons_succ])
                  (refine BraidZ.next2 (i := 4) (j := 5) (by kernel_rfl) (by kernel_rfl) rfl rfl ?_ ?_ <;> (try simp only [List.getElem_toArray, List.getElem_cons_succ, List.getElem_cons_zero]))
                  · (refine ZStep.append Tryz.elem_cols (by (first | rfl | exact wanted_true rfl rfl rfl (by assumption))) (.tmp 177) (.tmp 179) rfl 3 rfl (by (try simp only [List.eraseIdx_cons_zero, List.eraseIdx_cons_succ]); rfl) rfl ⟨ge, 0, none⟩ rfl rfl (fun w hS jj u hu => World.news_of_block (hS.blkAt 0 rfl) jj u (by simpa using hu)) (by simp [Value.oneCell']) (by omega) (by omega) (fun w h => h.sub (by first | simp | ((try simp only [List.eraseIdx_cons_zero, List.eraseIdx_cons_succ]); (repeat (first | exact List.nil_sublist _ | exact List.Sublist.refl _ | with_reducible apply List.Sublist.cons₂ | apply List.Sublist.cons))))) (fun A3 c3 => ?_); try simp only [Act.put, List.setIfInBounds_toArray, List.set_cons_zero, List.set_cons_succ])
                    (refine BraidZ.earlyN (i := 15) (by kernel_rfl) (by kernel_rfl) (by kernel_rfl) (by kernel_rfl) rfl (fun _ _ h hx => h.step hx) ?_; (try simp only [List.getElem_toArray, List.getElem_cons_succ, List.getElem_cons_zero]); refine EStep.val (by (first | rfl | exact wanted_true rfl rfl rfl (by assumption))) (fun w => by go_simp; with_reducible rfl) ?_; try simp only [Act.put, List.setIfInBounds_toArray, List.set_cons_zero, List.set_cons_succ])
                    (refine BraidZ.next1 (i := 5) (by kernel_rfl) (by kernel_rfl) rfl ?_; (try simp only [List.getElem_toArray, List.getElem_cons_succ, List.getElem_cons_zero]))
                    (refine ZStep.val (by (first | rfl | exact wanted_true rfl rfl rfl (by assumption))) (fun w h => h.sub (by first | simp | ((try simp only [List.eraseIdx_cons_zero, List.eraseIdx_cons_succ]); (repeat (first | exact List.nil_sublist _ | exact List.Sublist.refl _ | with_reducible apply List.Sublist.cons₂ | apply List.Sublist.cons))))) (by rintro w hS; ((try clear hF); refine hfI ?_; intro hF); go_simp; with_reducible rfl) ?_; try simp only [Act.put, List.setIfInBounds_toArray, List.set_cons_zero, List.set_cons_succ])
                    (refine BraidZ.earlyN (i := 6) (by kernel_rfl) (by kernel_rfl) (by kernel_rfl) (by kernel_rfl) rfl (fun _ _ h hx => h.step hx) ?_; (try simp only [List.getElem_toArray, List.getElem_cons_succ, List.getElem_cons_zero]); refine EStep.val (by (first | rfl | exact wanted_true rfl rfl rfl (by assumption))) (fun w => by go_simp; with_reducible rfl) ?_; try simp only [Act.put, List.setIfInBounds_toArray, List.set_cons_zero, List.set_cons_succ])
                    (refine BraidZ.earlyN (i := 7) (by kernel_rfl) (by kernel_rfl) (by kernel_rfl) (by kernel_rfl) rfl (fun _ _ h hx => h.step hx) ?_; (try simp only [List.getElem_toArray, List.getElem_cons_succ, List.getElem_cons_zero]); refine EStep.val (by (first | rfl | exact wanted_true rfl rfl rfl (by assumption))) (fun w => by go_simp; with_reducible rfl) ?_; try simp only [Act.put, List.setIfInBounds_toArray, List.set_cons_zero, List.set_cons_succ])
                    (refine BraidZ.earlyN (i := 8) (by kernel_rfl) (by kernel_rfl) (by kernel_rfl) (by kernel_rfl) rfl (fun _ _ h hx => h.step hx) ?_; (try simp only [List.getElem_toArray, List.getElem_cons_succ, List.getElem_cons_zero]); refine EStep.val (by (first | rfl | exact wanted_true rfl rfl rfl (by assumption))) (fun w => by go_simp; with_reducible rfl) ?_; try simp only [Act.put, List.setIfInBounds_toArray, List.set_cons_zero, List.set_cons_succ])
                    (refine BraidZ.earlyN (i := 9) (by kernel_rfl) (by kernel_rfl) (by kernel_rfl) (by kernel_rfl) rfl (fun _ _ h hx => h.step hx) ?_; (try simp only [List.getElem_toArray, List.getElem_cons_succ, List.getElem_cons_zero]); refine EStep.val (by (first | rfl | exact wanted_true rfl rfl rfl (by assumption))) (fun w => by go_simp; with_reducible rfl) ?_; try simp only [Act.put, List.setIfInBounds_toArray, List.set_cons_zero, List.set_cons_succ])
                    (refine BraidZ.earlyN (i := 10) (by kernel_rfl) (by kernel_rfl) (by kernel_rfl) (by kernel_rfl) rfl (fun _ _ h hx => h.step hx) ?_; (try simp only [List.getElem_toArray, List.getElem_cons_succ, List.getElem_cons_zero]); refine EStep.val (by (first | rfl | exact wanted_true rfl rfl rfl (by assumption))) (fun w => by go_simp; with_reducible rfl) ?_; try simp only [Act.put, List.setIfInBounds_toArray, List.set_cons_zero, List.set_cons_succ])
                    (refine BraidZ.earlyN (i := 11) (by kernel_rfl) (by kernel_rfl) (by kernel_rfl) (by kernel_rfl) rfl (fun _ _ h hx => h.step hx) ?_; (try simp only [List.getElem_toArray, List.getElem_cons_succ, List.getElem_cons_zero]); refine EStep.val (by (first | rfl | exact wanted_true rfl rfl rfl (by assumption))) (fun w => by go_simp; with_reducible rfl) ?_; try simp only [Act.put, List.setIfInBounds_toArray, List.set_cons_zero, List.set_cons_succ])
                    (refine BraidZ.earlyN (i := 12) (by kernel_rfl) (by kernel_rfl) (by kernel_rfl) (by kernel_rfl) rfl (fun _ _ h hx => h.step hx) ?_; (try simp only [List.getElem_toArray, List.getElem_cons_succ, List.getElem_cons_zero]); refine EStep.val (by (first | rfl | exact wanted_true rfl rfl rfl (by assumption))) (fun w => by go_simp; with_reducible rfl) ?_; try simp only [Act.put, List.setIfInBounds_toArray, List.set_cons_zero, List.set_cons_succ])
                    (refine BraidZ.earlyN (i := 13) (by kernel_rfl) (by kernel_rfl) (by kernel_rfl) (by kernel_rfl) rfl (fun _ _ h hx => h.step hx) ?_; (try simp only [List.getElem_toArray, List.getElem_cons_succ, List.getElem_cons_zero]); refine EStep.val (by (first | rfl | exact wanted_true rfl rfl rfl (by assumption))) (fun w => by go_simp; with_reducible rfl) ?_; try simp only [Act.put, List.setIfInBounds_toArray, List.set_cons_zero, List.set_cons_succ])
                    (refine BraidZ.earlyN (i := 14) (by kernel_rfl) (by kernel_rfl) (by kernel_rfl) (by kernel_rfl) rfl (fun _ _ h hx => h.step hx) ?_; (try simp only [List.getElem_toArray, List.getElem_cons_succ, List.getElem_cons_zero]); refine EStep.val (by (first | rfl | exact wanted_true rfl rfl rfl (by assumption))) (fun w => by go_simp; with_reducible rfl) ?_; try simp only [Act.put, List.setIfInBounds_toArray, List.set_cons_zero, List.set_cons_succ])
                    (refine BraidZ.next1 (i := 16) (by kernel_rfl) (by kernel_rfl) rfl ?_; (try simp only [List.getElem_toArray, List.getElem_cons_succ, List.getElem_cons_zero]))
                    (show ZStep _ _ _ true _ _ _ _; refine ZStep.turn (by (first | rfl | exact wanted_true rfl rfl rfl (by assumption))) (fun w hS => ⟨w.setCell ⟨wI.heap.size, 4, none⟩ (.slice A3 (k + 1 : Nat) c3), .inl (by ((try clear hF); refine hfI ?_; intro hF); go_simp), hS.put (i := 6) rfl⟩) ?_; try simp only [Act.put, List.setIfInBounds_toArray, List.set_cons_zero, List.set_cons_succ])
                    (refine BraidZ.next1 (i := 17) (by kernel_rfl) (by kernel_rfl) rfl ?_; (try simp only [List.getElem_toArray, List.getElem_cons_succ, List.getElem_cons_zero]))
                    (show ZStep _ _ _ true _ _ _ _; refine ZStep.turn (by (first | rfl | exact wanted_true rfl rfl rfl (by assumption))) (fun w hS => ⟨w.setCell ⟨gk, 0, none⟩ (.bool e3), .inl (by ((try clear hF); refine hfI ?_; intro hF); go_simp), hS.put (i := 5) rfl⟩) ?_; try simp only [Act.put, List.setIfInBounds_toArray, List.set_cons_zero, List.set_cons_succ])
                    (refine BraidZ.last (by kernel_rfl) ?_; (try clear hF); intro wk hS; ((try clear hF); refine hfI ?_; intro hF))
                    go_wp2_with (first | (refine hab ?_; (try clear hF); clear hS; intro wk hS; (try simp only [List.set_cons_zero, List.set_cons_succ, heap_size, heap_set_size] at hS); ((try clear hF); refine hfI ?_; intro hF)) | fail)
                    go_roundw
                    case rel => exact fin _ (by go_num) _ _ _ (((((((hS.drop 1).drop 1).drop 1).front 3 rfl).front 3 rfl).front 3 rfl).front 3 rfl)
                    case measure => simp [intOf]; omega
                  · (refine ZStep.val (by (first | rfl | exact wanted_true rfl rfl rfl (by assumption))) (fun w h => h.sub (by first | simp | ((try simp only [List.eraseIdx_cons_zero, List.eraseIdx_cons_succ]); (repeat (first | exact List.nil_sublist _ | exact List.Sublist.refl _ | with_reducible apply List.Sublist.cons₂ | apply List.Sublist.cons))))) (by rintro w hS; ((try clear hF); refine hfI ?_; intro hF); go_simp; with_reducible rfl) ?_; try simp only [Act.put, List.setIfInBounds_toArray, List.set_cons_zero, List.set_cons_succ])
                    (refine BraidZ.next1 (i := 4) (by kernel_rfl) (by kernel_rfl) rfl ?_; (try simp only [List.getElem_toArray, List.getElem_cons_succ, List.getElem_cons_zero]))
                    (refine ZStep.append Tryz.elem_cols (by (first | rfl | exact wanted_true rfl rfl rfl (by assumption))) (.tmp 177) (.tmp 179) rfl 3 rfl (by (try simp only [List.eraseIdx_cons_zero, List.eraseIdx_cons_succ]); rfl) rfl ⟨ge, 0, none⟩ rfl rfl (fun w hS jj u hu => World.news_of_block (hS.blkAt 0 rfl) jj u (by simpa using hu)) (by simp [Value.oneCell']) (by omega) (by omega) (fun w h => h.sub (by first | simp | ((try simp only [List.eraseIdx_cons_zero, List.eraseIdx_cons_succ]); (repeat (first | exact List.nil_sublist _ | exact List.Sublist.refl _ | with_reducible apply List.Sublist.cons₂ | apply List.Sublist.cons))))) (fun A3 c3 => ?_); try simp only [Act.put, List.setIfInBounds_toArray, List.set_cons_zero, List.set_cons_succ])
                    (refine BraidZ.earlyN (i := 15) (by kernel_rfl) (by kernel_rfl) (by kernel_rfl) (by kernel_rfl) rfl (fun _ _ h hx => h.step hx) ?_; (try simp only [List.getElem_toArray, List.getElem_cons_succ, List.getElem_cons_zero]); refine EStep.val (by (first | rfl | exact wanted_true rfl rfl rfl (by assumption))) (fun w => by go_simp; with_reducible rfl) ?_; try simp only [Act.put, List.setIfInBounds_toArray, List.set_cons_zero, List.set_cons_succ])
                    (refine BraidZ.earlyN (i := 6) (by kernel_rfl) (by kernel_rfl) (by kernel_rfl) (by kernel_rfl) rfl (fun _ _ h hx => h.step hx) ?_; (try simp only [List.getElem_toArray, List.getElem_cons_succ, List.getElem_cons_zero]); refine EStep.val (by (first | rfl | exact wanted_true rfl rfl rfl (by assumption))) (fun w => by go_simp; with_reducible rfl) ?_; try simp only [Act.put, List.setIfInBounds_toArray, List.set_cons_zero, List.set_cons_succ])
                    (refine BraidZ.earlyN (i := 7) (by kernel_rfl) (by kernel_rfl) (by kernel_rfl) (by kernel_rfl) rfl (fun _ _ h hx => h.step hx) ?_; (try simp only [List.getElem_toArray, List.getElem_cons_succ, List.getElem_cons_zero]); refine EStep.val (by (first | rfl | exact wanted_true rfl rfl rfl (by assumption))) (fun w => by go_simp; with_reducible rfl) ?_; try simp only [Act.put, List.setIfInBounds_toArray, List.set_cons_zero, List.set_cons_succ])
                    (refine BraidZ.earlyN (i := 8) (by kernel_rfl) (by kernel_rfl) (by kernel_rfl) (by kernel_rfl) rfl (fun _ _ h hx => h.step hx) ?_; (try simp only [List.getElem_toArray, List.getElem_cons_succ, List.getElem_cons_zero]); refine EStep.val (by (first | rfl | exact wanted_true rfl rfl rfl (by assumption))) (fun w => by go_simp; with_reducible rfl) ?_; try simp only [Act.put, List.setIfInBounds_toArray, List.set_cons_zero, List.set_cons_succ])
                    (refine BraidZ.earlyN (i := 9) (by kernel_rfl) (by kernel_rfl) (by kernel_rfl) (by kernel_rfl) rfl (fun _ _ h hx => h.step hx) ?_; (try simp only [List.getElem_toArray, List.getElem_cons_succ, List.getElem_cons_zero]); refine EStep.val (by (first | rfl | exact wanted_true rfl rfl rfl (by assumption))) (fun w => by go_simp; with_reducible rfl) ?_; try simp only [Act.put, List.setIfInBounds_toArray, List.set_cons_zero, List.set_cons_succ])
                    (refine BraidZ.earlyN (i := 10) (by kernel_rfl) (by kernel_rfl) (by kernel_rfl) (by kernel_rfl) rfl (fun _ _ h hx => h.step hx) ?_; (try simp only [List.getElem_toArray, List.getElem_cons_succ, List.getElem_cons_zero]); refine EStep.val (by (first | rfl | exact wanted_true rfl rfl rfl (by assumption))) (fun w => by go_simp; with_reducible rfl) ?_; try simp only [Act.put, List.setIfInBounds_toArray, List.set_cons_zero, List.set_cons_succ])
                    (refine BraidZ.earlyN (i := 11) (by kernel_rfl) (by kernel_rfl) (by kernel_rfl) (by kernel_rfl) rfl (fun _ _ h hx => h.step hx) ?_; (try simp only [List.getElem_toArray, List.getElem_cons_succ, List.getElem_cons_zero]); refine EStep.val (by (first | rfl | exact wanted_true rfl rfl rfl (by assumption))) (fun w => by go_simp; with_reducible rfl) ?_; try simp only [Act.put, List.setIfInBounds_toArray, List.set_cons_zero, List.set_cons_succ])
                    (refine BraidZ.earlyN (i := 12) (by kernel_rfl) (by kernel_rfl) (by kernel_rfl) (by kernel_rfl) rfl (fun _ _ h hx => h.step hx) ?_; (try simp only [List.getElem_toArray, List.getElem_cons_succ, List.getElem_cons_zero]); refine EStep.val (by (first | rfl | exact wanted_true rfl rfl rfl (by assumption))) (fun w => by go_simp; with_reducible rfl) ?_; try simp only [Act.put, List.setIfInBounds_toArray, List.set_cons_zero, List.set_cons_succ])
                    (refine BraidZ.earlyN (i := 13) (by kernel_rfl) (by kernel_rfl) (by kernel_rfl) (by kernel_rfl) rfl (fun _ _ h hx => h.step hx) ?_; (try simp only [List.getElem_toArray, List.getElem_cons_succ, List.getElem_cons_zero]); refine EStep.val (by (first | rfl | exact wanted_true rfl rfl rfl (by assumption))) (fun w => by go_simp; with_reducible rfl) ?_; try simp only [Act.put, List.setIfInBounds_toArray, List.set_cons_zero, List.set_cons_succ])
                    (refine BraidZ.earlyN (i := 14) (by kernel_rfl) (by kernel_rfl) (by kernel_rfl) (by kernel_rfl) rfl (fun _ _ h hx => h.step hx) ?_; (try simp only [List.getElem_toArray, List.getElem_cons_succ, List.getElem_cons_zero]); refine EStep.val (by (first | rfl | exact wanted_true rfl rfl rfl (by assumption))) (fun w => by go_simp; with_reducible rfl) ?_; try simp only [Act.put, List.setIfInBounds_toArray, List.set_cons_zero, List.set_cons_succ])
                    (refine BraidZ.next1 (i := 16) (by kernel_rfl) (by kernel_rfl) rfl ?_; (try simp only [List.getElem_toArray, List.getElem_cons_succ, List.getElem_cons_zero]))
                    (show ZStep _ _ _ true _ _ _ _; refine ZStep.turn (by (first | rfl | exact wanted_true rfl rfl rfl (by assumption))) (fun w hS => ⟨w.setCell ⟨wI.heap.size, 4, none⟩ (.slice A3 (k + 1 : Nat) c3), .inl (by ((try clear hF); refine hfI ?_; intro hF); go_simp), hS.put (i := 6) rfl⟩) ?_; try simp only [Act.put, List.setIfInBounds_toArray, List.set_cons_zero, List.set_cons_succ])
                    (refine BraidZ.next1 (i := 17) (by kernel_rfl) (by kernel_rfl) rfl ?_; (try simp only [List.getElem_toArray, List.getElem_cons_succ, List.getElem_cons_zero]))
                    (show ZStep _ _ _ true _ _ _ _; refine ZStep.turn (by (first | rfl | exact wanted_true rfl rfl rfl (by assumption))) (fun w hS => ⟨w.setCell ⟨gk, 0, none⟩ (.bool e3), .inl (by ((try clear hF); refine hfI ?_; intro hF); go_simp), hS.put (i := 5) rfl⟩) ?_; try simp only [Act.put, List.setIfInBounds_toArray, List.set_cons_zero, List.set_cons_succ])
                    (refine BraidZ.last (by kernel_rfl) ?_; (try clear hF); intro wk hS; ((try clear hF); refine hfI ?_; intro hF))
                    go_wp2_with (first | (refine hab ?_; (try clear hF); clear hS; intro wk hS; (try simp only [List.set_cons_zero, List.set_cons_succ, heap_size, heap_set_size] at hS); ((try clear hF); refine hfI ?_; intro hF)) | fail)
                    go_roundw
                    case rel => exact fin _ (by go_num) _ _ _ (((((((hS.drop 1).drop 1).drop 1).front 3 rfl).front 3 rfl).front 3 rfl).front 3 rfl)
                    case measure => simp [intOf]; omega
                · (refine ZStep.val (by (first | rfl | exact wanted_true rfl rfl rfl (by assumption))) (fun w h => h.sub (by first | simp | ((try simp only [List.eraseIdx_cons_zero, List.eraseIdx_cons_succ]); (repeat (first | exact List.nil_sublist _ | exact List.Sublist.refl _ | with_reducible apply List.Sublist.cons₂ | apply List.Sublist.cons))))) (by rintro w hS; ((try clear hF); refine hfI ?_; intro hF); go_simp; with_reducible rfl) ?_; try simp only [Act.put, List.setIfInBounds_toArray, List.set_cons_zero, List.set_cons_succ])
                  (refine BraidZ.next1 (i := 3) (by kernel_rfl) (by kernel_rfl) rfl ?_; (try simp only [List.getElem_toArray, List.getElem_cons_succ, List.getElem_cons_zero]))
                  (refine ZStep.build1 Tryz.elem_cols (us := [.int .i64 id, .string x1, .int .i64 kd, .bool q1, .int .i64 d.kind, .int .i64 d.num, .string d.text]) (by (first | rfl | exact wanted_true rfl rfl rfl (by assumption))) (fun w h => h.sub (by simp)) rfl rfl rfl (by decide) (fun ge => ?_); try simp only [Act.put, List.setIfInBounds_toArray, List.set_cons_zero, List.set_cons_succ])
                  (refine BraidZ.next1 (i := 4) (by kernel_rfl) (by kernel_rfl) rfl ?_; (try simp only [List.getElem_toArray, List.getElem_cons_succ, List.getElem_cons_zero]))
                  (refine ZStep.append Tryz.elem_cols (by (first | rfl | exact wanted_true rfl rfl rfl (by assumption))) (.tmp 177) (.tmp 179) rfl 3 rfl (by (try simp only [List.eraseIdx_cons_zero, List.eraseIdx_cons_succ]); rfl) rfl ⟨ge, 0, none⟩ rfl rfl (fun w hS jj u hu => World.news_of_block (hS.blkAt 0 rfl) jj u (by simpa using hu)) (by simp [Value.oneCell']) (by omega) (by omega) (fun w h => h.sub (by first | simp | ((try simp only [List.eraseIdx_cons_zero, List.eraseIdx_cons_succ]); (repeat (first | exact List.nil_sublist _ | exact List.Sublist.refl _ | with_reducible apply List.Sublist.cons₂ | apply List.Sublist.cons))))) (fun A3 c3 => ?_); try simp only [Act.put, List.setIfInBounds_toArray, List.set_cons_zero, List.set_cons_succ])
                  (refine BraidZ.earlyN (i := 15) (by kernel_rfl) (by kernel_rfl) (by kernel_rfl) (by kernel_rfl) rfl (fun _ _ h hx => h.step hx) ?_; (try simp only [List.getElem_toArray, List.getElem_cons_succ, List.getElem_cons_zero]); refine EStep.val (by (first | rfl | exact wanted_true rfl rfl rfl (by assumption))) (fun w => by go_simp; with_reducible rfl) ?_; try simp only [Act.put, List.setIfInBounds_toArray, List.set_cons_zero, List.set_cons_succ])
                  (refine BraidZ.earlyN (i := 6) (by kernel_rfl) (by kernel_rfl) (by kernel_rfl) (by kernel_rfl) rfl (fun _ _ h hx => h.step hx) ?_; (try simp only [List.getElem_toArray, List.getElem_cons_succ, List.getElem_cons_zero]); refine EStep.val (by (first | rfl | exact wanted_true rfl rfl rfl (by assumption))) (fun w => by go_simp; with_reducible rfl) ?_; try simp only [Act.put, List.setIfInBounds_toArray, List.set_cons_zero, List.set_cons_succ])
                  (refine BraidZ.earlyN (i := 7) (by kernel_rfl) (by kernel_rfl) (by kernel_rfl) (by kernel_rfl) rfl (fun _ _ h hx => h.step hx) ?_; (try simp only [List.getElem_toArray, List.getElem_cons_succ, List.getElem_cons_zero]); refine EStep.val (by (first | rfl | exact wanted_true rfl rfl rfl (by assumption))) (fun w => by go_simp; with_reducible rfl) ?_; try simp only [Act.put, List.setIfInBounds_toArray, List.set_cons_zero, List.set_cons_succ])
                  (refine BraidZ.earlyN (i := 8) (by kernel_rfl) (by kernel_rfl) (by kernel_rfl) (by kernel_rfl) rfl (fun _ _ h hx => h.step hx) ?_; (try simp only [List.getElem_toArray, List.getElem_cons_succ, List.getElem_cons_zero]); refine EStep.val (by (first | rfl | exact wanted_true rfl rfl rfl (by assumption))) (fun w => by go_simp; with_reducible rfl) ?_; try simp only [Act.put, List.setIfInBounds_toArray, List.set_cons_zero, List.set_cons_succ])
                  (refine BraidZ.earlyN (i := 9) (by kernel_rfl) (by kernel_rfl) (by kernel_rfl) (by kernel_rfl) rfl (fun _ _ h hx => h.step hx) ?_; (try simp only [List.getElem_toArray, List.getElem_cons_succ, List.getElem_cons_zero]); refine EStep.val (by (first | rfl | exact wanted_true rfl rfl rfl (by assumption))) (fun w => by go_simp; with_reducible rfl) ?_; try simp only [Act.put, List.setIfInBounds_toArray, List.set_cons_zero, List.set_cons_succ])
                  (refine BraidZ.earlyN (i := 10) (by kernel_rfl) (by kernel_rfl) (by kernel_rfl) (by kernel_rfl) rfl (fun _ _ h hx => h.step hx) ?_; (try simp only [List.getElem_toArray, List.getElem_cons_succ, List.getElem_cons_zero]); refine EStep.val (by (first | rfl | exact wanted_true rfl rfl rfl (by assumption))) (fun w => by go_simp; with_reducible rfl) ?_; try simp only [Act.put, List.setIfInBounds_toArray, List.set_cons_zero, List.set_cons_succ])
                  (refine BraidZ.earlyN (i := 11) (by kernel_rfl) (by kernel_rfl) (by kernel_rfl) (by kernel_rfl) rfl (fun _ _ h hx => h.step hx) ?_; (try simp only [List.getElem_toArray, List.getElem_cons_succ, List.getElem_cons_zero]); refine EStep.val (by (first | rfl | exact wanted_true rfl rfl rfl (by assumption))) (fun w => by go_simp; with_reducible rfl) ?_; try simp only [Act.put, List.setIfInBounds_toArray, List.set_cons_zero, List.set_cons_succ])
                  (refine BraidZ.earlyN (i := 12) (by kernel_rfl) (by kernel_rfl) (by kernel_rfl) (by kernel_rfl) rfl (fun _ _ h hx => h.step hx) ?_; (try simp only [List.getElem_toArray, List.getElem_cons_succ, List.getElem_cons_zero]); refine EStep.val (by (first | rfl | exact wanted_true rfl rfl rfl (by assumption))) (fun w => by go_simp; with_reducible rfl) ?_; try simp only [Act.put, List.setIfInBounds_toArray, List.set_cons_zero, List.set_cons_succ])
                  (refine BraidZ.earlyN (i := 13) (by kernel_rfl) (by kernel_rfl) (by kernel_rfl) (by kernel_rfl) rfl (fun _ _ h hx => h.step hx) ?_; (try simp only [List.getElem_toArray, List.getElem_cons_succ, List.getElem_cons_zero]); refine EStep.val (by (first | rfl | exact wanted_true rfl rfl rfl (by assumption))) (fun w => by go_simp; with_reducible rfl) ?_; try simp only [Act.put, List.setIfInBounds_toArray, List.set_cons_zero, List.set_cons_succ])
                  (refine BraidZ.earlyN (i := 14) (by kernel_rfl) (by kernel_rfl) (by kernel_rfl) (by kernel_rfl) rfl (fun _ _ h hx => h.step hx) ?_; (try simp only [List.getElem_toArray, List.getElem_cons_succ, List.getElem_cons_zero]); refine EStep.val (by (first | rfl | exact wanted_true rfl rfl rfl (by assumption))) (fun w => by go_simp; with_reducible rfl) ?_; try simp only [Act.put, List.setIfInBounds_toArray, List.set_cons_zero, List.set_cons_succ])
                  (refine BraidZ.next1 (i := 16) (by kernel_rfl) (by kernel_rfl) rfl ?_; (try simp only [List.getElem_toArray, List.getElem_cons_succ, List.getElem_cons_zero]))
                  (show ZStep _ _ _ true _ _ _ _; refine ZStep.turn (by (first | rfl | exact wanted_true rfl rfl rfl (by assumption))) (fun w hS => ⟨w.setCell ⟨wI.heap.size, 4, none⟩ (.slice A3 (k + 1 : Nat) c3), .inl (by ((try clear hF); refine hfI ?_; intro hF); go_simp), hS.put (i := 6) rfl⟩) ?_; try simp only [Act.put, List.setIfInBounds_toArray, List.set_cons_zero, List.set_cons_succ])
                  (refine BraidZ.next1 (i := 17) (by kernel_rfl) (by kernel_rfl) rfl ?_; (try simp only [List.getElem_toArray, List.getElem_cons_succ, List.getElem_cons_zero]))
                  (show ZStep _ _ _ true _ _ _ _; refine ZStep.turn (by (first | rfl | exact wanted_true rfl rfl rfl (by assumption))) (fun w hS => ⟨w.setCell ⟨gk, 0, none⟩ (.bool e3), .inl (by ((try clear hF); refine hfI ?_; intro hF); go_simp), hS.put (i := 5) rfl⟩) ?_; try simp only [Act.put, List.setIfInBounds_toArray, List.set_cons_zero, List.set_cons_succ])
                  (refine BraidZ.last (by kernel_rfl) ?_; (try clear hF); intro wk hS; ((try clear hF); refine hfI ?_; intro hF))
                  go_wp2_with (first | (refine hab ?_; (try clear hF); clear hS; intro wk hS; (try simp only [List.set_cons_zero, List.set_cons_succ, heap_size, heap_set_size] at hS); ((try clear hF); refine hfI ?_; intro hF)) | fail)
                  go_roundw
                  case rel => exact fin _ (by go_num) _ _ _ (((((((hS.drop 1).drop 1).drop 1).front 3 rfl).front 3 rfl).front 3 rfl).front 3 rfl)
                  case measure => simp [intOf]; omega
    · obtain rfl : k = m := by omega
      have HLZ := Lib.hid (ScF.line (s := s) (by rw [← HM.out]; exact HSC.out) HL.out)
      have hcl := HSC.out.1
      have hcs := HSC.out.2
      rw [HM.out, List.take_length] at hcs
      have HLK := Lib.hid (show b = true → LnOk ⟨4, ⟨#[]⟩, 0, [], cs, nx⟩ ⟨none, 0, 0, Ar, k, cr⟩ (s.size + 1) from fun hb => by
        rw [hb, if_pos rfl] at hcs
        obtain ⟨h1, h2⟩ := colsOf_some hcs.2
        have := HTL.out
        exact ⟨rfl, Nat.zero_le _, fun _ => rfl, hcl, hmz, (hS.rowLen 0 rfl).2, hnx, (show i64 0 from ⟨by decide, by decide⟩), (fun x h => by cases h), h1, (show sumC cs ≤ s.size + 1 by omega), Nat.zero_le _⟩)
      clear HNM HLI HL HM hnx HSC HLE HTL hcl hcs
      ((try clear hF); refine hfI ?_; intro hF)
      go_wp2_with (first | (refine hab ?_; (try clear hF); clear hS; intro wk hS; (try simp only [List.set_cons_zero, List.set_cons_succ, heap_size, heap_set_size] at hS); ((try clear hF); refine hfI ?_; intro hF)) | fail)
      ((with_reducible refine wp_region_braidz_hp [.q, .q, .t, .t] 3 [.blk gk [.bool b] 4, .blk wI.heap.size [.int .i64 4, .string ⟨#[]⟩, .int .i64 0, .slice none 0 0, .slice Ar k cr, .int .i64 nx] 63] (by kernel_rfl) rfl (by kernel_rfl) hS (fun w h => h.sub (by simp)) ?_); clear hS; (repeat ((with_reducible refine Walk.here ?_); (first | ((with_reducible apply Walk.skipQ); (first | rfl | exact wanted_false rfl rfl rfl (by assumption)); (try simp only [Mark.isQ, if_true, Bool.false_eq_true, if_false, Act.put, List.setIfInBounds_toArray, List.set_cons_zero, List.set_cons_succ])) | ((with_reducible apply Walk.val); (first | rfl | exact wanted_true rfl rfl rfl (by assumption)); (rintro w hS; ((try clear hF); refine hfI ?_; intro hF); go_simp; first | with_reducible rfl | (rw [if_neg (by first | omega | (simp only [ByteArray.size_append]; omega) | (simp [ByteArray.size_append]; omega))]; try with_reducible rfl)); (try simp only [Mark.isQ, if_true, Bool.false_eq_true, if_false, Act.put, List.setIfInBounds_toArray, List.set_cons_zero, List.set_cons_succ])) | ((with_reducible apply Walk.tail); (try simp only [Mark.isQ, if_true, Bool.false_eq_true, if_false, Act.put, List.setIfInBounds_toArray, List.set_cons_zero, List.set_cons_succ])) | ((with_reducible apply Walk.guardT); rfl; rfl; rfl; (all_goals intro hg)) | ((with_reducible apply Walk.guardF); rfl; rfl; rfl; (all_goals intro hg))))); refine Walk.done ?_; show BraidZ _ _ _ _ 3 2 [2, 3] _ _)
      (refine BraidZ.next1 (i := 2) (by kernel_rfl) (by kernel_rfl) rfl ?_; (try simp only [List.getElem_toArray, List.getElem_cons_succ, List.getElem_cons_zero]))
      (refine ZStep.storeRow (i := 3) (g := wI.heap.size) (us := [.int .i64 4, .string ⟨#[]⟩, .int .i64 0, .slice none 0 0, .slice Ar k cr, .int .i64 nx]) (.inr (fun w h => h.sub (by first | simp | ((try simp only [List.eraseIdx_cons_zero, List.eraseIdx_cons_succ]); (repeat (first | exact List.nil_sublist _ | exact List.Sublist.refl _ | with_reducible apply List.Sublist.cons₂ | apply List.Sublist.cons)))))) (by (first | rfl | exact wanted_true rfl rfl rfl (by assumption))) rfl rfl rfl rfl (by kernel_rfl) rfl (by simp [Value.oneCell']) ?_; try simp only [Act.put, List.setIfInBounds_toArray, List.set_cons_zero, List.set_cons_succ])
      (refine BraidZ.next1 (i := 3) (by kernel_rfl) (by kernel_rfl) rfl ?_; (try simp only [List.getElem_toArray, List.getElem_cons_succ, List.getElem_cons_zero]))
      (show ZStep _ _ _ true _ _ _ _; refine ZStep.turn (by (first | rfl | exact wanted_true rfl rfl rfl (by assumption))) (fun w hS => ⟨w.setCell ⟨gk, 0, none⟩ (.bool b), .inl (by ((try clear hF); refine hfI ?_; intro hF); go_simp), hS.put (i := 2) rfl⟩) ?_; try simp only [Act.put, List.setIfInBounds_toArray, List.set_cons_zero, List.set_cons_succ])
      (refine BraidZ.last (by kernel_rfl) ?_; (try clear hF); intro wk hS; ((try clear hF); refine hfI ?_; intro hF))
      go_wp2_with (first | (refine hab ?_; (try clear hF); clear hS; intro wk hS; (try simp only [List.set_cons_zero, List.set_cons_succ, heap_size, heap_set_size] at hS); ((try clear hF); refine hfI ?_; intro hF)) | fail)
      refine ⟨rfl, .tuple #[aV ⟨4, ⟨#[]⟩, 0, [], cs, nx⟩ ⟨none, 0, 0, Ar, k, cr⟩, .bool b], ?_, LineE.mk _ _ b [.row 61 7 Ar k cr (cellsC cs)] (hS.sub (List.Sublist.cons_cons _ (List.nil_sublist _))) ⟨fun hb => ⟨fun B w0 W h => ⟨ri_nil _ _, h.rc 0 rfl⟩, HLK.out hb⟩, HLZ.out⟩⟩
      simp [results, Tryz.results27, go_sem, hF]
end Go.Proofs.YtlgidjanmaijaaaGreatDoor
