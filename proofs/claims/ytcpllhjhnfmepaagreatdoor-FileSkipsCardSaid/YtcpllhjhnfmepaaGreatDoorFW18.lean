/- encode.Decode -/
import Derived.Test.YtcpllhjhnfmepaaGreatDoorFW17
namespace Go.Proofs.YtcpllhjhnfmepaaGreatDoor
set_option linter.unusedSimpArgs false
set_option linter.unusedVariables false
open Go.RowKit
set_option linter.all false
open Go.Lib (uvarint zigzag)
/-- what Decode hands back -/
def DRes (w : World) (o : Option (List GV)) (e : Ending) (w' : World) : Prop :=
  match o with
  | none => e = .returned (.tuple #[.slice none 0 0, errV 3]) ∧ Ext w w'
  | some m => ∃ A cap, e = .returned (.tuple #[.slice A m.length cap, .nilIface]) ∧ Hp w.heap.size w w' [vRow A cap m]
theorem cntN_le (bs : List UInt8) : ∀ (n i : Nat), cntN bs i n ≤ n
  | 0, i => Nat.le_refl _
  | n + 1, i => by
    have := cntN_le bs n (i + 1)
    rw [cntN]
    split <;> omega
theorem cntN_snoc (bs : List UInt8) : ∀ (n i : Nat), cntN bs i (n + 1) = cntN bs i n + if nullB bs (i + n) = true then 0 else 1
  | 0, i => by simp [cntN]
  | n + 1, i => by
    rw [cntN, cntN_snoc bs n (i + 1), cntN, show i + 1 + n = i + (n + 1) by omega]
    omega
theorem rTake_good {k : Nat} {st : RSt} (h : (rTake k st).2.2 = false) : st.2 = false ∧ (rTake k st).1.length = k := by
  unfold rTake at h ⊢
  split at h
  · cases h
  · rename_i hc
    rw [not_or] at hc
    rw [if_neg (by rw [not_or]; exact hc)]
    refine ⟨by simpa using hc.2, ?_⟩
    rw [List.length_take]
    omega
set_option maxRecDepth 100000 in
set_option maxHeartbeats 8000000 in
theorem decode_any (kind : Int) (s : ByteArray) (hs : s.size ≤ 100000) (w : World) :
    Calls Tryz.prog 33 #[.int .i64 kind, .string s] w (DRes w (decO kind s.data.toList)) := by
  obtain ⟨D, hD⟩ : ∃ D, D = decO kind s.data.toList := ⟨_, rfl⟩
  rw [← hD]
  have HD := Lib.hid hD
  clear hD
  have hS := Hp.init w
  have HO1 := Lib.hid (fun (W : World) (g : Nat) (L : List Item) hS => rsmall_any (w0 := w) (w := W) (B := w.heap.size) (L := L) g s false 60 hs (by decide) hS)
  have hlen1 := rSmall_len 60 (s.data.toList, false)
  have hle1 := rSmall_le 60 (s.data.toList, false)
  obtain ⟨q1, hq1⟩ : ∃ q, q = rd1 s.data.toList := ⟨_, rfl⟩
  have Q1 := Lib.hid hq1
  unfold rd1 at hq1
  rw [← hq1] at HO1 hlen1 hle1
  clear hq1
  obtain ⟨n, st1⟩ := q1
  simp only at hle1
  have HLEN1 := Lib.hid hlen1
  clear hlen1
  have HO1b := Lib.hid (show ∀ (W : World) (g : Nat) (L : List Item), Hp w.heap.size w W (.blk g [.string s, .bool false] 126 :: L) → Calls Tryz.prog 60 #[.pointer (some ⟨g, 0, none⟩), .int .i64 60] W (RRes w.heap.size w L g (.int .i64 (n : Int)) st1) from HO1.out)
  clear HO1
  have HO2 := Lib.hid (fun (W : World) (g : Nat) (L : List Item) (s2 : ByteArray) (h2 : s2.data.toList = st1.1) hS => show Calls Tryz.prog 61 #[.pointer (some ⟨g, 0, none⟩), .int .i64 (((n : Int) + 7) / 8)] W (RResS w.heap.size w L g (rTake ((n + 7) / 8) st1).1 (rTake ((n + 7) / 8) st1).2) from by
    have := rtake_any (w0 := w) (w := W) (B := w.heap.size) (L := L) g s2 st1.2 ((n + 7) / 8) (size_le h2 HLEN1.out hs) (by omega) hS
    rw [h2] at this
    rw [show ((n : Int) + 7) / 8 = (((n + 7) / 8 : Nat) : Int) by omega]
    exact this)
  have hlen2 : (rTake ((n + 7) / 8) st1).2.1.length ≤ s.data.toList.length := Nat.le_trans (rTake_len _ _) HLEN1.out
  obtain ⟨q2, hq2⟩ : ∃ q, q = rTake ((n + 7) / 8) st1 := ⟨_, rfl⟩
  have Q2 := Lib.hid (show q2 = rd2 s.data.toList by unfold rd2; rw [← Q1.out]; exact hq2)
  rw [← hq2] at HO2 hlen2
  have HLEN2 := Lib.hid hlen2
  clear hq2 hlen2
  have HO3 := Lib.hid (fun (W : World) (g : Nat) (L : List Item) (s2 : ByteArray) (h2 : s2.data.toList = q2.2.1) hS => show Calls Tryz.prog 61 #[.pointer (some ⟨g, 0, none⟩), .int .i64 1] W (RResS w.heap.size w L g (rTake 1 q2.2).1 (rTake 1 q2.2).2) from by
    have := rtake_any (w0 := w) (w := W) (B := w.heap.size) (L := L) g s2 q2.2.2 1 (size_le h2 HLEN2.out hs) (by decide) hS
    rw [h2] at this
    exact this)
  obtain ⟨q3, hq3⟩ : ∃ q, q = rTake 1 q2.2 := ⟨_, rfl⟩
  have hlen3 : (rTake 1 q2.2).2.1.length ≤ s.data.toList.length := Nat.le_trans (rTake_len _ _) HLEN2.out
  have Q3 := Lib.hid (show q3 = rd3 s.data.toList by unfold rd3; rw [← Q2.out]; exact hq3)
  rw [← hq3] at HO3 hlen3
  have HLEN3 := Lib.hid hlen3
  clear hq3 hlen3
  ((try clear hF); (first | have hF := And.intro hS.facts (hR.at hS.ext) | have hF := hS.facts); simp only [HFacts, cellFacts, RFacts, cellOnly, and_true, true_and, Nat.zero_add, Nat.reduceAdd] at hF)
  go_enter Tryz.func33, Tryz.ntmps33
  go_wp2_with (first | ((with_reducible first | refine nhLa ?_ | refine nhLs ?_ | refine nhLd ?_ | refine nhCa ?_ | refine nhCs ?_ | refine nhCd ?_ | refine nhPa ?_ | refine nhPs ?_ | refine nhPd ?_ | refine nhKa ?_ | refine nhKs ?_ | refine nhKd ?_); ((try clear hF); clear hS; intro wk hS; (try simp only [List.set_cons_zero, List.set_cons_succ, heap_size, heap_set_size] at hS); ((try clear hF); (first | have hF := And.intro hS.facts (hR.at hS.ext) | have hF := hS.facts); simp only [HFacts, cellFacts, RFacts, cellOnly, and_true, true_and, Nat.zero_add, Nat.reduceAdd] at hF))) | (go_at_call 60; (with_reducible refine Calls.mono (HO1b.out _ _ _ (hS.front 0 rfl)) ?_); clear hS; rintro e wk ⟨s1, rfl, hs1, hS⟩; (try simp only [List.eraseIdx_cons_zero, List.eraseIdx_cons_succ, List.set_cons_zero, List.set_cons_succ] at hS); ((try clear hF); (first | have hF := And.intro hS.facts (hR.at hS.ext) | have hF := hS.facts); simp only [HFacts, cellFacts, RFacts, cellOnly, and_true, true_and, Nat.zero_add, Nat.reduceAdd] at hF)))
  clear HO1b
  (go_at_call 61; (with_reducible refine Calls.mono (HO2.out _ _ _ s1 hs1.out (hS.front 0 rfl)) ?_); clear hS; rintro e wk ⟨s2, b2, rfl, hb2, hs2, hS⟩; (try simp only [List.eraseIdx_cons_zero, List.eraseIdx_cons_succ, List.set_cons_zero, List.set_cons_succ] at hS); ((try clear hF); (first | have hF := And.intro hS.facts (hR.at hS.ext) | have hF := hS.facts); simp only [HFacts, cellFacts, RFacts, cellOnly, and_true, true_and, Nat.zero_add, Nat.reduceAdd] at hF))
  clear HO2
  obtain ⟨gb, hgb⟩ : ∃ gb, gb = wk.heap.size := ⟨_, rfl⟩
  have HGB := Lib.hid hgb
  clear hgb
  have HO3b := Lib.hid (show ∀ (W : World) (g : Nat) (L : List Item) (s2 : ByteArray), s2.data.toList = q2.2.1 → Hp w.heap.size w W (.blk g [.string s2, .bool q2.2.2] 126 :: L) → Calls Tryz.prog 61 #[.pointer (some ⟨g, 0, none⟩), .int .i64 1] W (fun e w' => ∃ s t' : ByteArray, e = .returned (.string t') ∧ Hid (t'.data.toList = q3.1) ∧ Hid (s.data.toList = q3.2.1) ∧ Hp w.heap.size w w' (.blk g [.string s, .bool q3.2.2] 126 :: L)) from HO3.out)
  clear HO3
  obtain ⟨bd, hbd⟩ : ∃ b, b = q3.2.2 := ⟨_, rfl⟩
  rw [← hbd] at HO3b
  have HBD := Lib.hid hbd
  clear hbd
  cases bd
  all_goals go_wp2_with (first | ((with_reducible first | refine nhLa ?_ | refine nhLs ?_ | refine nhLd ?_ | refine nhCa ?_ | refine nhCs ?_ | refine nhCd ?_ | refine nhPa ?_ | refine nhPs ?_ | refine nhPd ?_ | refine nhKa ?_ | refine nhKs ?_ | refine nhKd ?_); ((try clear hF); clear hS; intro wk hS; (try simp only [List.set_cons_zero, List.set_cons_succ, heap_size, heap_set_size] at hS); ((try clear hF); (first | have hF := And.intro hS.facts (hR.at hS.ext) | have hF := hS.facts); simp only [HFacts, cellFacts, RFacts, cellOnly, and_true, true_and, Nat.zero_add, Nat.reduceAdd] at hF))) | (go_at_call 61; (with_reducible refine Calls.mono (HO3b.out _ _ _ s2 hs2.out (hS.front 1 rfl)) ?_); clear hS; rintro e wk ⟨s3, b3, rfl, hb3, hs3, hS⟩; (try simp only [List.eraseIdx_cons_zero, List.eraseIdx_cons_succ, List.set_cons_zero, List.set_cons_succ] at hS); ((try clear hF); (first | have hF := And.intro hS.facts (hR.at hS.ext) | have hF := hS.facts); simp only [HFacts, cellFacts, RFacts, cellOnly, and_true, true_and, Nat.zero_add, Nat.reduceAdd] at hF)) | fail)
  all_goals clear HO3b
  rotate_left
  · have hd : D = none := by rw [HD.out]; unfold decO readC; rw [← Q3.out, if_pos HBD.out.symm]
    rw [hd]
    go_ret2
    exact ⟨rfl, hS.ext⟩
  · have hbad : q3.2.2 = false := HBD.out.symm
    have hq2 : q2.2.2 = false ∧ q3.1.length = 1 := by
      have e : rTake 1 q2.2 = q3 := by rw [Q3.out, Q2.out]; rfl
      have := rTake_good (k := 1) (st := q2.2) (by rw [e]; exact hbad)
      rw [e] at this
      exact this
    have hq1 : q2.1.length = (n + 7) / 8 := by
      have e : rTake ((n + 7) / 8) st1 = q2 := by rw [Q2.out]; unfold rd2; rw [← Q1.out]
      have := rTake_good (k := (n + 7) / 8) (st := st1) (by rw [e]; exact hq2.1)
      rw [e] at this
      exact this.2
    have hb2s : b2.size = (n + 7) / 8 := by rw [← hq1, ← hb2.out]; rfl
    have hb3s : b3.size = 1 := by rw [← hq2.2, ← hb3.out]; rfl
    have HB2S := Lib.hid hb2s
    have hs3l : s3.size ≤ 100000 := size_le hs3.out HLEN3.out hs
    obtain ⟨cn, hcn⟩ : ∃ cn, cn = cntN b2.data.toList 0 n := ⟨_, rfl⟩
    have hcn60 : cn ≤ 60 := by rw [hcn]; have := cntN_le b2.data.toList n 0; omega
    have HCN := Lib.hid hcn
    have eC : rdC s.data.toList = cn := by unfold rdC; rw [← Q1.out, ← Q2.out, hcn, hb2.out]
    have EC := Lib.hid eC
    clear hcn hq1 hq2 hb2s eC
    rw [← HGB.out] at hS hF ⊢
    go_loopw [37, 11] (fun i v wr => ∃ (k cc : Nat), i = .int .i64 k ∧ k ≤ n ∧ v = .int .i64 cc ∧ cc ≤ k ∧ Hid (cc = cntN b2.data.toList 0 k) ∧ Hp w.heap.size w wr [.blk w.heap.size [.string s3, .bool false] 126, .blk gb [.string b2] 9]) (fun i _ _ => n - (intOf i).toNat)
    case atStart => exact ⟨0, 0, rfl, Nat.zero_le _, rfl, Nat.le_refl _, Lib.hid rfl, hS⟩
    case round =>
      clear hS hF
      obtain ⟨k, cc, rfl, hk, rfl, hcc, hcv, hS⟩ := hrel
      by_cases hlt : k < n
      · have HO := Lib.hid (fun (W : World) h => dec1_any b2 k gb (by have := HB2S.out; omega) (by omega) W h)
        obtain ⟨nb, hnb⟩ : ∃ b, b = nullB b2.data.toList k := ⟨_, rfl⟩
        rw [← hnb] at HO
        have HNB := Lib.hid hnb
        clear hnb
        cases nb
        all_goals
          ((try clear hF); (first | have hF := And.intro hS.facts (hR.at hS.ext) | have hF := hS.facts); simp only [HFacts, cellFacts, RFacts, cellOnly, and_true, true_and, Nat.zero_add, Nat.reduceAdd] at hF)
          go_wp2_with (first | ((with_reducible first | refine nhLa ?_ | refine nhLs ?_ | refine nhLd ?_ | refine nhCa ?_ | refine nhCs ?_ | refine nhCd ?_ | refine nhPa ?_ | refine nhPs ?_ | refine nhPd ?_ | refine nhKa ?_ | refine nhKs ?_ | refine nhKd ?_); ((try clear hF); clear hS; intro wk hS; (try simp only [List.set_cons_zero, List.set_cons_succ, heap_size, heap_set_size] at hS); ((try clear hF); (first | have hF := And.intro hS.facts (hR.at hS.ext) | have hF := hS.facts); simp only [HFacts, cellFacts, RFacts, cellOnly, and_true, true_and, Nat.zero_add, Nat.reduceAdd] at hF))) | (go_at_call 62; (with_reducible refine (HO.out _ hF.2.1).mono ?_); rintro e wk ⟨rfl, hX⟩; replace hS := hS.step hX; clear hX; ((try clear hF); (first | have hF := And.intro hS.facts (hR.at hS.ext) | have hF := hS.facts); simp only [HFacts, cellFacts, RFacts, cellOnly, and_true, true_and, Nat.zero_add, Nat.reduceAdd] at hF)))
          go_roundw
          case rel =>
            first
              | exact ⟨k + 1, cc + 1, by go_num, by omega, by go_num, by omega, Lib.hid (by rw [cntN_snoc, Nat.zero_add, ← HNB.out, ← hcv.out]; rfl), hS⟩
              | exact ⟨k + 1, cc, by go_num, by omega, rfl, by omega, Lib.hid (by rw [cntN_snoc, Nat.zero_add, ← HNB.out, ← hcv.out]; rfl), hS⟩
          case measure => simp [intOf]; omega
      · obtain rfl : k = n := by omega
        have hcc2 : cc = cn := by rw [hcv.out, HCN.out]
        subst hcc2
        clear hcv hlt
        have hb30 : (0 : Int) < (b3.size : Int) := by omega
        have hb31 : 0 < b3.size := by omega
        ((try clear hF); (first | have hF := And.intro hS.facts (hR.at hS.ext) | have hF := hS.facts); simp only [HFacts, cellFacts, RFacts, cellOnly, and_true, true_and, Nat.zero_add, Nat.reduceAdd] at hF)
        go_wp2_with (first | ((with_reducible first | refine nhLa ?_ | refine nhLs ?_ | refine nhLd ?_ | refine nhCa ?_ | refine nhCs ?_ | refine nhCd ?_ | refine nhPa ?_ | refine nhPs ?_ | refine nhPd ?_ | refine nhKa ?_ | refine nhKs ?_ | refine nhKd ?_); ((try clear hF); clear hS; intro wk hS; (try simp only [List.set_cons_zero, List.set_cons_succ, heap_size, heap_set_size] at hS); ((try clear hF); (first | have hF := And.intro hS.facts (hR.at hS.ext) | have hF := hS.facts); simp only [HFacts, cellFacts, RFacts, cellOnly, and_true, true_and, Nat.zero_add, Nat.reduceAdd] at hF))) | fail)
        obtain ⟨wy, hwy⟩ : ∃ wy, wy = b3[0].toNat := ⟨_, rfl⟩
        rw [show wrap64 (b3[0].toNat : Int) = (b3[0].toNat : Int) from (by have := b3[0].toNat_lt; unfold wrap64; omega), ← hwy]
        have hq32 : q3.2 = (s3.data.toList, false) := by rw [hs3.out, ← hbad]
        have hwd : rdW s.data.toList = wy := by
          unfold rdW
          rw [← Q3.out, ← hb3.out, hwy, List.getD_eq_getElem?_getD, List.getElem?_eq_getElem (by exact hb31)]
          rfl
        have HO4 := Lib.hid (fun (W : World) (L : List Item) hS => values_any (w0 := w) (w := W) (B := w.heap.size) (L := L) w.heap.size s3 false wy kind cc (by omega) hs3l hS)
        obtain ⟨q4, hq4⟩ : ∃ q, q = rValues wy kind cc (s3.data.toList, false) := ⟨_, rfl⟩
        rw [← hq4] at HO4
        have Q4 := Lib.hid (show q4 = rd4 kind s.data.toList by unfold rd4; rw [hwd, EC.out, ← Q3.out, hq32]; exact hq4)
        clear hq4 hwd hq32 hwy
        (go_at_call 63; (with_reducible refine Calls.mono (HO4.out _ _ (hS.front 0 rfl)) ?_); clear hS; rintro e wk ⟨A4, cap4, l4, s4, b4, rfl, Hl4, Hs4, hS⟩; (try simp only [List.eraseIdx_cons_zero, List.eraseIdx_cons_succ, List.set_cons_zero, List.set_cons_succ] at hS); ((try clear hF); (first | have hF := And.intro hS.facts (hR.at hS.ext) | have hF := hS.facts); simp only [HFacts, cellFacts, RFacts, cellOnly, and_true, true_and, Nat.zero_add, Nat.reduceAdd] at hF))
        clear HO4
        have HB4 := Lib.hid (show b4 = (rd4 kind s.data.toList).2.2 by rw [← Q4.out, ← Hs4.out])
        have HL4 := Lib.hid (show l4 = (rd4 kind s.data.toList).1 by rw [← Q4.out, Hl4.out])
        cases b4 with
        | true =>
          have hd : D = none := by rw [HD.out]; unfold decO readC; rw [if_neg (by rw [← Q3.out, ← HBD.out]; decide), if_pos (Or.inl HB4.out.symm)]
          subst hd
          ((try clear hF); (first | have hF := And.intro hS.facts (hR.at hS.ext) | have hF := hS.facts); simp only [HFacts, cellFacts, RFacts, cellOnly, and_true, true_and, Nat.zero_add, Nat.reduceAdd] at hF)
          go_wp2_with (first | ((with_reducible first | refine nhLa ?_ | refine nhLs ?_ | refine nhLd ?_ | refine nhCa ?_ | refine nhCs ?_ | refine nhCd ?_ | refine nhPa ?_ | refine nhPs ?_ | refine nhPd ?_ | refine nhKa ?_ | refine nhKs ?_ | refine nhKd ?_); ((try clear hF); clear hS; intro wk hS; (try simp only [List.set_cons_zero, List.set_cons_succ, heap_size, heap_set_size] at hS); ((try clear hF); (first | have hF := And.intro hS.facts (hR.at hS.ext) | have hF := hS.facts); simp only [HFacts, cellFacts, RFacts, cellOnly, and_true, true_and, Nat.zero_add, Nat.reduceAdd] at hF))) | fail)
          go_ret2
          exact ⟨rfl, hS.ext⟩
        | false =>
          by_cases hlen : l4.length = cc
          · have hlb : ((l4.length : Int) != (cc : Int)) = false := by simp; omega
            have HLEN := Lib.hid hlen
            clear hlen
            ((try clear hF); (first | have hF := And.intro hS.facts (hR.at hS.ext) | have hF := hS.facts); simp only [HFacts, cellFacts, RFacts, cellOnly, and_true, true_and, Nat.zero_add, Nat.reduceAdd] at hF)
            go_wp2_with (first | ((with_reducible first | refine nhLa ?_ | refine nhLs ?_ | refine nhLd ?_ | refine nhCa ?_ | refine nhCs ?_ | refine nhCd ?_ | refine nhPa ?_ | refine nhPs ?_ | refine nhPd ?_ | refine nhKa ?_ | refine nhKs ?_ | refine nhKd ?_); ((try clear hF); clear hS; intro wk hS; (try simp only [List.set_cons_zero, List.set_cons_succ, heap_size, heap_set_size] at hS); ((try clear hF); (first | have hF := And.intro hS.facts (hR.at hS.ext) | have hF := hS.facts); simp only [HFacts, cellFacts, RFacts, cellOnly, and_true, true_and, Nat.zero_add, Nat.reduceAdd] at hF))) | fail)
            obtain ⟨R, hR0⟩ : ∃ R, R = fillN b2.data.toList 0 k l4 := ⟨_, rfl⟩
            have HDD := Lib.hid (show D = if encErr kind R = 0 ∧ encOut kind R = s.data.toList then some R else none by
              rw [HD.out]
              unfold decO
              have e : readC kind s.data.toList = some R := by
                unfold readC
                rw [if_neg (by rw [← Q3.out, ← HBD.out]; decide), if_neg (by rw [EC.out, ← HL4.out, ← HB4.out]; simp [HLEN.out]), ← HL4.out, ← Q2.out, ← Q1.out, ← hb2.out, hR0]
              rw [e])
            have HI := Lib.hid (show I64L R ∧ R.length = k from ⟨by rw [hR0]; exact fill_i64 _ _ _ _ (by rw [HL4.out]; exact rValues_i64 _ _ _ _), by rw [hR0]; exact fill_len _ _ _ _ (by rw [HLEN.out, HCN.out])⟩)
            have HRR := Lib.hid hR0
            clear hR0
            replace hS := hS.nilRow 45 3
            have hcap : l4.length ≤ cap4 := by
              rcases (hS.own _ (List.mem_cons_of_mem _ (List.mem_cons_self ..)) : World.ownsRow _ _ _ _ _ _ _).2 with ⟨hv, _⟩ | ⟨g, cp, cur, hv, _, _, hn, _⟩
              · simp at hv; omega
              · simp at hv; omega
            clear hlb hb30 hb31
            go_loopw [66, 14, 13] (fun i v lv wr => ∃ (j : Nat) (A : Option Addr) (cap : Nat) (out : List GV) (lj : List GV) (Aj : Option Addr) (cj i0 : Nat), i = .int .i64 j ∧ j ≤ k ∧ v = .slice A out.length cap ∧ lv = .slice Aj lj.length cj ∧ lj.length ≤ cj ∧ out.length = j ∧ lj.length ≤ 60 ∧ Hid (R = out ++ fillN b2.data.toList j (k - j) lj) ∧ Hid (lj.length = cntN b2.data.toList j (k - j)) ∧ Hid (lj = l4.drop i0) ∧ Hid (lj ≠ [] → Aj = A4.map fun a => ⟨a.block, i0 * 3, none⟩) ∧
              Hp w.heap.size w wr [vRow A cap out, vRow A4 cap4 l4, .blk w.heap.size [.string s4, .bool false] 126, .blk gb [.string b2] 9]) (fun i _ _ _ => k - (intOf i).toNat)
            case atStart =>
              have hA4 : A4 = A4.map fun a => ⟨a.block, 0 * 3, none⟩ := by
                rcases (hS.own _ (List.mem_cons_of_mem _ (List.mem_cons_self ..)) : World.ownsRow _ _ _ _ _ _ _).2 with ⟨hv, _⟩ | ⟨g, cp, cur, hv, _⟩
                · simp at hv; rw [hv.1]; rfl
                · simp at hv; rw [hv.1]; rfl
              exact ⟨0, none, 0, [], l4, A4, cap4, 0, rfl, Nat.zero_le _, rfl, rfl, hcap, rfl, by have := HLEN.out; omega, Lib.hid (by rw [HRR.out]; rfl), Lib.hid (by rw [HLEN.out, HCN.out]; rfl), Lib.hid rfl, Lib.hid fun _ => hA4, hS⟩
            case round =>
              clear hS hF
              obtain ⟨j, A, cap, out, lj, Aj, cj, i0, rfl, hj, rfl, rfl, hcj, hol, hlj, hfr, hcnt, hd0, had, hS⟩ := hrel
              have HOL := Lib.hid hol
              have hol2 : out.length ≤ 60 := by omega
              clear hol
              by_cases hlt : j < k
              · have HO := Lib.hid (fun (W : World) h => dec1_any b2 j gb (by have := HB2S.out; omega) (by omega) W h)
                obtain ⟨nb, hnb⟩ : ∃ b, b = nullB b2.data.toList j := ⟨_, rfl⟩
                rw [← hnb] at HO
                have HNB := Lib.hid hnb
                clear hnb
                cases nb
                · have hlj0 : ∃ x lr, lj = x :: lr := by
                    have := hcnt.out
                    rw [show k - j = k - (j + 1) + 1 by omega, cntN, ← HNB.out, if_neg (by decide)] at this
                    cases lj with
                    | nil => rw [List.length_nil] at this; omega
                    | cons x lr => exact ⟨x, lr, rfl⟩
                  obtain ⟨x, lr, rfl⟩ := hlj0
                  have hx : l4[i0]? = some x := by
                    have := congrArg (·[0]?) hd0.out
                    simp only [List.getElem?_cons_zero, List.getElem?_drop, Nat.add_zero] at this
                    exact this.symm
                  have hA4 : ∃ g4, A4 = some ⟨g4, 0, none⟩ := by
                    obtain ⟨b, o, hb, _⟩ := hS.rv 1 rfl i0 x hx
                    rcases (hS.own _ (List.mem_cons_of_mem _ (List.mem_cons_self ..)) : World.ownsRow _ _ _ _ _ _ _).2 with ⟨hv, _⟩ | ⟨g, cp, cur, hv, _⟩
                    · simp at hv; rw [hv.1] at hb; cases hb
                    · simp at hv; exact ⟨g, hv.1⟩
                  obtain ⟨g4, rfl⟩ := hA4
                  obtain rfl : Aj = some ⟨g4, i0 * 3, none⟩ := had.out (by simp)
                  have hge1 : (1 : Int) ≤ (lr.length : Int) + 1 := by omega
                  have HX := Lib.hid hx
                  have hlr60 : lr.length ≤ 60 := by rw [List.length_cons] at hlj; omega
                  have hln : lr.length + 1 ≤ cj := by rw [List.length_cons] at hcj; exact hcj
                  clear hx had hcj hlj
                  simp only [List.length_cons]
                  ((try clear hF); (first | have hF := And.intro hS.facts (hR.at hS.ext) | have hF := hS.facts); simp only [HFacts, cellFacts, RFacts, cellOnly, and_true, true_and, Nat.zero_add, Nat.reduceAdd] at hF)
                  go_wp2_with (first | ((with_reducible first | refine nhLa ?_ | refine nhLs ?_ | refine nhLd ?_ | refine nhCa ?_ | refine nhCs ?_ | refine nhCd ?_ | refine nhPa ?_ | refine nhPs ?_ | refine nhPd ?_ | refine nhKa ?_ | refine nhKs ?_ | refine nhKd ?_); ((try clear hF); clear hS; intro wk hS; (try simp only [List.set_cons_zero, List.set_cons_succ, heap_size, heap_set_size] at hS); ((try clear hF); (first | have hF := And.intro hS.facts (hR.at hS.ext) | have hF := hS.facts); simp only [HFacts, cellFacts, RFacts, cellOnly, and_true, true_and, Nat.zero_add, Nat.reduceAdd] at hF))) | (go_at_call 62; (with_reducible refine (HO.out _ hF.2.1).mono ?_); rintro e wk ⟨rfl, hX⟩; replace hS := hS.step hX; clear hX; ((try clear hF); (first | have hF := And.intro hS.facts (hR.at hS.ext) | have hF := hS.facts); simp only [HFacts, cellFacts, RFacts, cellOnly, and_true, true_and, Nat.zero_add, Nat.reduceAdd] at hF)))
                  ((with_reducible refine wp_region_chain_hp [.q, .q, .q, .t, .t, .t, .q, .q, .t, .t] [] (by kernel_rfl) rfl (by kernel_rfl) hS (fun w h => h.sub (by simp)) ?_); clear hS; (repeat ((with_reducible refine Walk.here ?_); (first | ((with_reducible apply Walk.skipQ); (first | rfl | exact wanted_false rfl rfl rfl (by assumption)); (try simp only [Mark.isQ, if_true, Bool.false_eq_true, if_false, Act.put, List.setIfInBounds_toArray, List.set_cons_zero, List.set_cons_succ])) | ((with_reducible apply Walk.val); (first | rfl | exact wanted_true rfl rfl rfl (by assumption)); (rintro w hS; ((try clear hF); (first | have hF := And.intro hS.facts (hR.at hS.ext) | have hF := hS.facts); simp only [HFacts, cellFacts, RFacts, cellOnly, and_true, true_and, Nat.zero_add, Nat.reduceAdd] at hF); go_simp; with_reducible rfl); (try simp only [Mark.isQ, if_true, Bool.false_eq_true, if_false, Act.put, List.setIfInBounds_toArray, List.set_cons_zero, List.set_cons_succ])) | ((with_reducible apply Walk.tail); (try simp only [Mark.isQ, if_true, Bool.false_eq_true, if_false, Act.put, List.setIfInBounds_toArray, List.set_cons_zero, List.set_cons_succ])) | ((with_reducible apply Walk.guardT); rfl; rfl; rfl; (all_goals intro hg)) | ((with_reducible apply Walk.guardF); rfl; rfl; rfl; (all_goals intro hg))))); refine Walk.done ?_; simp only [chainOf, Mark.isT, if_true, Bool.false_eq_true, if_false])
                  refine Chain.val (v := .agg #[.int .i64 x.kind, .int .i64 x.num, .string x.text]) rfl (fun w h => h.sub (by simp)) (fun w hS => ?_) ?_
                  · obtain ⟨b, o, hb, c0, c1, c2⟩ := hS.rv 1 rfl i0 x HX.out
                    obtain ⟨rfl, rfl⟩ : g4 = b ∧ 0 = o := by simpa using hb
                    simp only [Nat.zero_add, Nat.add_zero] at c0 c1 c2
                    go_simp
                  try simp only [Act.put, List.setIfInBounds_toArray, List.set_cons_zero, List.set_cons_succ]
                  refine Chain.alloc (cs := [.int .i64 x.kind, .int .i64 x.num, .string x.text]) (t := 45) (f := fun g => .slice (some ⟨g, 0, none⟩) 1 1) rfl (fun w h => h.sub (by simp)) (fun w hS => ?_) (fun gs => ?_)
                  · go_simp
                  try simp only [Act.put, List.setIfInBounds_toArray, List.set_cons_zero, List.set_cons_succ]
                  refine Chain.append Tryz.elem_vals rfl (.tmp 76) (.tmp 80) rfl 1 rfl rfl rfl ⟨gs, 0, none⟩ rfl rfl (fun w hS jj u hu => World.news_of_block hS.head.2 jj u (by simpa using hu)) (by simp [Value.oneCell']) (by omega) (by omega) (fun w h => h.sub (by simp)) (fun Ak capk => ?_)
                  try simp only [Act.put, List.setIfInBounds_toArray, List.set_cons_zero, List.set_cons_succ]
                  (refine Chain.val (by (first | rfl | exact wanted_true rfl rfl rfl (by assumption))) (fun w h => h.sub (by simp)) (by rintro w hS; ((try clear hF); (first | have hF := And.intro hS.facts (hR.at hS.ext) | have hF := hS.facts); simp only [HFacts, cellFacts, RFacts, cellOnly, and_true, true_and, Nat.zero_add, Nat.reduceAdd] at hF); go_simp; with_reducible rfl) ?_; try simp only [Act.put, List.setIfInBounds_toArray, List.set_cons_zero, List.set_cons_succ])
                  (refine Chain.val (by (first | rfl | exact wanted_true rfl rfl rfl (by assumption))) (fun w h => h.sub (by simp)) (by rintro w hS; ((try clear hF); (first | have hF := And.intro hS.facts (hR.at hS.ext) | have hF := hS.facts); simp only [HFacts, cellFacts, RFacts, cellOnly, and_true, true_and, Nat.zero_add, Nat.reduceAdd] at hF); go_simp; with_reducible rfl) ?_; try simp only [Act.put, List.setIfInBounds_toArray, List.set_cons_zero, List.set_cons_succ])
                  (refine Chain.done ?_; (try clear hF); intro wk hS; ((try clear hF); (first | have hF := And.intro hS.facts (hR.at hS.ext) | have hF := hS.facts); simp only [HFacts, cellFacts, RFacts, cellOnly, and_true, true_and, Nat.zero_add, Nat.reduceAdd] at hF))
                  go_wp2_with fail
                  go_roundw
                  case rel =>
                    refine ⟨j + 1, Ak, capk, out ++ [x], lr, _, cj - 1, i0 + 1, by go_num, by omega, by simp, rfl, by omega, by simp [HOL.out], by omega, Lib.hid ?_, Lib.hid ?_, Lib.hid ?_, Lib.hid ?_, ?_⟩
                    · rw [hfr.out, show k - j = k - (j + 1) + 1 by omega, fillN_no HNB.out.symm]; simp
                    · have := hcnt.out
                      rw [show k - j = k - (j + 1) + 1 by omega, cntN_no HNB.out.symm, List.length_cons] at this
                      omega
                    · have := congrArg List.tail hd0.out
                      rw [List.tail_cons, List.tail_drop] at this
                      exact this
                    · intro hne
                      have h0 : 0 < lr.length := List.length_pos_iff.2 hne
                      rw [if_neg (by omega)]
                      show some _ = some _
                      rw [Nat.add_mul]
                    · exact vRow_push (hS.sub (by simp))
                  case measure => simp [intOf]; omega
                · ((try clear hF); (first | have hF := And.intro hS.facts (hR.at hS.ext) | have hF := hS.facts); simp only [HFacts, cellFacts, RFacts, cellOnly, and_true, true_and, Nat.zero_add, Nat.reduceAdd] at hF)
                  go_wp2_with (first | ((with_reducible first | refine nhLa ?_ | refine nhLs ?_ | refine nhLd ?_ | refine nhCa ?_ | refine nhCs ?_ | refine nhCd ?_ | refine nhPa ?_ | refine nhPs ?_ | refine nhPd ?_ | refine nhKa ?_ | refine nhKs ?_ | refine nhKd ?_); ((try clear hF); clear hS; intro wk hS; (try simp only [List.set_cons_zero, List.set_cons_succ, heap_size, heap_set_size] at hS); ((try clear hF); (first | have hF := And.intro hS.facts (hR.at hS.ext) | have hF := hS.facts); simp only [HFacts, cellFacts, RFacts, cellOnly, and_true, true_and, Nat.zero_add, Nat.reduceAdd] at hF))) | (go_at_call 62; (with_reducible refine (HO.out _ hF.2.1).mono ?_); rintro e wk ⟨rfl, hX⟩; replace hS := hS.step hX; clear hX; ((try clear hF); (first | have hF := And.intro hS.facts (hR.at hS.ext) | have hF := hS.facts); simp only [HFacts, cellFacts, RFacts, cellOnly, and_true, true_and, Nat.zero_add, Nat.reduceAdd] at hF)) | (at_builtin; refine wpList_push_hp Tryz.elem_vals rfl (.tmp 72) (.tmp 74) rfl (hS.second 0 rfl) rfl rfl rfl (by simp [Value.oneCell']) (by omega) (by omega) ?_; clear hS; intro Ak capk wk hS; (try simp only [List.eraseIdx_cons_zero, List.eraseIdx_cons_succ, List.set_cons_zero, List.set_cons_succ] at hS); ((try clear hF); (first | have hF := And.intro hS.facts (hR.at hS.ext) | have hF := hS.facts); simp only [HFacts, cellFacts, RFacts, cellOnly, and_true, true_and, Nat.zero_add, Nat.reduceAdd] at hF)))
                  go_roundw
                  case rel =>
                    refine ⟨j + 1, Ak, capk, out ++ [⟨0, 0, ⟨#[]⟩⟩], lj, Aj, cj, i0, by go_num, by omega, by simp, rfl, hcj, by simp [HOL.out], hlj, Lib.hid ?_, Lib.hid ?_, hd0, had, vRow_push hS⟩
                    · rw [hfr.out, show k - j = k - (j + 1) + 1 by omega, fillN_yes HNB.out.symm]; simp
                    · rw [hcnt.out, show k - j = k - (j + 1) + 1 by omega, cntN_yes HNB.out.symm]
                  case measure => simp [intOf]; omega
              · obtain rfl : j = k := by omega
                have hro : out = R := by rw [hfr.out, Nat.sub_self, fillN, List.append_nil]
                have HRO := Lib.hid hro
                have HE := Lib.hid (fun (W : World) (h : RV W A out) => show Calls Tryz.prog 43 #[.int .i64 kind, .slice A out.length cap] W fun e w' => e = .returned (encRes kind R) ∧ Ext W w' from by
                  rw [← HRO.out]
                  exact encode_any kind out A cap W h (by omega) (fun x hx => HI.out.1 x (by rw [← HRO.out]; exact hx)))
                clear hro hfr hcnt hd0 had hcj
                unfold encRes at HE
                by_cases he : encErr kind R = 0
                · rw [if_pos he] at HE
                  obtain ⟨ts, hts⟩ : ∃ ts : ByteArray, ts = ⟨(encOut kind R).toArray⟩ := ⟨_, rfl⟩
                  rw [← hts] at HE
                  have htl : ts.data.toList = encOut kind R := by rw [hts]
                  clear hts
                  by_cases hsame : encOut kind R = s.data.toList
                  · obtain rfl : ts = s := by
                      apply ByteArray.ext
                      apply Array.toList_inj.1
                      rw [htl, hsame]
                    have hd : D = some R := by rw [HDD.out, if_pos ⟨he, hsame⟩]
                    subst hd
                    clear htl hsame he
                    ((try clear hF); (first | have hF := And.intro hS.facts (hR.at hS.ext) | have hF := hS.facts); simp only [HFacts, cellFacts, RFacts, cellOnly, and_true, true_and, Nat.zero_add, Nat.reduceAdd] at hF)
                    go_wp2_with (first | ((with_reducible first | refine nhLa ?_ | refine nhLs ?_ | refine nhLd ?_ | refine nhCa ?_ | refine nhCs ?_ | refine nhCd ?_ | refine nhPa ?_ | refine nhPs ?_ | refine nhPd ?_ | refine nhKa ?_ | refine nhKs ?_ | refine nhKd ?_); ((try clear hF); clear hS; intro wk hS; (try simp only [List.set_cons_zero, List.set_cons_succ, heap_size, heap_set_size] at hS); ((try clear hF); (first | have hF := And.intro hS.facts (hR.at hS.ext) | have hF := hS.facts); simp only [HFacts, cellFacts, RFacts, cellOnly, and_true, true_and, Nat.zero_add, Nat.reduceAdd] at hF))) | (go_at_call 43; (with_reducible refine (HE.out _ (hS.rv 0 rfl)).mono ?_); rintro e wk ⟨rfl, hX⟩; replace hS := hS.step hX; clear hX; ((try clear hF); (first | have hF := And.intro hS.facts (hR.at hS.ext) | have hF := hS.facts); simp only [HFacts, cellFacts, RFacts, cellOnly, and_true, true_and, Nat.zero_add, Nat.reduceAdd] at hF)))
                    go_ret2
                    exact ⟨A, cap, by rw [HRO.out]; rfl, HRO.out ▸ hS.sub (by simp)⟩
                  · have hd : D = none := by rw [HDD.out, if_neg (fun h => hsame h.2)]
                    subst hd
                    have hnt : ¬ ts.toList = s.toList := fun h => hsame (by rw [← htl, (text_eqL ts s).1 h])
                    have hnt2 : (ts.toList == s.toList) = false := by simpa using hnt
                    clear htl hsame he
                    ((try clear hF); (first | have hF := And.intro hS.facts (hR.at hS.ext) | have hF := hS.facts); simp only [HFacts, cellFacts, RFacts, cellOnly, and_true, true_and, Nat.zero_add, Nat.reduceAdd] at hF)
                    go_wp2_with (first | ((with_reducible first | refine nhLa ?_ | refine nhLs ?_ | refine nhLd ?_ | refine nhCa ?_ | refine nhCs ?_ | refine nhCd ?_ | refine nhPa ?_ | refine nhPs ?_ | refine nhPd ?_ | refine nhKa ?_ | refine nhKs ?_ | refine nhKd ?_); ((try clear hF); clear hS; intro wk hS; (try simp only [List.set_cons_zero, List.set_cons_succ, heap_size, heap_set_size] at hS); ((try clear hF); (first | have hF := And.intro hS.facts (hR.at hS.ext) | have hF := hS.facts); simp only [HFacts, cellFacts, RFacts, cellOnly, and_true, true_and, Nat.zero_add, Nat.reduceAdd] at hF))) | (go_at_call 43; (with_reducible refine (HE.out _ (hS.rv 0 rfl)).mono ?_); rintro e wk ⟨rfl, hX⟩; replace hS := hS.step hX; clear hX; ((try clear hF); (first | have hF := And.intro hS.facts (hR.at hS.ext) | have hF := hS.facts); simp only [HFacts, cellFacts, RFacts, cellOnly, and_true, true_and, Nat.zero_add, Nat.reduceAdd] at hF)))
                    go_ret2
                    exact ⟨rfl, hS.ext⟩
                · rw [if_neg he] at HE
                  have hd : D = none := by rw [HDD.out, if_neg (fun h => he h.1)]
                  subst hd
                  have hev : errV (encErr kind R) = .iface 86 (.int .i64 (encErr kind R)) := by unfold errV; rw [if_neg he]
                  rw [hev] at HE
                  clear hev he
                  ((try clear hF); (first | have hF := And.intro hS.facts (hR.at hS.ext) | have hF := hS.facts); simp only [HFacts, cellFacts, RFacts, cellOnly, and_true, true_and, Nat.zero_add, Nat.reduceAdd] at hF)
                  go_wp2_with (first | ((with_reducible first | refine nhLa ?_ | refine nhLs ?_ | refine nhLd ?_ | refine nhCa ?_ | refine nhCs ?_ | refine nhCd ?_ | refine nhPa ?_ | refine nhPs ?_ | refine nhPd ?_ | refine nhKa ?_ | refine nhKs ?_ | refine nhKd ?_); ((try clear hF); clear hS; intro wk hS; (try simp only [List.set_cons_zero, List.set_cons_succ, heap_size, heap_set_size] at hS); ((try clear hF); (first | have hF := And.intro hS.facts (hR.at hS.ext) | have hF := hS.facts); simp only [HFacts, cellFacts, RFacts, cellOnly, and_true, true_and, Nat.zero_add, Nat.reduceAdd] at hF))) | (go_at_call 43; (with_reducible refine (HE.out _ (hS.rv 0 rfl)).mono ?_); rintro e wk ⟨rfl, hX⟩; replace hS := hS.step hX; clear hX; ((try clear hF); (first | have hF := And.intro hS.facts (hR.at hS.ext) | have hF := hS.facts); simp only [HFacts, cellFacts, RFacts, cellOnly, and_true, true_and, Nat.zero_add, Nat.reduceAdd] at hF)))
                  go_ret2
                  exact ⟨rfl, hS.ext⟩
          · have hd : D = none := by rw [HD.out]; unfold decO readC; rw [if_neg (by rw [← Q3.out, ← HBD.out]; decide), if_pos (Or.inr (by rw [EC.out, ← HL4.out]; exact hlen))]
            subst hd
            have hlb : ((l4.length : Int) != (cc : Int)) = true := by simp; omega
            clear hlen
            ((try clear hF); (first | have hF := And.intro hS.facts (hR.at hS.ext) | have hF := hS.facts); simp only [HFacts, cellFacts, RFacts, cellOnly, and_true, true_and, Nat.zero_add, Nat.reduceAdd] at hF)
            go_wp2_with (first | ((with_reducible first | refine nhLa ?_ | refine nhLs ?_ | refine nhLd ?_ | refine nhCa ?_ | refine nhCs ?_ | refine nhCd ?_ | refine nhPa ?_ | refine nhPs ?_ | refine nhPd ?_ | refine nhKa ?_ | refine nhKs ?_ | refine nhKd ?_); ((try clear hF); clear hS; intro wk hS; (try simp only [List.set_cons_zero, List.set_cons_succ, heap_size, heap_set_size] at hS); ((try clear hF); (first | have hF := And.intro hS.facts (hR.at hS.ext) | have hF := hS.facts); simp only [HFacts, cellFacts, RFacts, cellOnly, and_true, true_and, Nat.zero_add, Nat.reduceAdd] at hF))) | fail)
            go_ret2
            exact ⟨rfl, hS.ext⟩
end Go.Proofs.YtcpllhjhnfmepaaGreatDoor
