/- reader.values, the way of runs; all ways together. -/
import Derived.Test.YtcpllhjhnfmepaaGreatDoorFX15
namespace Go.Proofs.YtcpllhjhnfmepaaGreatDoor
set_option linter.all false
set_option linter.unusedSimpArgs false
set_option linter.unusedVariables false
open Go.RowKit
open Go.Lib (uvarint zigzag)
theorem runs_stop {kind : Int} {n f : Nat} {st : RSt} {acc : List GV} (h : ¬(acc.length < n ∧ st.2 = false)) : rRuns kind n f st acc = (acc, st) := by
  cases f with
  | zero => rfl
  | succ f => rw [rRuns, if_neg h]
theorem Hp.rv1 {B : Nat} {w0 w : World} {L : List Item} {S : Nat} {t : TypeId} {x : GV} (h : Hp B w0 w (.blk S [.int .i64 x.kind, .int .i64 x.num, .string x.text] t :: L)) : RV w (some ⟨S, 0, none⟩) [x] := RV.block h.head.2 rfl
set_option maxRecDepth 100000 in
set_option maxHeartbeats 8000000 in
theorem values1 {B : Nat} {w0 w : World} {L : List Item} (g : Nat) (s : ByteArray) (b : Bool) (kind : Int) (n : Nat) (hn : n ≤ 1000) (hl : s.size ≤ 100000) (hS : Hp B w0 w (.blk g [.string s, .bool b] 126 :: L)) :
    Calls Tryz.prog 63 #[.pointer (some ⟨g, 0, none⟩), .int .i64 1, .int .i64 kind, .int .i64 n] w (RResL B w0 L g (rRuns kind n (n + 1) (s.data.toList, b) [])) := by
  obtain ⟨R, hR0⟩ : ∃ R, R = rRuns kind n (n + 1) (s.data.toList, b) [] := ⟨_, rfl⟩
  rw [← hR0]
  have HR := Lib.hid hR0
  clear hR0
  replace hS := hS.nilRow 45 3
  ((try clear hF); (first | have hF := And.intro hS.facts (hR.at hS.ext) | have hF := hS.facts); simp only [HFacts, cellFacts, RFacts, cellOnly, and_true, true_and, Nat.zero_add, Nat.reduceAdd] at hF)
  go_enter Tryz.func63, Tryz.ntmps63
  go_wp2_with (first | ((with_reducible first | refine nhLa ?_ | refine nhLs ?_ | refine nhLd ?_ | refine nhCa ?_ | refine nhCs ?_ | refine nhCd ?_ | refine nhPa ?_ | refine nhPs ?_ | refine nhPd ?_ | refine nhKa ?_ | refine nhKs ?_ | refine nhKd ?_); ((try clear hF); clear hS; intro wk hS; (try simp only [List.set_cons_zero, List.set_cons_succ, heap_size, heap_set_size] at hS); ((try clear hF); (first | have hF := And.intro hS.facts (hR.at hS.ext) | have hF := hS.facts); simp only [HFacts, cellFacts, RFacts, cellOnly, and_true, true_and, Nat.zero_add, Nat.reduceAdd] at hF))) | fail)
  go_loopg [9] (2 * n + 1) (fun gk v wr => ∃ (A : Option Addr) (cap : Nat) (os : List GV) (s' : ByteArray) (b' : Bool) (f : Nat), v = .slice A os.length cap ∧ os.length ≤ n ∧ Hid (2 * (n - os.length) + (if b' = true then 0 else 1) ≤ gk) ∧ Hid (R = rRuns kind n f (s'.data.toList, b') os) ∧ Hid (b' = false → n + 1 ≤ os.length + f) ∧ s'.size ≤ 100000 ∧ Hp B w0 wr (vRow A cap os :: .blk g [.string s', .bool b'] 126 :: L))
  case atStart => exact ⟨none, 0, [], s, b, n + 1, rfl, Nat.zero_le _, Lib.hid (by simp; split <;> omega), HR, Lib.hid (fun _ => by simp), hl, hS⟩
  case round =>
    clear hS hF hl
    obtain ⟨A1, cap1, os, s', b', f, rfl, hol, hgk, hr, hff, hsl, hS⟩ := hrel
    by_cases hlt : os.length < n
    · cases b' with
      | true =>
        have HFIN := Lib.hid (runs_stop (kind := kind) (n := n) (f := f) (st := (s'.data.toList, true)) (acc := os) (by simp))
        ((try clear hF); (first | have hF := And.intro hS.facts (hR.at hS.ext) | have hF := hS.facts); simp only [HFacts, cellFacts, RFacts, cellOnly, and_true, true_and, Nat.zero_add, Nat.reduceAdd] at hF)
        go_wp2_with (first | ((with_reducible first | refine nhLa ?_ | refine nhLs ?_ | refine nhLd ?_ | refine nhCa ?_ | refine nhCs ?_ | refine nhCd ?_ | refine nhPa ?_ | refine nhPs ?_ | refine nhPd ?_ | refine nhKa ?_ | refine nhKs ?_ | refine nhKd ?_); ((try clear hF); clear hS; intro wk hS; (try simp only [List.set_cons_zero, List.set_cons_succ, heap_size, heap_set_size] at hS); ((try clear hF); (first | have hF := And.intro hS.facts (hR.at hS.ext) | have hF := hS.facts); simp only [HFacts, cellFacts, RFacts, cellOnly, and_true, true_and, Nat.zero_add, Nat.reduceAdd] at hF))) | fail)
        go_ret
        exact ⟨A1, cap1, os, s', true, rfl, Lib.hid (by rw [hr.out, HFIN.out]), Lib.hid (by rw [hr.out, HFIN.out]), hS⟩
      | false =>
        obtain ⟨f', rfl⟩ : ∃ f', f = f' + 1 := ⟨f - 1, by have := hff.out rfl; omega⟩
        obtain ⟨q, hq⟩ : ∃ q, q = rSmall (n - os.length) (s'.data.toList, false) := ⟨_, rfl⟩
        have HO := fun (W : World) (L : List Item) hS => rsmall_any (w0 := w0) (w := W) (B := B) (L := L) g s' false (n - os.length) hsl (by omega) hS
        have hlen := rSmall_len (n - os.length) (s'.data.toList, false)
        have hle := rSmall_le (n - os.length) (s'.data.toList, false)
        rw [← hq] at HO hlen hle
        have HQ := Lib.hid hq
        clear hq
        obtain ⟨ix, st⟩ := q
        have HLEN := Lib.hid hlen
        have hle : ix ≤ n - os.length := hle
        have HO2 := Lib.hid (show ∀ (W : World) (L : List Item), Hp B w0 W (.blk g [.string s', .bool false] 126 :: L) → Calls Tryz.prog 60 #[.pointer (some ⟨g, 0, none⟩), .int .i64 ((n : Int) - os.length)] W (RRes B w0 L g (.int .i64 (ix : Int)) st) from fun W L h => by
          have := HO W L h
          rw [show ((n - os.length : Nat) : Int) = (n : Int) - os.length by omega] at this
          exact this)
        clear HO hlen
        obtain ⟨r, hr0⟩ : ∃ r, r = rOne kind st := ⟨_, rfl⟩
        have HO3 := Lib.hid (fun (W : World) (L : List Item) (s2 : ByteArray) (h2 : s2.data.toList = st.1) hS => show Calls Tryz.prog 85 #[.pointer (some ⟨g, 0, none⟩), .int .i64 kind] W (RResV B w0 L g r.1 r.2) from by
          have := rone_any (w0 := w0) (w := W) (B := B) (L := L) g s2 st.2 kind (size_le h2 HLEN.out hsl) hS
          rw [h2] at this
          rw [hr0]
          exact this)
        have HLEN2 := Lib.hid (show r.2.1.length ≤ s'.data.toList.length from by rw [hr0]; exact Nat.le_trans (rOne_len kind st) HLEN.out)
        have HST := Lib.hid (show rRuns kind n (f' + 1) (s'.data.toList, false) os = rRuns kind n f' (r.2.1, r.2.2 || decide (ix = 0)) (os ++ List.replicate ix r.1) by
          rw [rRuns, if_pos ⟨hlt, rfl⟩, ← HQ.out, hr0])
        clear hr0
        have f1 : (os.length : Int) < n := by omega
        ((try clear hF); (first | have hF := And.intro hS.facts (hR.at hS.ext) | have hF := hS.facts); simp only [HFacts, cellFacts, RFacts, cellOnly, and_true, true_and, Nat.zero_add, Nat.reduceAdd] at hF)
        go_wp2_with (first | ((with_reducible first | refine nhLa ?_ | refine nhLs ?_ | refine nhLd ?_ | refine nhCa ?_ | refine nhCs ?_ | refine nhCd ?_ | refine nhPa ?_ | refine nhPs ?_ | refine nhPd ?_ | refine nhKa ?_ | refine nhKs ?_ | refine nhKd ?_); ((try clear hF); clear hS; intro wk hS; (try simp only [List.set_cons_zero, List.set_cons_succ, heap_size, heap_set_size] at hS); ((try clear hF); (first | have hF := And.intro hS.facts (hR.at hS.ext) | have hF := hS.facts); simp only [HFacts, cellFacts, RFacts, cellOnly, and_true, true_and, Nat.zero_add, Nat.reduceAdd] at hF))) | (go_at_call 60; (with_reducible refine Calls.mono (HO2.out _ _ (hS.front 1 rfl)) ?_); clear hS; rintro e wk ⟨s2, rfl, hs2, hS⟩; (try simp only [List.eraseIdx_cons_zero, List.eraseIdx_cons_succ, List.set_cons_zero, List.set_cons_succ] at hS); ((try clear hF); (first | have hF := And.intro hS.facts (hR.at hS.ext) | have hF := hS.facts); simp only [HFacts, cellFacts, RFacts, cellOnly, and_true, true_and, Nat.zero_add, Nat.reduceAdd] at hF)) | (go_at_call 85; (with_reducible refine Calls.mono (HO3.out _ _ s2 hs2.out (hS.front 0 rfl)) ?_); clear hS; rintro e wk ⟨s3, x, rfl, hx, hs3, hS⟩; (try simp only [List.eraseIdx_cons_zero, List.eraseIdx_cons_succ, List.set_cons_zero, List.set_cons_succ] at hS); ((try clear hF); (first | have hF := And.intro hS.facts (hR.at hS.ext) | have hF := hS.facts); simp only [HFacts, cellFacts, RFacts, cellOnly, and_true, true_and, Nat.zero_add, Nat.reduceAdd] at hF)) | (go_at_call 53; (with_reducible refine Calls.mono (repeat_any x _ _ ix (by omega) _ hS.rv1) ?_); rintro e wk ⟨gr, capr, rfl, hW⟩; replace hS := hS.join hW; clear hW; simp only [List.cons_append, List.nil_append] at hS; ((try clear hF); (first | have hF := And.intro hS.facts (hR.at hS.ext) | have hF := hS.facts); simp only [HFacts, cellFacts, RFacts, cellOnly, and_true, true_and, Nat.zero_add, Nat.reduceAdd] at hF)) | (at_builtin; refine wpList_append_row Tryz.elem_vals rfl (.tmp 49) (.tmp 55) rfl (hS.front 3 rfl) 0 rfl rfl rfl (cellsV_one _) (by omega) (by omega) ?_; clear hS; intro Ab capb wk hS; (try simp only [List.eraseIdx_cons_zero, List.eraseIdx_cons_succ, List.set_cons_zero, List.set_cons_succ] at hS); ((try clear hF); (first | have hF := And.intro hS.facts (hR.at hS.ext) | have hF := hS.facts); simp only [HFacts, cellFacts, RFacts, cellOnly, and_true, true_and, Nat.zero_add, Nat.reduceAdd] at hF)))
        · rename_i hbt
          have hS2 := (hS.put (i := 3) (j := 1) (u := .bool true) rfl).sub (M := [.row 45 3 Ab (os.length + ix) capb (cellsV os ++ cellsV (List.replicate ix x)), .blk g [.string s3, .bool true] 126] ++ L) (by simp)
          go_roundg (2 * (n - (os.length + ix)))
          case rel =>
            refine ⟨Ab, capb, os ++ List.replicate ix x, s3, true, f', by simp, by simp; omega, Lib.hid (by simp), Lib.hid ?_, Lib.hid (by simp), size_le hs3.out HLEN2.out hsl, ?_⟩
            · rw [hr.out, HST.out, hx.out, hs3.out, hbt, Bool.true_or]
            · rw [← cellsV_append] at hS2
              unfold vRow
              rw [List.length_append, List.length_replicate]
              exact hS2
          case measure => have := hgk.out; simp at this; omega
        · rename_i hbt
          have hbt : r.2.2 = false := by simpa using hbt
          by_cases hix : ix = 0
          · subst hix
            have hS2 := (hS.put (i := 3) (j := 1) (u := .bool (((0 : Nat) : Int) == 0)) rfl).sub (M := [.row 45 3 Ab (os.length + 0) capb (cellsV os ++ cellsV (List.replicate 0 x)), .blk g [.string s3, .bool true] 126] ++ L) (by simp)
            go_roundg (2 * (n - os.length))
            case rel =>
              refine ⟨Ab, capb, os ++ List.replicate 0 x, s3, true, f', by simp, by simp; omega, Lib.hid (by simp), Lib.hid ?_, Lib.hid (by simp), size_le hs3.out HLEN2.out hsl, ?_⟩
              · rw [hr.out, HST.out, hx.out, hs3.out, hbt]; rfl
              · rw [← cellsV_append] at hS2
                unfold vRow
                rw [List.length_append, List.length_replicate]
                exact hS2
            case measure => have := hgk.out; simp at this; omega
          · have hxb : ((ix : Int) == 0) = false := by simp [hix]
            have hS2 := (hS.put (i := 3) (j := 1) (u := .bool ((ix : Int) == 0)) rfl).sub (M := [.row 45 3 Ab (os.length + ix) capb (cellsV os ++ cellsV (List.replicate ix x)), .blk g [.string s3, .bool false] 126] ++ L) (by simp [hxb])
            go_roundg (2 * (n - (os.length + ix)) + 1)
            case rel =>
              refine ⟨Ab, capb, os ++ List.replicate ix x, s3, false, f', by simp, by simp; omega, Lib.hid (by simp), Lib.hid ?_, Lib.hid ?_, size_le hs3.out HLEN2.out hsl, ?_⟩
              · rw [hr.out, HST.out, hx.out, hs3.out, hbt, decide_eq_false hix]; rfl
              · intro _
                have := hff.out trivial
                rw [List.length_append, List.length_replicate]
                omega
              · rw [← cellsV_append] at hS2
                unfold vRow
                rw [List.length_append, List.length_replicate]
                exact hS2
            case measure => have := hgk.out; simp at this; omega
    · have HFIN := Lib.hid (runs_stop (kind := kind) (n := n) (f := f) (st := (s'.data.toList, b')) (acc := os) (by omega))
      ((try clear hF); (first | have hF := And.intro hS.facts (hR.at hS.ext) | have hF := hS.facts); simp only [HFacts, cellFacts, RFacts, cellOnly, and_true, true_and, Nat.zero_add, Nat.reduceAdd] at hF)
      go_wp2_with (first | ((with_reducible first | refine nhLa ?_ | refine nhLs ?_ | refine nhLd ?_ | refine nhCa ?_ | refine nhCs ?_ | refine nhCd ?_ | refine nhPa ?_ | refine nhPs ?_ | refine nhPd ?_ | refine nhKa ?_ | refine nhKs ?_ | refine nhKd ?_); ((try clear hF); clear hS; intro wk hS; (try simp only [List.set_cons_zero, List.set_cons_succ, heap_size, heap_set_size] at hS); ((try clear hF); (first | have hF := And.intro hS.facts (hR.at hS.ext) | have hF := hS.facts); simp only [HFacts, cellFacts, RFacts, cellOnly, and_true, true_and, Nat.zero_add, Nat.reduceAdd] at hF))) | fail)
      go_ret
      exact ⟨A1, cap1, os, s', b', rfl, Lib.hid (by rw [hr.out, HFIN.out]), Lib.hid (by rw [hr.out, HFIN.out]), hS⟩
theorem values_any {B : Nat} {w0 w : World} {L : List Item} (g : Nat) (s : ByteArray) (b : Bool) (way : Nat) (kind : Int) (n : Nat) (hn : n ≤ 1000) (hl : s.size ≤ 100000) (hS : Hp B w0 w (.blk g [.string s, .bool b] 126 :: L)) :
    Calls Tryz.prog 63 #[.pointer (some ⟨g, 0, none⟩), .int .i64 way, .int .i64 kind, .int .i64 n] w (RResL B w0 L g (rValues way kind n (s.data.toList, b))) := by
  unfold rValues
  by_cases h0 : way = 0
  · subst h0; rw [if_pos rfl]; exact values0 g s b kind n hn hl hS
  · rw [if_neg h0]
    by_cases h1 : way = 1
    · subst h1; rw [if_pos rfl]; exact values1 g s b kind n hn hl hS
    · rw [if_neg h1]
      by_cases h2 : way = 2
      · subst h2; rw [if_pos rfl]; exact values2 g s b kind n hn hl hS
      · rw [if_neg h2]
        by_cases h3 : way = 3
        · subst h3; rw [if_pos rfl]; exact values3 g s b kind n hn hl hS
        · rw [if_neg h3]; exact values_bad g s b kind way n (by omega) hS
end Go.Proofs.YtcpllhjhnfmepaaGreatDoor
