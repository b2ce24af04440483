/- Texts joined: millpondkeep.short: a commit is short. log.Fights: two commits fight. who does not fight may go first: the plain law. numbers in letters: strconv.Itoa; log.ints. log.Key: where a version's commit lies. The tables that a row of the log laws lists: what they tell of the world; a world that has them. log.columns: columns in letters. log.number: a number in letters. log.literal: a value in letters. log.Print: a commit in letters. (Printed by genprint.py.) log.quoted: a text, cut at a mark, but not between two '. What a line says (plain): the parts of a text, numbers, columns, actions. log.line: what it answers. -/
import Derived.Test.YtlgidjanmaijaaaGreatDoorCX07
import Derived.Test.YtlgidjanmaijaaaGreatDoorCX06
import Derived.Test.YtlgidjanmaijaaaGreatDoorCX02
import Derived.Test.YtlgidjanmaijaaaGreatDoorCX05
import Derived.Test.YtlgidjanmaijaaaGreatDoorCX01
import Derived.Test.YtlgidjanmaijaaaGreatDoorCards
import Derived.Test.YtlgidjanmaijaaaGreatDoorTie
import Derived.LaidMore
import Derived.LaidHandle
import Derived.Lay
import Derived.OpenShut
import Derived.Stop.Joined
import Derived.SevenTiedAt
import Derived.Lib.LaidTab
import Derived.Lib.ItoaLen
import Derived.Test.YtlgidjanmaijaaaGreatDoorCX04
import Derived.Deep.DeepCutAuto
/- millpondkeep.short: a commit is short. -/
namespace Go.Proofs.YtlgidjanmaijaaaGreatDoor
set_option linter.unusedSimpArgs false
set_option linter.unusedVariables false
open Go.RowKit
set_option linter.all false
def shortAc (a : AN) : Bool := decide (a.path.size ≤ 60) && decide (a.mask.length ≤ 70) && shortCs a.cols
def shortCo (tx : ByteArray) (l : List AN) : Bool := decide (tx.size ≤ 60) && decide (l.length ≤ 12) && l.all shortAc
set_option maxRecDepth 100000 in
set_option maxHeartbeats 8000000 in
theorem short_any (tx : ByteArray) (rd : Bool) (l : List (AN × AV)) (A : Option Addr) (n cap : Nat) (w : World) (hn : l.length = n) (hr : RA w A l)
    (hl : ∀ a v, (a, v) ∈ l → a.mask.length = v.qn ∧ a.cols.length = v.rn ∧ RC w v.ra a.cols) :
    Calls Tryz.prog 6 #[coV tx rd A n cap] w fun e w' => e = .returned (.bool (shortCo tx (l.map (·.1)))) ∧ Ext w w' := by
  have Hn := Lib.hid hn
  have HL := Lib.hid hl
  unfold shortCo
  rw [List.length_map, hn]
  clear hn hl
  have hS := Hp.init w
  have hR := Reads.nil w
  by_cases h60 : 60 < tx.size
  · rw [show decide (tx.size ≤ 60) = false by simp; omega]
    go_enter Tryz.func6, Tryz.ntmps6
    go_wp2_with (first | (refine hab ?_; (try clear hF); clear hS; intro wk hS; (try simp only [List.set_cons_zero, List.set_cons_succ, heap_size, heap_set_size] at hS); ((try clear hF); refine hfI ?_; intro hF)) | fail)
    go_ret
    exact ⟨rfl, hS.ext⟩
  by_cases h12 : 12 < n
  · rw [show decide (n ≤ 12) = false by simp; omega, Bool.and_false]
    go_enter Tryz.func6, Tryz.ntmps6
    go_wp2_with (first | (refine hab ?_; (try clear hF); clear hS; intro wk hS; (try simp only [List.set_cons_zero, List.set_cons_succ, heap_size, heap_set_size] at hS); ((try clear hF); refine hfI ?_; intro hF)) | fail)
    go_ret
    exact ⟨rfl, hS.ext⟩
  · rw [show decide (n ≤ 12) = true by simp; omega, show decide (tx.size ≤ 60) = true by simp; omega, Bool.true_and, Bool.true_and]
    obtain ⟨D, hD⟩ : ∃ D, D = (l.map (·.1)).all shortAc := ⟨_, rfl⟩
    rw [← hD]
    have HD := Lib.hid hD
    clear hD
    go_enter Tryz.func6, Tryz.ntmps6
    go_wp2_with (first | (refine hab ?_; (try clear hF); clear hS; intro wk hS; (try simp only [List.set_cons_zero, List.set_cons_succ, heap_size, heap_set_size] at hS); ((try clear hF); refine hfI ?_; intro hF)) | fail)
    go_loopw [3] (fun i wr => ∃ k : Nat, i = .int .i64 k ∧ k ≤ n ∧ Hid (((l.map (·.1)).take k).all shortAc = true) ∧ Hp w.heap.size w wr [.blk w.heap.size [.string tx, .bool rd, .slice A n cap] 38]) (fun i _ => n - (intOf i).toNat)
    case atStart => exact ⟨0, rfl, Nat.zero_le _, Lib.hid rfl, hS⟩
    case round =>
      clear hS
      obtain ⟨k, rfl, hk, hf, hS⟩ := hrel
      by_cases hlt : k < n
      · obtain ⟨⟨a, v⟩, ha⟩ : ∃ x, l[k]? = some x := ⟨l[k]'(by rw [Hn.out]; exact hlt), List.getElem?_eq_getElem _⟩
        obtain ⟨b, o, rfl, c0, c1, c2, c3, c4, c5⟩ := hr k a v ha
        have hR := Reads.cell c0 (Reads.cell c1 (Reads.cell c2 (Reads.cell c3 (Reads.cell c4 (Reads.cell c5 (Reads.nil w))))))
        have HX := Lib.hid (show (l.map (·.1))[k]? = some a by rw [List.getElem?_map, ha]; rfl)
        obtain ⟨q1, q2, q3⟩ := HL.out a v (List.mem_of_getElem? ha)
        have HCO := Lib.hid (fun (W : World) (hx : Ext w W) => columns_any a.cols v.ra v.rn v.rc W q2 (q3.ext hx))
        clear c0 c1 c2 c3 c4 c5 hr ha q3
        by_cases e1 : 60 < a.path.size
        · have hDe : D = false := HD.out.trans (all_not HX.out (show shortAc a = false by unfold shortAc; rw [decide_eq_false (p := a.path.size ≤ 60) (by omega)]; rfl))
          clear HD
          subst hDe
          ((try clear hF); refine hfI ?_; intro hF)
          go_wp2_with (first | (refine hab ?_; (try clear hF); clear hS; intro wk hS; (try simp only [List.set_cons_zero, List.set_cons_succ, heap_size, heap_set_size] at hS); ((try clear hF); refine hfI ?_; intro hF)) | fail)
          go_ret
          exact ⟨rfl, hS.ext⟩
        by_cases e2 : 70 < v.qn
        · have hDe : D = false := HD.out.trans (all_not HX.out (show shortAc a = false by unfold shortAc; rw [decide_eq_false (p := a.mask.length ≤ 70) (by omega), Bool.and_false]; rfl))
          clear HD
          subst hDe
          ((try clear hF); refine hfI ?_; intro hF)
          go_wp2_with (first | (refine hab ?_; (try clear hF); clear hS; intro wk hS; (try simp only [List.set_cons_zero, List.set_cons_succ, heap_size, heap_set_size] at hS); ((try clear hF); refine hfI ?_; intro hF)) | fail)
          go_ret
          exact ⟨rfl, hS.ext⟩
        have HSA := Lib.hid (show shortAc a = shortCs a.cols by unfold shortAc; rw [decide_eq_true (by omega), decide_eq_true (by omega)]; rfl)
        obtain ⟨bc, hbc⟩ : ∃ x, x = shortCs a.cols := ⟨_, rfl⟩
        rw [← hbc] at HSA HCO
        clear hbc q1 q2
        cases bc with
        | false =>
          have hDe : D = false := HD.out.trans (all_not HX.out HSA.out)
          clear HD
          subst hDe
          ((try clear hF); refine hfI ?_; intro hF)
          go_wp2_with (first | (refine hab ?_; (try clear hF); clear hS; intro wk hS; (try simp only [List.set_cons_zero, List.set_cons_succ, heap_size, heap_set_size] at hS); ((try clear hF); refine hfI ?_; intro hF)) | (go_at_call 17; (with_reducible refine (HCO.out _ hS.ext).mono ?_); rintro e wk ⟨rfl, hX⟩; replace hS := hS.step hX; clear hX; ((try clear hF); refine hfI ?_; intro hF)))
          go_ret
          exact ⟨rfl, hS.ext⟩
        | true =>
          have HT := Lib.hid (all_upto hf.out HX.out HSA.out)
          ((try clear hF); refine hfI ?_; intro hF)
          go_wp2_with (first | (refine hab ?_; (try clear hF); clear hS; intro wk hS; (try simp only [List.set_cons_zero, List.set_cons_succ, heap_size, heap_set_size] at hS); ((try clear hF); refine hfI ?_; intro hF)) | (go_at_call 17; (with_reducible refine (HCO.out _ hS.ext).mono ?_); rintro e wk ⟨rfl, hX⟩; replace hS := hS.step hX; clear hX; ((try clear hF); refine hfI ?_; intro hF)))
          go_roundw
          case rel => exact ⟨k + 1, by go_num, by omega, HT, hS.tail⟩
          case measure => simp [intOf]; omega
      · obtain rfl : k = n := by omega
        have := hf.out
        rw [List.take_of_length_le (by rw [List.length_map, Hn.out]; omega), ← HD.out] at this
        clear HD
        subst this
        ((try clear hF); refine hfI ?_; intro hF)
        go_wp2_with (first | (refine hab ?_; (try clear hF); clear hS; intro wk hS; (try simp only [List.set_cons_zero, List.set_cons_succ, heap_size, heap_set_size] at hS); ((try clear hF); refine hfI ?_; intro hF)) | fail)
        go_ret
        exact ⟨rfl, hS.ext⟩
end Go.Proofs.YtlgidjanmaijaaaGreatDoor

/- log.Fights: two commits fight. -/
namespace Go.Proofs.YtlgidjanmaijaaaGreatDoor
set_option linter.unusedSimpArgs false
set_option linter.unusedVariables false
open Go.RowKit
set_option linter.all false
def fight1 (rd : Bool) (la : List AN) (b : AN) : Bool := (b.kind == 4) || rd || la.any fun a => (a.kind == 4) || pathEq b.path a.path
/-- whether a commit fights another one -/
def fightB (rd : Bool) (la lb : List AN) : Bool := lb.any (fight1 rd la)
theorem any_drop {α : Type} {p : α → Bool} {l : List α} {k : Nat} {x : α} (hx : l[k]? = some x) : (l.drop k).any p = (p x || (l.drop (k + 1)).any p) := by
  obtain ⟨h1, h2⟩ := List.getElem?_eq_some_iff.1 hx
  rw [List.drop_eq_getElem_cons h1, h2, List.any_cons]
set_option maxRecDepth 100000 in
set_option maxHeartbeats 8000000 in
theorem fights_any (tx tx2 : ByteArray) (rd rd2 : Bool) (la lb : List (AN × AV)) (A A2 : Option Addr) (n cap m cap2 : Nat) (w : World) (hn : la.length = n) (hm : lb.length = m) (hn2 : n ≤ 1000) (hm2 : m ≤ 1000) (hr : RA w A la) (hr2 : RA w A2 lb) :
    Calls Tryz.prog 22 #[coV tx rd A n cap, coV tx2 rd2 A2 m cap2] w fun e w' => e = .returned (.bool (fightB rd (la.map (·.1)) (lb.map (·.1)))) ∧ Ext w w' := by
  have Hn := Lib.hid hn
  have Hm := Lib.hid hm
  have HRA := Lib.hid hr
  unfold fightB
  clear hn hm hr
  obtain ⟨D, hD⟩ : ∃ D, D = (lb.map (·.1)).any (fight1 rd (la.map (·.1))) := ⟨_, rfl⟩
  rw [← hD]
  have HD := Lib.hid hD
  clear hD
  have hS := Hp.init w
  have hR := Reads.nil w
  go_enter Tryz.func22, Tryz.ntmps22
  go_wp2_with (first | (refine hab ?_; (try clear hF); clear hS; intro wk hS; (try simp only [List.set_cons_zero, List.set_cons_succ, heap_size, heap_set_size] at hS); ((try clear hF); refine hfI ?_; intro hF)) | fail)
  rename_i wz Kc ac
  generalize wz.heap.size = g3 at *
  go_loopw [12] (fun i wr => ∃ k : Nat, i = .int .i64 k ∧ k ≤ m ∧ Hid (D = ((lb.map (·.1)).drop k).any (fight1 rd (la.map (·.1)))) ∧ Hp w.heap.size w wr [.blk g3 [.string tx2, .bool rd2, .slice A2 m cap2] 38, .blk w.heap.size [.string tx, .bool rd, .slice A n cap] 38]) (fun i _ => m - (intOf i).toNat)
  case atStart => exact ⟨0, rfl, Nat.zero_le _, Lib.hid HD.out, hS⟩
  case round =>
    clear hS HD
    obtain ⟨k, rfl, hk, HD, hS⟩ := hrel
    by_cases hlt : k < m
    · obtain ⟨⟨b, vb⟩, hb⟩ : ∃ x, lb[k]? = some x := ⟨lb[k]'(by rw [Hm.out]; exact hlt), List.getElem?_eq_getElem _⟩
      obtain ⟨gb, ob, rfl, c0, c1, c2, c3, c4, c5⟩ := hr2 k b vb hb
      have hR := Reads.cell c0 (Reads.cell c1 (Reads.cell c2 (Reads.cell c3 (Reads.cell c4 (Reads.cell c5 (Reads.nil w))))))
      have hbm : (lb.map (·.1))[k]? = some b := by rw [List.getElem?_map, hb]; rfl
      have HD2 := Lib.hid (show D = (((b.kind == 4) || rd || (la.map (·.1)).any fun a => (a.kind == 4) || pathEq b.path a.path) || ((lb.map (·.1)).drop (k + 1)).any (fight1 rd (la.map (·.1)))) by rw [HD.out, any_drop hbm]; rfl)
      clear HD hbm hb c0 c1 c2 c3 c4 c5
      by_cases b4 : b.kind = 4
      · have hDe : D = true := by rw [HD2.out, b4]; simp
        clear HD2
        subst hDe
        have b4' : (b.kind == 4) = true := by simp [b4]
        ((try clear hF); refine hfI ?_; intro hF)
        go_wp2_with (first | (refine hab ?_; (try clear hF); clear hS; intro wk hS; (try simp only [List.set_cons_zero, List.set_cons_succ, heap_size, heap_set_size] at hS); ((try clear hF); refine hfI ?_; intro hF)) | fail)
        go_ret
        exact ⟨rfl, hS.ext⟩
      have b4' : (b.kind == 4) = false := by simp [b4]
      cases rd with
      | true =>
        have hDe : D = true := by rw [HD2.out]; simp
        clear HD2
        subst hDe
        ((try clear hF); refine hfI ?_; intro hF)
        go_wp2_with (first | (refine hab ?_; (try clear hF); clear hS; intro wk hS; (try simp only [List.set_cons_zero, List.set_cons_succ, heap_size, heap_set_size] at hS); ((try clear hF); refine hfI ?_; intro hF)) | fail)
        go_ret
        exact ⟨rfl, hS.ext⟩
      | false =>
        have HD3 := Lib.hid (show D = (((la.map (·.1)).any fun a => (a.kind == 4) || pathEq b.path a.path) || ((lb.map (·.1)).drop (k + 1)).any (fight1 false (la.map (·.1)))) by rw [HD2.out, b4']; simp)
        clear HD2 b4
        ((try clear hF); refine hfI ?_; intro hF)
        go_wp2_with (first | (refine hab ?_; (try clear hF); clear hS; intro wk hS; (try simp only [List.set_cons_zero, List.set_cons_succ, heap_size, heap_set_size] at hS); ((try clear hF); refine hfI ?_; intro hF)) | fail)
        go_loopw [26] (fun i wr2 => ∃ j : Nat, i = .int .i64 j ∧ j ≤ n ∧ Hid (D = ((((la.map (·.1)).drop j).any fun a => (a.kind == 4) || pathEq b.path a.path) || ((lb.map (·.1)).drop (k + 1)).any (fight1 false (la.map (·.1))))) ∧ Hp w.heap.size w wr2 [.blk wr.heap.size [.int .i64 b.kind, .string b.path, .int .i64 b.rows, .slice vb.qa vb.qn vb.qc, .slice vb.ra vb.rn vb.rc, .int .i64 b.next] 63, .blk g3 [.string tx2, .bool rd2, .slice (some ⟨gb, ob, none⟩) m cap2] 38, .blk w.heap.size [.string tx, .bool false, .slice A n cap] 38]) (fun i _ => n - (intOf i).toNat)
        case atStart => exact ⟨0, rfl, Nat.zero_le _, Lib.hid HD3.out, hS⟩
        case round =>
          clear hS HD3
          obtain ⟨j, rfl, hj, HD4, hS⟩ := hrel
          by_cases hlt2 : j < n
          · obtain ⟨⟨a, va⟩, ha⟩ : ∃ x, la[j]? = some x := ⟨la[j]'(by rw [Hn.out]; exact hlt2), List.getElem?_eq_getElem _⟩
            obtain ⟨ga, oa, rfl, c0, c1, c2, c3, c4, c5⟩ := HRA.out j a va ha
            have hR := Reads.cell c0 (Reads.cell c1 (Reads.cell c2 (Reads.cell c3 (Reads.cell c4 (Reads.cell c5 (Reads.nil w))))))
            have ham : (la.map (·.1))[j]? = some a := by rw [List.getElem?_map, ha]; rfl
            have HD5 := Lib.hid (show D = (((a.kind == 4) || pathEq b.path a.path || ((la.map (·.1)).drop (j + 1)).any fun a => (a.kind == 4) || pathEq b.path a.path) || ((lb.map (·.1)).drop (k + 1)).any (fight1 false (la.map (·.1)))) by rw [HD4.out, any_drop ham])
            clear HD4 ham ha c0 c1 c2 c3 c4 c5
            by_cases a4 : a.kind = 4
            · have hDe : D = true := by rw [HD5.out, a4]; simp
              clear HD5
              subst hDe
              have a4' : (a.kind == 4) = true := by simp [a4]
              ((try clear hF); refine hfI ?_; intro hF)
              go_wp2_with (first | (refine hab ?_; (try clear hF); clear hS; intro wk hS; (try simp only [List.set_cons_zero, List.set_cons_succ, heap_size, heap_set_size] at hS); ((try clear hF); refine hfI ?_; intro hF)) | fail)
              go_ret
              exact ⟨rfl, hS.ext⟩
            have a4' : (a.kind == 4) = false := by simp [a4]
            obtain ⟨pe, hpe⟩ : ∃ x, x = pathEq b.path a.path := ⟨_, rfl⟩
            rw [← hpe] at HD5
            unfold pathEq at hpe
            have hp2 := hpe.symm
            clear hpe
            cases pe with
            | true =>
              have hDe : D = true := by rw [HD5.out]; simp
              clear HD5
              subst hDe
              ((try clear hF); refine hfI ?_; intro hF)
              go_wp2_with (first | (refine hab ?_; (try clear hF); clear hS; intro wk hS; (try simp only [List.set_cons_zero, List.set_cons_succ, heap_size, heap_set_size] at hS); ((try clear hF); refine hfI ?_; intro hF)) | fail)
              go_ret
              exact ⟨rfl, hS.ext⟩
            | false =>
              have HD6 := Lib.hid (show D = ((((la.map (·.1)).drop (j + 1)).any fun a => (a.kind == 4) || pathEq b.path a.path) || ((lb.map (·.1)).drop (k + 1)).any (fight1 false (la.map (·.1)))) by rw [HD5.out, a4']; simp)
              ((try clear hF); refine hfI ?_; intro hF)
              go_wp2_with (first | (refine hab ?_; (try clear hF); clear hS; intro wk hS; (try simp only [List.set_cons_zero, List.set_cons_succ, heap_size, heap_set_size] at hS); ((try clear hF); refine hfI ?_; intro hF)) | fail)
              go_roundw
              case rel => exact ⟨j + 1, by go_num, by omega, HD6, hS.tail⟩
              case measure => simp [intOf]; omega
          · obtain rfl : n = j := by omega
            have HD6 := Lib.hid (show D = ((lb.map (·.1)).drop (k + 1)).any (fight1 false (la.map (·.1))) by rw [HD4.out, List.drop_eq_nil_of_le (by rw [List.length_map, Hn.out]; omega)]; rfl)
            clear HD4
            ((try clear hF); refine hfI ?_; intro hF)
            go_wp2_with (first | (refine hab ?_; (try clear hF); clear hS; intro wk hS; (try simp only [List.set_cons_zero, List.set_cons_succ, heap_size, heap_set_size] at hS); ((try clear hF); refine hfI ?_; intro hF)) | fail)
            go_roundw
            case rel => exact ⟨k + 1, by go_num, by omega, HD6, hS.tail⟩
            case measure => simp [intOf]; omega
    · obtain rfl : k = m := by omega
      have hDe : D = false := by rw [HD.out, List.drop_eq_nil_of_le (by rw [List.length_map, Hm.out]; omega)]; rfl
      clear HD
      subst hDe
      ((try clear hF); refine hfI ?_; intro hF)
      go_wp2_with (first | (refine hab ?_; (try clear hF); clear hS; intro wk hS; (try simp only [List.set_cons_zero, List.set_cons_succ, heap_size, heap_set_size] at hS); ((try clear hF); refine hfI ?_; intro hF)) | fail)
      go_ret
      exact ⟨rfl, hS.ext⟩
end Go.Proofs.YtlgidjanmaijaaaGreatDoor

/- who does not fight may go first: the plain law. -/
namespace Go.Proofs.YtlgidjanmaijaaaGreatDoor
set_option linter.unusedSimpArgs false
set_option linter.unusedVariables false
open Go.RowKit
set_option linter.all false
theorem ba_toList_loop (bs : ByteArray) (i : Nat) (r : List UInt8) : ByteArray.toList.loop bs i r = r.reverse ++ bs.data.toList.drop i := by
  rw [ByteArray.toList.loop]
  split
  · rename_i h
    rw [ba_toList_loop]
    have h2 : i < bs.data.toList.length := by simpa using h
    rw [List.drop_eq_getElem_cons h2]
    simp only [List.reverse_cons, List.append_assoc, List.cons_append, List.nil_append]
    congr 2
    simp only [ByteArray.get!, Array.getElem!_eq_getD, Array.getD]
    rw [dif_pos (show i < bs.data.size from h)]
    rfl
  · rename_i h
    rw [List.drop_eq_nil_of_le (by have : bs.data.toList.length = bs.size := by rw [Array.length_toList]; rfl
                                   omega)]
    simp
termination_by bs.size - i
theorem ba_toList (bs : ByteArray) : bs.toList = bs.data.toList := by
  unfold ByteArray.toList
  rw [ba_toList_loop]
  simp
theorem pathEq_iff {p q : ByteArray} : pathEq p q = true ↔ q = p := by
  unfold pathEq
  rw [beq_iff_eq, ba_toList, ba_toList]
  exact ⟨fun h => ByteArray.ext (Array.toList_inj.1 h), fun h => by rw [h]⟩
def lk (l : List EN) (p : ByteArray) : Option EN := l.find? (fun e => pathEq p e.path)
theorem lk_cons (x : EN) (l : List EN) (p : ByteArray) : lk (x :: l) p = if x.path = p then some x else lk l p := by
  unfold lk
  rw [List.find?_cons]
  by_cases h : x.path = p
  · rw [if_pos h, pathEq_iff.2 h]
  · rw [if_neg h]
    cases hb : pathEq p x.path with
    | true => exact absurd (pathEq_iff.1 hb) h
    | false => rfl
theorem lk_nil (p : ByteArray) : lk [] p = none := rfl
theorem lk_path {l : List EN} {p : ByteArray} {e : EN} (h : lk l p = some e) : e.path = p ∧ e ∈ l := by
  unfold lk at h
  have := List.find?_some h
  exact ⟨pathEq_iff.1 this, List.mem_of_find?_eq_some h⟩
theorem lk_none {l : List EN} {p : ByteArray} : lk l p = none ↔ p ∉ l.map (·.path) := by
  induction l with
  | nil => simp [lk_nil]
  | cons x l ih =>
    rw [lk_cons]
    by_cases h : x.path = p
    · simp [h]
    · rw [if_neg h, ih]
      simp [Ne.symm h]
theorem lk_mem {l : List EN} (hn : (l.map (·.path)).Nodup) {e : EN} (he : e ∈ l) : lk l e.path = some e := by
  induction l with
  | nil => cases he
  | cons x l ih =>
    rw [lk_cons]
    rw [List.map_cons, List.nodup_cons] at hn
    rcases List.mem_cons.1 he with rfl | he
    · rw [if_pos rfl]
    · rw [if_neg (fun e' => hn.1 (by rw [e']; exact List.mem_map.2 ⟨e, he, rfl⟩))]
      exact ih hn.2 he
end Go.Proofs.YtlgidjanmaijaaaGreatDoor

/- numbers in letters: strconv.Itoa; log.ints. -/
namespace Go.Proofs.YtlgidjanmaijaaaGreatDoor
set_option linter.unusedSimpArgs false
set_option linter.unusedVariables false
open Go.RowKit
set_option linter.all false
def TabAt (w : World) : Prop := Lib.TabIs Tryz.prog w "internal/strconv.uint64pow10" .u64 Lib.pow10Tab
theorem TabAt.ext {w w' : World} (h : TabAt w) (hx : Ext w w') : TabAt w' := by
  obtain ⟨g, hg⟩ : ∃ g, Tryz.prog.globalNamed "internal/strconv.uint64pow10" = some g := ⟨2, by kernel_rfl⟩
  unfold TabAt Lib.TabIs World.var? at *
  rw [hg] at h ⊢
  simp only [Option.bind_some] at h ⊢
  have hlt : g < w.heap.size := by
    by_cases hc : g < w.heap.size
    · exact hc
    · rw [Array.getElem?_eq_none (by omega)] at h
      cases h
  rw [hx.block g hlt]
  exact h
theorem Ext.grow' {a w : World} (h : Ext a w) (os : Array Obj) : Ext a (Sort.grow w os) :=
  Below.trans h ⟨rfl, rfl, rfl, by simp [Sort.grow], fun k hk => by
    have : k < w.heap.size := Nat.lt_of_lt_of_le hk h.size
    simp [Sort.grow, Array.getElem?_append_left this]⟩
theorem stritoa_any (n : Int) (h0 : -9223372036854775808 ≤ n) (h1 : n ≤ 9223372036854775807) (w : World) (ht : TabAt w) :
    Calls Tryz.prog 23 #[.int .i64 n] w fun e w' => e = .returned (.string ⟨(Lib.itoa n).toArray⟩) ∧ Ext w w' :=
  (Tryz.strconv_Itoa n h0 h1 w ht).mono fun e w' ⟨h1, k, os, h2⟩ => ⟨h1, by rw [h2]; exact ((Ext.refl w).drewN k).grow' os⟩
theorem Tryz.elem_strs : Elem Tryz.prog 77 9 1 16 := by
  obtain ⟨i0, hi0, hz0, hz1, hz2⟩ := info_parts (show (Tryz.prog.info? 9).map (fun i => (i.zero, i.size, i.bytes)) = some (some (.string ⟨#[]⟩), 1, 16) by kernel_rfl)
  exact ⟨Tryz.underlying77, ⟨i0, _, hi0, hz0, hz1, hz2, rfl⟩, by omega⟩
abbrev strV (l : List ByteArray) : List Value := l.map Value.string
theorem strV_get (l : List ByteArray) (k : Nat) : (strV l)[k]? = l[k]?.map Value.string := by simp [strV]
/-- texts with a mark between them -/
def joinS (l : List ByteArray) (sep : ByteArray) : ByteArray := ⟨(Lib.join (l.map (·.data.toList)) sep.data.toList).toArray⟩
theorem join_any {B : Nat} {w0 w : World} {L : List Item} {A : Option Addr} {n cap : Nat} (xs : List ByteArray) (sep : ByteArray) (i : Nat) (hn : xs.length = n) (hn2 : n ≤ 100000) (hl : (joinS xs sep).size ≤ 1000000) (hS : Hp B w0 w L) (hi : L[i]? = some (.row 9 1 A n cap (strV xs))) :
    Calls Tryz.prog 64 #[.slice A n cap, .string sep] w fun e w' => e = .returned (.string (joinS xs sep)) ∧ Ext w w' := by
  cases xs with
  | nil =>
    obtain rfl : 0 = n := by simpa using hn
    exact (Tryz.strings_Join_none A cap sep w).mono fun e w' ⟨h1, h2⟩ => ⟨by rw [h1]; rfl, by rw [h2]; exact Ext.refl w⟩
  | cons x l =>
    obtain ⟨g, rfl, c0, _⟩ := hS.rowCell (j := 0) (u := .string x) i hi rfl
    subst hn
    have hlj : (Lib.join ((x :: l).map (·.data.toList)) sep.data.toList).length ≤ 140737488355328 := by
      have h2 : (Lib.join ((x :: l).map (·.data.toList)) sep.data.toList).toArray.size ≤ 1000000 := hl
      rw [List.size_toArray] at h2
      omega
    refine (Tryz.strings_Join g 0 cap (x :: l) sep w (fun j y hj => ?_) (lt_of_cell c0) (by omega) (hS.rowLen i hi).2 hlj).mono fun e w' h => h
    obtain ⟨g', hg, c, _⟩ := hS.rowCell (j := j) (u := .string y) i hi (by rw [strV_get, hj]; rfl)
    obtain rfl : g = g' := by simpa using hg
    rw [Nat.zero_add]
    exact c
set_option maxRecDepth 100000 in
set_option maxHeartbeats 8000000 in
theorem ints_any (l : List Int) (A : Option Addr) (n cap : Nat) (w : World) (hn : l.length = n) (hl : n ≤ 100000) (h64 : ∀ x ∈ l, i64 x) (hr : RI w A l) (ht : TabAt w) (hj : (joinS (l.map itoS) ⟨#[44]⟩).size ≤ 1000000) :
    Calls Tryz.prog 37 #[.slice A n cap] w fun e w' => e = .returned (.string (joinS (l.map itoS) ⟨#[44]⟩)) ∧ Ext w w' := by
  have Hn := Lib.hid hn
  have HT := Lib.hid ht
  have H6 := Lib.hid h64
  have HJ := Lib.hid hj
  clear hn ht h64 hj
  have hS := Hp.init w
  have hR := Reads.nil w
  go_enter Tryz.func37, Tryz.ntmps37
  go_wp2_with (first | (refine hab ?_; (try clear hF); clear hS; intro wk hS; (try simp only [List.set_cons_zero, List.set_cons_succ, heap_size, heap_set_size] at hS); ((try clear hF); refine hfI ?_; intro hF)) | fail)
  replace hS := hS.nilRow 9 1
  go_loopw [8, 3] (fun i sl wr => ∃ (k : Nat) (A' : Option Addr) (c' : Nat), i = .int .i64 k ∧ k ≤ n ∧ sl = .slice A' k c' ∧ Hp w.heap.size w wr [.row 9 1 A' k c' (strV ((l.take k).map itoS))]) (fun i _ _ => n - (intOf i).toNat)
  case atStart => exact ⟨0, none, 0, rfl, Nat.zero_le _, rfl, hS⟩
  case round =>
    clear hS
    obtain ⟨k, A', c', rfl, hk, rfl, hS⟩ := hrel
    by_cases hlt : k < n
    · obtain ⟨x, hx⟩ : ∃ x, l[k]? = some x := ⟨l[k]'(by rw [Hn.out]; exact hlt), List.getElem?_eq_getElem _⟩
      obtain ⟨b, o, rfl, c0⟩ := hr k x hx
      have hR := Reads.cell c0 (Reads.nil w)
      have HX := Lib.hid (fun (W : World) (hW : Ext w W) => stritoa_any x (H6.out x (List.mem_of_getElem? hx)).1 (H6.out x (List.mem_of_getElem? hx)).2 W (HT.out.ext hW))
      have HTK := Lib.hid (show (l.take (k + 1)).map itoS = (l.take k).map itoS ++ [itoS x] by
        rw [List.take_add_one, hx, List.map_append]; rfl)
      clear c0 hx hr
      unfold itoS at HX
      ((try clear hF); refine hfI ?_; intro hF)
      go_wp2_with (first | (refine hab ?_; (try clear hF); clear hS; intro wk hS; (try simp only [List.set_cons_zero, List.set_cons_succ, heap_size, heap_set_size] at hS); ((try clear hF); refine hfI ?_; intro hF)) | (go_at_call 23; (with_reducible refine (HX.out _ hS.ext).mono ?_); rintro e wk ⟨rfl, hX⟩; replace hS := hS.step hX; clear hX; ((try clear hF); refine hfI ?_; intro hF)) | (at_builtin; refine wpList_push_hp Tryz.elem_strs rfl (.tmp 12) (.tmp 15) rfl (hS.second 0 rfl) rfl rfl rfl (by simp [Value.oneCell']) (by omega) (by omega) ?_; clear hS; intro Ak capk wk hS; (try simp only [List.eraseIdx_cons_zero, List.eraseIdx_cons_succ, List.set_cons_zero, List.set_cons_succ] at hS); ((try clear hF); refine hfI ?_; intro hF)))
      go_roundw
      case rel =>
        refine ⟨k + 1, _, _, by go_num, by omega, rfl, ?_⟩
        rw [HTK.out, strV, List.map_append]
        exact hS
      case measure => simp [intOf]; omega
    · obtain rfl : k = n := by omega
      rw [List.take_of_length_le (by rw [Hn.out]; omega)] at hS
      ((try clear hF); refine hfI ?_; intro hF)
      go_wp2_with (first | (refine hab ?_; (try clear hF); clear hS; intro wk hS; (try simp only [List.set_cons_zero, List.set_cons_succ, heap_size, heap_set_size] at hS); ((try clear hF); refine hfI ?_; intro hF)) | (go_at_call 64; (with_reducible refine (join_any (l.map itoS) ⟨#[44]⟩ 0 (by rw [List.length_map, Hn.out]) (by omega) HJ.out hS rfl).mono ?_); rintro e wk ⟨rfl, hX⟩; replace hS := hS.step hX; clear hX; ((try clear hF); refine hfI ?_; intro hF)))
      go_ret
      exact ⟨rfl, hS.ext⟩
end Go.Proofs.YtlgidjanmaijaaaGreatDoor

/- log.Key: where a version's commit lies. -/
namespace Go.Proofs.YtlgidjanmaijaaaGreatDoor
set_option linter.unusedSimpArgs false
set_option linter.unusedVariables false
open Go.RowKit
set_option linter.all false
def keyL (n : Nat) : List UInt8 := [108, 111, 103, 47] ++ Lib.repeatL [48] (6 - (Lib.itoa n).length) ++ Lib.itoa n
def keyS (n : Nat) : ByteArray := ⟨(keyL n).toArray⟩
def valL (a : Nat) : List UInt8 → Nat
  | [] => a
  | c :: l => valL (a * 10 + (c.toNat - 48)) l
theorem valL_app (l m : List UInt8) : ∀ (a : Nat), valL a (l ++ m) = valL (valL a l) m := by
  induction l with
  | nil => intro a; rfl
  | cons c l ih =>
    intro a
    have e1 : valL a (c :: l ++ m) = valL (a * 10 + (c.toNat - 48)) (l ++ m) := rfl
    have e2 : valL a (c :: l) = valL (a * 10 + (c.toNat - 48)) l := rfl
    rw [e1, e2]
    exact ih _
theorem valL_zeros (k : Nat) : valL 0 (Lib.repeatL [48] k) = 0 := by
  induction k with
  | zero => rfl
  | succ k ih =>
    have e : Lib.repeatL [48] (k + 1) = [48] ++ Lib.repeatL [48] k := rfl
    have e2 : valL 0 [48] = 0 := by decide
    rw [e, valL_app, e2]
    exact ih
theorem digV {d : Nat} (h : d < 10) : (UInt8.ofNat (48 + d)).toNat - 48 = d := by
  rw [UInt8.toNat_ofNat', Nat.mod_eq_of_lt (by omega)]
  omega
theorem valL_one (a d : Nat) (h : d < 10) : valL a [UInt8.ofNat (48 + d)] = a * 10 + d := by
  have e : valL a [UInt8.ofNat (48 + d)] = a * 10 + ((UInt8.ofNat (48 + d)).toNat - 48) := rfl
  rw [e, digV h]
theorem valL_dec (u : Nat) : valL 0 (Lib.decDigits u) = u := by
  induction u using Nat.strongRecOn with
  | _ u ih =>
    rw [Lib.decDigits]
    split
    · rename_i h
      rw [valL_one 0 u h, Nat.zero_mul, Nat.zero_add]
    · rw [valL_app, ih (u / 10) (by omega), valL_one _ _ (Nat.mod_lt u (by decide))]
      omega
theorem itoa_nat (n : Nat) : Lib.itoa n = Lib.decDigits n := by
  unfold Lib.itoa
  rw [if_neg (by omega)]
  rfl
theorem keyL_val (n : Nat) : valL 0 ((keyL n).drop 4) = n := by
  unfold keyL
  rw [List.append_assoc]
  show valL 0 (Lib.repeatL [48] (6 - (Lib.itoa n).length) ++ Lib.itoa n) = n
  rw [valL_app, valL_zeros, itoa_nat, valL_dec]
theorem keyS_inj {a b : Nat} (h : keyS a = keyS b) : a = b := by
  have : keyL a = keyL b := by
    have := congrArg (fun s : ByteArray => s.data.toList) h
    simpa [keyS] using this
  rw [← keyL_val a, ← keyL_val b, this]
theorem itoa_len {n : Nat} (h : n ≤ 1000000) : (Lib.itoa n).length ≤ 30 := by
  rw [← itoaL_eq]
  unfold itoaL
  have h1 := revDig_len 20 (n : Int).natAbs (by omega)
  have h2 : (if (n : Int) < 0 then [(45 : UInt8)] else []).length ≤ 1 := by split <;> simp
  simp only [List.length_reverse, List.length_append]
  omega
theorem keyS_size {n : Nat} (h : n ≤ 1000000) : (keyS n).size ≤ 60 ∧ 0 < (keyS n).size := by
  have h1 := itoa_len h
  have h2 := Lib.repeatL_length [48] (6 - (Lib.itoa n).length)
  simp only [List.length_cons, List.length_nil] at h2
  rw [Lib.size_eq]
  have e : (keyS n).data.toList.length = 4 + (Lib.repeatL [48] (6 - (Lib.itoa n).length)).length + (Lib.itoa n).length := by
    simp only [keyS, keyL, List.length_append, List.length_cons, List.length_nil]
  rw [e]
  omega
theorem keyS_good {n : Nat} (h : n ≤ 1000000) : badK (keyS n) = false := by
  have := keyS_size h
  unfold badK
  rw [decide_eq_false (by omega), decide_eq_false (by omega)]
  rfl
theorem rep_any (s : ByteArray) (c : Nat) (w : World) (hc : c ≤ 100) (hs : s.size ≤ 100) : Calls Tryz.prog 24 #[.string s, .int .i64 c] w fun e w' => e = .returned (.string ⟨(Lib.repeatL s.data.toList c).toArray⟩) ∧ Ext w w' :=
  Tryz.strings_Repeat s c w (by omega) (by
    have := Nat.mul_le_mul hs hc
    omega)
set_option maxRecDepth 100000 in
set_option maxHeartbeats 8000000 in
theorem key_any (n : Nat) (w : World) (hn : n ≤ 1000000) (ht : TabAt w) : Calls Tryz.prog 11 #[.int .i64 n] w fun e w' => e = .returned (.string (keyS n)) ∧ Ext w w' := by
  have HI := Lib.hid (fun (W : World) (hx : Ext w W) => stritoa_any (n : Int) (by omega) (by omega) W (ht.ext hx))
  obtain ⟨S, hS'⟩ : ∃ S : ByteArray, S = ⟨(Lib.itoa n).toArray⟩ := ⟨_, rfl⟩
  have hz : S.size ≤ 30 := by rw [hS', Lib.size_eq]; exact itoa_len hn
  obtain ⟨z, hzz⟩ : ∃ z, z = S.size := ⟨_, rfl⟩
  have HR := Lib.hid (fun (W : World) => show Calls Tryz.prog 24 #[.string ⟨#[48]⟩, .int .i64 (6 - z : Nat)] W _ from rep_any ⟨#[48]⟩ (6 - z) W (by omega) (by decide))
  obtain ⟨Z, hZ⟩ : ∃ Z : ByteArray, Z = ⟨(Lib.repeatL (⟨#[48]⟩ : ByteArray).data.toList (6 - z)).toArray⟩ := ⟨_, rfl⟩
  have hZz : Z.size ≤ 6 := by
    rw [hZ, Lib.size_eq]
    simp only [Lib.repeatL_length]
    simp
  have hk : keyS n = ⟨#[108, 111, 103, 47]⟩ ++ Z ++ S := by
    refine ba_ext ?_
    rw [hZ, hS']
    have : z = (Lib.itoa (n : Int)).length := by rw [hzz, hS', Lib.size_eq]
    simp [keyS, keyL, ByteArray.data_append, this]
  rw [← hS'] at HI
  rw [← hZ] at HR
  rw [hk]
  clear hZ hS' hk ht
  have z1 : ((⟨#[108, 111, 103, 47]⟩ : ByteArray) ++ Z).size ≤ 10 := by rw [ByteArray.size_append]; show 4 + _ ≤ _; omega
  have hmx : max (0 : Int) (6 - (z : Int)) = ((6 - z : Nat) : Int) := by omega
  have hS := Hp.init w
  have hR := Reads.nil w
  have hzz' := hzz.symm
  clear hzz
  go_enter Tryz.func11, Tryz.ntmps11
  go_wp2_with (first | (refine hab ?_; (try clear hF); clear hS; intro wk hS; (try simp only [List.set_cons_zero, List.set_cons_succ, heap_size, heap_set_size] at hS); ((try clear hF); refine hfI ?_; intro hF)) | (go_at_call 23; (with_reducible refine (HI.out _ hS.ext).mono ?_); rintro e wk ⟨rfl, hX⟩; replace hS := hS.step hX; clear hX; ((try clear hF); refine hfI ?_; intro hF)) | (go_at_call 24; (with_reducible refine (HR.out _).mono ?_); rintro e wk ⟨rfl, hX⟩; replace hS := hS.step hX; clear hX; ((try clear hF); refine hfI ?_; intro hF)))
  go_ret
  exact ⟨rfl, hS.ext⟩
end Go.Proofs.YtlgidjanmaijaaaGreatDoor

/- The tables that a row of the log laws lists: what they tell of the world; a world that has them. -/
namespace Go.Proofs.YtlgidjanmaijaaaGreatDoor
set_option linter.unusedSimpArgs false
set_option linter.unusedVariables false
open Go.RowKit
set_option linter.all false
open Go.ChangeShapes Go.WideShapes Go.ChangeAt Go.Joins
theorem gKept : Tryz.prog.globalNamed "millpond/schema.kept" = some 1 := by kernel_rfl
theorem tKept : (Tryz.prog.globals[1]?).map (·.type) = some 182 := by kernel_rfl
theorem gPow : Tryz.prog.globalNamed "internal/strconv.uint64pow10" = some 2 := by kernel_rfl
theorem tPow : (Tryz.prog.globals[2]?).map (·.type) = some 209 := by kernel_rfl
theorem cPow : Tryz.prog.cellsOf 209 = 20 := by kernel_rfl
theorem cU64 : Tryz.prog.cellsOf 147 = 1 := by kernel_rfl
end Go.Proofs.YtlgidjanmaijaaaGreatDoor

/- log.columns: columns in letters. -/
namespace Go.Proofs.YtlgidjanmaijaaaGreatDoor
set_option linter.unusedSimpArgs false
set_option linter.unusedVariables false
open Go.RowKit
set_option linter.all false
def printG (v : GV) : ByteArray := printS v.kind v.num v.text
abbrev spS : ByteArray := ⟨#[32]⟩
def mustS (b : Bool) : ByteArray := if b then ⟨#[109, 117, 115, 116]⟩ else ⟨#[109, 97, 121]⟩
def colS (c : CG) : ByteArray := itoS c.id ++ spS ++ c.name ++ spS ++ itoS c.kind ++ spS ++ mustS c.must ++ spS ++ printG c.d
def COk (c : CG) : Prop := i64 c.id ∧ i64 c.kind ∧ i64 c.d.num ∧ c.d.text.size ≤ 1000000 ∧ c.name.size ≤ 1000000
theorem printS_size (k n : Int) (s : ByteArray) (h0 : -9223372036854775808 ≤ n) (h1 : n ≤ 9223372036854775807) (hs : s.size ≤ 1000000) : (printS k n s).size ≤ 1000100 := by
  show (printL k n s).toArray.size ≤ 1000100
  rw [List.size_toArray]
  unfold printL
  split
  · have := revDig_len 19 n.natAbs (by have : (10 : Nat) ^ 19 = 10000000000000000000 := by decide
                                       omega)
    unfold itoaL
    rw [List.length_reverse, List.length_append]
    split <;> simp <;> omega
  · split
    · have : s.data.toList.length = s.size := by rw [Array.length_toList]; rfl
      simp only [List.length_cons, List.length_append, List.length_nil]
      omega
    · decide
set_option maxRecDepth 100000 in
set_option maxHeartbeats 8000000 in
theorem lcols_any (l : List CG) (A : Option Addr) (n cap : Nat) (w : World) (hn : l.length = n) (hl : n ≤ 100000) (h64 : ∀ x ∈ l, COk x) (hr : RC w A l) (ht : TabAt w) (hj : (joinS (l.map colS) ⟨#[59]⟩).size ≤ 1000000) :
    Calls Tryz.prog 39 #[.slice A n cap] w fun e w' => e = .returned (.string (joinS (l.map colS) ⟨#[59]⟩)) ∧ Ext w w' := by
  have Hn := Lib.hid hn
  have HT := Lib.hid ht
  have H6 := Lib.hid h64
  have HJ := Lib.hid hj
  clear hn ht h64 hj
  have hS := Hp.init w
  have hR := Reads.nil w
  go_enter Tryz.func39, Tryz.ntmps39
  go_wp2_with (first | (refine hab ?_; (try clear hF); clear hS; intro wk hS; (try simp only [List.set_cons_zero, List.set_cons_succ, heap_size, heap_set_size] at hS); ((try clear hF); refine hfI ?_; intro hF)) | fail)
  replace hS := hS.nilRow 9 1
  go_loopw [9, 3] (fun i sl wr => ∃ (k : Nat) (A' : Option Addr) (c' : Nat), i = .int .i64 k ∧ k ≤ n ∧ sl = .slice A' k c' ∧ Hp w.heap.size w wr [.row 9 1 A' k c' (strV ((l.take k).map colS))]) (fun i _ _ => n - (intOf i).toNat)
  case atStart => exact ⟨0, none, 0, rfl, Nat.zero_le _, rfl, hS⟩
  case round =>
    clear hS
    obtain ⟨k, A', c', rfl, hk, rfl, hS⟩ := hrel
    by_cases hlt : k < n
    · obtain ⟨x, hx⟩ : ∃ x, l[k]? = some x := ⟨l[k]'(by rw [Hn.out]; exact hlt), List.getElem?_eq_getElem _⟩
      obtain ⟨b, o, rfl, c0, c1, c2, c3, c4, c5, c6⟩ := hr k x hx
      have hR := Reads.cell c0 (Reads.cell c1 (Reads.cell c2 (Reads.cell c3 (Reads.cell c4 (Reads.cell c5 (Reads.cell c6 (Reads.nil w)))))))
      obtain ⟨q0, q1, q2, q3, q4⟩ := H6.out x (List.mem_of_getElem? hx)
      have HX := Lib.hid (fun (W : World) (hW : Ext w W) => stritoa_any x.id q0.1 q0.2 W (HT.out.ext hW))
      have HY := Lib.hid (fun (W : World) (hW : Ext w W) => stritoa_any x.kind q1.1 q1.2 W (HT.out.ext hW))
      have HP := Lib.hid (fun (W : World) => print_any x.d.kind x.d.num x.d.text W q2.1 q2.2 (by omega))
      have HTK := Lib.hid (show (l.take (k + 1)).map colS = (l.take k).map colS ++ [colS x] by
        rw [List.take_add_one, hx, List.map_append]; rfl)
      have HCS := Lib.hid (show colS x = ⟨(Lib.itoa x.id).toArray⟩ ++ ⟨#[32]⟩ ++ x.name ++ ⟨#[32]⟩ ++ ⟨(Lib.itoa x.kind).toArray⟩ ++ ⟨#[32]⟩ ++ mustS x.must ++ ⟨#[32]⟩ ++ printS x.d.kind x.d.num x.d.text from rfl)
      have z1 := Lib.itoa_length_le x.id q0.1 q0.2
      have z2 := Lib.itoa_length_le x.kind q1.1 q1.2
      have z3 := printS_size x.d.kind x.d.num x.d.text q2.1 q2.2 q3
      clear c0 c1 c2 c3 c4 c5 c6 hx hr q0 q1 q2 q3
      obtain ⟨m, hm⟩ : ∃ m, m = x.must := ⟨_, rfl⟩
      rw [← hm] at hR HCS
      clear hm
      cases m with
      | false =>
        ((try clear hF); refine hfI ?_; intro hF)
        go_wp2_with (first | (refine hab ?_; (try clear hF); clear hS; intro wk hS; (try simp only [List.set_cons_zero, List.set_cons_succ, heap_size, heap_set_size] at hS); ((try clear hF); refine hfI ?_; intro hF)) | fail)
        ((with_reducible refine wp_region_chain_hp [.q, .q, .q, .q, .q, .q, .q, .q, .q, .q, .q, .q, .q, .q, .q, .q, .q, .q, .q, .q, .q, .t, .t, .t] [.blk wr.heap.size [.int .i64 x.id, .string x.name, .int .i64 x.kind, .bool false, .int .i64 x.d.kind, .int .i64 x.d.num, .string x.d.text] 61] (by kernel_rfl) rfl (by kernel_rfl) hS (fun w h => h.sub (by simp)) ?_); clear hS; (repeat ((with_reducible refine Walk.here ?_); (first | ((with_reducible apply Walk.skipQ); (first | rfl | exact wanted_false rfl rfl rfl (by assumption)); (try simp only [Mark.isQ, if_true, Bool.false_eq_true, if_false, Act.put, List.setIfInBounds_toArray, List.set_cons_zero, List.set_cons_succ])) | ((with_reducible apply Walk.val); (first | rfl | exact wanted_true rfl rfl rfl (by assumption)); (rintro w hS; ((try clear hF); refine hfI ?_; intro hF); go_simp; first | with_reducible rfl | (rw [if_neg (by first | omega | (simp only [ByteArray.size_append]; omega) | (simp [ByteArray.size_append]; omega))]; try with_reducible rfl)); (try simp only [Mark.isQ, if_true, Bool.false_eq_true, if_false, Act.put, List.setIfInBounds_toArray, List.set_cons_zero, List.set_cons_succ])) | ((with_reducible apply Walk.call); (first | rfl | exact wanted_true rfl rfl rfl (by assumption)); (rintro w hS; ((try clear hF); refine hfI ?_; intro hF); go_simp; exact ⟨rfl, rfl⟩); (rintro w hS; first | (with_reducible exact HX.out w hS.ext) | (with_reducible exact HY.out w hS.ext) | (with_reducible exact HP.out w)); (try simp only [Mark.isQ, if_true, Bool.false_eq_true, if_false, Act.put, List.setIfInBounds_toArray, List.set_cons_zero, List.set_cons_succ])) | ((with_reducible apply Walk.tail); (try simp only [Mark.isQ, if_true, Bool.false_eq_true, if_false, Act.put, List.setIfInBounds_toArray, List.set_cons_zero, List.set_cons_succ])) | ((with_reducible apply Walk.guardT); rfl; rfl; rfl; (all_goals intro hg)) | ((with_reducible apply Walk.guardF); rfl; rfl; rfl; (all_goals intro hg))))); refine Walk.done ?_; simp only [chainOf, Mark.isT, if_true, Bool.false_eq_true, if_false])
        refine Chain.alloc (cs := [.string (⟨(Lib.itoa x.id).toArray⟩ ++ ⟨#[32]⟩ ++ x.name ++ ⟨#[32]⟩ ++ ⟨(Lib.itoa x.kind).toArray⟩ ++ ⟨#[32]⟩ ++ ⟨#[109, 97, 121]⟩ ++ ⟨#[32]⟩ ++ printS x.d.kind x.d.num x.d.text)]) (t := 9) (f := fun g => .slice (some ⟨g, 0, none⟩) 1 1) rfl (fun w h => h.sub (by simp)) (fun w hS => ?_) (fun gs => ?_)
        · go_simp
        try simp only [Act.put, List.setIfInBounds_toArray, List.set_cons_zero, List.set_cons_succ]
        refine Chain.append Tryz.elem_strs rfl (.tmp 15) (.tmp 36) rfl 2 rfl rfl rfl ⟨gs, 0, none⟩ rfl rfl (fun w hS jj u hu => World.news_of_block hS.head.2 jj u (by simpa using hu)) (by simp [Value.oneCell']) (by omega) (by omega) (fun w h => h.sub (by simp)) (fun Ak capk => ?_)
        try simp only [Act.put, List.setIfInBounds_toArray, List.set_cons_zero, List.set_cons_succ]
        (refine Chain.val (by (first | rfl | exact wanted_true rfl rfl rfl (by assumption))) (fun w h => h.sub (by simp)) (by rintro w hS; ((try clear hF); refine hfI ?_; intro hF); go_simp; with_reducible rfl) ?_; try simp only [Act.put, List.setIfInBounds_toArray, List.set_cons_zero, List.set_cons_succ])
        (refine Chain.done ?_; (try clear hF); intro wk hS; ((try clear hF); refine hfI ?_; intro hF))
        go_wp2_with fail
        go_roundw
        case rel =>
          refine ⟨k + 1, _, _, by go_num, by omega, rfl, ?_⟩
          rw [HTK.out, strV, List.map_append, HCS.out]
          exact hS.sub (List.Sublist.cons_cons _ (List.nil_sublist _))
        case measure => simp [intOf]; omega
      | true =>
        ((try clear hF); refine hfI ?_; intro hF)
        go_wp2_with (first | (refine hab ?_; (try clear hF); clear hS; intro wk hS; (try simp only [List.set_cons_zero, List.set_cons_succ, heap_size, heap_set_size] at hS); ((try clear hF); refine hfI ?_; intro hF)) | fail)
        ((with_reducible refine wp_region_chain_hp [.q, .q, .q, .q, .q, .q, .q, .q, .q, .q, .q, .q, .q, .q, .q, .q, .q, .q, .q, .q, .q, .t, .t, .t] [.blk wr.heap.size [.int .i64 x.id, .string x.name, .int .i64 x.kind, .bool true, .int .i64 x.d.kind, .int .i64 x.d.num, .string x.d.text] 61] (by kernel_rfl) rfl (by kernel_rfl) hS (fun w h => h.sub (by simp)) ?_); clear hS; (repeat ((with_reducible refine Walk.here ?_); (first | ((with_reducible apply Walk.skipQ); (first | rfl | exact wanted_false rfl rfl rfl (by assumption)); (try simp only [Mark.isQ, if_true, Bool.false_eq_true, if_false, Act.put, List.setIfInBounds_toArray, List.set_cons_zero, List.set_cons_succ])) | ((with_reducible apply Walk.val); (first | rfl | exact wanted_true rfl rfl rfl (by assumption)); (rintro w hS; ((try clear hF); refine hfI ?_; intro hF); go_simp; first | with_reducible rfl | (rw [if_neg (by first | omega | (simp only [ByteArray.size_append]; omega) | (simp [ByteArray.size_append]; omega))]; try with_reducible rfl)); (try simp only [Mark.isQ, if_true, Bool.false_eq_true, if_false, Act.put, List.setIfInBounds_toArray, List.set_cons_zero, List.set_cons_succ])) | ((with_reducible apply Walk.call); (first | rfl | exact wanted_true rfl rfl rfl (by assumption)); (rintro w hS; ((try clear hF); refine hfI ?_; intro hF); go_simp; exact ⟨rfl, rfl⟩); (rintro w hS; first | (with_reducible exact HX.out w hS.ext) | (with_reducible exact HY.out w hS.ext) | (with_reducible exact HP.out w)); (try simp only [Mark.isQ, if_true, Bool.false_eq_true, if_false, Act.put, List.setIfInBounds_toArray, List.set_cons_zero, List.set_cons_succ])) | ((with_reducible apply Walk.tail); (try simp only [Mark.isQ, if_true, Bool.false_eq_true, if_false, Act.put, List.setIfInBounds_toArray, List.set_cons_zero, List.set_cons_succ])) | ((with_reducible apply Walk.guardT); rfl; rfl; rfl; (all_goals intro hg)) | ((with_reducible apply Walk.guardF); rfl; rfl; rfl; (all_goals intro hg))))); refine Walk.done ?_; simp only [chainOf, Mark.isT, if_true, Bool.false_eq_true, if_false])
        refine Chain.alloc (cs := [.string (⟨(Lib.itoa x.id).toArray⟩ ++ ⟨#[32]⟩ ++ x.name ++ ⟨#[32]⟩ ++ ⟨(Lib.itoa x.kind).toArray⟩ ++ ⟨#[32]⟩ ++ ⟨#[109, 117, 115, 116]⟩ ++ ⟨#[32]⟩ ++ printS x.d.kind x.d.num x.d.text)]) (t := 9) (f := fun g => .slice (some ⟨g, 0, none⟩) 1 1) rfl (fun w h => h.sub (by simp)) (fun w hS => ?_) (fun gs => ?_)
        · go_simp
        try simp only [Act.put, List.setIfInBounds_toArray, List.set_cons_zero, List.set_cons_succ]
        refine Chain.append Tryz.elem_strs rfl (.tmp 15) (.tmp 36) rfl 2 rfl rfl rfl ⟨gs, 0, none⟩ rfl rfl (fun w hS jj u hu => World.news_of_block hS.head.2 jj u (by simpa using hu)) (by simp [Value.oneCell']) (by omega) (by omega) (fun w h => h.sub (by simp)) (fun Ak capk => ?_)
        try simp only [Act.put, List.setIfInBounds_toArray, List.set_cons_zero, List.set_cons_succ]
        (refine Chain.val (by (first | rfl | exact wanted_true rfl rfl rfl (by assumption))) (fun w h => h.sub (by simp)) (by rintro w hS; ((try clear hF); refine hfI ?_; intro hF); go_simp; with_reducible rfl) ?_; try simp only [Act.put, List.setIfInBounds_toArray, List.set_cons_zero, List.set_cons_succ])
        (refine Chain.done ?_; (try clear hF); intro wk hS; ((try clear hF); refine hfI ?_; intro hF))
        go_wp2_with fail
        go_roundw
        case rel =>
          refine ⟨k + 1, _, _, by go_num, by omega, rfl, ?_⟩
          rw [HTK.out, strV, List.map_append, HCS.out]
          exact hS.sub (List.Sublist.cons_cons _ (List.nil_sublist _))
        case measure => simp [intOf]; omega
    · obtain rfl : k = n := by omega
      rw [List.take_of_length_le (by rw [Hn.out]; omega)] at hS
      ((try clear hF); refine hfI ?_; intro hF)
      go_wp2_with (first | (refine hab ?_; (try clear hF); clear hS; intro wk hS; (try simp only [List.set_cons_zero, List.set_cons_succ, heap_size, heap_set_size] at hS); ((try clear hF); refine hfI ?_; intro hF)) | (go_at_call 64; (with_reducible refine (join_any (l.map colS) ⟨#[59]⟩ 0 (by rw [List.length_map, Hn.out]) (by omega) HJ.out hS rfl).mono ?_); rintro e wk ⟨rfl, hX⟩; replace hS := hS.step hX; clear hX; ((try clear hF); refine hfI ?_; intro hF)))
      go_ret
      exact ⟨rfl, hS.ext⟩
end Go.Proofs.YtlgidjanmaijaaaGreatDoor

/- log.number: a number in letters. -/
namespace Go.Proofs.YtlgidjanmaijaaaGreatDoor
set_option linter.unusedSimpArgs false
set_option linter.unusedVariables false
open Go.RowKit
set_option linter.all false
-- what is written is read
theorem p10_app : ∀ (l : List UInt8) (acc : Nat) (m : List UInt8), Lib.parseUint10 acc (l ++ m) = (match Lib.parseUint10 acc l with | .ok a => Lib.parseUint10 a m | e => e)
  | [], acc, m => rfl
  | c :: l, acc, m => by
    rw [List.cons_append]
    simp only [Lib.parseUint10]
    split
    · split
      · rfl
      · split
        · rfl
        · exact p10_app l _ m
    · rfl
theorem p10_dec (u : Nat) (hu : u < 18446744073709551616) : Lib.parseUint10 0 (Lib.decDigits u) = .ok u := by
  rw [Lib.decDigits]
  split
  · rename_i h
    simp only [Lib.parseUint10]
    rw [dig_nat h, if_pos (by omega), if_neg (by omega), if_neg (by omega)]
    congr 1
    omega
  · rename_i h
    rw [p10_app, p10_dec (u / 10) (by omega)]
    simp only [Lib.parseUint10]
    rw [dig_nat (Nat.mod_lt u (by omega)), if_pos (by omega), if_neg (by omega), if_neg (by omega)]
    congr 1
    omega
termination_by u
theorem atoi_itoa (n : Int) (hn : i64 n) : Lib.atoiAll (Lib.itoa n) = .ok n := by
  unfold i64 at hn
  unfold Lib.itoa
  split
  · rename_i h
    obtain ⟨c, r, h1, h2, h3⟩ := dec_cons n.natAbs
    have hp : Lib.parseMag (Lib.decDigits n.natAbs) = .ok n.natAbs := by
      unfold Lib.parseMag
      rw [if_neg (by rw [h1]; simp), p10_dec _ (by omega)]
    simp only [Lib.atoiAll, show (45 : UInt8).toNat = 45 from rfl, or_true, if_true]
    rw [hp]
    simp only [not_true_eq_false, false_and, if_false, true_and, if_true]
    rw [if_neg (by omega)]
    congr 1
    omega
  · rename_i h
    obtain ⟨c, r, h1, h2, h3⟩ := dec_cons n.toNat
    have hp : Lib.parseMag (c :: r) = .ok n.toNat := by
      unfold Lib.parseMag
      rw [if_neg (by simp), ← h1, p10_dec _ (by omega)]
    rw [h1]
    simp only [Lib.atoiAll]
    rw [if_neg (by omega), hp]
    simp only
    rw [if_neg (by omega), if_neg (by omega), if_neg (by omega)]
    congr 1
    omega
theorem atoi_i64 {l : List UInt8} {v : Int} (h : Lib.atoiAll l = .ok v) : i64 v := by
  unfold Lib.atoiAll at h
  unfold i64
  split at h
  · cases h
  · simp only at h
    split at h
    · cases h
    · cases h
    · rename_i u hu
      split at h
      · cases h
      · split at h
        · cases h
        · rename_i h1 h2
          injection h with h
          subst h
          split <;> omega
/-- the number that a text is, as it is written -/
def numOf (s : ByteArray) : Option Int := match Lib.atoiAll s.data.toList with
  | .ok v => if (itoS v).toList == s.toList then some v else none
  | _ => none
theorem numOf_iff {s : ByteArray} {v : Int} : numOf s = some v ↔ i64 v ∧ itoS v = s := by
  unfold numOf
  constructor
  · intro h
    split at h
    · rename_i u hu
      split at h
      · rename_i hb
        obtain rfl := Option.some.inj h
        exact ⟨atoi_i64 hu, ba_beq.1 hb⟩
      · cases h
    · cases h
  · rintro ⟨h1, rfl⟩
    rw [show (itoS v).data.toList = Lib.itoa v from rfl, atoi_itoa v h1]
    simp
theorem numOf64_eq (s : ByteArray) : numOf64 s = numOf s := by
  have h : ∀ v, numOf64 s = some v ↔ i64 v ∧ itoS v = s := fun v => by
    unfold numOf64
    constructor
    · intro h
      split at h
      · rename_i u hu
        split at h
        · rename_i hb
          obtain rfl := Option.some.inj h
          exact ⟨parse_i64 hu, ba_beq.1 hb⟩
        · cases h
      · cases h
    · rintro ⟨h1, rfl⟩
      rw [show (itoS v).data.toList = Lib.itoa v from rfl, parse_itoa v h1]
      simp
  refine Option.ext fun v => ?_
  rw [h v, numOf_iff]
/-- how Atoi ends -/
theorem atoi_any (s : ByteArray) (hs : s.size ≤ 1000000) (w : World) (hy : SynAt w) (hr : RngAt w) :
    Calls Tryz.prog 79 #[.string s] w fun e w' => (∃ (n : Int) (er : Value), e = .returned (.tuple #[.int .i64 n, er]) ∧ i64 n ∧ ((er = .nilIface ∧ Lib.atoiAll s.data.toList = .ok n) ∨ (∃ tp pv, er = .iface tp pv) ∧ numOf s = none)) ∧ Ext w w' := by
  match h : Lib.atoiAll s.data.toList with
  | .ok v => exact (Tryz.strconv_Atoi_ok s (by omega) v h w).mono fun e w' ⟨h1, h2⟩ => ⟨⟨v, .nilIface, h1, atoi_i64 h, .inl ⟨rfl, rfl⟩⟩, ext_bytes h2⟩
  | Lib.NumEnd.syntax =>
    obtain ⟨tp, p, hy⟩ := hy
    exact (Tryz.strconv_Atoi_syntax_var s (by omega) h tp p w hy).mono fun e w' ⟨N, h1, _, _, h2⟩ => ⟨⟨0, _, h1, by unfold i64; omega, .inr ⟨⟨_, _, rfl⟩, by unfold numOf; rw [h]⟩⟩, h2⟩
  | .range =>
    obtain ⟨tp, p, hr⟩ := hr
    exact (Tryz.strconv_Atoi_range_var s (by omega) h tp p w hr).mono fun e w' ⟨N, h1, _, _, h2⟩ => ⟨⟨_, _, h1, by unfold i64 Lib.atoiSat; split <;> omega, .inr ⟨⟨_, _, rfl⟩, by unfold numOf; rw [h]⟩⟩, h2⟩
theorem format_any (n : Int) (hn : i64 n) (w : World) (ht : TabAt w) :
    Calls Tryz.prog 82 #[.int .i64 n, .int .i64 10] w fun e w' => e = .returned (.string (itoS n)) ∧ Ext w w' :=
  (Tryz.strconv_FormatInt_10 n hn.1 hn.2 w ht).mono fun e w' ⟨h1, k, os, h2⟩ => ⟨h1, by rw [h2]; exact ((Ext.refl w).drewN k).grow' os⟩
set_option maxRecDepth 100000 in
set_option maxHeartbeats 8000000 in
theorem number_any (s : ByteArray) (hs : s.size ≤ 1000000) (w : World) (ht : TabAt w) (hy : SynAt w) (hr : RngAt w) :
    Calls Tryz.prog 50 #[.string s] w fun e w' => (∃ (n : Int) (b : Bool), e = .returned (.tuple #[.int .i64 n, .bool b]) ∧ i64 n ∧ numOf s = if b then some n else none) ∧ Ext w w' := by
  have HA := Lib.hid (fun (W : World) (hx : Ext w W) => atoi_any s hs W (hy.ext hx) (hr.ext hx))
  have HI := Lib.hid (fun (n : Int) (hn : i64 n) (W : World) (hx : Ext w W) => show Calls Tryz.prog 23 #[.int .i64 n] W fun e w' => e = .returned (.string (itoS n)) ∧ Ext W w' from stritoa_any n hn.1 hn.2 W (ht.ext hx))
  clear hs ht hy hr
  have hS := Hp.init w
  have hR := Reads.nil w
  go_enter Tryz.func50, Tryz.ntmps50
  go_upto_region 2 with (first | (refine hab ?_; (try clear hF); clear hS; intro wk hS; (try simp only [List.set_cons_zero, List.set_cons_succ, heap_size, heap_set_size] at hS); ((try clear hF); refine hfI ?_; intro hF)) | (go_at_call 79; (with_reducible refine Calls.mono (HA.out _ hS.ext) ?_); rintro e wk ⟨⟨n, er, rfl, hn, hend⟩, hX⟩; replace hS := hS.step hX; clear hX; ((try clear hF); refine hfI ?_; intro hF)))
  have HN := Lib.hid hn
  have HE := Lib.hid hend
  clear hn hend
  rcases HE.out with ⟨rfl, h1⟩ | ⟨⟨tp, pv, rfl⟩, h1⟩
  · have HO := Lib.hid (show numOf s = if ((itoS n).toList == s.toList) = true then some n else none by unfold numOf; rw [h1])
    clear h1 HE
    have HI2 := Lib.hid (HI.out n HN.out)
    clear HI
    ((try clear hF); refine hfI ?_; intro hF)
    go_wp2_with (first | (refine hab ?_; (try clear hF); clear hS; intro wk hS; (try simp only [List.set_cons_zero, List.set_cons_succ, heap_size, heap_set_size] at hS); ((try clear hF); refine hfI ?_; intro hF)) | (go_at_call 23; (with_reducible refine (HI2.out _ hS.ext).mono ?_); rintro e wk ⟨rfl, hX⟩; replace hS := hS.step hX; clear hX; ((try clear hF); refine hfI ?_; intro hF)))
    go_ret2
    exact ⟨⟨n, _, rfl, HN.out, HO.out⟩, hS.ext⟩
  · have HO := Lib.hid h1
    clear h1 HE
    ((try clear hF); refine hfI ?_; intro hF)
    go_wp2_with (first | (refine hab ?_; (try clear hF); clear hS; intro wk hS; (try simp only [List.set_cons_zero, List.set_cons_succ, heap_size, heap_set_size] at hS); ((try clear hF); refine hfI ?_; intro hF)) | fail)
    go_ret2
    exact ⟨⟨n, false, rfl, HN.out, HO.out⟩, hS.ext⟩
end Go.Proofs.YtlgidjanmaijaaaGreatDoor

/- log.literal: a value in letters. -/
namespace Go.Proofs.YtlgidjanmaijaaaGreatDoor
set_option linter.unusedSimpArgs false
set_option linter.unusedVariables false
open Go.RowKit
set_option linter.all false
/-- the value that a text is, as it is written -/
def litOf (s : ByteArray) : Option GV :=
  if (s.toList == [110, 117, 108, 108]) = true then some ⟨0, 0, ⟨#[]⟩⟩
  else match numOf s with
  | some n => some ⟨1, n, ⟨#[]⟩⟩
  | none => if s.size < 2 ∨ s.data.toList.getD 0 0 ≠ 39 ∨ s.data.toList.getD (s.size - 1) 0 ≠ 39 then none
    else if rightB 2 0 (s.extract 1 (s.size - 1)) = true then some ⟨2, 0, s.extract 1 (s.size - 1)⟩ else none
abbrev gvV (v : GV) : Value := .agg #[.int .i64 v.kind, .int .i64 v.num, .string v.text]
/-- what log.literal answers -/
def LitE (s : ByteArray) (e : Ending) : Prop := ∃ (v : GV) (b : Bool), e = .returned (.tuple #[gvV v, .bool b]) ∧ i64 v.num ∧ litOf s = if b = true then some v else none
theorem LitE.mk {s : ByteArray} (v : GV) (b : Bool) (h : i64 v.num) (h2 : litOf s = if b = true then some v else none) : LitE s (.returned (.tuple #[gvV v, .bool b])) := ⟨v, b, rfl, h, h2⟩
theorem getD_at (s : ByteArray) (k : Nat) (h : k < s.size) : s.data.toList.getD k 0 = s[k] := by
  rw [List.getD_eq_getElem?_getD, List.getElem?_eq_getElem (by rw [Array.length_toList]; exact h)]
  rfl
theorem Hp.nameL {B : Nat} {w0 w : World} {L : List Item} (_ : Hp B w0 w L) {g : Nat} {cs : List Value} {T : TypeId} (i : Nat) (_ : L[i]? = some (.blk g cs T)) : ∃ g', g' = g := ⟨g, rfl⟩
theorem u8_neL {a b : UInt8} (h : a ≠ b) : ((a.toNat : Int) != (b.toNat : Int)) = true := by
  simp only [bne_iff_ne, ne_eq]
  intro e
  exact h (UInt8.toNat_inj.1 (by omega))
set_option maxRecDepth 100000 in
set_option maxHeartbeats 8000000 in
theorem literal_any (s : ByteArray) (hs : s.size ≤ 1000000) (w : World) (ht : TabAt w) (hy : SynAt w) (hr : RngAt w) :
    Calls Tryz.prog 52 #[.string s] w fun e w' => LitE s e ∧ Ext w w' := by
  have HP := Lib.hid (fun (W : World) (hx : Ext w W) => parseInt_any s hs W (hy.ext hx) (hr.ext hx))
  have HFM := Lib.hid (fun (n : Int) (hn : i64 n) (W : World) (hx : Ext w W) => format_any n hn W (ht.ext hx))
  clear ht hy hr
  have hS := Hp.init w
  have hR := Reads.nil w
  obtain ⟨nb, hnb⟩ : ∃ x, (s.toList == [110, 117, 108, 108]) = x := ⟨_, rfl⟩
  have HL0 := Lib.hid (show litOf s = if nb = true then some ⟨0, 0, ⟨#[]⟩⟩ else match numOf s with
    | some n => some ⟨1, n, ⟨#[]⟩⟩
    | none => if s.size < 2 ∨ s.data.toList.getD 0 0 ≠ 39 ∨ s.data.toList.getD (s.size - 1) 0 ≠ 39 then none else if rightB 2 0 (s.extract 1 (s.size - 1)) = true then some ⟨2, 0, s.extract 1 (s.size - 1)⟩ else none by unfold litOf; rw [hnb])
  cases nb with
  | true =>
    have HL := Lib.hid (show litOf s = some ⟨0, 0, ⟨#[]⟩⟩ by rw [HL0.out]; rfl)
    clear HL0
    go_enter Tryz.func52, Tryz.ntmps52
    go_wp2_with (first | (refine hab ?_; (try clear hF); clear hS; intro wk hS; (try simp only [List.set_cons_zero, List.set_cons_succ, heap_size, heap_set_size] at hS); ((try clear hF); refine hfI ?_; intro hF)) | fail)
    refine ⟨rfl, .tuple #[gvV ⟨0, 0, ⟨#[]⟩⟩, .bool true], ?_, LitE.mk ⟨0, 0, ⟨#[]⟩⟩ true (⟨by decide, by decide⟩) HL.out, hS.ext⟩
    simp [results, Tryz.results52, go_sem, hF]
  | false =>
    have HL1 := Lib.hid (show litOf s = match numOf s with
      | some n => some ⟨1, n, ⟨#[]⟩⟩
      | none => if s.size < 2 ∨ s.data.toList.getD 0 0 ≠ 39 ∨ s.data.toList.getD (s.size - 1) 0 ≠ 39 then none else if rightB 2 0 (s.extract 1 (s.size - 1)) = true then some ⟨2, 0, s.extract 1 (s.size - 1)⟩ else none by rw [HL0.out]; rfl)
    clear HL0
    go_enter Tryz.func52, Tryz.ntmps52
    go_upto_region 4 with (first | (refine hab ?_; (try clear hF); clear hS; intro wk hS; (try simp only [List.set_cons_zero, List.set_cons_succ, heap_size, heap_set_size] at hS); ((try clear hF); refine hfI ?_; intro hF)) | (go_at_call 81; (with_reducible refine Calls.mono (HP.out _ hS.ext) ?_); rintro e wk ⟨⟨n, er, rfl, hend⟩, hX⟩; replace hS := hS.step hX; clear hX; ((try clear hF); refine hfI ?_; intro hF)))
    have HE := Lib.hid hend
    clear hend HP
    go_cut [22] (fun c wx => c = .bool (numOf s == some n) ∧ ((numOf s == some n) = false → numOf s = none) ∧ Hp w.heap.size w wx [.blk w.heap.size [.int .i64 0, .int .i64 0, .string ⟨#[]⟩] 59])
    case first =>
      rcases HE.out with ⟨rfl, h1⟩ | ⟨⟨tp, pv, rfl⟩, h1⟩
      · have hi := parse_i64 h1
        obtain ⟨eb, heb⟩ : ∃ x, ((itoS n).toList == s.toList) = x := ⟨_, rfl⟩
        have HO := Lib.hid (show numOf s = if eb = true then some n else none by rw [← numOf64_eq]; unfold numOf64; rw [h1]; simp only [heb])
        have HI2 := Lib.hid (HFM.out n hi)
        clear h1 HE hi HFM
        ((try clear hF); refine hfI ?_; intro hF)
        go_wp2_with (first | (refine hab ?_; (try clear hF); clear hS; intro wk hS; (try simp only [List.set_cons_zero, List.set_cons_succ, heap_size, heap_set_size] at hS); ((try clear hF); refine hfI ?_; intro hF)) | (go_at_call 82; (with_reducible refine (HI2.out _ hS.ext).mono ?_); rintro e wk ⟨rfl, hX⟩; replace hS := hS.step hX; clear hX; ((try clear hF); refine hfI ?_; intro hF)))
        go_meet
        case rel =>
          refine ⟨congrArg Value.bool ?_, fun h => ?_, hS⟩
          · rw [HO.out]; cases eb <;> simp
          · rw [HO.out] at h ⊢; cases eb <;> simp at h ⊢
      · have HO := Lib.hid (show numOf s = none by rw [← numOf64_eq]; exact h1)
        clear h1 HE HFM
        ((try clear hF); refine hfI ?_; intro hF)
        go_wp2_with (first | (refine hab ?_; (try clear hF); clear hS; intro wk hS; (try simp only [List.set_cons_zero, List.set_cons_succ, heap_size, heap_set_size] at hS); ((try clear hF); refine hfI ?_; intro hF)) | fail)
        go_meet
        case rel => exact ⟨congrArg Value.bool (by rw [HO.out]; rfl), fun _ => HO.out, hS⟩
    case rest =>
      obtain ⟨rfl, hno, hS⟩ := hcut
      have HNO := Lib.hid hno
      clear hno HFM HE
      obtain ⟨b, hb⟩ : ∃ x, (numOf s == some n) = x := ⟨_, rfl⟩
      rw [hb]
      have HB := Lib.hid hb
      clear hb
      cases b with
      | true =>
        have hq : numOf s = some n := by have := HB.out; simpa using this
        have HL := Lib.hid (show litOf s = some ⟨1, n, ⟨#[]⟩⟩ by rw [HL1.out, hq])
        have hi := (numOf_iff.1 hq).1
        have HI := Lib.hid hi
        clear HL1 HB HNO hq hi
        ((try clear hF); refine hfI ?_; intro hF)
        go_wp2_with (first | (refine hab ?_; (try clear hF); clear hS; intro wk hS; (try simp only [List.set_cons_zero, List.set_cons_succ, heap_size, heap_set_size] at hS); ((try clear hF); refine hfI ?_; intro hF)) | fail)
        refine ⟨rfl, .tuple #[gvV ⟨1, n, ⟨#[]⟩⟩, .bool true], ?_, LitE.mk ⟨1, n, ⟨#[]⟩⟩ true (HI.out) HL.out, hS.ext⟩
        simp [results, Tryz.results52, go_sem, hF]
      | false =>
        have hq : numOf s = none := HNO.out HB.out
        have HL2 := Lib.hid (show litOf s = if s.size < 2 ∨ s.data.toList.getD 0 0 ≠ 39 ∨ s.data.toList.getD (s.size - 1) 0 ≠ 39 then none else if rightB 2 0 (s.extract 1 (s.size - 1)) = true then some ⟨2, 0, s.extract 1 (s.size - 1)⟩ else none by rw [HL1.out, hq])
        clear HL1 HB HNO hq
        ((try clear hF); refine hfI ?_; intro hF)
        by_cases h2 : s.size < 2
        · have HL3 := Lib.hid (show litOf s = none by rw [HL2.out, if_pos (Or.inl h2)])
          have h2' : (s.size : Int) < 2 := by omega
          clear HL2
          ((try clear hF); refine hfI ?_; intro hF)
          go_wp2_with (first | (refine hab ?_; (try clear hF); clear hS; intro wk hS; (try simp only [List.set_cons_zero, List.set_cons_succ, heap_size, heap_set_size] at hS); ((try clear hF); refine hfI ?_; intro hF)) | fail)
          refine ⟨rfl, .tuple #[gvV ⟨0, 0, ⟨#[]⟩⟩, .bool false], ?_, LitE.mk ⟨0, 0, ⟨#[]⟩⟩ false (⟨by decide, by decide⟩) HL3.out, hS.ext⟩
          simp [results, Tryz.results52, go_sem, hF]
        have h2' : ¬ (s.size : Int) < 2 := by omega
        have hz0 : 0 < s.size := by omega
        have hz1 : s.size - 1 < s.size := by omega
        have hw1 : IntKind.i64.wrap ((s.size : Int) - 1) = ((s.size - 1 : Nat) : Int) := by rw [IntWalk.i64_in _ (by omega)]; omega
        have c0' := getD_at s 0 hz0
        have c1' := getD_at s (s.size - 1) hz1
        by_cases h0 : s.data.toList.getD 0 0 = 39
        case neg =>
          have HL3 := Lib.hid (show litOf s = none by rw [HL2.out, if_pos (Or.inr (Or.inl h0))])
          rw [c0'] at h0
          have hq := u8_neL h0
          clear HL2 c0' c1' h0
          change ((s[0].toNat : Int) != 39) = true at hq
          ((try clear hF); refine hfI ?_; intro hF)
          go_wp2_with (first | (refine hab ?_; (try clear hF); clear hS; intro wk hS; (try simp only [List.set_cons_zero, List.set_cons_succ, heap_size, heap_set_size] at hS); ((try clear hF); refine hfI ?_; intro hF)) | fail)
          refine ⟨rfl, .tuple #[gvV ⟨0, 0, ⟨#[]⟩⟩, .bool false], ?_, LitE.mk ⟨0, 0, ⟨#[]⟩⟩ false (⟨by decide, by decide⟩) HL3.out, hS.ext⟩
          simp [results, Tryz.results52, go_sem, hF]
        have c0 : ((s[0].toNat : Int) != 39) = false := by rw [← c0', h0]; rfl
        by_cases h1 : s.data.toList.getD (s.size - 1) 0 = 39
        case neg =>
          have HL3 := Lib.hid (show litOf s = none by rw [HL2.out, if_pos (Or.inr (Or.inr h1))])
          rw [c1'] at h1
          have hq := u8_neL h1
          clear HL2 c0' c1' h0 h1
          change ((s[s.size - 1].toNat : Int) != 39) = true at hq
          ((try clear hF); refine hfI ?_; intro hF)
          go_wp2_with (first | (refine hab ?_; (try clear hF); clear hS; intro wk hS; (try simp only [List.set_cons_zero, List.set_cons_succ, heap_size, heap_set_size] at hS); ((try clear hF); refine hfI ?_; intro hF)) | fail)
          refine ⟨rfl, .tuple #[gvV ⟨0, 0, ⟨#[]⟩⟩, .bool false], ?_, LitE.mk ⟨0, 0, ⟨#[]⟩⟩ false (⟨by decide, by decide⟩) HL3.out, hS.ext⟩
          simp [results, Tryz.results52, go_sem, hF]
        have c1 : ((s[s.size - 1].toNat : Int) != 39) = false := by rw [← c1', h1]; rfl
        clear c0' c1'
        have g0 := c0
        have g1 := c1
        obtain ⟨x, hx⟩ : ∃ x, s.extract 1 (s.size - 1) = x := ⟨_, rfl⟩
        have HR := Lib.hid (fun (W : World) => right_any 2 0 x W)
        obtain ⟨b, hb⟩ : ∃ y, rightB 2 0 x = y := ⟨_, rfl⟩
        have HL3 := Lib.hid (show litOf s = if b = true then some ⟨2, 0, x⟩ else none by rw [HL2.out, if_neg (fun h => h.elim h2 (fun h => h.elim (fun k => k h0) (fun k => k h1))), hx, hb])
        rw [hb] at HR
        have HX := Lib.hid hx
        clear hb HL2 h0 h1 c0 c1 hx
        ((try clear hF); refine hfI ?_; intro hF)
        go_upto_region 9 with (first | (refine hab ?_; (try clear hF); clear hS; intro wk hS; (try simp only [List.set_cons_zero, List.set_cons_succ, heap_size, heap_set_size] at hS); ((try clear hF); refine hfI ?_; intro hF)) | fail)
        rw [HX.out] at hS hF
        ((with_reducible refine wp_region_tail_hp (id := 9) [.q, .q, .q, .t, .t] (by kernel_rfl) rfl (by kernel_rfl) hS ?_); (repeat ((with_reducible refine Walk.here ?_); (first | ((with_reducible apply Walk.skipQ); (first | rfl | exact wanted_false rfl rfl rfl (by assumption)); (try simp only [Mark.isQ, if_true, Bool.false_eq_true, if_false, Act.put, List.setIfInBounds_toArray, List.set_cons_zero, List.set_cons_succ])) | ((with_reducible apply Walk.skipP); (first | rfl | exact wanted_false rfl rfl rfl (by assumption)); (try simp only [Mark.isQ, if_true, Bool.false_eq_true, if_false, Act.put, List.setIfInBounds_toArray, List.set_cons_zero, List.set_cons_succ])) | ((with_reducible apply Walk.val); (first | rfl | exact wanted_true rfl rfl rfl (by assumption)); (rintro w hS; ((try clear hF); refine hfI ?_; intro hF); go_simp; with_reducible rfl); (try simp only [Mark.isQ, if_true, Bool.false_eq_true, if_false, Act.put, List.setIfInBounds_toArray, List.set_cons_zero, List.set_cons_succ])) | ((with_reducible apply Walk.pure); (first | rfl | exact wanted_true rfl rfl rfl (by assumption)); (intro w; go_simp; with_reducible rfl); (try simp only [Mark.isQ, if_true, Bool.false_eq_true, if_false, Act.put, List.setIfInBounds_toArray, List.set_cons_zero, List.set_cons_succ])) | ((with_reducible apply Walk.call); (first | rfl | exact wanted_true rfl rfl rfl (by assumption)); (rintro w hS; ((try clear hF); refine hfI ?_; intro hF); go_simp; exact ⟨rfl, rfl⟩); (rintro w hS; first | (with_reducible exact HR.out w)); (try simp only [Mark.isQ, if_true, Bool.false_eq_true, if_false, Act.put, List.setIfInBounds_toArray, List.set_cons_zero, List.set_cons_succ])) | ((with_reducible apply Walk.blk); (focus (intro w; go_simp; try with_reducible rfl)); (try simp only [Mark.isQ, if_true, Bool.false_eq_true, if_false, Act.put, List.setIfInBounds_toArray, List.set_cons_zero, List.set_cons_succ])) | ((with_reducible apply Walk.tail); (try simp only [Mark.isQ, if_true, Bool.false_eq_true, if_false, Act.put, List.setIfInBounds_toArray, List.set_cons_zero, List.set_cons_succ])) | ((with_reducible apply Walk.guardT); rfl; rfl; rfl; (all_goals intro hg)) | ((with_reducible apply Walk.guardF); rfl; rfl; rfl; (all_goals intro hg))))); refine Walk.done ?_; (try clear hF); clear hS; intro bs wk hS QN hQN; simp only [itemsOf, blksOf, List.map_cons, List.map_nil, List.cons_append, List.nil_append, Nat.reduceAdd, Nat.zero_add] at hS; simp only [tailsOf, putB, Act.put, List.setIfInBounds_toArray, List.set_cons_zero, List.set_cons_succ, Nat.reduceAdd, Nat.zero_add]; ((try clear hF); refine hfI ?_; intro hF))
        go_wp2_with (first | (refine hab ?_; (try clear hF); clear hS; intro wk hS; (try simp only [List.set_cons_zero, List.set_cons_succ, heap_size, heap_set_size] at hS); ((try clear hF); refine hfI ?_; intro hF)) | fail)
        refine ⟨rfl, .tuple #[gvV ⟨2, 0, x⟩, .bool b], ?_, LitE.mk ⟨2, 0, x⟩ b (show i64 0 from ⟨by decide, by decide⟩) HL3.out, hS.ext⟩
        simp [results, Tryz.results52, go_sem, hF]
end Go.Proofs.YtlgidjanmaijaaaGreatDoor

/- log.Print: a commit in letters. (Printed by genprint.py.) -/
namespace Go.Proofs.YtlgidjanmaijaaaGreatDoor
set_option linter.unusedSimpArgs false
set_option linter.unusedVariables false
open Go.RowKit
set_option linter.all false
abbrev nlS : ByteArray := ⟨#[10]⟩
/-- an action in letters, if it may be -/
def lineA (a : AN) : Option ByteArray :=
  if a.kind = 1 then (if nameB a.path = true ∧ 1 ≤ a.rows ∧ a.rows ≤ 60 ∧ a.mask.length = 0 ∧ a.cols.length = 0 ∧ a.next = 0 then some (⟨#[97, 100, 100, 32]⟩ ++ a.path ++ spS ++ itoS a.rows ++ nlS) else none)
  else if a.kind = 2 then (if nameB a.path = true ∧ a.rows = 0 ∧ a.mask.length = 0 ∧ a.cols.length = 0 ∧ a.next = 0 then some (⟨#[114, 101, 109, 111, 118, 101, 32]⟩ ++ a.path ++ nlS) else none)
  else if a.kind = 3 then (if nameB a.path = true ∧ a.rows = 0 ∧ ¬ a.mask.length = 0 ∧ maskB a.mask 60 = true ∧ a.cols.length = 0 ∧ a.next = 0 then some (⟨#[109, 97, 115, 107, 32]⟩ ++ a.path ++ spS ++ joinS (a.mask.map itoS) ⟨#[44]⟩ ++ nlS) else none)
  else if a.kind = 4 then (if (a.path.toList == (⟨#[]⟩ : ByteArray).toList) = true ∧ a.rows = 0 ∧ a.mask.length = 0 ∧ rightC a.cols a.next = true then some (⟨#[115, 99, 104, 101, 109, 97, 32]⟩ ++ itoS a.next ++ spS ++ joinS (a.cols.map colS) ⟨#[59]⟩ ++ nlS) else none)
  else none
def linesA : ByteArray → List AN → Option ByteArray
  | s, [] => some s
  | s, a :: l => match lineA a with | some t => linesA (s ++ t) l | none => none
def readsS (b : Bool) : ByteArray := if b then ⟨#[114, 101, 97, 100, 115]⟩ else ⟨#[98, 108, 105, 110, 100]⟩
def printC (tx : ByteArray) (rd : Bool) (l : List AN) : Option ByteArray :=
  if nameB tx = true then linesA (⟨#[99, 111, 109, 109, 105, 116, 32]⟩ ++ tx ++ spS ++ readsS rd ++ nlS) l else none
def PrRes (D : Option ByteArray) (e : Ending) : Prop :=
  match D with
  | some t => e = .returned (.tuple #[.string t, .nilIface])
  | none => e = .returned (.tuple #[.string ⟨#[]⟩, .iface 64 (.int .i64 1)])
theorem linesA_bad {s : ByteArray} {a : AN} {l : List AN} (h : lineA a = none) : linesA s (a :: l) = none := by rw [linesA, h]
theorem linesA_good {s t : ByteArray} {a : AN} {l : List AN} (h : lineA a = some t) : linesA s (a :: l) = linesA (s ++ t) l := by rw [linesA, h]
/-- what is printed is not too long -/
structure PrOk (a : AN) (v : AV) : Prop where
  q : a.mask.length = v.qn
  q2 : v.qn ≤ 100000
  r : a.cols.length = v.rn
  r2 : v.rn ≤ 100000
  r3 : v.rn ≤ v.rc
  n64 : i64 a.next
  r64 : i64 a.rows
  m64 : ∀ x ∈ a.mask, i64 x
  c64 : ∀ c ∈ a.cols, COk c
  p : a.path.size ≤ 100000
  mj : (joinS (a.mask.map itoS) ⟨#[44]⟩).size ≤ 1000000
  cj : (joinS (a.cols.map colS) ⟨#[59]⟩).size ≤ 1000000
end Go.Proofs.YtlgidjanmaijaaaGreatDoor

/- log.quoted: a text, cut at a mark, but not between two '. -/
namespace Go.Proofs.YtlgidjanmaijaaaGreatDoor
set_option linter.unusedSimpArgs false
set_option linter.unusedVariables false
open Go.RowKit
set_option linter.all false
def qGo (s : ByteArray) (mk : UInt8) : Nat → Nat → Bool → Nat → List ByteArray
  | 0, _, _, f => [s.extract f s.size]
  | n + 1, k, i, f => if s.data.toList.getD k 0 = 39 then qGo s mk n (k + 1) (!i) f
    else if s.data.toList.getD k 0 = mk ∧ i = false then s.extract f k :: qGo s mk n (k + 1) i (k + 1)
    else qGo s mk n (k + 1) i f
def quotedS (s : ByteArray) (mk : UInt8) : List ByteArray := qGo s mk s.size 0 false 0
theorem qGo_step (s : ByteArray) (mk : UInt8) (m k : Nat) (i : Bool) (f : Nat) (hm : s.size = m) (hk : k < m) (h : k < s.size) : qGo s mk (m - k) k i f = if s[k] = 39 then qGo s mk (m - (k + 1)) (k + 1) (!i) f
    else if s[k] = mk ∧ i = false then s.extract f k :: qGo s mk (m - (k + 1)) (k + 1) i (k + 1) else qGo s mk (m - (k + 1)) (k + 1) i f := by
  have e : s.data.toList.getD k 0 = s[k] := by
    rw [List.getD_eq_getElem?_getD, List.getElem?_eq_getElem (by rw [Array.length_toList]; exact h)]
    rfl
  rw [show m - k = (m - (k + 1)) + 1 by omega, qGo, e]
theorem u8_ne {a b : UInt8} (h : a ≠ b) : ((a.toNat : Int) == (b.toNat : Int)) = false := by
  rw [beq_eq_false_iff_ne]
  intro e
  exact h (UInt8.toNat_inj.1 (by omega))
theorem u8_ne39 {a : UInt8} (h : a ≠ 39) : ((a.toNat : Int) == 39) = false := u8_ne (b := 39) h
set_option maxRecDepth 100000 in
set_option maxHeartbeats 8000000 in
theorem quoted_any (s : ByteArray) (mk : UInt8) (w : World) (m : Nat) (hm : s.size = m) (hm2 : m ≤ 1000000) :
    Calls Tryz.prog 49 #[.string s, .int .u8 mk.toNat] w fun e w' => ∃ A n c, (quotedS s mk).length = n ∧ e = .returned (.slice A n c) ∧ Hp w.heap.size w w' [.row 9 1 A n c (strV (quotedS s mk))] := by
  obtain ⟨D, hD⟩ : ∃ D, D = quotedS s mk := ⟨_, rfl⟩
  rw [← hD]
  have HD := Lib.hid (show D = [] ++ qGo s mk (m - 0) 0 false 0 by rw [hD]; unfold quotedS; rw [hm]; rfl)
  clear hD
  have hS := Hp.init w
  have hR := Reads.nil w
  go_enter Tryz.func49, Tryz.ntmps49
  go_wp2_with (first | (refine hab ?_; (try clear hF); clear hS; intro wk hS; (try simp only [List.set_cons_zero, List.set_cons_succ, heap_size, heap_set_size] at hS); ((try clear hF); refine hfI ?_; intro hF)) | fail)
  replace hS := hS.nilRow 9 1
  go_loopw [11, 5, 6, 7] (fun i sl iv fv wr => ∃ (k f nn : Nat) (inn : Bool) (A' : Option Addr) (c' : Nat) (out : List ByteArray), i = .int .i64 k ∧ k ≤ m ∧ f ≤ k ∧ nn ≤ k ∧ sl = .slice A' nn c' ∧ iv = .bool inn ∧ fv = .int .i64 f ∧ Hid (out.length = nn) ∧ Hid (D = out ++ qGo s mk (m - k) k inn f) ∧ Hp w.heap.size w wr [.row 9 1 A' nn c' (strV out)]) (fun i _ _ _ _ => m - (intOf i).toNat)
  case atStart => exact ⟨0, 0, 0, false, none, 0, [], rfl, Nat.zero_le _, Nat.le_refl _, Nat.le_refl _, rfl, rfl, rfl, Lib.hid rfl, HD, hS⟩
  case round =>
    clear hS HD
    obtain ⟨k, f, nn, inn, A', c', out, rfl, hk, hfk, hnk, rfl, rfl, rfl, HO, HD, hS⟩ := hrel
    by_cases hlt : k < m
    · have hks : k < s.size := by omega
      have HD2 := Lib.hid (HD.out.trans (congrArg (out ++ ·) (qGo_step s mk m k inn f hm hlt hks)))
      clear HD
      by_cases q : s[k] = 39
      · have HD3 := Lib.hid (show D = out ++ qGo s mk (m - (k + 1)) (k + 1) (!inn) f by have := HD2.out; simp only [if_pos q] at this; exact this)
        have q1 : ((s[k].toNat : Int) == 39) = true := by rw [q]; rfl
        clear HD2 q
        ((try clear hF); refine hfI ?_; intro hF)
        go_wp2_with (first | (refine hab ?_; (try clear hF); clear hS; intro wk hS; (try simp only [List.set_cons_zero, List.set_cons_succ, heap_size, heap_set_size] at hS); ((try clear hF); refine hfI ?_; intro hF)) | fail)
        go_roundw
        case rel => exact ⟨k + 1, f, nn, !inn, A', c', out, by go_num, by omega, by omega, by omega, rfl, rfl, rfl, HO, HD3, hS⟩
        case measure => simp [intOf]; omega
      have q1 := u8_ne39 q
      by_cases q2 : s[k] = mk
      · have q3 : ((s[k].toNat : Int) == (mk.toNat : Int)) = true := by rw [q2]; simp
        cases inn with
        | false =>
          have HD3 := Lib.hid (show D = (out ++ [s.extract f k]) ++ qGo s mk (m - (k + 1)) (k + 1) false (k + 1) by have this : D = out ++ _ := HD2.out; rw [if_neg q, if_pos ⟨q2, rfl⟩] at this; rw [List.append_assoc]; exact this)
          clear HD2 q q2
          ((try clear hF); refine hfI ?_; intro hF)
          go_wp2_with (first | (refine hab ?_; (try clear hF); clear hS; intro wk hS; (try simp only [List.set_cons_zero, List.set_cons_succ, heap_size, heap_set_size] at hS); ((try clear hF); refine hfI ?_; intro hF)) | (at_builtin; refine wpList_push_hp Tryz.elem_strs rfl (.tmp 31) (.tmp 36) rfl (hS.second 0 rfl) rfl rfl rfl (by simp [Value.oneCell']) (by omega) (by omega) ?_; clear hS; intro Ak capk wk hS; (try simp only [List.eraseIdx_cons_zero, List.eraseIdx_cons_succ, List.set_cons_zero, List.set_cons_succ] at hS); ((try clear hF); refine hfI ?_; intro hF)))
          go_roundw
          case rel =>
            refine ⟨k + 1, k + 1, nn + 1, false, _, _, out ++ [s.extract f k], by go_num, by omega, by omega, by omega, rfl, rfl, by go_num, Lib.hid (by rw [List.length_append, HO.out]; rfl), HD3, ?_⟩
            rw [strV, List.map_append]
            exact hS
          case measure => simp [intOf]; omega
        | true =>
          have HD3 := Lib.hid (show D = out ++ qGo s mk (m - (k + 1)) (k + 1) true f by have := HD2.out; simpa [q] using this)
          clear HD2 q q2
          ((try clear hF); refine hfI ?_; intro hF)
          go_wp2_with (first | (refine hab ?_; (try clear hF); clear hS; intro wk hS; (try simp only [List.set_cons_zero, List.set_cons_succ, heap_size, heap_set_size] at hS); ((try clear hF); refine hfI ?_; intro hF)) | fail)
          go_roundw
          case rel => exact ⟨k + 1, f, nn, true, A', c', out, by go_num, by omega, by omega, by omega, rfl, rfl, rfl, HO, HD3, hS⟩
          case measure => simp [intOf]; omega
      · have q3 := u8_ne q2
        have HD3 := Lib.hid (show D = out ++ qGo s mk (m - (k + 1)) (k + 1) inn f by have := HD2.out; simp only [if_neg q, q2, false_and, if_false] at this; exact this)
        clear HD2 q q2
        ((try clear hF); refine hfI ?_; intro hF)
        go_wp2_with (first | (refine hab ?_; (try clear hF); clear hS; intro wk hS; (try simp only [List.set_cons_zero, List.set_cons_succ, heap_size, heap_set_size] at hS); ((try clear hF); refine hfI ?_; intro hF)) | fail)
        go_roundw
        case rel => exact ⟨k + 1, f, nn, inn, A', c', out, by go_num, by omega, by omega, by omega, rfl, rfl, rfl, HO, HD3, hS⟩
        case measure => simp [intOf]; omega
    · obtain rfl : k = m := by omega
      have HD2 := Lib.hid (show D = out ++ [s.extract f k] by rw [HD.out, Nat.sub_self]; show out ++ [s.extract f s.size] = _; rw [hm])
      clear HD
      have hfs : f ≤ s.size := by omega
      ((try clear hF); refine hfI ?_; intro hF)
      go_wp2_with (first | (refine hab ?_; (try clear hF); clear hS; intro wk hS; (try simp only [List.set_cons_zero, List.set_cons_succ, heap_size, heap_set_size] at hS); ((try clear hF); refine hfI ?_; intro hF)) | (at_builtin; refine wpList_push_hp Tryz.elem_strs rfl (.tmp 41) (.tmp 45) rfl (hS.second 0 rfl) rfl rfl rfl (by simp [Value.oneCell']) (by omega) (by omega) ?_; clear hS; intro Ak capk wk hS; (try simp only [List.eraseIdx_cons_zero, List.eraseIdx_cons_succ, List.set_cons_zero, List.set_cons_succ] at hS); ((try clear hF); refine hfI ?_; intro hF)))
      go_ret
      refine ⟨_, nn + 1, _, by rw [HD2.out, List.length_append, HO.out]; rfl, rfl, ?_⟩
      rw [HD2.out, strV, List.map_append]
      exact hS
end Go.Proofs.YtlgidjanmaijaaaGreatDoor

/- What a line says (plain): the parts of a text, numbers, columns, actions. -/
namespace Go.Proofs.YtlgidjanmaijaaaGreatDoor
set_option linter.unusedSimpArgs false
set_option linter.unusedVariables false
open Go.RowKit
set_option linter.all false
/-- the parts' lengths, each with its mark -/
def lenS : List ByteArray → Nat
  | [] => 0
  | s :: l => s.size + 1 + lenS l
theorem lenS_le {l : List ByteArray} {x : ByteArray} (h : x ∈ l) : x.size + 1 ≤ lenS l := by
  induction l with
  | nil => cases h
  | cons y l ih =>
    rw [lenS]
    rcases List.mem_cons.1 h with rfl | h
    · omega
    · have := ih h; omega
theorem lenS_length : ∀ l : List ByteArray, l.length ≤ lenS l
  | [] => Nat.le_refl _
  | x :: l => by have := lenS_length l; rw [lenS, List.length_cons]; omega
theorem qGo_len (s : ByteArray) (mk : UInt8) : ∀ (n k : Nat) (i : Bool) (f : Nat), k + n = s.size → f ≤ k → lenS (qGo s mk n k i f) = s.size - f + 1
  | 0, k, i, f, h, hf => by
    rw [qGo, lenS, lenS, ByteArray.size_extract]
    omega
  | n + 1, k, i, f, h, hf => by
    rw [qGo]
    split
    · exact qGo_len s mk n (k + 1) (!i) f (by omega) (by omega)
    · split
      · rw [lenS, qGo_len s mk n (k + 1) i (k + 1) (by omega) (Nat.le_refl _), ByteArray.size_extract]
        omega
      · exact qGo_len s mk n (k + 1) i f (by omega) (by omega)
theorem quotedS_len (s : ByteArray) (mk : UInt8) : lenS (quotedS s mk) = s.size + 1 := by
  unfold quotedS
  rw [qGo_len s mk s.size 0 false 0 (by omega) (Nat.le_refl _)]
  omega
theorem cutS_len (mk : UInt8) : ∀ (n : Nat) (s : ByteArray), s.size ≤ n → lenS (cutS mk n s) = s.size + 1
  | 0, s, h => by rw [cutS, lenS, lenS]
  | n + 1, s, h => by
    rw [cutS]
    split
    · rw [lenS, lenS]
    · rename_i h0
      have hl := idx_lt h0
      rw [lenS, cutS_len mk n _ (by rw [ByteArray.size_extract]; omega), ByteArray.size_extract, ByteArray.size_extract]
      omega
theorem piecesS_len (s : ByteArray) (mk : UInt8) : lenS (piecesS mk s) = s.size + 1 := cutS_len mk _ s (Nat.le_refl _)
/-- numbers -/
def numsOf : List ByteArray → Option (List Int)
  | [] => some []
  | s :: l => match numOf s, numsOf l with
    | some n, some r => some (n :: r)
    | _, _ => none
theorem numsOf_snoc (l : List ByteArray) (s : ByteArray) : numsOf (l ++ [s]) = match numsOf l, numOf s with | some r, some n => some (r ++ [n]) | _, _ => none := by
  induction l with
  | nil => cases h : numOf s <;> simp [numsOf, h]
  | cons x l ih =>
    rw [List.cons_append, numsOf, ih, numsOf]
    cases numOf x <;> cases numsOf l <;> cases numOf s <;> simp
/-- a column -/
def colOf (t : ByteArray) : Option CG :=
  match quotedS t 32 with
  | [x0, x1, x2, x3, x4] => if (x3.toList == [109, 117, 115, 116]) = false ∧ (x3.toList == [109, 97, 121]) = false then none
    else match numOf x0, numOf x2, litOf x4 with
    | some a, some b, some v => some ⟨a, x1, b, x3.toList == [109, 117, 115, 116], v⟩
    | _, _, _ => none
  | _ => none
def colsOf : List ByteArray → Option (List CG)
  | [] => some []
  | s :: l => match colOf s, colsOf l with
    | some n, some r => some (n :: r)
    | _, _ => none
theorem colsOf_snoc (l : List ByteArray) (s : ByteArray) : colsOf (l ++ [s]) = match colsOf l, colOf s with | some r, some n => some (r ++ [n]) | _, _ => none := by
  induction l with
  | nil => cases h : colOf s <;> simp [colsOf, h]
  | cons x l ih =>
    rw [List.cons_append, colsOf, ih, colsOf]
    cases colOf x <;> cases colsOf l <;> cases colOf s <;> simp
theorem colsOf_bad {l m : List ByteArray} {s : ByteArray} (h : colOf s = none) : colsOf (l ++ s :: m) = none := by
  induction l with
  | nil => rw [List.nil_append, colsOf, h]
  | cons x l ih => rw [List.cons_append, colsOf, ih]; cases colOf x <;> rfl
/-- an action, as its line says it -/
def lineP (s : ByteArray) : Option AN :=
  match quotedS s 32 with
  | w0 :: w1 :: r =>
    if (w0.toList == [97, 100, 100]) = true ∧ r.length = 1 then (numOf (r.headD ⟨#[]⟩)).map fun n => ⟨1, w1, n, [], [], 0⟩
    else if (w0.toList == [114, 101, 109, 111, 118, 101]) = true ∧ r.length = 0 then some ⟨2, w1, 0, [], [], 0⟩
    else if (w0.toList == [109, 97, 115, 107]) = true ∧ r.length = 1 then (numsOf (piecesS 44 (r.headD ⟨#[]⟩))).map fun m => ⟨3, w1, 0, m, [], 0⟩
    else if (w0.toList == [115, 99, 104, 101, 109, 97]) = true then
      match numOf w1, colsOf (quotedS (s.extract (7 + w1.size + min 1 r.length) s.size) 59) with
      | some n, some c => some ⟨4, ⟨#[]⟩, 0, [], c, n⟩
      | _, _ => none
    else none
  | _ => none
theorem schema_at {s w0 w1 : ByteArray} {r : List ByteArray} (h : quotedS s 32 = w0 :: w1 :: r) (h0 : (w0.toList == [115, 99, 104, 101, 109, 97]) = true) : 7 + w1.size + min 1 r.length ≤ s.size := by
  have hl := quotedS_len s 32
  rw [h, lenS, lenS] at hl
  have hz : w0.size = 6 := by
    have : w0.data.toList = [115, 99, 104, 101, 109, 97] := by rw [← ba_toListN]; exact eq_of_beq h0
    have := congrArg List.length this
    simpa using this
  cases r with
  | nil => simp [lenS] at hl ⊢; omega
  | cons x r => rw [lenS] at hl; simp; omega
end Go.Proofs.YtlgidjanmaijaaaGreatDoor

/- log.line: what it answers. -/
namespace Go.Proofs.YtlgidjanmaijaaaGreatDoor
set_option linter.unusedSimpArgs false
set_option linter.unusedVariables false
open Go.RowKit
set_option linter.all false
/-- letters of columns: names, texts -/
def sumC : List CG → Nat
  | [] => 0
  | c :: l => c.name.size + c.d.text.size + sumC l
/-- what is read is not too great -/
structure LnOk (a : AN) (v : AV) (z : Nat) : Prop where
  q : a.mask.length = v.qn
  q2 : v.qn ≤ z
  qz : v.qa = none → v.qc = 0
  r : a.cols.length = v.rn
  r2 : v.rn ≤ z
  r3 : v.rn ≤ v.rc
  n64 : i64 a.next
  r64 : i64 a.rows
  m64 : ∀ x ∈ a.mask, i64 x
  c64 : ∀ c ∈ a.cols, i64 c.id ∧ i64 c.kind ∧ i64 c.d.num
  cs : sumC a.cols ≤ z
  p : a.path.size ≤ z
/-- an empty action's cells -/
abbrev a0C : List Value := [.int .i64 0, .string ⟨#[]⟩, .int .i64 0, .slice none 0 0, .slice none 0 0, .int .i64 0]
abbrev aC (a : AN) (v : AV) : List Value := [.int .i64 a.kind, .string a.path, .int .i64 a.rows, .slice v.qa v.qn v.qc, .slice v.ra v.rn v.rc, .int .i64 a.next]
abbrev aV (a : AN) (v : AV) : Value := .agg #[.int .i64 a.kind, .string a.path, .int .i64 a.rows, .slice v.qa v.qn v.qc, .slice v.ra v.rn v.rc, .int .i64 a.next]
/-- what is known of an action that was read -/
def LnF (s : ByteArray) (a : AN) (v : AV) (b : Bool) (M : List Item) : Prop :=
  (b = true → (∀ (B : Nat) (w0 W : World), Hp B w0 W M → RI W v.qa a.mask ∧ RC W v.ra a.cols) ∧ LnOk a v (s.size + 1)) ∧ lineP s = if b = true then some a else none
theorem LnF.no {s : ByteArray} {a : AN} {v : AV} {M : List Item} (h : lineP s = none) : LnF s a v false M := ⟨fun h => (by cases h), h⟩
theorem LnF.ok {s : ByteArray} {a : AN} {v : AV} {b : Bool} {M : List Item} (h : lineP s = if b = true then some a else none) (h2 : ∀ (B : Nat) (w0 W : World), Hp B w0 W M → RI W v.qa a.mask ∧ RC W v.ra a.cols) (h3 : LnOk a v (s.size + 1)) : LnF s a v b M := ⟨fun _ => ⟨h2, h3⟩, h⟩
/-- what log.line answers -/
def LineE (s : ByteArray) (w : World) (e : Ending) (w' : World) : Prop :=
  ∃ (a : AN) (v : AV) (b : Bool) (M : List Item), e = .returned (.tuple #[aV a v, .bool b]) ∧ Hp w.heap.size w w' M ∧ LnF s a v b M
theorem LineE.mk {s : ByteArray} {w w' : World} (a : AN) (v : AV) (b : Bool) (M : List Item) (h1 : Hp w.heap.size w w' M) (h2 : LnF s a v b M) : LineE s w (.returned (.tuple #[aV a v, .bool b])) w' := ⟨a, v, b, M, rfl, h1, h2⟩
theorem Hp.rowNilL {B : Nat} {w0 w : World} {L : List Item} {e : TypeId} {size n cap : Nat} {A : Option Addr} {xs : List Value} (h : Hp B w0 w L) (i : Nat) (hi : L[i]? = some (.row e size A n cap xs)) (hA : A = none) : cap = 0 := by
  have ho : w.ownsRow B e size (.slice A n cap) n xs := h.own _ (List.mem_of_getElem? hi)
  rcases ho.2 with ⟨hv, _⟩ | ⟨g, cp, cur, hv, _⟩
  · simp at hv; exact hv.2.2
  · subst hA; simp at hv
theorem Hp.forget {B : Nat} {w0 w : World} {L : List Item} (h : Hp B w0 w L) : Hp B w0 w [] := h.sub (List.nil_sublist _)
theorem ri_nil (W : World) (A : Option Addr) : RI W A [] := fun k x h => (by cases h)
theorem rc_nil (W : World) (A : Option Addr) : RC W A [] := fun k x h => (by cases h)
theorem LnOk.flat {z : Nat} {k m x : Int} {p : ByteArray} (hp : p.size ≤ z) (hm : i64 m) (hx : i64 x) : LnOk ⟨k, p, m, [], [], x⟩ ⟨none, 0, 0, none, 0, 0⟩ z :=
  ⟨rfl, Nat.zero_le _, fun _ => rfl, rfl, Nat.zero_le _, Nat.le_refl _, hx, hm, (fun x h => by cases h), (fun x h => by cases h), Nat.zero_le _, hp⟩
theorem lineP_short {s : ByteArray} (h : (quotedS s 32).length < 2) : lineP s = none := by
  unfold lineP
  match hq : quotedS s 32 with
  | [] => rfl
  | [x] => rfl
  | x :: y :: r => rw [hq] at h; simp at h; omega
end Go.Proofs.YtlgidjanmaijaaaGreatDoor
