/- Texts joined: lists of letters: numbers, cuts, trims: plain. value.Print, value.Right: what each call answers; the world has at most new blocks. value.Right: what it answers; the world has at most new blocks. schema.Name: what it answers. schema.Name, schema.column: what they answer. Slices of columns: what their cells hold; IndexFunc, ContainsFunc, Find. -/
import Derived.Test.YtcpnnffnkegamaaGreatDoorLZ05
import Derived.Lib.SlTrimSet
import Derived.Test.YtcpnnffnkegamaaGreatDoorLZ01
import Derived.Deep.QuietTactic
import Derived.Test.YtcpnnffnkegamaaGreatDoorLZ04
import Derived.Shelf.Abstract
import Derived.Test.YtcpnnffnkegamaaGreatDoorLZ02
import Derived.Shelf.Strings.SlTrimAscii
/- lists of letters: numbers, cuts, trims: plain. -/
namespace Go.Proofs.YtcpnnffnkegamaaGreatDoor
set_option linter.unusedSimpArgs false
set_option linter.unusedVariables false
open Go.RowKit
set_option linter.all false
theorem ba_ext {a b : ByteArray} (h : a.data.toList = b.data.toList) : a = b := by
  obtain ⟨⟨l⟩⟩ := a
  obtain ⟨⟨m⟩⟩ := b
  simp at h
  subst h
  rfl
theorem ext_list (s : ByteArray) (f k : Nat) (hf : f ≤ k) : (s.extract f k).data.toList = (s.data.toList.drop f).take (k - f) := by
  rw [Lib.extract_data]
theorem idx_none {l : List UInt8} {mk : UInt8} (h : Lib.indexByte l mk < 0) : ∀ c ∈ l, c ≠ mk := fun c hc e => by
  subst e
  have h1 := Lib.indexByte_ge l c
  obtain ⟨k, hk⟩ := List.getElem?_of_mem hc
  exact Lib.indexByte_none (show Lib.indexByte l c = -1 by omega) k hk
theorem idx_cut {l : List UInt8} {mk : UInt8} {m : Nat} (h : Lib.indexByte l mk = m) : m < l.length ∧ l = l.take m ++ mk :: l.drop (m + 1) ∧ ∀ c ∈ l.take m, c ≠ mk := by
  obtain ⟨h1, h2⟩ := Lib.indexByte_some h
  obtain ⟨hk, e⟩ := List.getElem?_eq_some_iff.1 h1
  refine ⟨hk, ?_, fun c hc e2 => ?_⟩
  · have h3 : l[m] :: l.drop (m + 1) = l.drop m := (List.drop_eq_getElem_cons hk).symm
    rw [← e, h3, List.take_append_drop]
  · obtain ⟨k, hk2⟩ := List.getElem?_of_mem hc
    rw [List.getElem?_take] at hk2
    split at hk2
    · rename_i h4
      exact h2 k h4 (by rw [hk2, e2])
    · cases hk2
-- letters of numbers
theorem digits_plain : ∀ (u : Nat), ∀ c ∈ Lib.decDigits u, 48 ≤ c.toNat ∧ c.toNat ≤ 57
  | u => by
    intro c hc
    rw [Lib.decDigits] at hc
    split at hc
    · rename_i h
      obtain rfl := List.mem_singleton.1 hc
      rw [dig_nat h]
      omega
    · rename_i h
      rcases List.mem_append.1 hc with hc | hc
      · exact digits_plain (u / 10) c hc
      · obtain rfl := List.mem_singleton.1 hc
        rw [dig_nat (Nat.mod_lt u (by omega))]
        omega
termination_by u => u
theorem itoa_plain (n : Int) : ∀ c ∈ Lib.itoa n, c.toNat = 45 ∨ 48 ≤ c.toNat ∧ c.toNat ≤ 57 := by
  intro c hc
  unfold Lib.itoa at hc
  split at hc
  · rcases List.mem_cons.1 hc with rfl | hc
    · exact .inl rfl
    · exact .inr (digits_plain _ c hc)
  · exact .inr (digits_plain _ c hc)
theorem itoS_data (n : Int) : (itoS n).data.toList = Lib.itoa n := by simp [itoS]
theorem revDig_dec : ∀ (u : Nat), (revDig u).reverse = Lib.decDigits u
  | u => by
    rw [Lib.decDigits]
    split
    · rename_i h
      rw [revDig_last u (by omega), show u % 10 = u by omega]
      rfl
    · rename_i h
      rw [revDig_step u (by omega), List.reverse_cons, revDig_dec (u / 10)]
termination_by u => u
theorem itoaL_eq (n : Int) : itoaL n = Lib.itoa n := by
  unfold itoaL Lib.itoa
  rw [List.reverse_append, revDig_dec]
  split
  · rfl
  · rw [show n.toNat = n.natAbs by omega]; rfl
-- letters of names
theorem dropW_nil {p : UInt8 → Bool} : ∀ {l : List UInt8}, l.dropWhile p = [] → ∀ x ∈ l, p x = true
  | [], _, x, h => by cases h
  | y :: l, h, x, hx => by
    rw [List.dropWhile_cons] at h
    split at h
    · rename_i hy
      rcases List.mem_cons.1 hx with rfl | hx
      · exact hy
      · exact dropW_nil h x hx
    · cases h
theorem dropW_head {p : UInt8 → Bool} : ∀ {l r : List UInt8} {x : UInt8}, l.dropWhile p = x :: r → p x = false
  | [], r, x, h => by cases h
  | y :: l, r, x, h => by
    rw [List.dropWhile_cons] at h
    split at h
    · exact dropW_head h
    · rename_i hy
      obtain ⟨rfl, _⟩ := List.cons.inj h
      simpa using hy
theorem trimS_nil {l cs : List UInt8} (h : (Lib.trimS l cs).isEmpty = true) : ∀ c ∈ l, c ∈ cs := by
  have h1 : Lib.trimS l cs = [] := List.isEmpty_iff.1 h
  unfold Lib.trimS Lib.trimLeftS Lib.trimRightS at h1
  have h2 : ∀ c ∈ (l.reverse.dropWhile (cs.contains ·)), cs.contains c = true := fun c hc => dropW_nil h1 c (by simpa using hc)
  have h3 : l.reverse.dropWhile (cs.contains ·) = [] := by
    cases hd : l.reverse.dropWhile (cs.contains ·) with
    | nil => rfl
    | cons x r =>
      have h4 := h2 x (by rw [hd]; simp)
      rw [dropW_head hd] at h4
      cases h4
  intro c hc
  have := dropW_nil h3 c (by simpa using hc)
  simpa using this
end Go.Proofs.YtcpnnffnkegamaaGreatDoor

/- value.Print, value.Right: what each call answers; the world has at most new blocks. -/
namespace Go.Proofs.YtcpnnffnkegamaaGreatDoor
set_option linter.all false
set_option linter.unusedSimpArgs false
set_option linter.unusedVariables false
open Go.RowKit
/-- what value.Print answers -/
def printL (k n : Int) (s : ByteArray) : List UInt8 := if k = 1 then itoaL n else if k = 2 then 39 :: s.data.toList ++ [39] else [110, 117, 108, 108]
def printS (k n : Int) (s : ByteArray) : ByteArray := ⟨(printL k n s).toArray⟩

set_option maxHeartbeats 8000000 in
theorem print_any (k n : Int) (s : ByteArray) (w : World) (h0 : -9223372036854775808 ≤ n) (h1 : n ≤ 9223372036854775807) (hs : s.size ≤ 140737488355328) :
    Calls Tryz.prog 55 #[.agg #[.int .i64 k, .int .i64 n, .string s]] w fun e w' => e = .returned (.string (printS k n s)) ∧ Ext w w' := by
  by_cases hk : k = 1
  · subst hk
    go_enter Tryz.func55, Tryz.ntmps55
    go_wp2_with (go_at_call 83; refine (itoa_any _ _ h0 h1).mono ?_; rintro e w1 ⟨rfl, hw1⟩)
    go_ret
    refine ⟨rfl, ?_⟩
    (repeat (first | with_reducible exact Ext.refl _ | with_reducible assumption | with_reducible refine Ext.drew ?_ | with_reducible refine Ext.alloc ?_ _ | with_reducible refine Ext.drewN ?_ _ | refine Ext.trans ?_ (by with_reducible assumption)))
  · have b1 : (k == 1) = false := by simp [hk]
    by_cases hk2 : k = 2
    · subst hk2
      clear hk b1
      go_enter Tryz.func55, Tryz.ntmps55
      go_wp2_with fail
      go_ret
      refine ⟨?_, ?_⟩
      · refine congrArg (fun z => Ending.returned (Value.string z)) (?_ : _ = printS 2 n s)
        apply ByteArray.ext
        apply Array.toList_inj.1
        simp [printS, printL, ByteArray.data_append]
      · (repeat (first | with_reducible exact Ext.refl _ | with_reducible assumption | with_reducible refine Ext.drew ?_ | with_reducible refine Ext.alloc ?_ _ | with_reducible refine Ext.drewN ?_ _ | refine Ext.trans ?_ (by with_reducible assumption)))
    · have b2 : (k == 2) = false := by simp [hk2]
      have fin : printS k n s = ⟨#[110, 117, 108, 108]⟩ := by simp [printS, printL, hk, hk2]
      rw [fin]
      clear hk hk2 fin
      go_enter Tryz.func55, Tryz.ntmps55
      go_wp2_with fail
      go_ret
      refine ⟨rfl, ?_⟩
      (repeat (first | with_reducible exact Ext.refl _ | with_reducible assumption | with_reducible refine Ext.drew ?_ | with_reducible refine Ext.alloc ?_ _ | with_reducible refine Ext.drewN ?_ _ | refine Ext.trans ?_ (by with_reducible assumption)))
end Go.Proofs.YtcpnnffnkegamaaGreatDoor

/- value.Right: what it answers; the world has at most new blocks. -/
namespace Go.Proofs.YtcpnnffnkegamaaGreatDoor
set_option linter.all false
set_option linter.unusedSimpArgs false
set_option linter.unusedVariables false
open Go.RowKit
/-- what value.Right answers -/
def rightB (k n : Int) (s : ByteArray) : Bool :=
  if k = 0 then decide (n = 0) && decide (s = ⟨#[]⟩) else if k = 1 then decide (s = ⟨#[]⟩) else if k = 2 then decide (n = 0) && decide (s.size ≤ 40) && okText s else false

set_option maxHeartbeats 8000000 in
theorem right1_any (r : Nat) (w : World) : Calls Tryz.prog 71 #[.int .i32 (r : Int)] w fun e w' => e = .returned (.bool (badL r)) ∧ ∃ q, w' = w.drewN q := by
  unfold badL
  by_cases h1 : r < 32
  · have f : (decide (r < 32) || decide (126 < r) || decide (r = 39)) = true := by simp [h1]
    rw [f]
    go_enter Tryz.func71, Tryz.ntmps71
    go_wp2
    go_ret
    exact ⟨rfl, 0, rfl⟩
  · by_cases h2 : 126 < r
    · have f : (decide (r < 32) || decide (126 < r) || decide (r = 39)) = true := by simp [h2]
      rw [f]
      go_enter Tryz.func71, Tryz.ntmps71
      go_wp2
      go_ret
      exact ⟨rfl, 0, rfl⟩
    · by_cases h3 : r = 39
      · subst h3
        go_enter Tryz.func71, Tryz.ntmps71
        go_wp2
        go_ret
        exact ⟨rfl, 0, rfl⟩
      · have f : (decide (r < 32) || decide (126 < r) || decide (r = 39)) = false := by simp [h1, h2, h3]
        have b3 : ((r : Int) == 39) = false := by simp; omega
        rw [f]
        have c1 : (decide ((r : Int) < 32)) = false := by simp; omega
        have c2 : (decide ((126 : Int) < r)) = false := by simp; omega
        go_enter Tryz.func71, Tryz.ntmps71
        go_wp2
        go_ret
        exact ⟨rfl, 0, rfl⟩
theorem nil_iff (s : ByteArray) : s.toList = [] ↔ s = ⟨#[]⟩ := by
  rw [ByteArray.toList_eq]
  constructor
  · intro h; apply ByteArray.ext; apply Array.toList_inj.1; simpa using h
  · intro h; rw [h]
theorem right1_at (w : World) : PredAt Tryz.prog 71 #[] encR badL w := fun W x _ => right1_any x W
theorem enters_right1 : ∀ (args : Array Value) (w : World), (callFunc 71 args).run Tryz.prog w = .ok (.enter 71 args) w := by
  exact Go.Proofs.enters_of Tryz.func71 (by kernel_rfl) rfl

set_option maxHeartbeats 8000000 in
theorem right_any (k n : Int) (s : ByteArray) (w : World) :
    Calls Tryz.prog 45 #[.agg #[.int .i64 k, .int .i64 n, .string s]] w fun e w' => e = .returned (.bool (rightB k n s)) ∧ Ext w w' := by
  by_cases k0 : k = 0
  · subst k0
    by_cases hn : n = 0
    · subst hn
      by_cases hs : s = ⟨#[]⟩
      · subst hs
        have f : rightB 0 0 ⟨#[]⟩ = true := by simp [rightB]
        rw [f]; clear f
        go_enter Tryz.func45, Tryz.ntmps45
        go_wp2
        go_ret
        refine ⟨rfl, ?_⟩
        (repeat (first | with_reducible exact Ext.refl _ | with_reducible assumption | with_reducible refine Ext.drew ?_ | with_reducible refine Ext.alloc ?_ _ | with_reducible refine Ext.drewN ?_ _ | refine Ext.trans ?_ (by with_reducible assumption)))
      · have f : rightB 0 0 s = false := by simp [rightB, hs]
        have hs' : ¬ s.toList = [] := by rw [nil_iff]; exact hs
        rw [f]; clear f hs
        go_enter Tryz.func45, Tryz.ntmps45
        go_wp2
        go_ret
        refine ⟨rfl, ?_⟩
        (repeat (first | with_reducible exact Ext.refl _ | with_reducible assumption | with_reducible refine Ext.drew ?_ | with_reducible refine Ext.alloc ?_ _ | with_reducible refine Ext.drewN ?_ _ | refine Ext.trans ?_ (by with_reducible assumption)))
    · have f : rightB 0 n s = false := by simp [rightB, hn]
      rw [f]; clear f
      go_enter Tryz.func45, Tryz.ntmps45
      go_wp2
      go_ret
      refine ⟨rfl, ?_⟩
      (repeat (first | with_reducible exact Ext.refl _ | with_reducible assumption | with_reducible refine Ext.drew ?_ | with_reducible refine Ext.alloc ?_ _ | with_reducible refine Ext.drewN ?_ _ | refine Ext.trans ?_ (by with_reducible assumption)))
  · have b0 : (k == 0) = false := by simp [k0]
    by_cases k1 : k = 1
    · subst k1
      by_cases hs : s = ⟨#[]⟩
      · subst hs
        have f : rightB 1 n ⟨#[]⟩ = true := by simp [rightB]
        rw [f]; clear f
        go_enter Tryz.func45, Tryz.ntmps45
        go_wp2
        go_ret
        refine ⟨rfl, ?_⟩
        (repeat (first | with_reducible exact Ext.refl _ | with_reducible assumption | with_reducible refine Ext.drew ?_ | with_reducible refine Ext.alloc ?_ _ | with_reducible refine Ext.drewN ?_ _ | refine Ext.trans ?_ (by with_reducible assumption)))
      · have f : rightB 1 n s = false := by simp [rightB, hs]
        have hs' : s.toList.isEmpty = false := by simpa [nil_iff] using hs
        rw [f]; clear f hs
        go_enter Tryz.func45, Tryz.ntmps45
        go_wp2
        go_ret
        refine ⟨?_, ?_⟩
        · simp [hs']
        · (repeat (first | with_reducible exact Ext.refl _ | with_reducible assumption | with_reducible refine Ext.drew ?_ | with_reducible refine Ext.alloc ?_ _ | with_reducible refine Ext.drewN ?_ _ | refine Ext.trans ?_ (by with_reducible assumption)))
    · have b1 : (k == 1) = false := by simp [k1]
      by_cases k2 : k = 2
      · subst k2
        clear k0 k1 b0 b1
        by_cases hn : n = 0
        · subst hn
          by_cases hz : s.size ≤ 40
          · have f : rightB 2 0 s = decide (Lib.idxFunc badL true s < 0) := by rw [idx_ok]; simp [rightB, hz]
            rw [f]; clear f
            go_enter Tryz.func45, Tryz.ntmps45
            go_wp2_with (go_at_call 70; refine (Tryz.strings_IndexFunc 71 #[] enters_right1 badL _ _ (right1_at _)).mono ?_; rintro e w1 ⟨rfl, hb1⟩; have hx1 := Ext.mk hb1; clear hb1)

            go_ret
            refine ⟨rfl, ?_⟩
            (repeat (first | with_reducible exact Ext.refl _ | with_reducible assumption | with_reducible refine Ext.drew ?_ | with_reducible refine Ext.alloc ?_ _ | with_reducible refine Ext.drewN ?_ _ | refine Ext.trans ?_ (by with_reducible assumption)))
          · have f : rightB 2 0 s = false := by simp [rightB, hz]
            rw [f]; clear f
            go_enter Tryz.func45, Tryz.ntmps45
            go_wp2_with fail
            go_ret
            refine ⟨rfl, ?_⟩
            (repeat (first | with_reducible exact Ext.refl _ | with_reducible assumption | with_reducible refine Ext.drew ?_ | with_reducible refine Ext.alloc ?_ _ | with_reducible refine Ext.drewN ?_ _ | refine Ext.trans ?_ (by with_reducible assumption)))
        · have f : rightB 2 n s = false := by simp [rightB, hn]
          have bn : (n == 0) = false := by simp [hn]
          rw [f]; clear f hn
          go_enter Tryz.func45, Tryz.ntmps45
          go_wp2_with fail
          go_ret
          refine ⟨rfl, ?_⟩
          (repeat (first | with_reducible exact Ext.refl _ | with_reducible assumption | with_reducible refine Ext.drew ?_ | with_reducible refine Ext.alloc ?_ _ | with_reducible refine Ext.drewN ?_ _ | refine Ext.trans ?_ (by with_reducible assumption)))
      · have b2 : (k == 2) = false := by simp [k2]
        have f : rightB k n s = false := by simp [rightB, k0, k1, k2]
        rw [f]
        clear f k0 k1 k2
        go_enter Tryz.func45, Tryz.ntmps45
        go_wp2
        go_ret
        refine ⟨rfl, ?_⟩
        (repeat (first | with_reducible exact Ext.refl _ | with_reducible assumption | with_reducible refine Ext.drew ?_ | with_reducible refine Ext.alloc ?_ _ | with_reducible refine Ext.drewN ?_ _ | refine Ext.trans ?_ (by with_reducible assumption)))
end Go.Proofs.YtcpnnffnkegamaaGreatDoor

/- schema.Name: what it answers. -/
namespace Go.Proofs.YtcpnnffnkegamaaGreatDoor
set_option linter.all false
set_option linter.unusedSimpArgs false
set_option linter.unusedVariables false
open Go.RowKit
def lettersL : List UInt8 := [97, 98, 99, 100, 101, 102, 103, 104, 105, 106, 107, 108, 109, 110, 111, 112, 113, 114, 115, 116, 117, 118, 119, 120, 121, 122]
def cutL : List UInt8 := lettersL ++ [48, 49, 50, 51, 52, 53, 54, 55, 56, 57, 95]
/-- what schema.Name answers -/
def nameB (s : ByteArray) : Bool := decide (0 < s.size) && decide (s.size ≤ 16) && decide ((0 : Int) ≤ Lib.indexByte lettersL (s.data.toList.headD 0)) && (Lib.trimS s.data.toList cutL).isEmpty
theorem trim_any (s : ByteArray) (hs : s.size ≤ 1000000) (w : World) : Calls Tryz.prog 38 #[.string s, .string ⟨cutL.toArray⟩] w fun e w' => e = .returned (.string ⟨(Lib.trimS s.data.toList cutL).toArray⟩) ∧ Ext w w' :=
  Any.strings_Trim_laid Tryz.lays160 (by kernel_rfl) s ⟨cutL.toArray⟩ w (by omega) (by decide) (Go.Proofs.ascii_of_all (by decide))
set_option maxRecDepth 100000 in
set_option maxHeartbeats 8000000 in
theorem name_any (s : ByteArray) (w : World) : Calls Tryz.prog 21 #[.string s] w fun e w' => e = .returned (.bool (nameB s)) ∧ Ext w w' := by
  have hS := Hp.init w
  have hR := Reads.nil w
  by_cases h0 : s.size = 0
  · have e : nameB s = false := by unfold nameB; simp [h0]
    have hs : s = ⟨#[]⟩ := by apply ByteArray.ext; apply Array.eq_empty_of_size_eq_zero; exact h0
    rw [e]
    subst hs
    clear e h0
    go_enter Tryz.func21, Tryz.ntmps21
    go_wp2_with (first | ((with_reducible first | refine nhLa ?_ | refine nhLs ?_ | refine nhLd ?_ | refine nhCa ?_ | refine nhCs ?_ | refine nhCd ?_ | refine nhPa ?_ | refine nhPs ?_ | refine nhPd ?_ | refine nhKa ?_ | refine nhKs ?_ | refine nhKd ?_); ((try clear hF); clear hS; intro wk hS; (try simp only [List.set_cons_zero, List.set_cons_succ, heap_size, heap_set_size] at hS); ((try clear hF); (first | have hF := And.intro hS.facts (HRD.out _ (hS.sub (by first | simp | ((repeat (first | exact List.nil_sublist _ | exact List.Sublist.refl _ | with_reducible apply List.Sublist.cons₂ | apply List.Sublist.cons)))))) | have hF := And.intro hS.facts (hR.at hS.ext) | have hF := hS.facts); simp only [HFacts, cellFacts, RFacts, cellOnly, and_true, true_and, Nat.zero_add, Nat.reduceAdd] at hF))) | fail)
    go_ret
    exact ⟨rfl, hS.ext⟩
  by_cases h16 : 16 < s.size
  · have e : nameB s = false := by unfold nameB; simp; omega
    have hne : s.toList.isEmpty = false := by
      rw [Lib.toList_data]
      cases h : s.data.toList with
      | nil => have := Lib.size_eq s; rw [h, List.length_nil] at this; omega
      | cons _ _ => rfl
    rw [e]
    clear e
    go_enter Tryz.func21, Tryz.ntmps21
    go_wp2_with (first | ((with_reducible first | refine nhLa ?_ | refine nhLs ?_ | refine nhLd ?_ | refine nhCa ?_ | refine nhCs ?_ | refine nhCd ?_ | refine nhPa ?_ | refine nhPs ?_ | refine nhPd ?_ | refine nhKa ?_ | refine nhKs ?_ | refine nhKd ?_); ((try clear hF); clear hS; intro wk hS; (try simp only [List.set_cons_zero, List.set_cons_succ, heap_size, heap_set_size] at hS); ((try clear hF); (first | have hF := And.intro hS.facts (HRD.out _ (hS.sub (by first | simp | ((repeat (first | exact List.nil_sublist _ | exact List.Sublist.refl _ | with_reducible apply List.Sublist.cons₂ | apply List.Sublist.cons)))))) | have hF := And.intro hS.facts (hR.at hS.ext) | have hF := hS.facts); simp only [HFacts, cellFacts, RFacts, cellOnly, and_true, true_and, Nat.zero_add, Nat.reduceAdd] at hF))) | fail)
    go_ret
    exact ⟨rfl, hS.ext⟩
  have hne : s.toList.isEmpty = false := by
    rw [Lib.toList_data]
    cases h : s.data.toList with
    | nil => have := Lib.size_eq s; rw [h, List.length_nil] at this; omega
    | cons _ _ => rfl
  have hb0 : (0 : Int) < (s.size : Int) := by omega
  have hb1 : 0 < s.size := by omega
  have hd : s.data.toList.headD 0 = s[0] := by
    have e : s.data.toList[0]? = some s[0] := List.getElem?_eq_getElem (by exact hb1)
    cases h : s.data.toList with
    | nil => rw [h] at e; cases e
    | cons a l => rw [h] at e; exact Option.some.inj e
  have HI := Lib.hid (fun W => show Calls Tryz.prog 37 #[.string ⟨#[97, 98, 99, 100, 101, 102, 103, 104, 105, 106, 107, 108, 109, 110, 111, 112, 113, 114, 115, 116, 117, 118, 119, 120, 121, 122]⟩, .int .u8 (s[0].toNat : Int)] W fun e w' => e = .returned (.int .i64 (Lib.indexByte lettersL s[0])) ∧ Ext W w' from by
    refine (Tryz.strings_IndexByte ⟨lettersL.toArray⟩ (s[0].toNat : Int) W).mono fun e w' ⟨h1, h2⟩ => ⟨?_, by rw [h2]; exact Ext.refl _⟩
    rw [h1]
    congr 3
    simp)
  have HT := Lib.hid (fun W => show Calls Tryz.prog 38 #[.string s, .string ⟨#[97, 98, 99, 100, 101, 102, 103, 104, 105, 106, 107, 108, 109, 110, 111, 112, 113, 114, 115, 116, 117, 118, 119, 120, 121, 122, 48, 49, 50, 51, 52, 53, 54, 55, 56, 57, 95]⟩] W fun e w' => e = .returned (.string ⟨(Lib.trimS s.data.toList cutL).toArray⟩) ∧ Ext W w' from trim_any s (by omega) W)
  have e : nameB s = (decide ((0 : Int) ≤ Lib.indexByte lettersL s[0]) && (Lib.trimS s.data.toList cutL).isEmpty) := by
    unfold nameB
    rw [decide_eq_true hb1, decide_eq_true (by omega : s.size ≤ 16), hd]
    simp
  rw [e]
  obtain ⟨ix, hix⟩ : ∃ ix, ix = Lib.indexByte lettersL s[0] := ⟨_, rfl⟩
  obtain ⟨ts, hts⟩ : ∃ ts : ByteArray, ts = ⟨(Lib.trimS s.data.toList cutL).toArray⟩ := ⟨_, rfl⟩
  rw [← hix] at HI ⊢
  rw [← hts] at HT
  have he2 : (Lib.trimS s.data.toList cutL).isEmpty = ts.toList.isEmpty := by rw [hts, Lib.toList_data]
  rw [he2]
  clear e hix hts he2 hd
  by_cases hx : (0 : Int) ≤ ix
  · have hxd : decide ((0 : Int) ≤ ix) = true := by simp [hx]
    rw [hxd, Bool.true_and]
    clear hxd
    cases hte : ts.toList.isEmpty with
    | true =>
      go_enter Tryz.func21, Tryz.ntmps21
      go_wp2_with (first | ((with_reducible first | refine nhLa ?_ | refine nhLs ?_ | refine nhLd ?_ | refine nhCa ?_ | refine nhCs ?_ | refine nhCd ?_ | refine nhPa ?_ | refine nhPs ?_ | refine nhPd ?_ | refine nhKa ?_ | refine nhKs ?_ | refine nhKd ?_); ((try clear hF); clear hS; intro wk hS; (try simp only [List.set_cons_zero, List.set_cons_succ, heap_size, heap_set_size] at hS); ((try clear hF); (first | have hF := And.intro hS.facts (HRD.out _ (hS.sub (by first | simp | ((repeat (first | exact List.nil_sublist _ | exact List.Sublist.refl _ | with_reducible apply List.Sublist.cons₂ | apply List.Sublist.cons)))))) | have hF := And.intro hS.facts (hR.at hS.ext) | have hF := hS.facts); simp only [HFacts, cellFacts, RFacts, cellOnly, and_true, true_and, Nat.zero_add, Nat.reduceAdd] at hF))) | (go_at_call 37; (with_reducible refine (HI.out _).mono ?_); rintro e wk ⟨rfl, hX⟩; replace hS := hS.step hX; clear hX; ((try clear hF); (first | have hF := And.intro hS.facts (HRD.out _ (hS.sub (by first | simp | ((repeat (first | exact List.nil_sublist _ | exact List.Sublist.refl _ | with_reducible apply List.Sublist.cons₂ | apply List.Sublist.cons)))))) | have hF := And.intro hS.facts (hR.at hS.ext) | have hF := hS.facts); simp only [HFacts, cellFacts, RFacts, cellOnly, and_true, true_and, Nat.zero_add, Nat.reduceAdd] at hF)) | (go_at_call 38; (with_reducible refine (HT.out _).mono ?_); rintro e wk ⟨rfl, hX⟩; replace hS := hS.step hX; clear hX; ((try clear hF); (first | have hF := And.intro hS.facts (HRD.out _ (hS.sub (by first | simp | ((repeat (first | exact List.nil_sublist _ | exact List.Sublist.refl _ | with_reducible apply List.Sublist.cons₂ | apply List.Sublist.cons)))))) | have hF := And.intro hS.facts (hR.at hS.ext) | have hF := hS.facts); simp only [HFacts, cellFacts, RFacts, cellOnly, and_true, true_and, Nat.zero_add, Nat.reduceAdd] at hF)))
      go_ret
      exact ⟨rfl, hS.ext⟩
    | false =>
      go_enter Tryz.func21, Tryz.ntmps21
      go_wp2_with (first | ((with_reducible first | refine nhLa ?_ | refine nhLs ?_ | refine nhLd ?_ | refine nhCa ?_ | refine nhCs ?_ | refine nhCd ?_ | refine nhPa ?_ | refine nhPs ?_ | refine nhPd ?_ | refine nhKa ?_ | refine nhKs ?_ | refine nhKd ?_); ((try clear hF); clear hS; intro wk hS; (try simp only [List.set_cons_zero, List.set_cons_succ, heap_size, heap_set_size] at hS); ((try clear hF); (first | have hF := And.intro hS.facts (HRD.out _ (hS.sub (by first | simp | ((repeat (first | exact List.nil_sublist _ | exact List.Sublist.refl _ | with_reducible apply List.Sublist.cons₂ | apply List.Sublist.cons)))))) | have hF := And.intro hS.facts (hR.at hS.ext) | have hF := hS.facts); simp only [HFacts, cellFacts, RFacts, cellOnly, and_true, true_and, Nat.zero_add, Nat.reduceAdd] at hF))) | (go_at_call 37; (with_reducible refine (HI.out _).mono ?_); rintro e wk ⟨rfl, hX⟩; replace hS := hS.step hX; clear hX; ((try clear hF); (first | have hF := And.intro hS.facts (HRD.out _ (hS.sub (by first | simp | ((repeat (first | exact List.nil_sublist _ | exact List.Sublist.refl _ | with_reducible apply List.Sublist.cons₂ | apply List.Sublist.cons)))))) | have hF := And.intro hS.facts (hR.at hS.ext) | have hF := hS.facts); simp only [HFacts, cellFacts, RFacts, cellOnly, and_true, true_and, Nat.zero_add, Nat.reduceAdd] at hF)) | (go_at_call 38; (with_reducible refine (HT.out _).mono ?_); rintro e wk ⟨rfl, hX⟩; replace hS := hS.step hX; clear hX; ((try clear hF); (first | have hF := And.intro hS.facts (HRD.out _ (hS.sub (by first | simp | ((repeat (first | exact List.nil_sublist _ | exact List.Sublist.refl _ | with_reducible apply List.Sublist.cons₂ | apply List.Sublist.cons)))))) | have hF := And.intro hS.facts (hR.at hS.ext) | have hF := hS.facts); simp only [HFacts, cellFacts, RFacts, cellOnly, and_true, true_and, Nat.zero_add, Nat.reduceAdd] at hF)))
      go_ret
      exact ⟨rfl, hS.ext⟩
  · have hxd : decide ((0 : Int) ≤ ix) = false := by simp; omega
    rw [hxd, Bool.false_and]
    clear hxd
    go_enter Tryz.func21, Tryz.ntmps21
    go_wp2_with (first | ((with_reducible first | refine nhLa ?_ | refine nhLs ?_ | refine nhLd ?_ | refine nhCa ?_ | refine nhCs ?_ | refine nhCd ?_ | refine nhPa ?_ | refine nhPs ?_ | refine nhPd ?_ | refine nhKa ?_ | refine nhKs ?_ | refine nhKd ?_); ((try clear hF); clear hS; intro wk hS; (try simp only [List.set_cons_zero, List.set_cons_succ, heap_size, heap_set_size] at hS); ((try clear hF); (first | have hF := And.intro hS.facts (HRD.out _ (hS.sub (by first | simp | ((repeat (first | exact List.nil_sublist _ | exact List.Sublist.refl _ | with_reducible apply List.Sublist.cons₂ | apply List.Sublist.cons)))))) | have hF := And.intro hS.facts (hR.at hS.ext) | have hF := hS.facts); simp only [HFacts, cellFacts, RFacts, cellOnly, and_true, true_and, Nat.zero_add, Nat.reduceAdd] at hF))) | (go_at_call 37; (with_reducible refine (HI.out _).mono ?_); rintro e wk ⟨rfl, hX⟩; replace hS := hS.step hX; clear hX; ((try clear hF); (first | have hF := And.intro hS.facts (HRD.out _ (hS.sub (by first | simp | ((repeat (first | exact List.nil_sublist _ | exact List.Sublist.refl _ | with_reducible apply List.Sublist.cons₂ | apply List.Sublist.cons)))))) | have hF := And.intro hS.facts (hR.at hS.ext) | have hF := hS.facts); simp only [HFacts, cellFacts, RFacts, cellOnly, and_true, true_and, Nat.zero_add, Nat.reduceAdd] at hF)) | (go_at_call 38; (with_reducible refine (HT.out _).mono ?_); rintro e wk ⟨rfl, hX⟩; replace hS := hS.step hX; clear hX; ((try clear hF); (first | have hF := And.intro hS.facts (HRD.out _ (hS.sub (by first | simp | ((repeat (first | exact List.nil_sublist _ | exact List.Sublist.refl _ | with_reducible apply List.Sublist.cons₂ | apply List.Sublist.cons)))))) | have hF := And.intro hS.facts (hR.at hS.ext) | have hF := hS.facts); simp only [HFacts, cellFacts, RFacts, cellOnly, and_true, true_and, Nat.zero_add, Nat.reduceAdd] at hF)))
    go_ret
    exact ⟨rfl, hS.ext⟩
end Go.Proofs.YtcpnnffnkegamaaGreatDoor

/- schema.Name, schema.column: what they answer. -/
namespace Go.Proofs.YtcpnnffnkegamaaGreatDoor
set_option linter.all false
set_option linter.unusedSimpArgs false
set_option linter.unusedVariables false
open Go.RowKit
/-- a column as Go has it -/
structure CG where
  id : Int
  name : ByteArray
  kind : Int
  must : Bool
  d : GV
def keptL : List ByteArray := [⟨#[97, 110, 100]⟩, ⟨#[105, 115]⟩, ⟨#[110, 111, 116]⟩, ⟨#[110, 117, 108, 108]⟩, ⟨#[111, 114]⟩]
/-- the words that are no names, in the program's variable -/
def KeptAt (w : World) : Prop := ∀ j, j < 5 → w.cell? ⟨0, j, none⟩ = some (.string (keptL.getD j ByteArray.empty))
theorem KeptAt.ext {w w' : World} (h : KeptAt w) (hx : Ext w w') : KeptAt w' := fun j hj => hx.keeps (h j hj)
def keptB (s : ByteArray) : Bool := Lib.containsS keptL s
theorem kept_any (s : ByteArray) (w : World) (h : KeptAt w) : Calls Tryz.prog 44 #[.slice (some ⟨0, 0, none⟩) 5 5, .string s] w fun e w' => e = .returned (.bool (keptB s)) ∧ Ext w w' :=
  (Tryz.slices_Contains_string 0 0 5 5 keptL s w (by decide) (by decide) (fun j hj => by rw [Nat.zero_add]; exact h j hj)).mono fun e w' ⟨h1, h2⟩ => ⟨h1, by rw [h2]; exact Ext.refl _⟩
/-- whether a column may be -/
def colB (c : CG) : Bool := nameB c.name && !keptB c.name && (c.kind == 1 || c.kind == 2) && decide (1 ≤ c.id) && rightB c.d.kind c.d.num c.d.text && (c.d.kind == 0 || c.d.kind == c.kind)
set_option maxRecDepth 100000 in
set_option maxHeartbeats 8000000 in
theorem column_any (c : CG) (w : World) (h : KeptAt w) :
    Calls Tryz.prog 24 #[.agg #[.int .i64 c.id, .string c.name, .int .i64 c.kind, .bool c.must, .int .i64 c.d.kind, .int .i64 c.d.num, .string c.d.text]] w fun e w' => e = .returned (.bool (colB c)) ∧ Ext w w' := by
  have hS := Hp.init w
  have hR := Reads.nil w
  unfold colB
  obtain ⟨nb, hnb⟩ : ∃ b, b = nameB c.name := ⟨_, rfl⟩
  obtain ⟨kb, hkb⟩ : ∃ b, b = keptB c.name := ⟨_, rfl⟩
  obtain ⟨rb, hrb⟩ : ∃ b, b = rightB c.d.kind c.d.num c.d.text := ⟨_, rfl⟩
  have HN := Lib.hid (fun W => name_any c.name W)
  have HK := Lib.hid (fun W hx => kept_any c.name W (h.ext (w' := W) hx))
  have HR := Lib.hid (fun W => right_any c.d.kind c.d.num c.d.text W)
  rw [← hnb] at HN ⊢
  rw [← hkb] at HK ⊢
  rw [← hrb] at HR ⊢
  clear hnb hkb hrb h
  cases nb with
  | false =>
    go_enter Tryz.func24, Tryz.ntmps24
    go_wp2_with (first | ((with_reducible first | refine nhLa ?_ | refine nhLs ?_ | refine nhLd ?_ | refine nhCa ?_ | refine nhCs ?_ | refine nhCd ?_ | refine nhPa ?_ | refine nhPs ?_ | refine nhPd ?_ | refine nhKa ?_ | refine nhKs ?_ | refine nhKd ?_); ((try clear hF); clear hS; intro wk hS; (try simp only [List.set_cons_zero, List.set_cons_succ, heap_size, heap_set_size] at hS); ((try clear hF); (first | have hF := And.intro hS.facts (HRD.out _ (hS.sub (by first | simp | ((repeat (first | exact List.nil_sublist _ | exact List.Sublist.refl _ | with_reducible apply List.Sublist.cons₂ | apply List.Sublist.cons)))))) | have hF := And.intro hS.facts (hR.at hS.ext) | have hF := hS.facts); simp only [HFacts, cellFacts, RFacts, cellOnly, and_true, true_and, Nat.zero_add, Nat.reduceAdd] at hF))) | (first | (with_reducible refine wp_region_hp (draw := true) (by kernel_rfl) (by kernel_rfl) hS ?_) | ((with_reducible refine Fixed.here ?_); (first | ((with_reducible apply Fixed.skip); (first | rfl | exact wanted_false rfl rfl rfl (by assumption)); try simp only [Act.put, List.setIfInBounds_toArray, List.set_cons_zero, List.set_cons_succ]) | ((with_reducible apply Fixed.val); (first | rfl | exact wanted_true rfl rfl rfl (by assumption)); (rintro w hS; ((try clear hF); (first | have hF := And.intro hS.facts (HRD.out _ (hS.sub (by first | simp | ((repeat (first | exact List.nil_sublist _ | exact List.Sublist.refl _ | with_reducible apply List.Sublist.cons₂ | apply List.Sublist.cons)))))) | have hF := And.intro hS.facts (hR.at hS.ext) | have hF := hS.facts); simp only [HFacts, cellFacts, RFacts, cellOnly, and_true, true_and, Nat.zero_add, Nat.reduceAdd] at hF); go_simp; with_reducible rfl); try simp only [Act.put, List.setIfInBounds_toArray, List.set_cons_zero, List.set_cons_succ]) | ((with_reducible apply Fixed.call); (first | rfl | exact wanted_true rfl rfl rfl (by assumption)); (rintro w hS; ((try clear hF); (first | have hF := And.intro hS.facts (HRD.out _ (hS.sub (by first | simp | ((repeat (first | exact List.nil_sublist _ | exact List.Sublist.refl _ | with_reducible apply List.Sublist.cons₂ | apply List.Sublist.cons)))))) | have hF := And.intro hS.facts (hR.at hS.ext) | have hF := hS.facts); simp only [HFacts, cellFacts, RFacts, cellOnly, and_true, true_and, Nat.zero_add, Nat.reduceAdd] at hF); go_simp; exact ⟨rfl, rfl⟩); (rintro w hS; first | (with_reducible exact HN.out w) | (with_reducible exact HK.out w hS.ext) | (with_reducible exact HR.out w)); try simp only [Act.put, List.setIfInBounds_toArray, List.set_cons_zero, List.set_cons_succ]) | ((with_reducible apply Fixed.guardT); rfl; rfl; rfl; (all_goals intro hg)) | ((with_reducible apply Fixed.guardF); rfl; rfl; rfl; (all_goals intro hg)) | (with_reducible refine Fixed.done ?_; (try clear hF); clear hS; intro wk hS; ((try clear hF); (first | have hF := And.intro hS.facts (HRD.out _ (hS.sub (by first | simp | ((repeat (first | exact List.nil_sublist _ | exact List.Sublist.refl _ | with_reducible apply List.Sublist.cons₂ | apply List.Sublist.cons)))))) | have hF := And.intro hS.facts (hR.at hS.ext) | have hF := hS.facts); simp only [HFacts, cellFacts, RFacts, cellOnly, and_true, true_and, Nat.zero_add, Nat.reduceAdd] at hF))))))
    all_goals
      go_ret
      refine ⟨?_, hS.ext⟩
      clear hS hF HN HK HR
      first | rfl | (simp_all; done) | (simp_all; omega) | (simp_all; intros; omega)
  | true =>
    cases kb with
    | true =>
      go_enter Tryz.func24, Tryz.ntmps24
      go_wp2_with (first | ((with_reducible first | refine nhLa ?_ | refine nhLs ?_ | refine nhLd ?_ | refine nhCa ?_ | refine nhCs ?_ | refine nhCd ?_ | refine nhPa ?_ | refine nhPs ?_ | refine nhPd ?_ | refine nhKa ?_ | refine nhKs ?_ | refine nhKd ?_); ((try clear hF); clear hS; intro wk hS; (try simp only [List.set_cons_zero, List.set_cons_succ, heap_size, heap_set_size] at hS); ((try clear hF); (first | have hF := And.intro hS.facts (HRD.out _ (hS.sub (by first | simp | ((repeat (first | exact List.nil_sublist _ | exact List.Sublist.refl _ | with_reducible apply List.Sublist.cons₂ | apply List.Sublist.cons)))))) | have hF := And.intro hS.facts (hR.at hS.ext) | have hF := hS.facts); simp only [HFacts, cellFacts, RFacts, cellOnly, and_true, true_and, Nat.zero_add, Nat.reduceAdd] at hF))) | (first | (with_reducible refine wp_region_hp (draw := true) (by kernel_rfl) (by kernel_rfl) hS ?_) | ((with_reducible refine Fixed.here ?_); (first | ((with_reducible apply Fixed.skip); (first | rfl | exact wanted_false rfl rfl rfl (by assumption)); try simp only [Act.put, List.setIfInBounds_toArray, List.set_cons_zero, List.set_cons_succ]) | ((with_reducible apply Fixed.val); (first | rfl | exact wanted_true rfl rfl rfl (by assumption)); (rintro w hS; ((try clear hF); (first | have hF := And.intro hS.facts (HRD.out _ (hS.sub (by first | simp | ((repeat (first | exact List.nil_sublist _ | exact List.Sublist.refl _ | with_reducible apply List.Sublist.cons₂ | apply List.Sublist.cons)))))) | have hF := And.intro hS.facts (hR.at hS.ext) | have hF := hS.facts); simp only [HFacts, cellFacts, RFacts, cellOnly, and_true, true_and, Nat.zero_add, Nat.reduceAdd] at hF); go_simp; with_reducible rfl); try simp only [Act.put, List.setIfInBounds_toArray, List.set_cons_zero, List.set_cons_succ]) | ((with_reducible apply Fixed.call); (first | rfl | exact wanted_true rfl rfl rfl (by assumption)); (rintro w hS; ((try clear hF); (first | have hF := And.intro hS.facts (HRD.out _ (hS.sub (by first | simp | ((repeat (first | exact List.nil_sublist _ | exact List.Sublist.refl _ | with_reducible apply List.Sublist.cons₂ | apply List.Sublist.cons)))))) | have hF := And.intro hS.facts (hR.at hS.ext) | have hF := hS.facts); simp only [HFacts, cellFacts, RFacts, cellOnly, and_true, true_and, Nat.zero_add, Nat.reduceAdd] at hF); go_simp; exact ⟨rfl, rfl⟩); (rintro w hS; first | (with_reducible exact HN.out w) | (with_reducible exact HK.out w hS.ext) | (with_reducible exact HR.out w)); try simp only [Act.put, List.setIfInBounds_toArray, List.set_cons_zero, List.set_cons_succ]) | ((with_reducible apply Fixed.guardT); rfl; rfl; rfl; (all_goals intro hg)) | ((with_reducible apply Fixed.guardF); rfl; rfl; rfl; (all_goals intro hg)) | (with_reducible refine Fixed.done ?_; (try clear hF); clear hS; intro wk hS; ((try clear hF); (first | have hF := And.intro hS.facts (HRD.out _ (hS.sub (by first | simp | ((repeat (first | exact List.nil_sublist _ | exact List.Sublist.refl _ | with_reducible apply List.Sublist.cons₂ | apply List.Sublist.cons)))))) | have hF := And.intro hS.facts (hR.at hS.ext) | have hF := hS.facts); simp only [HFacts, cellFacts, RFacts, cellOnly, and_true, true_and, Nat.zero_add, Nat.reduceAdd] at hF))))))
      all_goals
        go_ret
        refine ⟨?_, hS.ext⟩
        clear hS hF HN HK HR
        first | rfl | (simp_all; done) | (simp_all; omega) | (simp_all; intros; omega)
    | false =>
      cases rb with
      | false =>
        go_enter Tryz.func24, Tryz.ntmps24
        go_wp2_with (first | ((with_reducible first | refine nhLa ?_ | refine nhLs ?_ | refine nhLd ?_ | refine nhCa ?_ | refine nhCs ?_ | refine nhCd ?_ | refine nhPa ?_ | refine nhPs ?_ | refine nhPd ?_ | refine nhKa ?_ | refine nhKs ?_ | refine nhKd ?_); ((try clear hF); clear hS; intro wk hS; (try simp only [List.set_cons_zero, List.set_cons_succ, heap_size, heap_set_size] at hS); ((try clear hF); (first | have hF := And.intro hS.facts (HRD.out _ (hS.sub (by first | simp | ((repeat (first | exact List.nil_sublist _ | exact List.Sublist.refl _ | with_reducible apply List.Sublist.cons₂ | apply List.Sublist.cons)))))) | have hF := And.intro hS.facts (hR.at hS.ext) | have hF := hS.facts); simp only [HFacts, cellFacts, RFacts, cellOnly, and_true, true_and, Nat.zero_add, Nat.reduceAdd] at hF))) | (first | (with_reducible refine wp_region_hp (draw := true) (by kernel_rfl) (by kernel_rfl) hS ?_) | ((with_reducible refine Fixed.here ?_); (first | ((with_reducible apply Fixed.skip); (first | rfl | exact wanted_false rfl rfl rfl (by assumption)); try simp only [Act.put, List.setIfInBounds_toArray, List.set_cons_zero, List.set_cons_succ]) | ((with_reducible apply Fixed.val); (first | rfl | exact wanted_true rfl rfl rfl (by assumption)); (rintro w hS; ((try clear hF); (first | have hF := And.intro hS.facts (HRD.out _ (hS.sub (by first | simp | ((repeat (first | exact List.nil_sublist _ | exact List.Sublist.refl _ | with_reducible apply List.Sublist.cons₂ | apply List.Sublist.cons)))))) | have hF := And.intro hS.facts (hR.at hS.ext) | have hF := hS.facts); simp only [HFacts, cellFacts, RFacts, cellOnly, and_true, true_and, Nat.zero_add, Nat.reduceAdd] at hF); go_simp; with_reducible rfl); try simp only [Act.put, List.setIfInBounds_toArray, List.set_cons_zero, List.set_cons_succ]) | ((with_reducible apply Fixed.call); (first | rfl | exact wanted_true rfl rfl rfl (by assumption)); (rintro w hS; ((try clear hF); (first | have hF := And.intro hS.facts (HRD.out _ (hS.sub (by first | simp | ((repeat (first | exact List.nil_sublist _ | exact List.Sublist.refl _ | with_reducible apply List.Sublist.cons₂ | apply List.Sublist.cons)))))) | have hF := And.intro hS.facts (hR.at hS.ext) | have hF := hS.facts); simp only [HFacts, cellFacts, RFacts, cellOnly, and_true, true_and, Nat.zero_add, Nat.reduceAdd] at hF); go_simp; exact ⟨rfl, rfl⟩); (rintro w hS; first | (with_reducible exact HN.out w) | (with_reducible exact HK.out w hS.ext) | (with_reducible exact HR.out w)); try simp only [Act.put, List.setIfInBounds_toArray, List.set_cons_zero, List.set_cons_succ]) | ((with_reducible apply Fixed.guardT); rfl; rfl; rfl; (all_goals intro hg)) | ((with_reducible apply Fixed.guardF); rfl; rfl; rfl; (all_goals intro hg)) | (with_reducible refine Fixed.done ?_; (try clear hF); clear hS; intro wk hS; ((try clear hF); (first | have hF := And.intro hS.facts (HRD.out _ (hS.sub (by first | simp | ((repeat (first | exact List.nil_sublist _ | exact List.Sublist.refl _ | with_reducible apply List.Sublist.cons₂ | apply List.Sublist.cons)))))) | have hF := And.intro hS.facts (hR.at hS.ext) | have hF := hS.facts); simp only [HFacts, cellFacts, RFacts, cellOnly, and_true, true_and, Nat.zero_add, Nat.reduceAdd] at hF))))))
        all_goals
          go_ret
          refine ⟨?_, hS.ext⟩
          clear hS hF HN HK HR
          first | rfl | (simp_all; done) | (simp_all; omega) | (simp_all; intros; omega)
      | true =>
        go_enter Tryz.func24, Tryz.ntmps24
        go_wp2_with (first | ((with_reducible first | refine nhLa ?_ | refine nhLs ?_ | refine nhLd ?_ | refine nhCa ?_ | refine nhCs ?_ | refine nhCd ?_ | refine nhPa ?_ | refine nhPs ?_ | refine nhPd ?_ | refine nhKa ?_ | refine nhKs ?_ | refine nhKd ?_); ((try clear hF); clear hS; intro wk hS; (try simp only [List.set_cons_zero, List.set_cons_succ, heap_size, heap_set_size] at hS); ((try clear hF); (first | have hF := And.intro hS.facts (HRD.out _ (hS.sub (by first | simp | ((repeat (first | exact List.nil_sublist _ | exact List.Sublist.refl _ | with_reducible apply List.Sublist.cons₂ | apply List.Sublist.cons)))))) | have hF := And.intro hS.facts (hR.at hS.ext) | have hF := hS.facts); simp only [HFacts, cellFacts, RFacts, cellOnly, and_true, true_and, Nat.zero_add, Nat.reduceAdd] at hF))) | (first | (with_reducible refine wp_region_hp (draw := true) (by kernel_rfl) (by kernel_rfl) hS ?_) | ((with_reducible refine Fixed.here ?_); (first | ((with_reducible apply Fixed.skip); (first | rfl | exact wanted_false rfl rfl rfl (by assumption)); try simp only [Act.put, List.setIfInBounds_toArray, List.set_cons_zero, List.set_cons_succ]) | ((with_reducible apply Fixed.val); (first | rfl | exact wanted_true rfl rfl rfl (by assumption)); (rintro w hS; ((try clear hF); (first | have hF := And.intro hS.facts (HRD.out _ (hS.sub (by first | simp | ((repeat (first | exact List.nil_sublist _ | exact List.Sublist.refl _ | with_reducible apply List.Sublist.cons₂ | apply List.Sublist.cons)))))) | have hF := And.intro hS.facts (hR.at hS.ext) | have hF := hS.facts); simp only [HFacts, cellFacts, RFacts, cellOnly, and_true, true_and, Nat.zero_add, Nat.reduceAdd] at hF); go_simp; with_reducible rfl); try simp only [Act.put, List.setIfInBounds_toArray, List.set_cons_zero, List.set_cons_succ]) | ((with_reducible apply Fixed.call); (first | rfl | exact wanted_true rfl rfl rfl (by assumption)); (rintro w hS; ((try clear hF); (first | have hF := And.intro hS.facts (HRD.out _ (hS.sub (by first | simp | ((repeat (first | exact List.nil_sublist _ | exact List.Sublist.refl _ | with_reducible apply List.Sublist.cons₂ | apply List.Sublist.cons)))))) | have hF := And.intro hS.facts (hR.at hS.ext) | have hF := hS.facts); simp only [HFacts, cellFacts, RFacts, cellOnly, and_true, true_and, Nat.zero_add, Nat.reduceAdd] at hF); go_simp; exact ⟨rfl, rfl⟩); (rintro w hS; first | (with_reducible exact HN.out w) | (with_reducible exact HK.out w hS.ext) | (with_reducible exact HR.out w)); try simp only [Act.put, List.setIfInBounds_toArray, List.set_cons_zero, List.set_cons_succ]) | ((with_reducible apply Fixed.guardT); rfl; rfl; rfl; (all_goals intro hg)) | ((with_reducible apply Fixed.guardF); rfl; rfl; rfl; (all_goals intro hg)) | (with_reducible refine Fixed.done ?_; (try clear hF); clear hS; intro wk hS; ((try clear hF); (first | have hF := And.intro hS.facts (HRD.out _ (hS.sub (by first | simp | ((repeat (first | exact List.nil_sublist _ | exact List.Sublist.refl _ | with_reducible apply List.Sublist.cons₂ | apply List.Sublist.cons)))))) | have hF := And.intro hS.facts (hR.at hS.ext) | have hF := hS.facts); simp only [HFacts, cellFacts, RFacts, cellOnly, and_true, true_and, Nat.zero_add, Nat.reduceAdd] at hF))))))
        all_goals
          go_ret
          refine ⟨?_, hS.ext⟩
          clear hS hF HN HK HR
          first | rfl | (simp_all; done) | (simp_all; omega) | (simp_all; intros; omega)
end Go.Proofs.YtcpnnffnkegamaaGreatDoor

/- Slices of columns: what their cells hold; IndexFunc, ContainsFunc, Find. -/
namespace Go.Proofs.YtcpnnffnkegamaaGreatDoor
set_option linter.all false
set_option linter.unusedSimpArgs false
set_option linter.unusedVariables false
open Go.RowKit
def cellsC : List CG → List Value
  | [] => []
  | c :: l => .int .i64 c.id :: .string c.name :: .int .i64 c.kind :: .bool c.must :: .int .i64 c.d.kind :: .int .i64 c.d.num :: .string c.d.text :: cellsC l
/-- the slice at A reads as the columns l -/
def RC (w : World) (A : Option Addr) (l : List CG) : Prop :=
  ∀ (i : Nat) (c : CG), l[i]? = some c → ∃ b o : Nat, A = some ⟨b, o, none⟩ ∧ w.cell? ⟨b, o + i * 7, none⟩ = some (.int .i64 c.id) ∧ w.cell? ⟨b, o + i * 7 + 1, none⟩ = some (.string c.name) ∧ w.cell? ⟨b, o + i * 7 + 2, none⟩ = some (.int .i64 c.kind) ∧ w.cell? ⟨b, o + i * 7 + 3, none⟩ = some (.bool c.must) ∧ w.cell? ⟨b, o + i * 7 + 4, none⟩ = some (.int .i64 c.d.kind) ∧ w.cell? ⟨b, o + i * 7 + 5, none⟩ = some (.int .i64 c.d.num) ∧ w.cell? ⟨b, o + i * 7 + 6, none⟩ = some (.string c.d.text)
theorem RC.ext {w w' : World} {A : Option Addr} {l : List CG} (h : RC w A l) (hx : Ext w w') : RC w' A l := fun i c hi => by
  obtain ⟨b, o, hA, h0, h1, h2, h3, h4, h5, h6⟩ := h i c hi
  exact ⟨b, o, hA, hx.keeps h0, hx.keeps h1, hx.keeps h2, hx.keeps h3, hx.keeps h4, hx.keeps h5, hx.keeps h6⟩
theorem cellsC_len : ∀ l : List CG, (cellsC l).length = l.length * 7
  | [] => rfl
  | x :: l => by simp [cellsC, cellsC_len l]; omega
theorem cellsC_append : ∀ l m : List CG, cellsC (l ++ m) = cellsC l ++ cellsC m
  | [], m => rfl
  | x :: l, m => by simp [cellsC, cellsC_append l m]
theorem cellsC_one : ∀ (l : List CG), ∀ u ∈ cellsC l, u.oneCell' = true
  | [], u, h => by cases h
  | x :: l, u, h => by
    simp only [cellsC, List.mem_cons] at h
    rcases h with rfl | rfl | rfl | rfl | rfl | rfl | rfl | h
    all_goals first | rfl | exact cellsC_one l u h
theorem cellsC_at : ∀ (l : List CG) (i : Nat) (c : CG), l[i]? = some c → (cellsC l)[i * 7]? = some (.int .i64 c.id) ∧ (cellsC l)[i * 7 + 1]? = some (.string c.name) ∧ (cellsC l)[i * 7 + 2]? = some (.int .i64 c.kind) ∧ (cellsC l)[i * 7 + 3]? = some (.bool c.must) ∧ (cellsC l)[i * 7 + 4]? = some (.int .i64 c.d.kind) ∧ (cellsC l)[i * 7 + 5]? = some (.int .i64 c.d.num) ∧ (cellsC l)[i * 7 + 6]? = some (.string c.d.text)
  | [], i, x, h => by simp at h
  | y :: l, 0, x, h => by simp at h; subst h; simp [cellsC]
  | y :: l, i + 1, x, h => by
    have := cellsC_at l i x (by simpa using h)
    rw [show (i + 1) * 7 = i * 7 + 7 by omega]
    simpa [cellsC] using this
theorem RC.block {w : World} {l : List CG} {g : Nat} {cs : Array Value} {t : TypeId} {fr : Nat × Nat} (h : w.heap[g]? = some (.cells cs t fr)) (hcs : cs = (cellsC l).toArray) : RC w (some ⟨g, 0, none⟩) l := fun i x hi => by
  subst hcs
  obtain ⟨h0, h1, h2, h3, h4, h5, h6⟩ := cellsC_at l i x hi
  refine ⟨g, 0, rfl, ?_, ?_, ?_, ?_, ?_, ?_, ?_⟩ <;> simp [World.cell?, h, *]
theorem Tryz.elem_cols : Elem Tryz.prog 24 61 7 72 := by
  obtain ⟨i0, hi0, hz0, hz1, hz2⟩ := info_parts (show (Tryz.prog.info? 61).map (fun i => (i.zero, i.size, i.bytes)) = some (some (.agg #[.int .i64 0, .string ⟨#[]⟩, .int .i64 0, .bool false, .int .i64 0, .int .i64 0, .string ⟨#[]⟩]), 7, 72) by kernel_rfl)
  exact ⟨Tryz.underlying24, ⟨i0, _, hi0, hz0, hz1, hz2, rfl⟩, by omega⟩
abbrev cRow (A : Option Addr) (cap : Nat) (l : List CG) : Item := .row 61 7 A l.length cap (cellsC l)
theorem Hp.rc {B : Nat} {w0 w : World} {L : List Item} {A : Option Addr} {cap n : Nat} {l : List CG} (h : Hp B w0 w L) (i : Nat) (hi : L[i]? = some (.row 61 7 A n cap (cellsC l))) : RC w A l := fun j x hj => by
  obtain ⟨h0, h1, h2, h3, h4, h5, h6⟩ := cellsC_at l j x hj
  obtain ⟨g, hg, c0, _⟩ := h.rowCell i hi h0
  obtain ⟨g1, hg1, c1, _⟩ := h.rowCell i hi h1
  obtain ⟨g2, hg2, c2, _⟩ := h.rowCell i hi h2
  obtain ⟨g3, hg3, c3, _⟩ := h.rowCell i hi h3
  obtain ⟨g4, hg4, c4, _⟩ := h.rowCell i hi h4
  obtain ⟨g5, hg5, c5, _⟩ := h.rowCell i hi h5
  obtain ⟨g6, hg6, c6, _⟩ := h.rowCell i hi h6
  rw [hg] at hg1 hg2 hg3 hg4 hg5 hg6
  simp only [Option.some.injEq, Addr.mk.injEq, and_true] at hg1 hg2 hg3 hg4 hg5 hg6
  subst hg1 hg2 hg3 hg4 hg5 hg6
  refine ⟨g, 0, hg, ?_, ?_, ?_, ?_, ?_, ?_, ?_⟩ <;> rw [Nat.zero_add] <;> assumption
/-- the first place, from k on, where p holds; or -1 -/
def idxC (p : CG → Bool) : Nat → List CG → Int
  | _, [] => -1
  | k, x :: l => if p x then k else idxC p (k + 1) l
theorem idxC_any (p : CG → Bool) : ∀ (l : List CG) (k : Nat), decide (0 ≤ idxC p k l) = l.any p
  | [], k => rfl
  | x :: l, k => by
    unfold idxC
    rw [List.any_cons]
    cases h : p x with
    | true => simp
    | false => simpa using idxC_any p l (k + 1)
theorem dropC_at {l : List CG} {k : Nat} {x : CG} (h : l[k]? = some x) : l.drop k = x :: l.drop (k + 1) := by
  obtain ⟨h1, e⟩ := List.getElem?_eq_some_iff.1 h
  rw [List.drop_eq_getElem_cons h1, e]
/-- a function that is called: it answers p of a column, and leaves all as it was -/
def PredC (w0 : World) (g : Nat) (lb : Array Value) (p : CG → Bool) : Prop :=
  ∀ W, Ext w0 W → ∀ c : CG, Calls Tryz.prog g (#[.agg #[.int .i64 c.id, .string c.name, .int .i64 c.kind, .bool c.must, .int .i64 c.d.kind, .int .i64 c.d.num, .string c.d.text]] ++ lb) W fun e w' => e = .returned (.bool (p c)) ∧ Ext W w'
theorem PredC.at {w0 : World} {g : Nat} {lb : Array Value} {p : CG → Bool} (h : PredC w0 g lb p) (W : World) (hx : Ext w0 W) (c : CG) : Calls Tryz.prog g (#[.agg #[.int .i64 c.id, .string c.name, .int .i64 c.kind, .bool c.must, .int .i64 c.d.kind, .int .i64 c.d.num, .string c.d.text]] ++ lb) W fun e w' => e = .returned (.bool (p c)) ∧ Ext W w' := h W hx c
set_option maxRecDepth 100000 in
set_option maxHeartbeats 8000000 in
theorem cindexFunc_any (l : List CG) (A : Option Addr) (cap : Nat) (g : Nat) (lb : Array Value) (p : CG → Bool) (w : World) (hr : RC w A l) (hl : l.length ≤ 140737488355328) (eg : ∀ args w, (callFunc g args).run Tryz.prog w = .ok (.enter g args) w) (hp : PredC w g lb p) :
    Calls Tryz.prog 46 #[.slice A l.length cap, .func (.func g) #[] lb] w fun e w' => e = .returned (.int .i64 (idxC p 0 l)) ∧ Ext w w' := by
  obtain ⟨n, hn⟩ : ∃ n, n = l.length := ⟨_, rfl⟩
  rw [← hn]
  have Hn := Lib.hid hn
  rw [← hn] at hl
  clear hn
  have HP := Lib.hid hp
  clear hp
  have hS := Hp.init w
  have hR := Reads.nil w
  go_enter Tryz.func46, Tryz.ntmps46
  go_wp2_with (first | ((with_reducible first | refine nhLa ?_ | refine nhLs ?_ | refine nhLd ?_ | refine nhCa ?_ | refine nhCs ?_ | refine nhCd ?_ | refine nhPa ?_ | refine nhPs ?_ | refine nhPd ?_ | refine nhKa ?_ | refine nhKs ?_ | refine nhKd ?_); ((try clear hF); clear hS; intro wk hS; (try simp only [List.set_cons_zero, List.set_cons_succ, heap_size, heap_set_size] at hS); ((try clear hF); (first | have hF := And.intro hS.facts (HRD.out _ (hS.sub (by first | simp | ((repeat (first | exact List.nil_sublist _ | exact List.Sublist.refl _ | with_reducible apply List.Sublist.cons₂ | apply List.Sublist.cons)))))) | have hF := And.intro hS.facts (hR.at hS.ext) | have hF := hS.facts); simp only [HFacts, cellFacts, RFacts, cellOnly, and_true, true_and, Nat.zero_add, Nat.reduceAdd] at hF))) | fail)
  go_loopw [8, 5] (fun i _ wr => ∃ k : Nat, i = .int .i64 k ∧ k ≤ n ∧ Hid (idxC p 0 l = idxC p k (l.drop k)) ∧ Hp w.heap.size w wr []) (fun i _ _ => n - (intOf i).toNat)
  case atStart => exact ⟨0, rfl, Nat.zero_le _, Lib.hid rfl, hS⟩
  case round =>
    clear hS
    obtain ⟨k, rfl, hk, hf, hS⟩ := hrel
    by_cases hlt : k < n
    · have hlt' : k < l.length := by rw [← Hn.out]; exact hlt
      obtain ⟨x, hx'⟩ : ∃ x, l[k]? = some x := ⟨l[k], List.getElem?_eq_getElem hlt'⟩
      obtain ⟨b, o, rfl, c0, c1, c2, c3, c4, c5, c6⟩ := hr k x hx'
      have hR := Reads.cell c0 (Reads.cell c1 (Reads.cell c2 (Reads.cell c3 (Reads.cell c4 (Reads.cell c5 (Reads.cell c6 (Reads.nil w)))))))
      have HD := Lib.hid (dropC_at hx')
      clear hx' hlt' c0 c1 c2 c3 c4 c5 c6 hr
      ((try clear hF); (first | have hF := And.intro hS.facts (HRD.out _ (hS.sub (by first | simp | ((repeat (first | exact List.nil_sublist _ | exact List.Sublist.refl _ | with_reducible apply List.Sublist.cons₂ | apply List.Sublist.cons)))))) | have hF := And.intro hS.facts (hR.at hS.ext) | have hF := hS.facts); simp only [HFacts, cellFacts, RFacts, cellOnly, and_true, true_and, Nat.zero_add, Nat.reduceAdd] at hF)
      go_wp2_with (first | ((with_reducible first | refine nhLa ?_ | refine nhLs ?_ | refine nhLd ?_ | refine nhCa ?_ | refine nhCs ?_ | refine nhCd ?_ | refine nhPa ?_ | refine nhPs ?_ | refine nhPd ?_ | refine nhKa ?_ | refine nhKs ?_ | refine nhKd ?_); ((try clear hF); clear hS; intro wk hS; (try simp only [List.set_cons_zero, List.set_cons_succ, heap_size, heap_set_size] at hS); ((try clear hF); (first | have hF := And.intro hS.facts (HRD.out _ (hS.sub (by first | simp | ((repeat (first | exact List.nil_sublist _ | exact List.Sublist.refl _ | with_reducible apply List.Sublist.cons₂ | apply List.Sublist.cons)))))) | have hF := And.intro hS.facts (hR.at hS.ext) | have hF := hS.facts); simp only [HFacts, cellFacts, RFacts, cellOnly, and_true, true_and, Nat.zero_add, Nat.reduceAdd] at hF))) | ((with_reducible refine (HP.out.at _ hS.ext x).mono ?_); rintro e wk ⟨rfl, hX⟩; replace hS := hS.step hX; clear hX; ((try clear hF); (first | have hF := And.intro hS.facts (HRD.out _ (hS.sub (by first | simp | ((repeat (first | exact List.nil_sublist _ | exact List.Sublist.refl _ | with_reducible apply List.Sublist.cons₂ | apply List.Sublist.cons)))))) | have hF := And.intro hS.facts (hR.at hS.ext) | have hF := hS.facts); simp only [HFacts, cellFacts, RFacts, cellOnly, and_true, true_and, Nat.zero_add, Nat.reduceAdd] at hF)))
      · go_ret
        refine ⟨?_, hS.ext⟩
        have hc : p x = true := by assumption
        rw [hf.out, HD.out, idxC, if_pos hc]; first | done | rfl
      · go_roundw
        case rel =>
          have hc : p x = false := by assumption
          exact ⟨k + 1, by go_num, by omega, Lib.hid (by rw [hf.out, HD.out, idxC, if_neg (by rw [hc]; simp)]), hS⟩
        case measure => simp [intOf]; omega
    · obtain rfl : k = n := by omega
      ((try clear hF); (first | have hF := And.intro hS.facts (HRD.out _ (hS.sub (by first | simp | ((repeat (first | exact List.nil_sublist _ | exact List.Sublist.refl _ | with_reducible apply List.Sublist.cons₂ | apply List.Sublist.cons)))))) | have hF := And.intro hS.facts (hR.at hS.ext) | have hF := hS.facts); simp only [HFacts, cellFacts, RFacts, cellOnly, and_true, true_and, Nat.zero_add, Nat.reduceAdd] at hF)
      go_wp2_with (first | ((with_reducible first | refine nhLa ?_ | refine nhLs ?_ | refine nhLd ?_ | refine nhCa ?_ | refine nhCs ?_ | refine nhCd ?_ | refine nhPa ?_ | refine nhPs ?_ | refine nhPd ?_ | refine nhKa ?_ | refine nhKs ?_ | refine nhKd ?_); ((try clear hF); clear hS; intro wk hS; (try simp only [List.set_cons_zero, List.set_cons_succ, heap_size, heap_set_size] at hS); ((try clear hF); (first | have hF := And.intro hS.facts (HRD.out _ (hS.sub (by first | simp | ((repeat (first | exact List.nil_sublist _ | exact List.Sublist.refl _ | with_reducible apply List.Sublist.cons₂ | apply List.Sublist.cons)))))) | have hF := And.intro hS.facts (hR.at hS.ext) | have hF := hS.facts); simp only [HFacts, cellFacts, RFacts, cellOnly, and_true, true_and, Nat.zero_add, Nat.reduceAdd] at hF))) | fail)
      go_ret
      exact ⟨by rw [hf.out, Hn.out, List.drop_length]; rfl, hS.ext⟩
set_option maxRecDepth 100000 in
set_option maxHeartbeats 8000000 in
theorem ccontainsFunc_any (l : List CG) (A : Option Addr) (cap : Nat) (g : Nat) (lb : Array Value) (p : CG → Bool) (w : World) (hr : RC w A l) (hl : l.length ≤ 140737488355328) (eg : ∀ args w, (callFunc g args).run Tryz.prog w = .ok (.enter g args) w) (hp : PredC w g lb p) :
    Calls Tryz.prog 25 #[.slice A l.length cap, .func (.func g) #[] lb] w fun e w' => e = .returned (.bool (l.any p)) ∧ Ext w w' := by
  have hI := fun (W : World) (hx : Ext w W) => cindexFunc_any l A cap g lb p W (hr.ext hx) hl eg (fun W' hx' => hp W' (hx.trans hx'))
  have HI := Lib.hid hI
  have HA := Lib.hid (idxC_any p l 0)
  clear hI hr hp
  have hS := Hp.init w
  have hR := Reads.nil w
  go_enter Tryz.func25, Tryz.ntmps25
  go_wp2_with (first | ((with_reducible first | refine nhLa ?_ | refine nhLs ?_ | refine nhLd ?_ | refine nhCa ?_ | refine nhCs ?_ | refine nhCd ?_ | refine nhPa ?_ | refine nhPs ?_ | refine nhPd ?_ | refine nhKa ?_ | refine nhKs ?_ | refine nhKd ?_); ((try clear hF); clear hS; intro wk hS; (try simp only [List.set_cons_zero, List.set_cons_succ, heap_size, heap_set_size] at hS); ((try clear hF); (first | have hF := And.intro hS.facts (HRD.out _ (hS.sub (by first | simp | ((repeat (first | exact List.nil_sublist _ | exact List.Sublist.refl _ | with_reducible apply List.Sublist.cons₂ | apply List.Sublist.cons)))))) | have hF := And.intro hS.facts (hR.at hS.ext) | have hF := hS.facts); simp only [HFacts, cellFacts, RFacts, cellOnly, and_true, true_and, Nat.zero_add, Nat.reduceAdd] at hF))) | (go_at_call 46; (with_reducible refine (HI.out _ hS.ext).mono ?_); rintro e wk ⟨rfl, hX⟩; replace hS := hS.step hX; clear hX; ((try clear hF); (first | have hF := And.intro hS.facts (HRD.out _ (hS.sub (by first | simp | ((repeat (first | exact List.nil_sublist _ | exact List.Sublist.refl _ | with_reducible apply List.Sublist.cons₂ | apply List.Sublist.cons)))))) | have hF := And.intro hS.facts (hR.at hS.ext) | have hF := hS.facts); simp only [HFacts, cellFacts, RFacts, cellOnly, and_true, true_and, Nat.zero_add, Nat.reduceAdd] at hF)))
  go_ret
  exact ⟨by rw [HA.out]; first | done | rfl, hS.ext⟩
def clashC (c d : CG) : Bool := d.id == c.id || d.name.toList == c.name.toList
set_option maxRecDepth 100000 in
set_option maxHeartbeats 8000000 in
theorem right1c_any (c d : CG) (bk : Nat) (w : World) (h : w.cell? ⟨bk, 0, none⟩ = some (.int .i64 c.id)) (h1 : w.cell? ⟨bk, 1, none⟩ = some (.string c.name)) :
    Calls Tryz.prog 26 #[.agg #[.int .i64 d.id, .string d.name, .int .i64 d.kind, .bool d.must, .int .i64 d.d.kind, .int .i64 d.d.num, .string d.d.text], .pointer (some ⟨bk, 0, none⟩)] w fun e w' => e = .returned (.bool (clashC c d)) ∧ Ext w w' := by
  have hS := Hp.init w
  have hR := Reads.cell h (Reads.cell h1 (Reads.nil w))
  clear h h1
  unfold clashC
  by_cases hid : d.id = c.id
  · ((try clear hF); (first | have hF := And.intro hS.facts (HRD.out _ (hS.sub (by first | simp | ((repeat (first | exact List.nil_sublist _ | exact List.Sublist.refl _ | with_reducible apply List.Sublist.cons₂ | apply List.Sublist.cons)))))) | have hF := And.intro hS.facts (hR.at hS.ext) | have hF := hS.facts); simp only [HFacts, cellFacts, RFacts, cellOnly, and_true, true_and, Nat.zero_add, Nat.reduceAdd] at hF)
    go_enter Tryz.func26, Tryz.ntmps26
    go_wp2_with (first | ((with_reducible first | refine nhLa ?_ | refine nhLs ?_ | refine nhLd ?_ | refine nhCa ?_ | refine nhCs ?_ | refine nhCd ?_ | refine nhPa ?_ | refine nhPs ?_ | refine nhPd ?_ | refine nhKa ?_ | refine nhKs ?_ | refine nhKd ?_); ((try clear hF); clear hS; intro wk hS; (try simp only [List.set_cons_zero, List.set_cons_succ, heap_size, heap_set_size] at hS); ((try clear hF); (first | have hF := And.intro hS.facts (HRD.out _ (hS.sub (by first | simp | ((repeat (first | exact List.nil_sublist _ | exact List.Sublist.refl _ | with_reducible apply List.Sublist.cons₂ | apply List.Sublist.cons)))))) | have hF := And.intro hS.facts (hR.at hS.ext) | have hF := hS.facts); simp only [HFacts, cellFacts, RFacts, cellOnly, and_true, true_and, Nat.zero_add, Nat.reduceAdd] at hF))) | fail)
    go_ret
    refine ⟨?_, hS.ext⟩
    simp [hid]
  · ((try clear hF); (first | have hF := And.intro hS.facts (HRD.out _ (hS.sub (by first | simp | ((repeat (first | exact List.nil_sublist _ | exact List.Sublist.refl _ | with_reducible apply List.Sublist.cons₂ | apply List.Sublist.cons)))))) | have hF := And.intro hS.facts (hR.at hS.ext) | have hF := hS.facts); simp only [HFacts, cellFacts, RFacts, cellOnly, and_true, true_and, Nat.zero_add, Nat.reduceAdd] at hF)
    go_enter Tryz.func26, Tryz.ntmps26
    go_wp2_with (first | ((with_reducible first | refine nhLa ?_ | refine nhLs ?_ | refine nhLd ?_ | refine nhCa ?_ | refine nhCs ?_ | refine nhCd ?_ | refine nhPa ?_ | refine nhPs ?_ | refine nhPd ?_ | refine nhKa ?_ | refine nhKs ?_ | refine nhKd ?_); ((try clear hF); clear hS; intro wk hS; (try simp only [List.set_cons_zero, List.set_cons_succ, heap_size, heap_set_size] at hS); ((try clear hF); (first | have hF := And.intro hS.facts (HRD.out _ (hS.sub (by first | simp | ((repeat (first | exact List.nil_sublist _ | exact List.Sublist.refl _ | with_reducible apply List.Sublist.cons₂ | apply List.Sublist.cons)))))) | have hF := And.intro hS.facts (hR.at hS.ext) | have hF := hS.facts); simp only [HFacts, cellFacts, RFacts, cellOnly, and_true, true_and, Nat.zero_add, Nat.reduceAdd] at hF))) | fail)
    go_ret
    refine ⟨?_, hS.ext⟩
    simp [hid]
theorem eg_right1 : ∀ args w, (callFunc 26 args).run Tryz.prog w = .ok (.enter 26 args) w := fun _ _ => by kernel_rfl
end Go.Proofs.YtcpnnffnkegamaaGreatDoor
