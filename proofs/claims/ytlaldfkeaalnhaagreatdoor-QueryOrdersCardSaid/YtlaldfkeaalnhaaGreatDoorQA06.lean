/- ask.next: the token that stands first. -/
import Derived.Test.YtlaldfkeaalnhaaGreatDoorQA05
import Derived.Deep.CutBlock
import Derived.Laws.Rows
namespace Go.Proofs.YtlaldfkeaalnhaaGreatDoor
set_option linter.unusedSimpArgs false
set_option linter.unusedVariables false
open Go.RowKit
set_option linter.all false
def marksV : Array Value := #[.string ⟨#[60, 62]⟩, .string ⟨#[60, 61]⟩, .string ⟨#[62, 61]⟩, .string ⟨#[61]⟩, .string ⟨#[60]⟩, .string ⟨#[62]⟩, .string ⟨#[40]⟩, .string ⟨#[41]⟩, .string ⟨#[44]⟩, .string ⟨#[42]⟩]
@[go_sem] theorem run_idx_marks0 (w : World) : (Instr.index 199 (.agg #[.string ⟨#[60, 62]⟩, .string ⟨#[60, 61]⟩, .string ⟨#[62, 61]⟩, .string ⟨#[61]⟩, .string ⟨#[60]⟩, .string ⟨#[62]⟩, .string ⟨#[40]⟩, .string ⟨#[41]⟩, .string ⟨#[44]⟩, .string ⟨#[42]⟩]) (.int .i64 0)).run Tryz.prog w = .ok (.string ⟨#[60, 62]⟩) w := by kernel_rfl
@[go_sem] theorem run_idx_marks1 (w : World) : (Instr.index 199 (.agg #[.string ⟨#[60, 62]⟩, .string ⟨#[60, 61]⟩, .string ⟨#[62, 61]⟩, .string ⟨#[61]⟩, .string ⟨#[60]⟩, .string ⟨#[62]⟩, .string ⟨#[40]⟩, .string ⟨#[41]⟩, .string ⟨#[44]⟩, .string ⟨#[42]⟩]) (.int .i64 1)).run Tryz.prog w = .ok (.string ⟨#[60, 61]⟩) w := by kernel_rfl
@[go_sem] theorem run_idx_marks2 (w : World) : (Instr.index 199 (.agg #[.string ⟨#[60, 62]⟩, .string ⟨#[60, 61]⟩, .string ⟨#[62, 61]⟩, .string ⟨#[61]⟩, .string ⟨#[60]⟩, .string ⟨#[62]⟩, .string ⟨#[40]⟩, .string ⟨#[41]⟩, .string ⟨#[44]⟩, .string ⟨#[42]⟩]) (.int .i64 2)).run Tryz.prog w = .ok (.string ⟨#[62, 61]⟩) w := by kernel_rfl
@[go_sem] theorem run_idx_marks3 (w : World) : (Instr.index 199 (.agg #[.string ⟨#[60, 62]⟩, .string ⟨#[60, 61]⟩, .string ⟨#[62, 61]⟩, .string ⟨#[61]⟩, .string ⟨#[60]⟩, .string ⟨#[62]⟩, .string ⟨#[40]⟩, .string ⟨#[41]⟩, .string ⟨#[44]⟩, .string ⟨#[42]⟩]) (.int .i64 3)).run Tryz.prog w = .ok (.string ⟨#[61]⟩) w := by kernel_rfl
@[go_sem] theorem run_idx_marks4 (w : World) : (Instr.index 199 (.agg #[.string ⟨#[60, 62]⟩, .string ⟨#[60, 61]⟩, .string ⟨#[62, 61]⟩, .string ⟨#[61]⟩, .string ⟨#[60]⟩, .string ⟨#[62]⟩, .string ⟨#[40]⟩, .string ⟨#[41]⟩, .string ⟨#[44]⟩, .string ⟨#[42]⟩]) (.int .i64 4)).run Tryz.prog w = .ok (.string ⟨#[60]⟩) w := by kernel_rfl
@[go_sem] theorem run_idx_marks5 (w : World) : (Instr.index 199 (.agg #[.string ⟨#[60, 62]⟩, .string ⟨#[60, 61]⟩, .string ⟨#[62, 61]⟩, .string ⟨#[61]⟩, .string ⟨#[60]⟩, .string ⟨#[62]⟩, .string ⟨#[40]⟩, .string ⟨#[41]⟩, .string ⟨#[44]⟩, .string ⟨#[42]⟩]) (.int .i64 5)).run Tryz.prog w = .ok (.string ⟨#[62]⟩) w := by kernel_rfl
@[go_sem] theorem run_idx_marks6 (w : World) : (Instr.index 199 (.agg #[.string ⟨#[60, 62]⟩, .string ⟨#[60, 61]⟩, .string ⟨#[62, 61]⟩, .string ⟨#[61]⟩, .string ⟨#[60]⟩, .string ⟨#[62]⟩, .string ⟨#[40]⟩, .string ⟨#[41]⟩, .string ⟨#[44]⟩, .string ⟨#[42]⟩]) (.int .i64 6)).run Tryz.prog w = .ok (.string ⟨#[40]⟩) w := by kernel_rfl
@[go_sem] theorem run_idx_marks7 (w : World) : (Instr.index 199 (.agg #[.string ⟨#[60, 62]⟩, .string ⟨#[60, 61]⟩, .string ⟨#[62, 61]⟩, .string ⟨#[61]⟩, .string ⟨#[60]⟩, .string ⟨#[62]⟩, .string ⟨#[40]⟩, .string ⟨#[41]⟩, .string ⟨#[44]⟩, .string ⟨#[42]⟩]) (.int .i64 7)).run Tryz.prog w = .ok (.string ⟨#[41]⟩) w := by kernel_rfl
@[go_sem] theorem run_idx_marks8 (w : World) : (Instr.index 199 (.agg #[.string ⟨#[60, 62]⟩, .string ⟨#[60, 61]⟩, .string ⟨#[62, 61]⟩, .string ⟨#[61]⟩, .string ⟨#[60]⟩, .string ⟨#[62]⟩, .string ⟨#[40]⟩, .string ⟨#[41]⟩, .string ⟨#[44]⟩, .string ⟨#[42]⟩]) (.int .i64 8)).run Tryz.prog w = .ok (.string ⟨#[44]⟩) w := by kernel_rfl
@[go_sem] theorem run_idx_marks9 (w : World) : (Instr.index 199 (.agg #[.string ⟨#[60, 62]⟩, .string ⟨#[60, 61]⟩, .string ⟨#[62, 61]⟩, .string ⟨#[61]⟩, .string ⟨#[60]⟩, .string ⟨#[62]⟩, .string ⟨#[40]⟩, .string ⟨#[41]⟩, .string ⟨#[44]⟩, .string ⟨#[42]⟩]) (.int .i64 9)).run Tryz.prog w = .ok (.string ⟨#[42]⟩) w := by kernel_rfl
/-- the marks, in the program's variable -/
def MarksAt (w : World) : Prop := ∃ t fr, w.heap[5]? = some (.cells marksV t fr)
theorem MarksAt.ext {w w' : World} (h : MarksAt w) (hx : Ext w w') : MarksAt w' := by
  obtain ⟨t, fr, h⟩ := h
  refine ⟨t, fr, (hx.block _ ?_).trans h⟩
  by_cases hc : 5 < w.heap.size
  · exact hc
  · rw [Array.getElem?_eq_none (by omega)] at h
    cases h
theorem tail_ext (s : ByteArray) : (s.extract 1 s.size).data.toList = s.data.toList.drop 1 := by
  rw [Lib.extract_data]
  apply List.take_of_length_le
  rw [List.length_drop, ← Lib.size_eq]
  omega
theorem hd_cons (s : ByteArray) (h : 0 < s.size) : s.data.toList = s[0] :: (s.extract 1 s.size).data.toList := by
  rw [tail_ext]
  have := at_drop s 0 h
  rw [List.drop_zero] at this
  exact this
theorem eg_word : ∀ args w, (callFunc 130 args).run Tryz.prog w = .ok (.enter 130 args) w := fun _ _ => by kernel_rfl
theorem eg_digit : ∀ args w, (callFunc 131 args).run Tryz.prog w = .ok (.enter 131 args) w := fun _ _ => by kernel_rfl
theorem ext_size (s : ByteArray) (a : Nat) (h : a ≤ s.size) : (s.extract a s.size).size = s.size - a := by
  rw [ByteArray.size_extract]
  omega
set_option maxRecDepth 100000 in
set_option maxHeartbeats 8000000 in
theorem next_small (s : ByteArray) (w : World) (h0 : 0 < s.size) (m : Nat) (hm : s.size = m) (hm2 : m ≤ 1000000) (hc : smallB s[0] = true) (X : Int × Nat) (hX : X = nextL s.data.toList) :
    Calls Tryz.prog 103 #[.string s] w fun e w' => e = .returned (.tuple #[.int .i64 X.1, .int .i64 (X.2 : Nat)]) ∧ Ext w w' := by
  have HX : Hid (X = (1, runL wordB s.data.toList)) := Lib.hid (by
    rw [hX]
    conv => lhs; rw [hd_cons s h0]
    simp only [nextL, hc, if_true]
    rw [← hd_cons s h0])
  have H1 := Lib.hid (fun W => small_any s[0] W)
  rw [hc] at H1
  have H2 := Lib.hid (fun W => run_any wordB 130 eg_word word_any s W m hm hm2)
  clear hX hc
  have hS := Hp.init w
  have hR := Reads.nil w
  go_enter Tryz.func103, Tryz.ntmps103
  go_wp2_with (first | (refine hab ?_; (try clear hF); clear hS; intro wk hS; (try simp only [List.set_cons_zero, List.set_cons_succ, heap_size, heap_set_size] at hS); ((try clear hF); refine hfI ?_; intro hF)) | (go_at_call 128; (with_reducible refine (H1.out _).mono ?_); rintro e wk ⟨rfl, hX⟩; replace hS := hS.step hX; clear hX; ((try clear hF); refine hfI ?_; intro hF)) | (go_at_call 129; (with_reducible refine (H2.out _).mono ?_); rintro e wk ⟨rfl, hX⟩; replace hS := hS.step hX; clear hX; ((try clear hF); refine hfI ?_; intro hF)))
  go_ret2
  exact ⟨by rw [HX.out]; rfl, hS.ext⟩
set_option maxRecDepth 100000 in
set_option maxHeartbeats 8000000 in
theorem next_digit (s : ByteArray) (w : World) (h0 : 0 < s.size) (m : Nat) (hm : s.size = m) (hm2 : m ≤ 1000000) (hs : smallB s[0] = false) (hc : digitB s[0] = true) (X : Int × Nat) (hX : X = nextL s.data.toList) :
    Calls Tryz.prog 103 #[.string s] w fun e w' => e = .returned (.tuple #[.int .i64 X.1, .int .i64 (X.2 : Nat)]) ∧ Ext w w' := by
  have hrl := runL_le digitB (s.extract 1 s.size).data.toList
  rw [← Lib.size_eq, ext_size s 1 (by omega)] at hrl
  obtain ⟨q, hq⟩ : ∃ q, q = runL digitB (s.extract 1 s.size).data.toList := ⟨_, rfl⟩
  have HX : Hid (X = (2, 1 + q)) := Lib.hid (by
    rw [hX, hq]
    conv => lhs; rw [hd_cons s h0]
    simp only [nextL, hs, hc, Bool.true_or, if_true, Bool.false_eq_true, if_false])
  have H1 := Lib.hid (fun W => small_any s[0] W)
  rw [hs] at H1
  have H3 := Lib.hid (fun W => digit_any s[0] W)
  rw [hc] at H3
  have hes := ext_size s 1 (by omega)
  have H2 := Lib.hid (fun W => run_any digitB 131 eg_digit digit_any (s.extract 1 s.size) W (m - 1) (by omega) (by omega))
  rw [hm] at H2 hrl hq
  rw [← hq] at H2 hrl
  clear hX hc hs hq hes
  have hS := Hp.init w
  have hR := Reads.nil w
  go_enter Tryz.func103, Tryz.ntmps103
  go_wp2_with (first | (refine hab ?_; (try clear hF); clear hS; intro wk hS; (try simp only [List.set_cons_zero, List.set_cons_succ, heap_size, heap_set_size] at hS); ((try clear hF); refine hfI ?_; intro hF)) | (go_at_call 128; (with_reducible refine (H1.out _).mono ?_); rintro e wk ⟨rfl, hX⟩; replace hS := hS.step hX; clear hX; ((try clear hF); refine hfI ?_; intro hF)) | (go_at_call 131; (with_reducible refine (H3.out _).mono ?_); rintro e wk ⟨rfl, hX⟩; replace hS := hS.step hX; clear hX; ((try clear hF); refine hfI ?_; intro hF)) | (go_at_call 129; (with_reducible refine (H2.out _).mono ?_); rintro e wk ⟨rfl, hX⟩; replace hS := hS.step hX; clear hX; ((try clear hF); refine hfI ?_; intro hF)))
  go_ret2
  exact ⟨by rw [HX.out]; rfl, hS.ext⟩
set_option maxRecDepth 100000 in
set_option maxHeartbeats 8000000 in
theorem next_minus (s : ByteArray) (w : World) (h1 : 1 < s.size) (m : Nat) (hm : s.size = m) (hm2 : m ≤ 1000000) (hc : s[0] = 45) (hd : digitB s[1] = true) (X : Int × Nat) (hX : X = nextL s.data.toList) :
    Calls Tryz.prog 103 #[.string s] w fun e w' => e = .returned (.tuple #[.int .i64 X.1, .int .i64 (X.2 : Nat)]) ∧ Ext w w' := by
  have h0 : 0 < s.size := by omega
  have hrl := runL_le digitB (s.extract 1 s.size).data.toList
  rw [← Lib.size_eq, ext_size s 1 (by omega)] at hrl
  obtain ⟨q, hq⟩ : ∃ q, q = runL digitB (s.extract 1 s.size).data.toList := ⟨_, rfl⟩
  have hh : (s.extract 1 s.size).data.toList.headD 0 = s[1] := by rw [tail_ext, at_drop s 1 h1]; rfl
  have HX : Hid (X = (2, 1 + q)) := Lib.hid (by
    rw [hX, hq]
    conv => lhs; rw [hd_cons s h0]
    simp only [nextL]
    rw [hc, hh, hd]
    rfl)
  have H1 := Lib.hid (fun W => small_any s[0] W)
  rw [show smallB s[0] = false by rw [hc]; rfl] at H1
  have H3 := Lib.hid (fun W => digit_any s[0] W)
  rw [show digitB s[0] = false by rw [hc]; rfl] at H3
  have H4 := Lib.hid (fun W => digit_any s[1] W)
  rw [hd] at H4
  have hes := ext_size s 1 (by omega)
  have H2 := Lib.hid (fun W => run_any digitB 131 eg_digit digit_any (s.extract 1 s.size) W (m - 1) (by omega) (by omega))
  rw [hm] at H2 hrl hq
  rw [← hq] at H2 hrl
  have q1 : ((s[0].toNat : Int) == 45) = true := u8e hc
  clear hX hc hd hq hes hh
  have hS := Hp.init w
  have hR := Reads.nil w
  go_enter Tryz.func103, Tryz.ntmps103
  go_wp2_with (first | (refine hab ?_; (try clear hF); clear hS; intro wk hS; (try simp only [List.set_cons_zero, List.set_cons_succ, heap_size, heap_set_size] at hS); ((try clear hF); refine hfI ?_; intro hF)) | (go_at_call 128; (with_reducible refine (H1.out _).mono ?_); rintro e wk ⟨rfl, hX⟩; replace hS := hS.step hX; clear hX; ((try clear hF); refine hfI ?_; intro hF)) | (go_at_call 131; (with_reducible refine (H3.out _).mono ?_); rintro e wk ⟨rfl, hX⟩; replace hS := hS.step hX; clear hX; ((try clear hF); refine hfI ?_; intro hF)) | (go_at_call 131; (with_reducible refine (H4.out _).mono ?_); rintro e wk ⟨rfl, hX⟩; replace hS := hS.step hX; clear hX; ((try clear hF); refine hfI ?_; intro hF)) | (go_at_call 129; (with_reducible refine (H2.out _).mono ?_); rintro e wk ⟨rfl, hX⟩; replace hS := hS.step hX; clear hX; ((try clear hF); refine hfI ?_; intro hF)))
  go_ret2
  exact ⟨by rw [HX.out]; rfl, hS.ext⟩
theorem idx_lt (l : List UInt8) (c : UInt8) : Lib.indexByte l c < l.length := by
  by_cases h : 0 ≤ Lib.indexByte l c
  · obtain ⟨q, hq⟩ := Int.eq_ofNat_of_zero_le h
    have := (idx_cut hq).1
    omega
  · omega
set_option maxRecDepth 100000 in
set_option maxHeartbeats 8000000 in
theorem next_quote (s : ByteArray) (w : World) (h0 : 0 < s.size) (m : Nat) (hm : s.size = m) (hm2 : m ≤ 1000000) (hc : s[0] = 39) (X : Int × Nat) (hX : X = nextL s.data.toList) :
    Calls Tryz.prog 103 #[.string s] w fun e w' => e = .returned (.tuple #[.int .i64 X.1, .int .i64 (X.2 : Nat)]) ∧ Ext w w' := by
  have hlt := idx_lt (s.extract 1 s.size).data.toList 39
  rw [← Lib.size_eq, ext_size s 1 (by omega)] at hlt
  obtain ⟨ix, hix⟩ : ∃ ix, ix = Lib.indexByte (s.extract 1 s.size).data.toList 39 := ⟨_, rfl⟩
  have HX : Hid (X = (3, if 0 ≤ ix then ix.toNat + 2 else 0)) := Lib.hid (by
    rw [hX, hix]
    conv => lhs; rw [hd_cons s h0]
    simp only [nextL]
    rw [hc]
    rfl)
  have H1 := Lib.hid (fun W => small_any s[0] W)
  rw [show smallB s[0] = false by rw [hc]; rfl] at H1
  have H3 := Lib.hid (fun W => digit_any s[0] W)
  rw [show digitB s[0] = false by rw [hc]; rfl] at H3
  have H2 := Lib.hid (fun W => show Calls Tryz.prog 105 #[.string (s.extract 1 s.size), .int .u8 39] W fun e w' => e = .returned (.int .i64 ix) ∧ Ext W w' from
    (Tryz.strings_IndexByte (s.extract 1 s.size) 39 W).mono fun e w' ⟨h1, h2⟩ => ⟨by rw [h1, hix]; rfl, by rw [h2]; exact Ext.refl _⟩)
  rw [hm] at H2 hlt
  rw [← hm, ← hix, hm] at hlt
  have q1 : ((s[0].toNat : Int) == 39) = true := u8e hc
  have q2 : ((s[0].toNat : Int) == 45) = false := u8n (b := 45) (by rw [hc]; decide)
  clear hX hc hix
  have hS := Hp.init w
  have hR := Reads.nil w
  by_cases hp : 0 ≤ ix
  · have HX2 := Lib.hid (show X = (3, ix.toNat + 2) by rw [HX.out, if_pos hp])
    clear HX
    go_enter Tryz.func103, Tryz.ntmps103
    go_wp2_with (first | (refine hab ?_; (try clear hF); clear hS; intro wk hS; (try simp only [List.set_cons_zero, List.set_cons_succ, heap_size, heap_set_size] at hS); ((try clear hF); refine hfI ?_; intro hF)) | (go_at_call 128; (with_reducible refine (H1.out _).mono ?_); rintro e wk ⟨rfl, hX⟩; replace hS := hS.step hX; clear hX; ((try clear hF); refine hfI ?_; intro hF)) | (go_at_call 131; (with_reducible refine (H3.out _).mono ?_); rintro e wk ⟨rfl, hX⟩; replace hS := hS.step hX; clear hX; ((try clear hF); refine hfI ?_; intro hF)) | (go_at_call 105; (with_reducible refine (H2.out _).mono ?_); rintro e wk ⟨rfl, hX⟩; replace hS := hS.step hX; clear hX; ((try clear hF); refine hfI ?_; intro hF)))
    go_ret2
    refine ⟨?_, hS.ext⟩
    rw [HX2.out]
    show Ending.returned (.tuple #[.int .i64 3, .int .i64 (ix + 2)]) = Ending.returned (.tuple #[.int .i64 3, .int .i64 ((ix.toNat + 2 : Nat) : Int)])
    rw [show ((ix.toNat + 2 : Nat) : Int) = ix + 2 by omega]
  · have HX2 := Lib.hid (show X = (3, 0) by rw [HX.out, if_neg hp])
    clear HX
    go_enter Tryz.func103, Tryz.ntmps103
    go_wp2_with (first | (refine hab ?_; (try clear hF); clear hS; intro wk hS; (try simp only [List.set_cons_zero, List.set_cons_succ, heap_size, heap_set_size] at hS); ((try clear hF); refine hfI ?_; intro hF)) | (go_at_call 128; (with_reducible refine (H1.out _).mono ?_); rintro e wk ⟨rfl, hX⟩; replace hS := hS.step hX; clear hX; ((try clear hF); refine hfI ?_; intro hF)) | (go_at_call 131; (with_reducible refine (H3.out _).mono ?_); rintro e wk ⟨rfl, hX⟩; replace hS := hS.step hX; clear hX; ((try clear hF); refine hfI ?_; intro hF)) | (go_at_call 105; (with_reducible refine (H2.out _).mono ?_); rintro e wk ⟨rfl, hX⟩; replace hS := hS.step hX; clear hX; ((try clear hF); refine hfI ?_; intro hF)))
    go_ret2
    exact ⟨by rw [HX2.out]; rfl, hS.ext⟩
set_option maxRecDepth 100000 in
set_option maxHeartbeats 8000000 in
theorem next_mark (s : ByteArray) (w : World) (h0 : 0 < s.size) (m : Nat) (hm : s.size = m) (hm2 : m ≤ 1000000) (hM : MarksAt w) (hs : smallB s[0] = false) (hd : digitB s[0] = false) (h39 : s[0] ≠ 39)
    (h45 : s[0] ≠ 45 ∨ m = 1 ∨ ∃ h : 1 < s.size, digitB s[1] = false) (X : Int × Nat) (hX : X = nextL s.data.toList) :
    Calls Tryz.prog 103 #[.string s] w fun e w' => e = .returned (.tuple #[.int .i64 X.1, .int .i64 (X.2 : Nat)]) ∧ Ext w w' := by
  have hh : (s[0] == 45 && digitB ((s.extract 1 s.size).data.toList.headD 0)) = false := by
    rw [tail_ext]
    rcases h45 with h | h | ⟨h, hd1⟩
    · rw [show (s[0] == 45) = false by simp [h]]; rfl
    · rw [List.drop_eq_nil_of_le (by rw [← Lib.size_eq]; omega)]
      exact Bool.and_false _
    · rw [at_drop s 1 h, List.headD_cons, hd1, Bool.and_false]
  have HX : Hid (X = (4, markIn (marksL.drop 0) s.data.toList)) := Lib.hid (by
    rw [hX]
    conv => lhs; rw [hd_cons s h0]
    simp only [nextL]
    rw [hs, hd, hh, show (s[0] == 39) = false by simp [h39]]
    simp only [Bool.false_eq_true, if_false, Bool.or_false, List.drop_zero]
    rw [← hd_cons s h0])
  have H1 := Lib.hid (fun W => small_any s[0] W)
  rw [hs] at H1
  have H3 := Lib.hid (fun W => digit_any s[0] W)
  rw [hd] at H3
  have q1 : ((s[0].toNat : Int) == 39) = false := u8n (b := 39) h39
  have HPX := Lib.hid (fun (p : ByteArray) (W : World) => show Calls Tryz.prog 132 #[.string s, .string p] W fun e w' => e = .returned (.bool (Lib.hasPrefix s.data.toList p.data.toList)) ∧ Ext W w' from
    (Tryz.strings_HasPrefix s p W).mono fun e w' ⟨h1, h2⟩ => ⟨h1, by rw [h2]; exact Ext.refl _⟩)
  clear hX hs hd h39 hh
  have hS := Hp.init w
  have hR := Reads.nil w
  have step : ∀ (k : Nat) (mk : List UInt8), marksL.drop k = mk :: marksL.drop (k + 1) → Hid (X = (4, markIn (marksL.drop k) s.data.toList)) → (Lib.hasPrefix s.data.toList mk = true → X = (4, mk.length)) ∧ (Lib.hasPrefix s.data.toList mk = false → X = (4, markIn (marksL.drop (k + 1)) s.data.toList)) := fun k mk h HX => by
    have := HX.out
    rw [h] at this
    simp only [markIn] at this
    exact ⟨fun h => by rw [this, if_pos h], fun h => by rw [this, if_neg (by rw [h]; decide)]⟩
  have STEP := Lib.hid step
  clear step
  rcases h45 with h | h | ⟨h, hd1⟩
  · have q2 : ((s[0].toNat : Int) == 45) = false := u8n (b := 45) h
    clear h
    go_enter Tryz.func103, Tryz.ntmps103
    go_upto_region 11 with (first | (refine hab ?_; (try clear hF); clear hS; intro wk hS; (try simp only [List.set_cons_zero, List.set_cons_succ, heap_size, heap_set_size] at hS); ((try clear hF); refine hfI ?_; intro hF)) | (go_at_call 128; (with_reducible refine (H1.out _).mono ?_); rintro e wk ⟨rfl, hX⟩; replace hS := hS.step hX; clear hX; ((try clear hF); refine hfI ?_; intro hF)) | (go_at_call 131; (with_reducible refine (H3.out _).mono ?_); rintro e wk ⟨rfl, hX⟩; replace hS := hS.step hX; clear hX; ((try clear hF); refine hfI ?_; intro hF)))
    obtain ⟨tt, fr, hmk⟩ := hM.ext hS.ext
    go_wp2_with (first | (refine hab ?_; (try clear hF); clear hS; intro wk hS; (try simp only [List.set_cons_zero, List.set_cons_succ, heap_size, heap_set_size] at hS); ((try clear hF); refine hfI ?_; intro hF)) | (with_reducible refine wpList_load_row rfl 199 _ rfl 5 rfl tt _ fr _ hmk Tryz.underlying199 rfl (by kernel_rfl) ?_))
    clear hmk
    unfold marksV
    go_loopw [47, 7] (fun i _ wr => ∃ k : Int, i = .int .i64 k ∧ 0 ≤ k ∧ k ≤ 10 ∧ Hid (X = (4, markIn (marksL.drop k.toNat) s.data.toList)) ∧ Hp w.heap.size w wr []) (fun i _ _ => 10 - (intOf i).toNat)
    case atStart => exact ⟨0, rfl, by omega, by omega, HX, hS⟩
    case round =>
      clear hS HX
      obtain ⟨k, rfl, hk0, hk, HX, hS⟩ := hrel
      obtain rfl | rfl | rfl | rfl | rfl | rfl | rfl | rfl | rfl | rfl | rfl : k = 0 ∨ k = 1 ∨ k = 2 ∨ k = 3 ∨ k = 4 ∨ k = 5 ∨ k = 6 ∨ k = 7 ∨ k = 8 ∨ k = 9 ∨ k = 10 := by omega
      · have HT := Lib.hid (STEP.out 0 [60, 62] rfl HX)
        clear HX
        ((try clear hF); refine hfI ?_; intro hF)
        go_wp2_with (first | (refine hab ?_; (try clear hF); clear hS; intro wk hS; (try simp only [List.set_cons_zero, List.set_cons_succ, heap_size, heap_set_size] at hS); ((try clear hF); refine hfI ?_; intro hF)) | (go_at_call 132; (with_reducible refine (HPX.out _ _).mono ?_); rintro e wk ⟨rfl, hX⟩; replace hS := hS.step hX; clear hX; ((try clear hF); refine hfI ?_; intro hF)))
        · go_ret2
          exact ⟨by rw [HT.out.1 (by assumption)]; rfl, hS.ext⟩
        · go_roundw
          case rel => exact ⟨1, by go_num, by omega, by omega, Lib.hid (HT.out.2 (by assumption)), hS⟩
          case measure => simp [intOf]
      · have HT := Lib.hid (STEP.out 1 [60, 61] rfl HX)
        clear HX
        ((try clear hF); refine hfI ?_; intro hF)
        go_wp2_with (first | (refine hab ?_; (try clear hF); clear hS; intro wk hS; (try simp only [List.set_cons_zero, List.set_cons_succ, heap_size, heap_set_size] at hS); ((try clear hF); refine hfI ?_; intro hF)) | (go_at_call 132; (with_reducible refine (HPX.out _ _).mono ?_); rintro e wk ⟨rfl, hX⟩; replace hS := hS.step hX; clear hX; ((try clear hF); refine hfI ?_; intro hF)))
        · go_ret2
          exact ⟨by rw [HT.out.1 (by assumption)]; rfl, hS.ext⟩
        · go_roundw
          case rel => exact ⟨2, by go_num, by omega, by omega, Lib.hid (HT.out.2 (by assumption)), hS⟩
          case measure => simp [intOf]
      · have HT := Lib.hid (STEP.out 2 [62, 61] rfl HX)
        clear HX
        ((try clear hF); refine hfI ?_; intro hF)
        go_wp2_with (first | (refine hab ?_; (try clear hF); clear hS; intro wk hS; (try simp only [List.set_cons_zero, List.set_cons_succ, heap_size, heap_set_size] at hS); ((try clear hF); refine hfI ?_; intro hF)) | (go_at_call 132; (with_reducible refine (HPX.out _ _).mono ?_); rintro e wk ⟨rfl, hX⟩; replace hS := hS.step hX; clear hX; ((try clear hF); refine hfI ?_; intro hF)))
        · go_ret2
          exact ⟨by rw [HT.out.1 (by assumption)]; rfl, hS.ext⟩
        · go_roundw
          case rel => exact ⟨3, by go_num, by omega, by omega, Lib.hid (HT.out.2 (by assumption)), hS⟩
          case measure => simp [intOf]
      · have HT := Lib.hid (STEP.out 3 [61] rfl HX)
        clear HX
        ((try clear hF); refine hfI ?_; intro hF)
        go_wp2_with (first | (refine hab ?_; (try clear hF); clear hS; intro wk hS; (try simp only [List.set_cons_zero, List.set_cons_succ, heap_size, heap_set_size] at hS); ((try clear hF); refine hfI ?_; intro hF)) | (go_at_call 132; (with_reducible refine (HPX.out _ _).mono ?_); rintro e wk ⟨rfl, hX⟩; replace hS := hS.step hX; clear hX; ((try clear hF); refine hfI ?_; intro hF)))
        · go_ret2
          exact ⟨by rw [HT.out.1 (by assumption)]; rfl, hS.ext⟩
        · go_roundw
          case rel => exact ⟨4, by go_num, by omega, by omega, Lib.hid (HT.out.2 (by assumption)), hS⟩
          case measure => simp [intOf]
      · have HT := Lib.hid (STEP.out 4 [60] rfl HX)
        clear HX
        ((try clear hF); refine hfI ?_; intro hF)
        go_wp2_with (first | (refine hab ?_; (try clear hF); clear hS; intro wk hS; (try simp only [List.set_cons_zero, List.set_cons_succ, heap_size, heap_set_size] at hS); ((try clear hF); refine hfI ?_; intro hF)) | (go_at_call 132; (with_reducible refine (HPX.out _ _).mono ?_); rintro e wk ⟨rfl, hX⟩; replace hS := hS.step hX; clear hX; ((try clear hF); refine hfI ?_; intro hF)))
        · go_ret2
          exact ⟨by rw [HT.out.1 (by assumption)]; rfl, hS.ext⟩
        · go_roundw
          case rel => exact ⟨5, by go_num, by omega, by omega, Lib.hid (HT.out.2 (by assumption)), hS⟩
          case measure => simp [intOf]
      · have HT := Lib.hid (STEP.out 5 [62] rfl HX)
        clear HX
        ((try clear hF); refine hfI ?_; intro hF)
        go_wp2_with (first | (refine hab ?_; (try clear hF); clear hS; intro wk hS; (try simp only [List.set_cons_zero, List.set_cons_succ, heap_size, heap_set_size] at hS); ((try clear hF); refine hfI ?_; intro hF)) | (go_at_call 132; (with_reducible refine (HPX.out _ _).mono ?_); rintro e wk ⟨rfl, hX⟩; replace hS := hS.step hX; clear hX; ((try clear hF); refine hfI ?_; intro hF)))
        · go_ret2
          exact ⟨by rw [HT.out.1 (by assumption)]; rfl, hS.ext⟩
        · go_roundw
          case rel => exact ⟨6, by go_num, by omega, by omega, Lib.hid (HT.out.2 (by assumption)), hS⟩
          case measure => simp [intOf]
      · have HT := Lib.hid (STEP.out 6 [40] rfl HX)
        clear HX
        ((try clear hF); refine hfI ?_; intro hF)
        go_wp2_with (first | (refine hab ?_; (try clear hF); clear hS; intro wk hS; (try simp only [List.set_cons_zero, List.set_cons_succ, heap_size, heap_set_size] at hS); ((try clear hF); refine hfI ?_; intro hF)) | (go_at_call 132; (with_reducible refine (HPX.out _ _).mono ?_); rintro e wk ⟨rfl, hX⟩; replace hS := hS.step hX; clear hX; ((try clear hF); refine hfI ?_; intro hF)))
        · go_ret2
          exact ⟨by rw [HT.out.1 (by assumption)]; rfl, hS.ext⟩
        · go_roundw
          case rel => exact ⟨7, by go_num, by omega, by omega, Lib.hid (HT.out.2 (by assumption)), hS⟩
          case measure => simp [intOf]
      · have HT := Lib.hid (STEP.out 7 [41] rfl HX)
        clear HX
        ((try clear hF); refine hfI ?_; intro hF)
        go_wp2_with (first | (refine hab ?_; (try clear hF); clear hS; intro wk hS; (try simp only [List.set_cons_zero, List.set_cons_succ, heap_size, heap_set_size] at hS); ((try clear hF); refine hfI ?_; intro hF)) | (go_at_call 132; (with_reducible refine (HPX.out _ _).mono ?_); rintro e wk ⟨rfl, hX⟩; replace hS := hS.step hX; clear hX; ((try clear hF); refine hfI ?_; intro hF)))
        · go_ret2
          exact ⟨by rw [HT.out.1 (by assumption)]; rfl, hS.ext⟩
        · go_roundw
          case rel => exact ⟨8, by go_num, by omega, by omega, Lib.hid (HT.out.2 (by assumption)), hS⟩
          case measure => simp [intOf]
      · have HT := Lib.hid (STEP.out 8 [44] rfl HX)
        clear HX
        ((try clear hF); refine hfI ?_; intro hF)
        go_wp2_with (first | (refine hab ?_; (try clear hF); clear hS; intro wk hS; (try simp only [List.set_cons_zero, List.set_cons_succ, heap_size, heap_set_size] at hS); ((try clear hF); refine hfI ?_; intro hF)) | (go_at_call 132; (with_reducible refine (HPX.out _ _).mono ?_); rintro e wk ⟨rfl, hX⟩; replace hS := hS.step hX; clear hX; ((try clear hF); refine hfI ?_; intro hF)))
        · go_ret2
          exact ⟨by rw [HT.out.1 (by assumption)]; rfl, hS.ext⟩
        · go_roundw
          case rel => exact ⟨9, by go_num, by omega, by omega, Lib.hid (HT.out.2 (by assumption)), hS⟩
          case measure => simp [intOf]
      · have HT := Lib.hid (STEP.out 9 [42] rfl HX)
        clear HX
        ((try clear hF); refine hfI ?_; intro hF)
        go_wp2_with (first | (refine hab ?_; (try clear hF); clear hS; intro wk hS; (try simp only [List.set_cons_zero, List.set_cons_succ, heap_size, heap_set_size] at hS); ((try clear hF); refine hfI ?_; intro hF)) | (go_at_call 132; (with_reducible refine (HPX.out _ _).mono ?_); rintro e wk ⟨rfl, hX⟩; replace hS := hS.step hX; clear hX; ((try clear hF); refine hfI ?_; intro hF)))
        · go_ret2
          exact ⟨by rw [HT.out.1 (by assumption)]; rfl, hS.ext⟩
        · go_roundw
          case rel => exact ⟨10, by go_num, by omega, by omega, Lib.hid (HT.out.2 (by assumption)), hS⟩
          case measure => simp [intOf]
      · ((try clear hF); refine hfI ?_; intro hF)
        go_wp2_with (first | (refine hab ?_; (try clear hF); clear hS; intro wk hS; (try simp only [List.set_cons_zero, List.set_cons_succ, heap_size, heap_set_size] at hS); ((try clear hF); refine hfI ?_; intro hF)) | fail)
        go_ret2
        exact ⟨by rw [HX.out]; rfl, hS.ext⟩
  · by_cases q0 : s[0] = 45
    · have q2 : ((s[0].toNat : Int) == 45) = true := u8e q0
      clear q0
      subst h
      go_enter Tryz.func103, Tryz.ntmps103
      go_upto_region 11 with (first | (refine hab ?_; (try clear hF); clear hS; intro wk hS; (try simp only [List.set_cons_zero, List.set_cons_succ, heap_size, heap_set_size] at hS); ((try clear hF); refine hfI ?_; intro hF)) | (go_at_call 128; (with_reducible refine (H1.out _).mono ?_); rintro e wk ⟨rfl, hX⟩; replace hS := hS.step hX; clear hX; ((try clear hF); refine hfI ?_; intro hF)) | (go_at_call 131; (with_reducible refine (H3.out _).mono ?_); rintro e wk ⟨rfl, hX⟩; replace hS := hS.step hX; clear hX; ((try clear hF); refine hfI ?_; intro hF)))
      obtain ⟨tt, fr, hmk⟩ := hM.ext hS.ext
      go_wp2_with (first | (refine hab ?_; (try clear hF); clear hS; intro wk hS; (try simp only [List.set_cons_zero, List.set_cons_succ, heap_size, heap_set_size] at hS); ((try clear hF); refine hfI ?_; intro hF)) | (with_reducible refine wpList_load_row rfl 199 _ rfl 5 rfl tt _ fr _ hmk Tryz.underlying199 rfl (by kernel_rfl) ?_))
      clear hmk
      unfold marksV
      go_loopw [47, 7] (fun i _ wr => ∃ k : Int, i = .int .i64 k ∧ 0 ≤ k ∧ k ≤ 10 ∧ Hid (X = (4, markIn (marksL.drop k.toNat) s.data.toList)) ∧ Hp w.heap.size w wr []) (fun i _ _ => 10 - (intOf i).toNat)
      case atStart => exact ⟨0, rfl, by omega, by omega, HX, hS⟩
      case round =>
        clear hS HX
        obtain ⟨k, rfl, hk0, hk, HX, hS⟩ := hrel
        obtain rfl | rfl | rfl | rfl | rfl | rfl | rfl | rfl | rfl | rfl | rfl : k = 0 ∨ k = 1 ∨ k = 2 ∨ k = 3 ∨ k = 4 ∨ k = 5 ∨ k = 6 ∨ k = 7 ∨ k = 8 ∨ k = 9 ∨ k = 10 := by omega
        · have HT := Lib.hid (STEP.out 0 [60, 62] rfl HX)
          clear HX
          ((try clear hF); refine hfI ?_; intro hF)
          go_wp2_with (first | (refine hab ?_; (try clear hF); clear hS; intro wk hS; (try simp only [List.set_cons_zero, List.set_cons_succ, heap_size, heap_set_size] at hS); ((try clear hF); refine hfI ?_; intro hF)) | (go_at_call 132; (with_reducible refine (HPX.out _ _).mono ?_); rintro e wk ⟨rfl, hX⟩; replace hS := hS.step hX; clear hX; ((try clear hF); refine hfI ?_; intro hF)))
          · go_ret2
            exact ⟨by rw [HT.out.1 (by assumption)]; rfl, hS.ext⟩
          · go_roundw
            case rel => exact ⟨1, by go_num, by omega, by omega, Lib.hid (HT.out.2 (by assumption)), hS⟩
            case measure => simp [intOf]
        · have HT := Lib.hid (STEP.out 1 [60, 61] rfl HX)
          clear HX
          ((try clear hF); refine hfI ?_; intro hF)
          go_wp2_with (first | (refine hab ?_; (try clear hF); clear hS; intro wk hS; (try simp only [List.set_cons_zero, List.set_cons_succ, heap_size, heap_set_size] at hS); ((try clear hF); refine hfI ?_; intro hF)) | (go_at_call 132; (with_reducible refine (HPX.out _ _).mono ?_); rintro e wk ⟨rfl, hX⟩; replace hS := hS.step hX; clear hX; ((try clear hF); refine hfI ?_; intro hF)))
          · go_ret2
            exact ⟨by rw [HT.out.1 (by assumption)]; rfl, hS.ext⟩
          · go_roundw
            case rel => exact ⟨2, by go_num, by omega, by omega, Lib.hid (HT.out.2 (by assumption)), hS⟩
            case measure => simp [intOf]
        · have HT := Lib.hid (STEP.out 2 [62, 61] rfl HX)
          clear HX
          ((try clear hF); refine hfI ?_; intro hF)
          go_wp2_with (first | (refine hab ?_; (try clear hF); clear hS; intro wk hS; (try simp only [List.set_cons_zero, List.set_cons_succ, heap_size, heap_set_size] at hS); ((try clear hF); refine hfI ?_; intro hF)) | (go_at_call 132; (with_reducible refine (HPX.out _ _).mono ?_); rintro e wk ⟨rfl, hX⟩; replace hS := hS.step hX; clear hX; ((try clear hF); refine hfI ?_; intro hF)))
          · go_ret2
            exact ⟨by rw [HT.out.1 (by assumption)]; rfl, hS.ext⟩
          · go_roundw
            case rel => exact ⟨3, by go_num, by omega, by omega, Lib.hid (HT.out.2 (by assumption)), hS⟩
            case measure => simp [intOf]
        · have HT := Lib.hid (STEP.out 3 [61] rfl HX)
          clear HX
          ((try clear hF); refine hfI ?_; intro hF)
          go_wp2_with (first | (refine hab ?_; (try clear hF); clear hS; intro wk hS; (try simp only [List.set_cons_zero, List.set_cons_succ, heap_size, heap_set_size] at hS); ((try clear hF); refine hfI ?_; intro hF)) | (go_at_call 132; (with_reducible refine (HPX.out _ _).mono ?_); rintro e wk ⟨rfl, hX⟩; replace hS := hS.step hX; clear hX; ((try clear hF); refine hfI ?_; intro hF)))
          · go_ret2
            exact ⟨by rw [HT.out.1 (by assumption)]; rfl, hS.ext⟩
          · go_roundw
            case rel => exact ⟨4, by go_num, by omega, by omega, Lib.hid (HT.out.2 (by assumption)), hS⟩
            case measure => simp [intOf]
        · have HT := Lib.hid (STEP.out 4 [60] rfl HX)
          clear HX
          ((try clear hF); refine hfI ?_; intro hF)
          go_wp2_with (first | (refine hab ?_; (try clear hF); clear hS; intro wk hS; (try simp only [List.set_cons_zero, List.set_cons_succ, heap_size, heap_set_size] at hS); ((try clear hF); refine hfI ?_; intro hF)) | (go_at_call 132; (with_reducible refine (HPX.out _ _).mono ?_); rintro e wk ⟨rfl, hX⟩; replace hS := hS.step hX; clear hX; ((try clear hF); refine hfI ?_; intro hF)))
          · go_ret2
            exact ⟨by rw [HT.out.1 (by assumption)]; rfl, hS.ext⟩
          · go_roundw
            case rel => exact ⟨5, by go_num, by omega, by omega, Lib.hid (HT.out.2 (by assumption)), hS⟩
            case measure => simp [intOf]
        · have HT := Lib.hid (STEP.out 5 [62] rfl HX)
          clear HX
          ((try clear hF); refine hfI ?_; intro hF)
          go_wp2_with (first | (refine hab ?_; (try clear hF); clear hS; intro wk hS; (try simp only [List.set_cons_zero, List.set_cons_succ, heap_size, heap_set_size] at hS); ((try clear hF); refine hfI ?_; intro hF)) | (go_at_call 132; (with_reducible refine (HPX.out _ _).mono ?_); rintro e wk ⟨rfl, hX⟩; replace hS := hS.step hX; clear hX; ((try clear hF); refine hfI ?_; intro hF)))
          · go_ret2
            exact ⟨by rw [HT.out.1 (by assumption)]; rfl, hS.ext⟩
          · go_roundw
            case rel => exact ⟨6, by go_num, by omega, by omega, Lib.hid (HT.out.2 (by assumption)), hS⟩
            case measure => simp [intOf]
        · have HT := Lib.hid (STEP.out 6 [40] rfl HX)
          clear HX
          ((try clear hF); refine hfI ?_; intro hF)
          go_wp2_with (first | (refine hab ?_; (try clear hF); clear hS; intro wk hS; (try simp only [List.set_cons_zero, List.set_cons_succ, heap_size, heap_set_size] at hS); ((try clear hF); refine hfI ?_; intro hF)) | (go_at_call 132; (with_reducible refine (HPX.out _ _).mono ?_); rintro e wk ⟨rfl, hX⟩; replace hS := hS.step hX; clear hX; ((try clear hF); refine hfI ?_; intro hF)))
          · go_ret2
            exact ⟨by rw [HT.out.1 (by assumption)]; rfl, hS.ext⟩
          · go_roundw
            case rel => exact ⟨7, by go_num, by omega, by omega, Lib.hid (HT.out.2 (by assumption)), hS⟩
            case measure => simp [intOf]
        · have HT := Lib.hid (STEP.out 7 [41] rfl HX)
          clear HX
          ((try clear hF); refine hfI ?_; intro hF)
          go_wp2_with (first | (refine hab ?_; (try clear hF); clear hS; intro wk hS; (try simp only [List.set_cons_zero, List.set_cons_succ, heap_size, heap_set_size] at hS); ((try clear hF); refine hfI ?_; intro hF)) | (go_at_call 132; (with_reducible refine (HPX.out _ _).mono ?_); rintro e wk ⟨rfl, hX⟩; replace hS := hS.step hX; clear hX; ((try clear hF); refine hfI ?_; intro hF)))
          · go_ret2
            exact ⟨by rw [HT.out.1 (by assumption)]; rfl, hS.ext⟩
          · go_roundw
            case rel => exact ⟨8, by go_num, by omega, by omega, Lib.hid (HT.out.2 (by assumption)), hS⟩
            case measure => simp [intOf]
        · have HT := Lib.hid (STEP.out 8 [44] rfl HX)
          clear HX
          ((try clear hF); refine hfI ?_; intro hF)
          go_wp2_with (first | (refine hab ?_; (try clear hF); clear hS; intro wk hS; (try simp only [List.set_cons_zero, List.set_cons_succ, heap_size, heap_set_size] at hS); ((try clear hF); refine hfI ?_; intro hF)) | (go_at_call 132; (with_reducible refine (HPX.out _ _).mono ?_); rintro e wk ⟨rfl, hX⟩; replace hS := hS.step hX; clear hX; ((try clear hF); refine hfI ?_; intro hF)))
          · go_ret2
            exact ⟨by rw [HT.out.1 (by assumption)]; rfl, hS.ext⟩
          · go_roundw
            case rel => exact ⟨9, by go_num, by omega, by omega, Lib.hid (HT.out.2 (by assumption)), hS⟩
            case measure => simp [intOf]
        · have HT := Lib.hid (STEP.out 9 [42] rfl HX)
          clear HX
          ((try clear hF); refine hfI ?_; intro hF)
          go_wp2_with (first | (refine hab ?_; (try clear hF); clear hS; intro wk hS; (try simp only [List.set_cons_zero, List.set_cons_succ, heap_size, heap_set_size] at hS); ((try clear hF); refine hfI ?_; intro hF)) | (go_at_call 132; (with_reducible refine (HPX.out _ _).mono ?_); rintro e wk ⟨rfl, hX⟩; replace hS := hS.step hX; clear hX; ((try clear hF); refine hfI ?_; intro hF)))
          · go_ret2
            exact ⟨by rw [HT.out.1 (by assumption)]; rfl, hS.ext⟩
          · go_roundw
            case rel => exact ⟨10, by go_num, by omega, by omega, Lib.hid (HT.out.2 (by assumption)), hS⟩
            case measure => simp [intOf]
        · ((try clear hF); refine hfI ?_; intro hF)
          go_wp2_with (first | (refine hab ?_; (try clear hF); clear hS; intro wk hS; (try simp only [List.set_cons_zero, List.set_cons_succ, heap_size, heap_set_size] at hS); ((try clear hF); refine hfI ?_; intro hF)) | fail)
          go_ret2
          exact ⟨by rw [HX.out]; rfl, hS.ext⟩
    · have q2 : ((s[0].toNat : Int) == 45) = false := u8n (b := 45) q0
      clear q0
      go_enter Tryz.func103, Tryz.ntmps103
      go_upto_region 11 with (first | (refine hab ?_; (try clear hF); clear hS; intro wk hS; (try simp only [List.set_cons_zero, List.set_cons_succ, heap_size, heap_set_size] at hS); ((try clear hF); refine hfI ?_; intro hF)) | (go_at_call 128; (with_reducible refine (H1.out _).mono ?_); rintro e wk ⟨rfl, hX⟩; replace hS := hS.step hX; clear hX; ((try clear hF); refine hfI ?_; intro hF)) | (go_at_call 131; (with_reducible refine (H3.out _).mono ?_); rintro e wk ⟨rfl, hX⟩; replace hS := hS.step hX; clear hX; ((try clear hF); refine hfI ?_; intro hF)))
      obtain ⟨tt, fr, hmk⟩ := hM.ext hS.ext
      go_wp2_with (first | (refine hab ?_; (try clear hF); clear hS; intro wk hS; (try simp only [List.set_cons_zero, List.set_cons_succ, heap_size, heap_set_size] at hS); ((try clear hF); refine hfI ?_; intro hF)) | (with_reducible refine wpList_load_row rfl 199 _ rfl 5 rfl tt _ fr _ hmk Tryz.underlying199 rfl (by kernel_rfl) ?_))
      clear hmk
      unfold marksV
      go_loopw [47, 7] (fun i _ wr => ∃ k : Int, i = .int .i64 k ∧ 0 ≤ k ∧ k ≤ 10 ∧ Hid (X = (4, markIn (marksL.drop k.toNat) s.data.toList)) ∧ Hp w.heap.size w wr []) (fun i _ _ => 10 - (intOf i).toNat)
      case atStart => exact ⟨0, rfl, by omega, by omega, HX, hS⟩
      case round =>
        clear hS HX
        obtain ⟨k, rfl, hk0, hk, HX, hS⟩ := hrel
        obtain rfl | rfl | rfl | rfl | rfl | rfl | rfl | rfl | rfl | rfl | rfl : k = 0 ∨ k = 1 ∨ k = 2 ∨ k = 3 ∨ k = 4 ∨ k = 5 ∨ k = 6 ∨ k = 7 ∨ k = 8 ∨ k = 9 ∨ k = 10 := by omega
        · have HT := Lib.hid (STEP.out 0 [60, 62] rfl HX)
          clear HX
          ((try clear hF); refine hfI ?_; intro hF)
          go_wp2_with (first | (refine hab ?_; (try clear hF); clear hS; intro wk hS; (try simp only [List.set_cons_zero, List.set_cons_succ, heap_size, heap_set_size] at hS); ((try clear hF); refine hfI ?_; intro hF)) | (go_at_call 132; (with_reducible refine (HPX.out _ _).mono ?_); rintro e wk ⟨rfl, hX⟩; replace hS := hS.step hX; clear hX; ((try clear hF); refine hfI ?_; intro hF)))
          · go_ret2
            exact ⟨by rw [HT.out.1 (by assumption)]; rfl, hS.ext⟩
          · go_roundw
            case rel => exact ⟨1, by go_num, by omega, by omega, Lib.hid (HT.out.2 (by assumption)), hS⟩
            case measure => simp [intOf]
        · have HT := Lib.hid (STEP.out 1 [60, 61] rfl HX)
          clear HX
          ((try clear hF); refine hfI ?_; intro hF)
          go_wp2_with (first | (refine hab ?_; (try clear hF); clear hS; intro wk hS; (try simp only [List.set_cons_zero, List.set_cons_succ, heap_size, heap_set_size] at hS); ((try clear hF); refine hfI ?_; intro hF)) | (go_at_call 132; (with_reducible refine (HPX.out _ _).mono ?_); rintro e wk ⟨rfl, hX⟩; replace hS := hS.step hX; clear hX; ((try clear hF); refine hfI ?_; intro hF)))
          · go_ret2
            exact ⟨by rw [HT.out.1 (by assumption)]; rfl, hS.ext⟩
          · go_roundw
            case rel => exact ⟨2, by go_num, by omega, by omega, Lib.hid (HT.out.2 (by assumption)), hS⟩
            case measure => simp [intOf]
        · have HT := Lib.hid (STEP.out 2 [62, 61] rfl HX)
          clear HX
          ((try clear hF); refine hfI ?_; intro hF)
          go_wp2_with (first | (refine hab ?_; (try clear hF); clear hS; intro wk hS; (try simp only [List.set_cons_zero, List.set_cons_succ, heap_size, heap_set_size] at hS); ((try clear hF); refine hfI ?_; intro hF)) | (go_at_call 132; (with_reducible refine (HPX.out _ _).mono ?_); rintro e wk ⟨rfl, hX⟩; replace hS := hS.step hX; clear hX; ((try clear hF); refine hfI ?_; intro hF)))
          · go_ret2
            exact ⟨by rw [HT.out.1 (by assumption)]; rfl, hS.ext⟩
          · go_roundw
            case rel => exact ⟨3, by go_num, by omega, by omega, Lib.hid (HT.out.2 (by assumption)), hS⟩
            case measure => simp [intOf]
        · have HT := Lib.hid (STEP.out 3 [61] rfl HX)
          clear HX
          ((try clear hF); refine hfI ?_; intro hF)
          go_wp2_with (first | (refine hab ?_; (try clear hF); clear hS; intro wk hS; (try simp only [List.set_cons_zero, List.set_cons_succ, heap_size, heap_set_size] at hS); ((try clear hF); refine hfI ?_; intro hF)) | (go_at_call 132; (with_reducible refine (HPX.out _ _).mono ?_); rintro e wk ⟨rfl, hX⟩; replace hS := hS.step hX; clear hX; ((try clear hF); refine hfI ?_; intro hF)))
          · go_ret2
            exact ⟨by rw [HT.out.1 (by assumption)]; rfl, hS.ext⟩
          · go_roundw
            case rel => exact ⟨4, by go_num, by omega, by omega, Lib.hid (HT.out.2 (by assumption)), hS⟩
            case measure => simp [intOf]
        · have HT := Lib.hid (STEP.out 4 [60] rfl HX)
          clear HX
          ((try clear hF); refine hfI ?_; intro hF)
          go_wp2_with (first | (refine hab ?_; (try clear hF); clear hS; intro wk hS; (try simp only [List.set_cons_zero, List.set_cons_succ, heap_size, heap_set_size] at hS); ((try clear hF); refine hfI ?_; intro hF)) | (go_at_call 132; (with_reducible refine (HPX.out _ _).mono ?_); rintro e wk ⟨rfl, hX⟩; replace hS := hS.step hX; clear hX; ((try clear hF); refine hfI ?_; intro hF)))
          · go_ret2
            exact ⟨by rw [HT.out.1 (by assumption)]; rfl, hS.ext⟩
          · go_roundw
            case rel => exact ⟨5, by go_num, by omega, by omega, Lib.hid (HT.out.2 (by assumption)), hS⟩
            case measure => simp [intOf]
        · have HT := Lib.hid (STEP.out 5 [62] rfl HX)
          clear HX
          ((try clear hF); refine hfI ?_; intro hF)
          go_wp2_with (first | (refine hab ?_; (try clear hF); clear hS; intro wk hS; (try simp only [List.set_cons_zero, List.set_cons_succ, heap_size, heap_set_size] at hS); ((try clear hF); refine hfI ?_; intro hF)) | (go_at_call 132; (with_reducible refine (HPX.out _ _).mono ?_); rintro e wk ⟨rfl, hX⟩; replace hS := hS.step hX; clear hX; ((try clear hF); refine hfI ?_; intro hF)))
          · go_ret2
            exact ⟨by rw [HT.out.1 (by assumption)]; rfl, hS.ext⟩
          · go_roundw
            case rel => exact ⟨6, by go_num, by omega, by omega, Lib.hid (HT.out.2 (by assumption)), hS⟩
            case measure => simp [intOf]
        · have HT := Lib.hid (STEP.out 6 [40] rfl HX)
          clear HX
          ((try clear hF); refine hfI ?_; intro hF)
          go_wp2_with (first | (refine hab ?_; (try clear hF); clear hS; intro wk hS; (try simp only [List.set_cons_zero, List.set_cons_succ, heap_size, heap_set_size] at hS); ((try clear hF); refine hfI ?_; intro hF)) | (go_at_call 132; (with_reducible refine (HPX.out _ _).mono ?_); rintro e wk ⟨rfl, hX⟩; replace hS := hS.step hX; clear hX; ((try clear hF); refine hfI ?_; intro hF)))
          · go_ret2
            exact ⟨by rw [HT.out.1 (by assumption)]; rfl, hS.ext⟩
          · go_roundw
            case rel => exact ⟨7, by go_num, by omega, by omega, Lib.hid (HT.out.2 (by assumption)), hS⟩
            case measure => simp [intOf]
        · have HT := Lib.hid (STEP.out 7 [41] rfl HX)
          clear HX
          ((try clear hF); refine hfI ?_; intro hF)
          go_wp2_with (first | (refine hab ?_; (try clear hF); clear hS; intro wk hS; (try simp only [List.set_cons_zero, List.set_cons_succ, heap_size, heap_set_size] at hS); ((try clear hF); refine hfI ?_; intro hF)) | (go_at_call 132; (with_reducible refine (HPX.out _ _).mono ?_); rintro e wk ⟨rfl, hX⟩; replace hS := hS.step hX; clear hX; ((try clear hF); refine hfI ?_; intro hF)))
          · go_ret2
            exact ⟨by rw [HT.out.1 (by assumption)]; rfl, hS.ext⟩
          · go_roundw
            case rel => exact ⟨8, by go_num, by omega, by omega, Lib.hid (HT.out.2 (by assumption)), hS⟩
            case measure => simp [intOf]
        · have HT := Lib.hid (STEP.out 8 [44] rfl HX)
          clear HX
          ((try clear hF); refine hfI ?_; intro hF)
          go_wp2_with (first | (refine hab ?_; (try clear hF); clear hS; intro wk hS; (try simp only [List.set_cons_zero, List.set_cons_succ, heap_size, heap_set_size] at hS); ((try clear hF); refine hfI ?_; intro hF)) | (go_at_call 132; (with_reducible refine (HPX.out _ _).mono ?_); rintro e wk ⟨rfl, hX⟩; replace hS := hS.step hX; clear hX; ((try clear hF); refine hfI ?_; intro hF)))
          · go_ret2
            exact ⟨by rw [HT.out.1 (by assumption)]; rfl, hS.ext⟩
          · go_roundw
            case rel => exact ⟨9, by go_num, by omega, by omega, Lib.hid (HT.out.2 (by assumption)), hS⟩
            case measure => simp [intOf]
        · have HT := Lib.hid (STEP.out 9 [42] rfl HX)
          clear HX
          ((try clear hF); refine hfI ?_; intro hF)
          go_wp2_with (first | (refine hab ?_; (try clear hF); clear hS; intro wk hS; (try simp only [List.set_cons_zero, List.set_cons_succ, heap_size, heap_set_size] at hS); ((try clear hF); refine hfI ?_; intro hF)) | (go_at_call 132; (with_reducible refine (HPX.out _ _).mono ?_); rintro e wk ⟨rfl, hX⟩; replace hS := hS.step hX; clear hX; ((try clear hF); refine hfI ?_; intro hF)))
          · go_ret2
            exact ⟨by rw [HT.out.1 (by assumption)]; rfl, hS.ext⟩
          · go_roundw
            case rel => exact ⟨10, by go_num, by omega, by omega, Lib.hid (HT.out.2 (by assumption)), hS⟩
            case measure => simp [intOf]
        · ((try clear hF); refine hfI ?_; intro hF)
          go_wp2_with (first | (refine hab ?_; (try clear hF); clear hS; intro wk hS; (try simp only [List.set_cons_zero, List.set_cons_succ, heap_size, heap_set_size] at hS); ((try clear hF); refine hfI ?_; intro hF)) | fail)
          go_ret2
          exact ⟨by rw [HX.out]; rfl, hS.ext⟩
  · have H4 := Lib.hid (fun W => digit_any s[1] W)
    rw [hd1] at H4
    clear hd1
    by_cases q0 : s[0] = 45
    · have q2 : ((s[0].toNat : Int) == 45) = true := u8e q0
      clear q0
      have hm1 : 1 < m := by omega
      go_enter Tryz.func103, Tryz.ntmps103
      go_upto_region 11 with (first | (refine hab ?_; (try clear hF); clear hS; intro wk hS; (try simp only [List.set_cons_zero, List.set_cons_succ, heap_size, heap_set_size] at hS); ((try clear hF); refine hfI ?_; intro hF)) | (go_at_call 128; (with_reducible refine (H1.out _).mono ?_); rintro e wk ⟨rfl, hX⟩; replace hS := hS.step hX; clear hX; ((try clear hF); refine hfI ?_; intro hF)) | (go_at_call 131; (with_reducible refine (H3.out _).mono ?_); rintro e wk ⟨rfl, hX⟩; replace hS := hS.step hX; clear hX; ((try clear hF); refine hfI ?_; intro hF)) | (go_at_call 131; (with_reducible refine (H4.out _).mono ?_); rintro e wk ⟨rfl, hX⟩; replace hS := hS.step hX; clear hX; ((try clear hF); refine hfI ?_; intro hF)))
      obtain ⟨tt, fr, hmk⟩ := hM.ext hS.ext
      go_wp2_with (first | (refine hab ?_; (try clear hF); clear hS; intro wk hS; (try simp only [List.set_cons_zero, List.set_cons_succ, heap_size, heap_set_size] at hS); ((try clear hF); refine hfI ?_; intro hF)) | (with_reducible refine wpList_load_row rfl 199 _ rfl 5 rfl tt _ fr _ hmk Tryz.underlying199 rfl (by kernel_rfl) ?_))
      clear hmk
      unfold marksV
      go_loopw [47, 7] (fun i _ wr => ∃ k : Int, i = .int .i64 k ∧ 0 ≤ k ∧ k ≤ 10 ∧ Hid (X = (4, markIn (marksL.drop k.toNat) s.data.toList)) ∧ Hp w.heap.size w wr []) (fun i _ _ => 10 - (intOf i).toNat)
      case atStart => exact ⟨0, rfl, by omega, by omega, HX, hS⟩
      case round =>
        clear hS HX
        obtain ⟨k, rfl, hk0, hk, HX, hS⟩ := hrel
        obtain rfl | rfl | rfl | rfl | rfl | rfl | rfl | rfl | rfl | rfl | rfl : k = 0 ∨ k = 1 ∨ k = 2 ∨ k = 3 ∨ k = 4 ∨ k = 5 ∨ k = 6 ∨ k = 7 ∨ k = 8 ∨ k = 9 ∨ k = 10 := by omega
        · have HT := Lib.hid (STEP.out 0 [60, 62] rfl HX)
          clear HX
          ((try clear hF); refine hfI ?_; intro hF)
          go_wp2_with (first | (refine hab ?_; (try clear hF); clear hS; intro wk hS; (try simp only [List.set_cons_zero, List.set_cons_succ, heap_size, heap_set_size] at hS); ((try clear hF); refine hfI ?_; intro hF)) | (go_at_call 132; (with_reducible refine (HPX.out _ _).mono ?_); rintro e wk ⟨rfl, hX⟩; replace hS := hS.step hX; clear hX; ((try clear hF); refine hfI ?_; intro hF)))
          · go_ret2
            exact ⟨by rw [HT.out.1 (by assumption)]; rfl, hS.ext⟩
          · go_roundw
            case rel => exact ⟨1, by go_num, by omega, by omega, Lib.hid (HT.out.2 (by assumption)), hS⟩
            case measure => simp [intOf]
        · have HT := Lib.hid (STEP.out 1 [60, 61] rfl HX)
          clear HX
          ((try clear hF); refine hfI ?_; intro hF)
          go_wp2_with (first | (refine hab ?_; (try clear hF); clear hS; intro wk hS; (try simp only [List.set_cons_zero, List.set_cons_succ, heap_size, heap_set_size] at hS); ((try clear hF); refine hfI ?_; intro hF)) | (go_at_call 132; (with_reducible refine (HPX.out _ _).mono ?_); rintro e wk ⟨rfl, hX⟩; replace hS := hS.step hX; clear hX; ((try clear hF); refine hfI ?_; intro hF)))
          · go_ret2
            exact ⟨by rw [HT.out.1 (by assumption)]; rfl, hS.ext⟩
          · go_roundw
            case rel => exact ⟨2, by go_num, by omega, by omega, Lib.hid (HT.out.2 (by assumption)), hS⟩
            case measure => simp [intOf]
        · have HT := Lib.hid (STEP.out 2 [62, 61] rfl HX)
          clear HX
          ((try clear hF); refine hfI ?_; intro hF)
          go_wp2_with (first | (refine hab ?_; (try clear hF); clear hS; intro wk hS; (try simp only [List.set_cons_zero, List.set_cons_succ, heap_size, heap_set_size] at hS); ((try clear hF); refine hfI ?_; intro hF)) | (go_at_call 132; (with_reducible refine (HPX.out _ _).mono ?_); rintro e wk ⟨rfl, hX⟩; replace hS := hS.step hX; clear hX; ((try clear hF); refine hfI ?_; intro hF)))
          · go_ret2
            exact ⟨by rw [HT.out.1 (by assumption)]; rfl, hS.ext⟩
          · go_roundw
            case rel => exact ⟨3, by go_num, by omega, by omega, Lib.hid (HT.out.2 (by assumption)), hS⟩
            case measure => simp [intOf]
        · have HT := Lib.hid (STEP.out 3 [61] rfl HX)
          clear HX
          ((try clear hF); refine hfI ?_; intro hF)
          go_wp2_with (first | (refine hab ?_; (try clear hF); clear hS; intro wk hS; (try simp only [List.set_cons_zero, List.set_cons_succ, heap_size, heap_set_size] at hS); ((try clear hF); refine hfI ?_; intro hF)) | (go_at_call 132; (with_reducible refine (HPX.out _ _).mono ?_); rintro e wk ⟨rfl, hX⟩; replace hS := hS.step hX; clear hX; ((try clear hF); refine hfI ?_; intro hF)))
          · go_ret2
            exact ⟨by rw [HT.out.1 (by assumption)]; rfl, hS.ext⟩
          · go_roundw
            case rel => exact ⟨4, by go_num, by omega, by omega, Lib.hid (HT.out.2 (by assumption)), hS⟩
            case measure => simp [intOf]
        · have HT := Lib.hid (STEP.out 4 [60] rfl HX)
          clear HX
          ((try clear hF); refine hfI ?_; intro hF)
          go_wp2_with (first | (refine hab ?_; (try clear hF); clear hS; intro wk hS; (try simp only [List.set_cons_zero, List.set_cons_succ, heap_size, heap_set_size] at hS); ((try clear hF); refine hfI ?_; intro hF)) | (go_at_call 132; (with_reducible refine (HPX.out _ _).mono ?_); rintro e wk ⟨rfl, hX⟩; replace hS := hS.step hX; clear hX; ((try clear hF); refine hfI ?_; intro hF)))
          · go_ret2
            exact ⟨by rw [HT.out.1 (by assumption)]; rfl, hS.ext⟩
          · go_roundw
            case rel => exact ⟨5, by go_num, by omega, by omega, Lib.hid (HT.out.2 (by assumption)), hS⟩
            case measure => simp [intOf]
        · have HT := Lib.hid (STEP.out 5 [62] rfl HX)
          clear HX
          ((try clear hF); refine hfI ?_; intro hF)
          go_wp2_with (first | (refine hab ?_; (try clear hF); clear hS; intro wk hS; (try simp only [List.set_cons_zero, List.set_cons_succ, heap_size, heap_set_size] at hS); ((try clear hF); refine hfI ?_; intro hF)) | (go_at_call 132; (with_reducible refine (HPX.out _ _).mono ?_); rintro e wk ⟨rfl, hX⟩; replace hS := hS.step hX; clear hX; ((try clear hF); refine hfI ?_; intro hF)))
          · go_ret2
            exact ⟨by rw [HT.out.1 (by assumption)]; rfl, hS.ext⟩
          · go_roundw
            case rel => exact ⟨6, by go_num, by omega, by omega, Lib.hid (HT.out.2 (by assumption)), hS⟩
            case measure => simp [intOf]
        · have HT := Lib.hid (STEP.out 6 [40] rfl HX)
          clear HX
          ((try clear hF); refine hfI ?_; intro hF)
          go_wp2_with (first | (refine hab ?_; (try clear hF); clear hS; intro wk hS; (try simp only [List.set_cons_zero, List.set_cons_succ, heap_size, heap_set_size] at hS); ((try clear hF); refine hfI ?_; intro hF)) | (go_at_call 132; (with_reducible refine (HPX.out _ _).mono ?_); rintro e wk ⟨rfl, hX⟩; replace hS := hS.step hX; clear hX; ((try clear hF); refine hfI ?_; intro hF)))
          · go_ret2
            exact ⟨by rw [HT.out.1 (by assumption)]; rfl, hS.ext⟩
          · go_roundw
            case rel => exact ⟨7, by go_num, by omega, by omega, Lib.hid (HT.out.2 (by assumption)), hS⟩
            case measure => simp [intOf]
        · have HT := Lib.hid (STEP.out 7 [41] rfl HX)
          clear HX
          ((try clear hF); refine hfI ?_; intro hF)
          go_wp2_with (first | (refine hab ?_; (try clear hF); clear hS; intro wk hS; (try simp only [List.set_cons_zero, List.set_cons_succ, heap_size, heap_set_size] at hS); ((try clear hF); refine hfI ?_; intro hF)) | (go_at_call 132; (with_reducible refine (HPX.out _ _).mono ?_); rintro e wk ⟨rfl, hX⟩; replace hS := hS.step hX; clear hX; ((try clear hF); refine hfI ?_; intro hF)))
          · go_ret2
            exact ⟨by rw [HT.out.1 (by assumption)]; rfl, hS.ext⟩
          · go_roundw
            case rel => exact ⟨8, by go_num, by omega, by omega, Lib.hid (HT.out.2 (by assumption)), hS⟩
            case measure => simp [intOf]
        · have HT := Lib.hid (STEP.out 8 [44] rfl HX)
          clear HX
          ((try clear hF); refine hfI ?_; intro hF)
          go_wp2_with (first | (refine hab ?_; (try clear hF); clear hS; intro wk hS; (try simp only [List.set_cons_zero, List.set_cons_succ, heap_size, heap_set_size] at hS); ((try clear hF); refine hfI ?_; intro hF)) | (go_at_call 132; (with_reducible refine (HPX.out _ _).mono ?_); rintro e wk ⟨rfl, hX⟩; replace hS := hS.step hX; clear hX; ((try clear hF); refine hfI ?_; intro hF)))
          · go_ret2
            exact ⟨by rw [HT.out.1 (by assumption)]; rfl, hS.ext⟩
          · go_roundw
            case rel => exact ⟨9, by go_num, by omega, by omega, Lib.hid (HT.out.2 (by assumption)), hS⟩
            case measure => simp [intOf]
        · have HT := Lib.hid (STEP.out 9 [42] rfl HX)
          clear HX
          ((try clear hF); refine hfI ?_; intro hF)
          go_wp2_with (first | (refine hab ?_; (try clear hF); clear hS; intro wk hS; (try simp only [List.set_cons_zero, List.set_cons_succ, heap_size, heap_set_size] at hS); ((try clear hF); refine hfI ?_; intro hF)) | (go_at_call 132; (with_reducible refine (HPX.out _ _).mono ?_); rintro e wk ⟨rfl, hX⟩; replace hS := hS.step hX; clear hX; ((try clear hF); refine hfI ?_; intro hF)))
          · go_ret2
            exact ⟨by rw [HT.out.1 (by assumption)]; rfl, hS.ext⟩
          · go_roundw
            case rel => exact ⟨10, by go_num, by omega, by omega, Lib.hid (HT.out.2 (by assumption)), hS⟩
            case measure => simp [intOf]
        · ((try clear hF); refine hfI ?_; intro hF)
          go_wp2_with (first | (refine hab ?_; (try clear hF); clear hS; intro wk hS; (try simp only [List.set_cons_zero, List.set_cons_succ, heap_size, heap_set_size] at hS); ((try clear hF); refine hfI ?_; intro hF)) | fail)
          go_ret2
          exact ⟨by rw [HX.out]; rfl, hS.ext⟩
    · have q2 : ((s[0].toNat : Int) == 45) = false := u8n (b := 45) q0
      clear q0
      go_enter Tryz.func103, Tryz.ntmps103
      go_upto_region 11 with (first | (refine hab ?_; (try clear hF); clear hS; intro wk hS; (try simp only [List.set_cons_zero, List.set_cons_succ, heap_size, heap_set_size] at hS); ((try clear hF); refine hfI ?_; intro hF)) | (go_at_call 128; (with_reducible refine (H1.out _).mono ?_); rintro e wk ⟨rfl, hX⟩; replace hS := hS.step hX; clear hX; ((try clear hF); refine hfI ?_; intro hF)) | (go_at_call 131; (with_reducible refine (H3.out _).mono ?_); rintro e wk ⟨rfl, hX⟩; replace hS := hS.step hX; clear hX; ((try clear hF); refine hfI ?_; intro hF)))
      obtain ⟨tt, fr, hmk⟩ := hM.ext hS.ext
      go_wp2_with (first | (refine hab ?_; (try clear hF); clear hS; intro wk hS; (try simp only [List.set_cons_zero, List.set_cons_succ, heap_size, heap_set_size] at hS); ((try clear hF); refine hfI ?_; intro hF)) | (with_reducible refine wpList_load_row rfl 199 _ rfl 5 rfl tt _ fr _ hmk Tryz.underlying199 rfl (by kernel_rfl) ?_))
      clear hmk
      unfold marksV
      go_loopw [47, 7] (fun i _ wr => ∃ k : Int, i = .int .i64 k ∧ 0 ≤ k ∧ k ≤ 10 ∧ Hid (X = (4, markIn (marksL.drop k.toNat) s.data.toList)) ∧ Hp w.heap.size w wr []) (fun i _ _ => 10 - (intOf i).toNat)
      case atStart => exact ⟨0, rfl, by omega, by omega, HX, hS⟩
      case round =>
        clear hS HX
        obtain ⟨k, rfl, hk0, hk, HX, hS⟩ := hrel
        obtain rfl | rfl | rfl | rfl | rfl | rfl | rfl | rfl | rfl | rfl | rfl : k = 0 ∨ k = 1 ∨ k = 2 ∨ k = 3 ∨ k = 4 ∨ k = 5 ∨ k = 6 ∨ k = 7 ∨ k = 8 ∨ k = 9 ∨ k = 10 := by omega
        · have HT := Lib.hid (STEP.out 0 [60, 62] rfl HX)
          clear HX
          ((try clear hF); refine hfI ?_; intro hF)
          go_wp2_with (first | (refine hab ?_; (try clear hF); clear hS; intro wk hS; (try simp only [List.set_cons_zero, List.set_cons_succ, heap_size, heap_set_size] at hS); ((try clear hF); refine hfI ?_; intro hF)) | (go_at_call 132; (with_reducible refine (HPX.out _ _).mono ?_); rintro e wk ⟨rfl, hX⟩; replace hS := hS.step hX; clear hX; ((try clear hF); refine hfI ?_; intro hF)))
          · go_ret2
            exact ⟨by rw [HT.out.1 (by assumption)]; rfl, hS.ext⟩
          · go_roundw
            case rel => exact ⟨1, by go_num, by omega, by omega, Lib.hid (HT.out.2 (by assumption)), hS⟩
            case measure => simp [intOf]
        · have HT := Lib.hid (STEP.out 1 [60, 61] rfl HX)
          clear HX
          ((try clear hF); refine hfI ?_; intro hF)
          go_wp2_with (first | (refine hab ?_; (try clear hF); clear hS; intro wk hS; (try simp only [List.set_cons_zero, List.set_cons_succ, heap_size, heap_set_size] at hS); ((try clear hF); refine hfI ?_; intro hF)) | (go_at_call 132; (with_reducible refine (HPX.out _ _).mono ?_); rintro e wk ⟨rfl, hX⟩; replace hS := hS.step hX; clear hX; ((try clear hF); refine hfI ?_; intro hF)))
          · go_ret2
            exact ⟨by rw [HT.out.1 (by assumption)]; rfl, hS.ext⟩
          · go_roundw
            case rel => exact ⟨2, by go_num, by omega, by omega, Lib.hid (HT.out.2 (by assumption)), hS⟩
            case measure => simp [intOf]
        · have HT := Lib.hid (STEP.out 2 [62, 61] rfl HX)
          clear HX
          ((try clear hF); refine hfI ?_; intro hF)
          go_wp2_with (first | (refine hab ?_; (try clear hF); clear hS; intro wk hS; (try simp only [List.set_cons_zero, List.set_cons_succ, heap_size, heap_set_size] at hS); ((try clear hF); refine hfI ?_; intro hF)) | (go_at_call 132; (with_reducible refine (HPX.out _ _).mono ?_); rintro e wk ⟨rfl, hX⟩; replace hS := hS.step hX; clear hX; ((try clear hF); refine hfI ?_; intro hF)))
          · go_ret2
            exact ⟨by rw [HT.out.1 (by assumption)]; rfl, hS.ext⟩
          · go_roundw
            case rel => exact ⟨3, by go_num, by omega, by omega, Lib.hid (HT.out.2 (by assumption)), hS⟩
            case measure => simp [intOf]
        · have HT := Lib.hid (STEP.out 3 [61] rfl HX)
          clear HX
          ((try clear hF); refine hfI ?_; intro hF)
          go_wp2_with (first | (refine hab ?_; (try clear hF); clear hS; intro wk hS; (try simp only [List.set_cons_zero, List.set_cons_succ, heap_size, heap_set_size] at hS); ((try clear hF); refine hfI ?_; intro hF)) | (go_at_call 132; (with_reducible refine (HPX.out _ _).mono ?_); rintro e wk ⟨rfl, hX⟩; replace hS := hS.step hX; clear hX; ((try clear hF); refine hfI ?_; intro hF)))
          · go_ret2
            exact ⟨by rw [HT.out.1 (by assumption)]; rfl, hS.ext⟩
          · go_roundw
            case rel => exact ⟨4, by go_num, by omega, by omega, Lib.hid (HT.out.2 (by assumption)), hS⟩
            case measure => simp [intOf]
        · have HT := Lib.hid (STEP.out 4 [60] rfl HX)
          clear HX
          ((try clear hF); refine hfI ?_; intro hF)
          go_wp2_with (first | (refine hab ?_; (try clear hF); clear hS; intro wk hS; (try simp only [List.set_cons_zero, List.set_cons_succ, heap_size, heap_set_size] at hS); ((try clear hF); refine hfI ?_; intro hF)) | (go_at_call 132; (with_reducible refine (HPX.out _ _).mono ?_); rintro e wk ⟨rfl, hX⟩; replace hS := hS.step hX; clear hX; ((try clear hF); refine hfI ?_; intro hF)))
          · go_ret2
            exact ⟨by rw [HT.out.1 (by assumption)]; rfl, hS.ext⟩
          · go_roundw
            case rel => exact ⟨5, by go_num, by omega, by omega, Lib.hid (HT.out.2 (by assumption)), hS⟩
            case measure => simp [intOf]
        · have HT := Lib.hid (STEP.out 5 [62] rfl HX)
          clear HX
          ((try clear hF); refine hfI ?_; intro hF)
          go_wp2_with (first | (refine hab ?_; (try clear hF); clear hS; intro wk hS; (try simp only [List.set_cons_zero, List.set_cons_succ, heap_size, heap_set_size] at hS); ((try clear hF); refine hfI ?_; intro hF)) | (go_at_call 132; (with_reducible refine (HPX.out _ _).mono ?_); rintro e wk ⟨rfl, hX⟩; replace hS := hS.step hX; clear hX; ((try clear hF); refine hfI ?_; intro hF)))
          · go_ret2
            exact ⟨by rw [HT.out.1 (by assumption)]; rfl, hS.ext⟩
          · go_roundw
            case rel => exact ⟨6, by go_num, by omega, by omega, Lib.hid (HT.out.2 (by assumption)), hS⟩
            case measure => simp [intOf]
        · have HT := Lib.hid (STEP.out 6 [40] rfl HX)
          clear HX
          ((try clear hF); refine hfI ?_; intro hF)
          go_wp2_with (first | (refine hab ?_; (try clear hF); clear hS; intro wk hS; (try simp only [List.set_cons_zero, List.set_cons_succ, heap_size, heap_set_size] at hS); ((try clear hF); refine hfI ?_; intro hF)) | (go_at_call 132; (with_reducible refine (HPX.out _ _).mono ?_); rintro e wk ⟨rfl, hX⟩; replace hS := hS.step hX; clear hX; ((try clear hF); refine hfI ?_; intro hF)))
          · go_ret2
            exact ⟨by rw [HT.out.1 (by assumption)]; rfl, hS.ext⟩
          · go_roundw
            case rel => exact ⟨7, by go_num, by omega, by omega, Lib.hid (HT.out.2 (by assumption)), hS⟩
            case measure => simp [intOf]
        · have HT := Lib.hid (STEP.out 7 [41] rfl HX)
          clear HX
          ((try clear hF); refine hfI ?_; intro hF)
          go_wp2_with (first | (refine hab ?_; (try clear hF); clear hS; intro wk hS; (try simp only [List.set_cons_zero, List.set_cons_succ, heap_size, heap_set_size] at hS); ((try clear hF); refine hfI ?_; intro hF)) | (go_at_call 132; (with_reducible refine (HPX.out _ _).mono ?_); rintro e wk ⟨rfl, hX⟩; replace hS := hS.step hX; clear hX; ((try clear hF); refine hfI ?_; intro hF)))
          · go_ret2
            exact ⟨by rw [HT.out.1 (by assumption)]; rfl, hS.ext⟩
          · go_roundw
            case rel => exact ⟨8, by go_num, by omega, by omega, Lib.hid (HT.out.2 (by assumption)), hS⟩
            case measure => simp [intOf]
        · have HT := Lib.hid (STEP.out 8 [44] rfl HX)
          clear HX
          ((try clear hF); refine hfI ?_; intro hF)
          go_wp2_with (first | (refine hab ?_; (try clear hF); clear hS; intro wk hS; (try simp only [List.set_cons_zero, List.set_cons_succ, heap_size, heap_set_size] at hS); ((try clear hF); refine hfI ?_; intro hF)) | (go_at_call 132; (with_reducible refine (HPX.out _ _).mono ?_); rintro e wk ⟨rfl, hX⟩; replace hS := hS.step hX; clear hX; ((try clear hF); refine hfI ?_; intro hF)))
          · go_ret2
            exact ⟨by rw [HT.out.1 (by assumption)]; rfl, hS.ext⟩
          · go_roundw
            case rel => exact ⟨9, by go_num, by omega, by omega, Lib.hid (HT.out.2 (by assumption)), hS⟩
            case measure => simp [intOf]
        · have HT := Lib.hid (STEP.out 9 [42] rfl HX)
          clear HX
          ((try clear hF); refine hfI ?_; intro hF)
          go_wp2_with (first | (refine hab ?_; (try clear hF); clear hS; intro wk hS; (try simp only [List.set_cons_zero, List.set_cons_succ, heap_size, heap_set_size] at hS); ((try clear hF); refine hfI ?_; intro hF)) | (go_at_call 132; (with_reducible refine (HPX.out _ _).mono ?_); rintro e wk ⟨rfl, hX⟩; replace hS := hS.step hX; clear hX; ((try clear hF); refine hfI ?_; intro hF)))
          · go_ret2
            exact ⟨by rw [HT.out.1 (by assumption)]; rfl, hS.ext⟩
          · go_roundw
            case rel => exact ⟨10, by go_num, by omega, by omega, Lib.hid (HT.out.2 (by assumption)), hS⟩
            case measure => simp [intOf]
        · ((try clear hF); refine hfI ?_; intro hF)
          go_wp2_with (first | (refine hab ?_; (try clear hF); clear hS; intro wk hS; (try simp only [List.set_cons_zero, List.set_cons_succ, heap_size, heap_set_size] at hS); ((try clear hF); refine hfI ?_; intro hF)) | fail)
          go_ret2
          exact ⟨by rw [HX.out]; rfl, hS.ext⟩
end Go.Proofs.YtlaldfkeaalnhaaGreatDoor
