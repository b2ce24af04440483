/- Texts joined: schema.Name: what it answers. schema.Name, schema.column: what they answer. Slices of columns: what their cells hold; IndexFunc, ContainsFunc, Find. schema.Right. millpondkeep.columns: they are short. slices of columns: Clone, Delete, Equal of the same. slices of a table's files (entries): what their cells hold; Clone, IndexFunc, Delete. log.masks. log.action. slices.Equal of the same columns. -/
import Derived.Test.YtlgidjanmaijaaaGreatDoorCX01
import Derived.Test.YtlgidjanmaijaaaGreatDoorCX05
import Derived.Test.YtlgidjanmaijaaaGreatDoorCX03
import Derived.Shelf.Strings.SlTrimAscii
import Derived.Test.YtlgidjanmaijaaaGreatDoorCX04
/- schema.Name: what it answers. -/
namespace Go.Proofs.YtlgidjanmaijaaaGreatDoor
set_option linter.all false
set_option linter.unusedSimpArgs false
set_option linter.unusedVariables false
open Go.RowKit
def lettersL : List UInt8 := [97, 98, 99, 100, 101, 102, 103, 104, 105, 106, 107, 108, 109, 110, 111, 112, 113, 114, 115, 116, 117, 118, 119, 120, 121, 122]
def cutL : List UInt8 := lettersL ++ [48, 49, 50, 51, 52, 53, 54, 55, 56, 57, 95]
/-- what schema.Name answers -/
def nameB (s : ByteArray) : Bool := decide (0 < s.size) && decide (s.size ≤ 16) && decide ((0 : Int) ≤ Lib.indexByte lettersL (s.data.toList.headD 0)) && (Lib.trimS s.data.toList cutL).isEmpty
theorem trim_any (s : ByteArray) (hs : s.size ≤ 1000000) (w : World) : Calls Tryz.prog 58 #[.string s, .string ⟨cutL.toArray⟩] w fun e w' => e = .returned (.string ⟨(Lib.trimS s.data.toList cutL).toArray⟩) ∧ Ext w w' :=
  Any.strings_Trim_laid Tryz.lays160 (by kernel_rfl) s ⟨cutL.toArray⟩ w (by omega) (by decide) (Go.Proofs.ascii_of_all (by decide))
set_option maxRecDepth 100000 in
set_option maxHeartbeats 8000000 in
theorem name_any (s : ByteArray) (w : World) : Calls Tryz.prog 32 #[.string s] w fun e w' => e = .returned (.bool (nameB s)) ∧ Ext w w' := by
  have hS := Hp.init w
  have hR := Reads.nil w
  by_cases h0 : s.size = 0
  · have e : nameB s = false := by unfold nameB; simp [h0]
    have hs : s = ⟨#[]⟩ := by apply ByteArray.ext; apply Array.eq_empty_of_size_eq_zero; exact h0
    rw [e]
    subst hs
    clear e h0
    go_enter Tryz.func32, Tryz.ntmps32
    go_wp2_with (first | (refine hab ?_; (try clear hF); clear hS; intro wk hS; (try simp only [List.set_cons_zero, List.set_cons_succ, heap_size, heap_set_size] at hS); ((try clear hF); refine hfI ?_; intro hF)) | fail)
    go_ret
    exact ⟨rfl, hS.ext⟩
  by_cases h16 : 16 < s.size
  · have e : nameB s = false := by unfold nameB; simp; omega
    have hne : s.toList.isEmpty = false := by
      rw [Lib.toList_data]
      cases h : s.data.toList with
      | nil => have := Lib.size_eq s; rw [h, List.length_nil] at this; omega
      | cons _ _ => rfl
    rw [e]
    clear e
    go_enter Tryz.func32, Tryz.ntmps32
    go_wp2_with (first | (refine hab ?_; (try clear hF); clear hS; intro wk hS; (try simp only [List.set_cons_zero, List.set_cons_succ, heap_size, heap_set_size] at hS); ((try clear hF); refine hfI ?_; intro hF)) | fail)
    go_ret
    exact ⟨rfl, hS.ext⟩
  have hne : s.toList.isEmpty = false := by
    rw [Lib.toList_data]
    cases h : s.data.toList with
    | nil => have := Lib.size_eq s; rw [h, List.length_nil] at this; omega
    | cons _ _ => rfl
  have hb0 : (0 : Int) < (s.size : Int) := by omega
  have hb1 : 0 < s.size := by omega
  have hd : s.data.toList.headD 0 = s[0] := by
    have e : s.data.toList[0]? = some s[0] := List.getElem?_eq_getElem (by exact hb1)
    cases h : s.data.toList with
    | nil => rw [h] at e; cases e
    | cons a l => rw [h] at e; exact Option.some.inj e
  have HI := Lib.hid (fun W => show Calls Tryz.prog 57 #[.string ⟨#[97, 98, 99, 100, 101, 102, 103, 104, 105, 106, 107, 108, 109, 110, 111, 112, 113, 114, 115, 116, 117, 118, 119, 120, 121, 122]⟩, .int .u8 (s[0].toNat : Int)] W fun e w' => e = .returned (.int .i64 (Lib.indexByte lettersL s[0])) ∧ Ext W w' from by
    refine (Tryz.strings_IndexByte ⟨lettersL.toArray⟩ (s[0].toNat : Int) W).mono fun e w' ⟨h1, h2⟩ => ⟨?_, by rw [h2]; exact Ext.refl _⟩
    rw [h1]
    congr 3
    simp)
  have HT := Lib.hid (fun W => show Calls Tryz.prog 58 #[.string s, .string ⟨#[97, 98, 99, 100, 101, 102, 103, 104, 105, 106, 107, 108, 109, 110, 111, 112, 113, 114, 115, 116, 117, 118, 119, 120, 121, 122, 48, 49, 50, 51, 52, 53, 54, 55, 56, 57, 95]⟩] W fun e w' => e = .returned (.string ⟨(Lib.trimS s.data.toList cutL).toArray⟩) ∧ Ext W w' from trim_any s (by omega) W)
  have e : nameB s = (decide ((0 : Int) ≤ Lib.indexByte lettersL s[0]) && (Lib.trimS s.data.toList cutL).isEmpty) := by
    unfold nameB
    rw [decide_eq_true hb1, decide_eq_true (by omega : s.size ≤ 16), hd]
    simp
  rw [e]
  obtain ⟨ix, hix⟩ : ∃ ix, ix = Lib.indexByte lettersL s[0] := ⟨_, rfl⟩
  obtain ⟨ts, hts⟩ : ∃ ts : ByteArray, ts = ⟨(Lib.trimS s.data.toList cutL).toArray⟩ := ⟨_, rfl⟩
  rw [← hix] at HI ⊢
  rw [← hts] at HT
  have he2 : (Lib.trimS s.data.toList cutL).isEmpty = ts.toList.isEmpty := by rw [hts, Lib.toList_data]
  rw [he2]
  clear e hix hts he2 hd
  by_cases hx : (0 : Int) ≤ ix
  · have hxd : decide ((0 : Int) ≤ ix) = true := by simp [hx]
    rw [hxd, Bool.true_and]
    clear hxd
    cases hte : ts.toList.isEmpty with
    | true =>
      go_enter Tryz.func32, Tryz.ntmps32
      go_wp2_with (first | (refine hab ?_; (try clear hF); clear hS; intro wk hS; (try simp only [List.set_cons_zero, List.set_cons_succ, heap_size, heap_set_size] at hS); ((try clear hF); refine hfI ?_; intro hF)) | (go_at_call 57; (with_reducible refine (HI.out _).mono ?_); rintro e wk ⟨rfl, hX⟩; replace hS := hS.step hX; clear hX; ((try clear hF); refine hfI ?_; intro hF)) | (go_at_call 58; (with_reducible refine (HT.out _).mono ?_); rintro e wk ⟨rfl, hX⟩; replace hS := hS.step hX; clear hX; ((try clear hF); refine hfI ?_; intro hF)))
      go_ret
      exact ⟨rfl, hS.ext⟩
    | false =>
      go_enter Tryz.func32, Tryz.ntmps32
      go_wp2_with (first | (refine hab ?_; (try clear hF); clear hS; intro wk hS; (try simp only [List.set_cons_zero, List.set_cons_succ, heap_size, heap_set_size] at hS); ((try clear hF); refine hfI ?_; intro hF)) | (go_at_call 57; (with_reducible refine (HI.out _).mono ?_); rintro e wk ⟨rfl, hX⟩; replace hS := hS.step hX; clear hX; ((try clear hF); refine hfI ?_; intro hF)) | (go_at_call 58; (with_reducible refine (HT.out _).mono ?_); rintro e wk ⟨rfl, hX⟩; replace hS := hS.step hX; clear hX; ((try clear hF); refine hfI ?_; intro hF)))
      go_ret
      exact ⟨rfl, hS.ext⟩
  · have hxd : decide ((0 : Int) ≤ ix) = false := by simp; omega
    rw [hxd, Bool.false_and]
    clear hxd
    go_enter Tryz.func32, Tryz.ntmps32
    go_wp2_with (first | (refine hab ?_; (try clear hF); clear hS; intro wk hS; (try simp only [List.set_cons_zero, List.set_cons_succ, heap_size, heap_set_size] at hS); ((try clear hF); refine hfI ?_; intro hF)) | (go_at_call 57; (with_reducible refine (HI.out _).mono ?_); rintro e wk ⟨rfl, hX⟩; replace hS := hS.step hX; clear hX; ((try clear hF); refine hfI ?_; intro hF)) | (go_at_call 58; (with_reducible refine (HT.out _).mono ?_); rintro e wk ⟨rfl, hX⟩; replace hS := hS.step hX; clear hX; ((try clear hF); refine hfI ?_; intro hF)))
    go_ret
    exact ⟨rfl, hS.ext⟩
end Go.Proofs.YtlgidjanmaijaaaGreatDoor

/- schema.Name, schema.column: what they answer. -/
namespace Go.Proofs.YtlgidjanmaijaaaGreatDoor
set_option linter.all false
set_option linter.unusedSimpArgs false
set_option linter.unusedVariables false
open Go.RowKit
/-- a column as Go has it -/
structure CG where
  id : Int
  name : ByteArray
  kind : Int
  must : Bool
  d : GV
def keptL : List ByteArray := [⟨#[97, 110, 100]⟩, ⟨#[105, 115]⟩, ⟨#[110, 111, 116]⟩, ⟨#[110, 117, 108, 108]⟩, ⟨#[111, 114]⟩]
/-- the words that are no names, in the program's variable -/
def KeptAt (w : World) : Prop := ∀ j, j < 5 → w.cell? ⟨1, j, none⟩ = some (.string (keptL.getD j ByteArray.empty))
theorem KeptAt.ext {w w' : World} (h : KeptAt w) (hx : Ext w w') : KeptAt w' := fun j hj => hx.keeps (h j hj)
def keptB (s : ByteArray) : Bool := Lib.containsS keptL s
theorem kept_any (s : ByteArray) (w : World) (h : KeptAt w) : Calls Tryz.prog 100 #[.slice (some ⟨1, 0, none⟩) 5 5, .string s] w fun e w' => e = .returned (.bool (keptB s)) ∧ Ext w w' :=
  (Tryz.slices_Contains_string 1 0 5 5 keptL s w (by decide) (by decide) (fun j hj => by rw [Nat.zero_add]; exact h j hj)).mono fun e w' ⟨h1, h2⟩ => ⟨h1, by rw [h2]; exact Ext.refl _⟩
/-- whether a column may be -/
def colB (c : CG) : Bool := nameB c.name && !keptB c.name && (c.kind == 1 || c.kind == 2) && decide (1 ≤ c.id) && rightB c.d.kind c.d.num c.d.text && (c.d.kind == 0 || c.d.kind == c.kind)
set_option maxRecDepth 100000 in
set_option maxHeartbeats 8000000 in
theorem column_any (c : CG) (w : World) (h : KeptAt w) :
    Calls Tryz.prog 65 #[.agg #[.int .i64 c.id, .string c.name, .int .i64 c.kind, .bool c.must, .int .i64 c.d.kind, .int .i64 c.d.num, .string c.d.text]] w fun e w' => e = .returned (.bool (colB c)) ∧ Ext w w' := by
  have hS := Hp.init w
  have hR := Reads.nil w
  unfold colB
  obtain ⟨nb, hnb⟩ : ∃ b, b = nameB c.name := ⟨_, rfl⟩
  obtain ⟨kb, hkb⟩ : ∃ b, b = keptB c.name := ⟨_, rfl⟩
  obtain ⟨rb, hrb⟩ : ∃ b, b = rightB c.d.kind c.d.num c.d.text := ⟨_, rfl⟩
  have HN := Lib.hid (fun W => name_any c.name W)
  have HK := Lib.hid (fun W hx => kept_any c.name W (h.ext (w' := W) hx))
  have HR := Lib.hid (fun W => right_any c.d.kind c.d.num c.d.text W)
  rw [← hnb] at HN ⊢
  rw [← hkb] at HK ⊢
  rw [← hrb] at HR ⊢
  clear hnb hkb hrb h
  cases nb with
  | false =>
    go_enter Tryz.func65, Tryz.ntmps65
    go_wp2_with (first | (refine hab ?_; (try clear hF); clear hS; intro wk hS; (try simp only [List.set_cons_zero, List.set_cons_succ, heap_size, heap_set_size] at hS); ((try clear hF); refine hfI ?_; intro hF)) | (first | (with_reducible refine wp_region_hp (draw := true) (by kernel_rfl) (by kernel_rfl) hS ?_) | ((with_reducible refine Fixed.here ?_); (first | ((with_reducible apply Fixed.skip); (first | rfl | exact wanted_false rfl rfl rfl (by assumption)); try simp only [Act.put, List.setIfInBounds_toArray, List.set_cons_zero, List.set_cons_succ]) | ((with_reducible apply Fixed.val); (first | rfl | exact wanted_true rfl rfl rfl (by assumption)); (rintro w hS; ((try clear hF); refine hfI ?_; intro hF); go_simp; with_reducible rfl); try simp only [Act.put, List.setIfInBounds_toArray, List.set_cons_zero, List.set_cons_succ]) | ((with_reducible apply Fixed.call); (first | rfl | exact wanted_true rfl rfl rfl (by assumption)); (rintro w hS; ((try clear hF); refine hfI ?_; intro hF); go_simp; exact ⟨rfl, rfl⟩); (rintro w hS; first | (with_reducible exact HN.out w) | (with_reducible exact HK.out w hS.ext) | (with_reducible exact HR.out w)); try simp only [Act.put, List.setIfInBounds_toArray, List.set_cons_zero, List.set_cons_succ]) | ((with_reducible apply Fixed.guardT); rfl; rfl; rfl; (all_goals intro hg)) | ((with_reducible apply Fixed.guardF); rfl; rfl; rfl; (all_goals intro hg)) | (with_reducible refine Fixed.done ?_; (try clear hF); clear hS; intro wk hS; ((try clear hF); refine hfI ?_; intro hF))))))
    all_goals
      go_ret
      refine ⟨?_, hS.ext⟩
      clear hS hF HN HK HR
      first | rfl | (simp_all; done) | (simp_all; omega) | (simp_all; intros; omega)
  | true =>
    cases kb with
    | true =>
      go_enter Tryz.func65, Tryz.ntmps65
      go_wp2_with (first | (refine hab ?_; (try clear hF); clear hS; intro wk hS; (try simp only [List.set_cons_zero, List.set_cons_succ, heap_size, heap_set_size] at hS); ((try clear hF); refine hfI ?_; intro hF)) | (first | (with_reducible refine wp_region_hp (draw := true) (by kernel_rfl) (by kernel_rfl) hS ?_) | ((with_reducible refine Fixed.here ?_); (first | ((with_reducible apply Fixed.skip); (first | rfl | exact wanted_false rfl rfl rfl (by assumption)); try simp only [Act.put, List.setIfInBounds_toArray, List.set_cons_zero, List.set_cons_succ]) | ((with_reducible apply Fixed.val); (first | rfl | exact wanted_true rfl rfl rfl (by assumption)); (rintro w hS; ((try clear hF); refine hfI ?_; intro hF); go_simp; with_reducible rfl); try simp only [Act.put, List.setIfInBounds_toArray, List.set_cons_zero, List.set_cons_succ]) | ((with_reducible apply Fixed.call); (first | rfl | exact wanted_true rfl rfl rfl (by assumption)); (rintro w hS; ((try clear hF); refine hfI ?_; intro hF); go_simp; exact ⟨rfl, rfl⟩); (rintro w hS; first | (with_reducible exact HN.out w) | (with_reducible exact HK.out w hS.ext) | (with_reducible exact HR.out w)); try simp only [Act.put, List.setIfInBounds_toArray, List.set_cons_zero, List.set_cons_succ]) | ((with_reducible apply Fixed.guardT); rfl; rfl; rfl; (all_goals intro hg)) | ((with_reducible apply Fixed.guardF); rfl; rfl; rfl; (all_goals intro hg)) | (with_reducible refine Fixed.done ?_; (try clear hF); clear hS; intro wk hS; ((try clear hF); refine hfI ?_; intro hF))))))
      all_goals
        go_ret
        refine ⟨?_, hS.ext⟩
        clear hS hF HN HK HR
        first | rfl | (simp_all; done) | (simp_all; omega) | (simp_all; intros; omega)
    | false =>
      cases rb with
      | false =>
        go_enter Tryz.func65, Tryz.ntmps65
        go_wp2_with (first | (refine hab ?_; (try clear hF); clear hS; intro wk hS; (try simp only [List.set_cons_zero, List.set_cons_succ, heap_size, heap_set_size] at hS); ((try clear hF); refine hfI ?_; intro hF)) | (first | (with_reducible refine wp_region_hp (draw := true) (by kernel_rfl) (by kernel_rfl) hS ?_) | ((with_reducible refine Fixed.here ?_); (first | ((with_reducible apply Fixed.skip); (first | rfl | exact wanted_false rfl rfl rfl (by assumption)); try simp only [Act.put, List.setIfInBounds_toArray, List.set_cons_zero, List.set_cons_succ]) | ((with_reducible apply Fixed.val); (first | rfl | exact wanted_true rfl rfl rfl (by assumption)); (rintro w hS; ((try clear hF); refine hfI ?_; intro hF); go_simp; with_reducible rfl); try simp only [Act.put, List.setIfInBounds_toArray, List.set_cons_zero, List.set_cons_succ]) | ((with_reducible apply Fixed.call); (first | rfl | exact wanted_true rfl rfl rfl (by assumption)); (rintro w hS; ((try clear hF); refine hfI ?_; intro hF); go_simp; exact ⟨rfl, rfl⟩); (rintro w hS; first | (with_reducible exact HN.out w) | (with_reducible exact HK.out w hS.ext) | (with_reducible exact HR.out w)); try simp only [Act.put, List.setIfInBounds_toArray, List.set_cons_zero, List.set_cons_succ]) | ((with_reducible apply Fixed.guardT); rfl; rfl; rfl; (all_goals intro hg)) | ((with_reducible apply Fixed.guardF); rfl; rfl; rfl; (all_goals intro hg)) | (with_reducible refine Fixed.done ?_; (try clear hF); clear hS; intro wk hS; ((try clear hF); refine hfI ?_; intro hF))))))
        all_goals
          go_ret
          refine ⟨?_, hS.ext⟩
          clear hS hF HN HK HR
          first | rfl | (simp_all; done) | (simp_all; omega) | (simp_all; intros; omega)
      | true =>
        go_enter Tryz.func65, Tryz.ntmps65
        go_wp2_with (first | (refine hab ?_; (try clear hF); clear hS; intro wk hS; (try simp only [List.set_cons_zero, List.set_cons_succ, heap_size, heap_set_size] at hS); ((try clear hF); refine hfI ?_; intro hF)) | (first | (with_reducible refine wp_region_hp (draw := true) (by kernel_rfl) (by kernel_rfl) hS ?_) | ((with_reducible refine Fixed.here ?_); (first | ((with_reducible apply Fixed.skip); (first | rfl | exact wanted_false rfl rfl rfl (by assumption)); try simp only [Act.put, List.setIfInBounds_toArray, List.set_cons_zero, List.set_cons_succ]) | ((with_reducible apply Fixed.val); (first | rfl | exact wanted_true rfl rfl rfl (by assumption)); (rintro w hS; ((try clear hF); refine hfI ?_; intro hF); go_simp; with_reducible rfl); try simp only [Act.put, List.setIfInBounds_toArray, List.set_cons_zero, List.set_cons_succ]) | ((with_reducible apply Fixed.call); (first | rfl | exact wanted_true rfl rfl rfl (by assumption)); (rintro w hS; ((try clear hF); refine hfI ?_; intro hF); go_simp; exact ⟨rfl, rfl⟩); (rintro w hS; first | (with_reducible exact HN.out w) | (with_reducible exact HK.out w hS.ext) | (with_reducible exact HR.out w)); try simp only [Act.put, List.setIfInBounds_toArray, List.set_cons_zero, List.set_cons_succ]) | ((with_reducible apply Fixed.guardT); rfl; rfl; rfl; (all_goals intro hg)) | ((with_reducible apply Fixed.guardF); rfl; rfl; rfl; (all_goals intro hg)) | (with_reducible refine Fixed.done ?_; (try clear hF); clear hS; intro wk hS; ((try clear hF); refine hfI ?_; intro hF))))))
        all_goals
          go_ret
          refine ⟨?_, hS.ext⟩
          clear hS hF HN HK HR
          first | rfl | (simp_all; done) | (simp_all; omega) | (simp_all; intros; omega)
end Go.Proofs.YtlgidjanmaijaaaGreatDoor

/- Slices of columns: what their cells hold; IndexFunc, ContainsFunc, Find. -/
namespace Go.Proofs.YtlgidjanmaijaaaGreatDoor
set_option linter.all false
set_option linter.unusedSimpArgs false
set_option linter.unusedVariables false
open Go.RowKit
def cellsC : List CG → List Value
  | [] => []
  | c :: l => .int .i64 c.id :: .string c.name :: .int .i64 c.kind :: .bool c.must :: .int .i64 c.d.kind :: .int .i64 c.d.num :: .string c.d.text :: cellsC l
/-- the slice at A reads as the columns l -/
def RC (w : World) (A : Option Addr) (l : List CG) : Prop :=
  ∀ (i : Nat) (c : CG), l[i]? = some c → ∃ b o : Nat, A = some ⟨b, o, none⟩ ∧ w.cell? ⟨b, o + i * 7, none⟩ = some (.int .i64 c.id) ∧ w.cell? ⟨b, o + i * 7 + 1, none⟩ = some (.string c.name) ∧ w.cell? ⟨b, o + i * 7 + 2, none⟩ = some (.int .i64 c.kind) ∧ w.cell? ⟨b, o + i * 7 + 3, none⟩ = some (.bool c.must) ∧ w.cell? ⟨b, o + i * 7 + 4, none⟩ = some (.int .i64 c.d.kind) ∧ w.cell? ⟨b, o + i * 7 + 5, none⟩ = some (.int .i64 c.d.num) ∧ w.cell? ⟨b, o + i * 7 + 6, none⟩ = some (.string c.d.text)
theorem RC.ext {w w' : World} {A : Option Addr} {l : List CG} (h : RC w A l) (hx : Ext w w') : RC w' A l := fun i c hi => by
  obtain ⟨b, o, hA, h0, h1, h2, h3, h4, h5, h6⟩ := h i c hi
  exact ⟨b, o, hA, hx.keeps h0, hx.keeps h1, hx.keeps h2, hx.keeps h3, hx.keeps h4, hx.keeps h5, hx.keeps h6⟩
theorem cellsC_len : ∀ l : List CG, (cellsC l).length = l.length * 7
  | [] => rfl
  | x :: l => by simp [cellsC, cellsC_len l]; omega
theorem cellsC_append : ∀ l m : List CG, cellsC (l ++ m) = cellsC l ++ cellsC m
  | [], m => rfl
  | x :: l, m => by simp [cellsC, cellsC_append l m]
theorem cellsC_one : ∀ (l : List CG), ∀ u ∈ cellsC l, u.oneCell' = true
  | [], u, h => by cases h
  | x :: l, u, h => by
    simp only [cellsC, List.mem_cons] at h
    rcases h with rfl | rfl | rfl | rfl | rfl | rfl | rfl | h
    all_goals first | rfl | exact cellsC_one l u h
theorem cellsC_at : ∀ (l : List CG) (i : Nat) (c : CG), l[i]? = some c → (cellsC l)[i * 7]? = some (.int .i64 c.id) ∧ (cellsC l)[i * 7 + 1]? = some (.string c.name) ∧ (cellsC l)[i * 7 + 2]? = some (.int .i64 c.kind) ∧ (cellsC l)[i * 7 + 3]? = some (.bool c.must) ∧ (cellsC l)[i * 7 + 4]? = some (.int .i64 c.d.kind) ∧ (cellsC l)[i * 7 + 5]? = some (.int .i64 c.d.num) ∧ (cellsC l)[i * 7 + 6]? = some (.string c.d.text)
  | [], i, x, h => by simp at h
  | y :: l, 0, x, h => by simp at h; subst h; simp [cellsC]
  | y :: l, i + 1, x, h => by
    have := cellsC_at l i x (by simpa using h)
    rw [show (i + 1) * 7 = i * 7 + 7 by omega]
    simpa [cellsC] using this
theorem RC.block {w : World} {l : List CG} {g : Nat} {cs : Array Value} {t : TypeId} {fr : Nat × Nat} (h : w.heap[g]? = some (.cells cs t fr)) (hcs : cs = (cellsC l).toArray) : RC w (some ⟨g, 0, none⟩) l := fun i x hi => by
  subst hcs
  obtain ⟨h0, h1, h2, h3, h4, h5, h6⟩ := cellsC_at l i x hi
  refine ⟨g, 0, rfl, ?_, ?_, ?_, ?_, ?_, ?_, ?_⟩ <;> simp [World.cell?, h, *]
theorem Tryz.elem_cols : Elem Tryz.prog 30 61 7 72 := by
  obtain ⟨i0, hi0, hz0, hz1, hz2⟩ := info_parts (show (Tryz.prog.info? 61).map (fun i => (i.zero, i.size, i.bytes)) = some (some (.agg #[.int .i64 0, .string ⟨#[]⟩, .int .i64 0, .bool false, .int .i64 0, .int .i64 0, .string ⟨#[]⟩]), 7, 72) by kernel_rfl)
  exact ⟨Tryz.underlying30, ⟨i0, _, hi0, hz0, hz1, hz2, rfl⟩, by omega⟩
abbrev cRow (A : Option Addr) (cap : Nat) (l : List CG) : Item := .row 61 7 A l.length cap (cellsC l)
theorem Hp.rc {B : Nat} {w0 w : World} {L : List Item} {A : Option Addr} {cap n : Nat} {l : List CG} (h : Hp B w0 w L) (i : Nat) (hi : L[i]? = some (.row 61 7 A n cap (cellsC l))) : RC w A l := fun j x hj => by
  obtain ⟨h0, h1, h2, h3, h4, h5, h6⟩ := cellsC_at l j x hj
  obtain ⟨g, hg, c0, _⟩ := h.rowCell i hi h0
  obtain ⟨g1, hg1, c1, _⟩ := h.rowCell i hi h1
  obtain ⟨g2, hg2, c2, _⟩ := h.rowCell i hi h2
  obtain ⟨g3, hg3, c3, _⟩ := h.rowCell i hi h3
  obtain ⟨g4, hg4, c4, _⟩ := h.rowCell i hi h4
  obtain ⟨g5, hg5, c5, _⟩ := h.rowCell i hi h5
  obtain ⟨g6, hg6, c6, _⟩ := h.rowCell i hi h6
  rw [hg] at hg1 hg2 hg3 hg4 hg5 hg6
  simp only [Option.some.injEq, Addr.mk.injEq, and_true] at hg1 hg2 hg3 hg4 hg5 hg6
  subst hg1 hg2 hg3 hg4 hg5 hg6
  refine ⟨g, 0, hg, ?_, ?_, ?_, ?_, ?_, ?_, ?_⟩ <;> rw [Nat.zero_add] <;> assumption
/-- the first place, from k on, where p holds; or -1 -/
def idxC (p : CG → Bool) : Nat → List CG → Int
  | _, [] => -1
  | k, x :: l => if p x then k else idxC p (k + 1) l
theorem idxC_any (p : CG → Bool) : ∀ (l : List CG) (k : Nat), decide (0 ≤ idxC p k l) = l.any p
  | [], k => rfl
  | x :: l, k => by
    unfold idxC
    rw [List.any_cons]
    cases h : p x with
    | true => simp
    | false => simpa using idxC_any p l (k + 1)
theorem dropC_at {l : List CG} {k : Nat} {x : CG} (h : l[k]? = some x) : l.drop k = x :: l.drop (k + 1) := by
  obtain ⟨h1, e⟩ := List.getElem?_eq_some_iff.1 h
  rw [List.drop_eq_getElem_cons h1, e]
/-- a function that is called: it answers p of a column, and leaves all as it was -/
def PredC (w0 : World) (g : Nat) (lb : Array Value) (p : CG → Bool) : Prop :=
  ∀ W, Ext w0 W → ∀ c : CG, Calls Tryz.prog g (#[.agg #[.int .i64 c.id, .string c.name, .int .i64 c.kind, .bool c.must, .int .i64 c.d.kind, .int .i64 c.d.num, .string c.d.text]] ++ lb) W fun e w' => e = .returned (.bool (p c)) ∧ Ext W w'
theorem PredC.at {w0 : World} {g : Nat} {lb : Array Value} {p : CG → Bool} (h : PredC w0 g lb p) (W : World) (hx : Ext w0 W) (c : CG) : Calls Tryz.prog g (#[.agg #[.int .i64 c.id, .string c.name, .int .i64 c.kind, .bool c.must, .int .i64 c.d.kind, .int .i64 c.d.num, .string c.d.text]] ++ lb) W fun e w' => e = .returned (.bool (p c)) ∧ Ext W w' := h W hx c
set_option maxRecDepth 100000 in
set_option maxHeartbeats 8000000 in
theorem cindexFunc_any (l : List CG) (A : Option Addr) (cap : Nat) (g : Nat) (lb : Array Value) (p : CG → Bool) (w : World) (hr : RC w A l) (hl : l.length ≤ 140737488355328) (eg : ∀ args w, (callFunc g args).run Tryz.prog w = .ok (.enter g args) w) (hp : PredC w g lb p) :
    Calls Tryz.prog 101 #[.slice A l.length cap, .func (.func g) #[] lb] w fun e w' => e = .returned (.int .i64 (idxC p 0 l)) ∧ Ext w w' := by
  obtain ⟨n, hn⟩ : ∃ n, n = l.length := ⟨_, rfl⟩
  rw [← hn]
  have Hn := Lib.hid hn
  rw [← hn] at hl
  clear hn
  have HP := Lib.hid hp
  clear hp
  have hS := Hp.init w
  have hR := Reads.nil w
  go_enter Tryz.func101, Tryz.ntmps101
  go_wp2_with (first | (refine hab ?_; (try clear hF); clear hS; intro wk hS; (try simp only [List.set_cons_zero, List.set_cons_succ, heap_size, heap_set_size] at hS); ((try clear hF); refine hfI ?_; intro hF)) | fail)
  go_loopw [8, 5] (fun i _ wr => ∃ k : Nat, i = .int .i64 k ∧ k ≤ n ∧ Hid (idxC p 0 l = idxC p k (l.drop k)) ∧ Hp w.heap.size w wr []) (fun i _ _ => n - (intOf i).toNat)
  case atStart => exact ⟨0, rfl, Nat.zero_le _, Lib.hid rfl, hS⟩
  case round =>
    clear hS
    obtain ⟨k, rfl, hk, hf, hS⟩ := hrel
    by_cases hlt : k < n
    · have hlt' : k < l.length := by rw [← Hn.out]; exact hlt
      obtain ⟨x, hx'⟩ : ∃ x, l[k]? = some x := ⟨l[k], List.getElem?_eq_getElem hlt'⟩
      obtain ⟨b, o, rfl, c0, c1, c2, c3, c4, c5, c6⟩ := hr k x hx'
      have hR := Reads.cell c0 (Reads.cell c1 (Reads.cell c2 (Reads.cell c3 (Reads.cell c4 (Reads.cell c5 (Reads.cell c6 (Reads.nil w)))))))
      have HD := Lib.hid (dropC_at hx')
      clear hx' hlt' c0 c1 c2 c3 c4 c5 c6 hr
      ((try clear hF); refine hfI ?_; intro hF)
      go_wp2_with (first | (refine hab ?_; (try clear hF); clear hS; intro wk hS; (try simp only [List.set_cons_zero, List.set_cons_succ, heap_size, heap_set_size] at hS); ((try clear hF); refine hfI ?_; intro hF)) | ((with_reducible refine (HP.out.at _ hS.ext x).mono ?_); rintro e wk ⟨rfl, hX⟩; replace hS := hS.step hX; clear hX; ((try clear hF); refine hfI ?_; intro hF)))
      · go_ret
        refine ⟨?_, hS.ext⟩
        have hc : p x = true := by assumption
        rw [hf.out, HD.out, idxC, if_pos hc]; first | done | rfl
      · go_roundw
        case rel =>
          have hc : p x = false := by assumption
          exact ⟨k + 1, by go_num, by omega, Lib.hid (by rw [hf.out, HD.out, idxC, if_neg (by rw [hc]; simp)]), hS⟩
        case measure => simp [intOf]; omega
    · obtain rfl : k = n := by omega
      ((try clear hF); refine hfI ?_; intro hF)
      go_wp2_with (first | (refine hab ?_; (try clear hF); clear hS; intro wk hS; (try simp only [List.set_cons_zero, List.set_cons_succ, heap_size, heap_set_size] at hS); ((try clear hF); refine hfI ?_; intro hF)) | fail)
      go_ret
      exact ⟨by rw [hf.out, Hn.out, List.drop_length]; rfl, hS.ext⟩
set_option maxRecDepth 100000 in
set_option maxHeartbeats 8000000 in
theorem ccontainsFunc_any (l : List CG) (A : Option Addr) (cap : Nat) (g : Nat) (lb : Array Value) (p : CG → Bool) (w : World) (hr : RC w A l) (hl : l.length ≤ 140737488355328) (eg : ∀ args w, (callFunc g args).run Tryz.prog w = .ok (.enter g args) w) (hp : PredC w g lb p) :
    Calls Tryz.prog 66 #[.slice A l.length cap, .func (.func g) #[] lb] w fun e w' => e = .returned (.bool (l.any p)) ∧ Ext w w' := by
  have hI := fun (W : World) (hx : Ext w W) => cindexFunc_any l A cap g lb p W (hr.ext hx) hl eg (fun W' hx' => hp W' (hx.trans hx'))
  have HI := Lib.hid hI
  have HA := Lib.hid (idxC_any p l 0)
  clear hI hr hp
  have hS := Hp.init w
  have hR := Reads.nil w
  go_enter Tryz.func66, Tryz.ntmps66
  go_wp2_with (first | (refine hab ?_; (try clear hF); clear hS; intro wk hS; (try simp only [List.set_cons_zero, List.set_cons_succ, heap_size, heap_set_size] at hS); ((try clear hF); refine hfI ?_; intro hF)) | (go_at_call 101; (with_reducible refine (HI.out _ hS.ext).mono ?_); rintro e wk ⟨rfl, hX⟩; replace hS := hS.step hX; clear hX; ((try clear hF); refine hfI ?_; intro hF)))
  go_ret
  exact ⟨by rw [HA.out]; first | done | rfl, hS.ext⟩
def clashC (c d : CG) : Bool := d.id == c.id || d.name.toList == c.name.toList
set_option maxRecDepth 100000 in
set_option maxHeartbeats 8000000 in
theorem right1c_any (c d : CG) (bk : Nat) (w : World) (h : w.cell? ⟨bk, 0, none⟩ = some (.int .i64 c.id)) (h1 : w.cell? ⟨bk, 1, none⟩ = some (.string c.name)) :
    Calls Tryz.prog 67 #[.agg #[.int .i64 d.id, .string d.name, .int .i64 d.kind, .bool d.must, .int .i64 d.d.kind, .int .i64 d.d.num, .string d.d.text], .pointer (some ⟨bk, 0, none⟩)] w fun e w' => e = .returned (.bool (clashC c d)) ∧ Ext w w' := by
  have hS := Hp.init w
  have hR := Reads.cell h (Reads.cell h1 (Reads.nil w))
  clear h h1
  unfold clashC
  by_cases hid : d.id = c.id
  · ((try clear hF); refine hfI ?_; intro hF)
    go_enter Tryz.func67, Tryz.ntmps67
    go_wp2_with (first | (refine hab ?_; (try clear hF); clear hS; intro wk hS; (try simp only [List.set_cons_zero, List.set_cons_succ, heap_size, heap_set_size] at hS); ((try clear hF); refine hfI ?_; intro hF)) | fail)
    go_ret
    refine ⟨?_, hS.ext⟩
    simp [hid]
  · ((try clear hF); refine hfI ?_; intro hF)
    go_enter Tryz.func67, Tryz.ntmps67
    go_wp2_with (first | (refine hab ?_; (try clear hF); clear hS; intro wk hS; (try simp only [List.set_cons_zero, List.set_cons_succ, heap_size, heap_set_size] at hS); ((try clear hF); refine hfI ?_; intro hF)) | fail)
    go_ret
    refine ⟨?_, hS.ext⟩
    simp [hid]
theorem eg_right1 : ∀ args w, (callFunc 67 args).run Tryz.prog w = .ok (.enter 67 args) w := fun _ _ => by kernel_rfl
end Go.Proofs.YtlgidjanmaijaaaGreatDoor

/- schema.Right. -/
namespace Go.Proofs.YtlgidjanmaijaaaGreatDoor
set_option linter.all false
set_option linter.unusedSimpArgs false
set_option linter.unusedVariables false
open Go.RowKit
theorem RC.take {w : World} {A : Option Addr} {l : List CG} (h : RC w A l) (k : Nat) : RC w A (l.take k) := fun i c hi => by
  rw [List.getElem?_take] at hi
  split at hi
  · exact h i c hi
  · cases hi
def rgt (next : Int) : List CG → List CG → Bool
  | _, [] => true
  | pre, c :: r => colB c && decide (c.id < next) && !pre.any (clashC c) && rgt next (pre ++ [c]) r
/-- whether columns may be a table's -/
def rightC (l : List CG) (next : Int) : Bool := rgt next [] l && (decide (1 ≤ l.length) && decide (l.length ≤ 8))
set_option maxRecDepth 100000 in
set_option maxHeartbeats 8000000 in
theorem sright_any (l : List CG) (A : Option Addr) (cap : Nat) (next : Int) (w : World) (hr : RC w A l) (hl : l.length ≤ 140737488355328) (hcap : l.length ≤ cap) (hK : KeptAt w) :
    Calls Tryz.prog 38 #[.slice A l.length cap, .int .i64 next] w fun e w' => e = .returned (.bool (rightC l next)) ∧ Ext w w' := by
  obtain ⟨n, hn⟩ : ∃ n, n = l.length := ⟨_, rfl⟩
  unfold rightC
  rw [← hn]
  have Hn := Lib.hid hn
  rw [← hn] at hl hcap
  clear hn
  have hS := Hp.init w
  have hR := Reads.nil w
  go_enter Tryz.func38, Tryz.ntmps38
  go_wp2_with (first | (refine hab ?_; (try clear hF); clear hS; intro wk hS; (try simp only [List.set_cons_zero, List.set_cons_succ, heap_size, heap_set_size] at hS); ((try clear hF); refine hfI ?_; intro hF)) | fail)
  go_loopw [9] (fun i wr => ∃ k : Nat, i = .int .i64 k ∧ k ≤ n ∧ Hid (rgt next [] l = rgt next (l.take k) (l.drop k)) ∧ Hp w.heap.size w wr []) (fun i _ => n - (intOf i).toNat)
  case atStart => exact ⟨0, rfl, Nat.zero_le _, Lib.hid rfl, hS⟩
  case round =>
    clear hS
    obtain ⟨k, rfl, hk, hf, hS⟩ := hrel
    by_cases hlt : k < n
    · have hlt' : k < l.length := by rw [← Hn.out]; exact hlt
      obtain ⟨c, hx'⟩ : ∃ x, l[k]? = some x := ⟨l[k], List.getElem?_eq_getElem hlt'⟩
      obtain ⟨cb, hcb⟩ : ∃ b, b = colB c := ⟨_, rfl⟩
      obtain ⟨ib, hib⟩ : ∃ b, b = decide (c.id < next) := ⟨_, rfl⟩
      obtain ⟨xb, hxb⟩ : ∃ b, b = (l.take k).any (clashC c) := ⟨_, rfl⟩
      have HCB := Lib.hid (fun (W : World) hx => column_any c W (hK.ext (w' := W) hx))
      have HXB := Lib.hid (fun (W : World) bk (hx : Ext w W) (h0 : W.cell? ⟨bk, 0, none⟩ = some (.int .i64 c.id)) (h1 : W.cell? ⟨bk, 1, none⟩ = some (.string c.name)) => show Calls Tryz.prog 66 #[.slice A k cap, .func (.func 67) #[] #[.pointer (some ⟨bk, 0, none⟩)]] W fun e w' => e = .returned (.bool ((l.take k).any (clashC c))) ∧ Ext W w' from by
        have := ccontainsFunc_any (l.take k) A cap 67 #[.pointer (some ⟨bk, 0, none⟩)] (clashC c) W ((hr.ext hx).take k) (by rw [List.length_take]; omega) eg_right1 (fun W' hx' d => right1c_any c d bk W' (hx'.keeps h0) (hx'.keeps h1))
        rw [List.length_take, Nat.min_eq_left (by omega)] at this
        exact this)
      have HST := Lib.hid (show rgt next (l.take k) (l.drop k) = (colB c && decide (c.id < next) && !(l.take k).any (clashC c) && rgt next (l.take (k + 1)) (l.drop (k + 1))) by
        rw [dropC_at hx', rgt, List.take_add_one, hx']; rfl)
      obtain ⟨b, o, rfl, c0, c1, c2, c3, c4, c5, c6⟩ := hr k c hx'
      have hR := Reads.cell c0 (Reads.cell c1 (Reads.cell c2 (Reads.cell c3 (Reads.cell c4 (Reads.cell c5 (Reads.cell c6 (Reads.nil w)))))))
      rw [← hcb] at HCB HST
      rw [← hxb] at HXB HST
      clear hx' hlt' c0 c1 c2 c3 c4 c5 c6 hr hcb hxb
      by_cases hid : next ≤ c.id
      · have hdi : decide (next ≤ c.id) = true := by simp [hid]
        have hdf : decide (c.id < next) = false := by simp; omega
        rw [hdf] at HST
        clear hid hdf hib ib
        cases cb with
        | false =>
          ((try clear hF); refine hfI ?_; intro hF)
          go_wp2_with (first | (refine hab ?_; (try clear hF); clear hS; intro wk hS; (try simp only [List.set_cons_zero, List.set_cons_succ, heap_size, heap_set_size] at hS); ((try clear hF); refine hfI ?_; intro hF)) | (go_at_call 65; (with_reducible refine (HCB.out _ hS.ext).mono ?_); rintro e wk ⟨rfl, hX⟩; replace hS := hS.step hX; clear hX; ((try clear hF); refine hfI ?_; intro hF)) | (go_at_call 66; (with_reducible refine (HXB.out _ _ hS.ext hF.1.1.1 hF.1.2.1.1).mono ?_); rintro e wk ⟨rfl, hX⟩; replace hS := hS.step hX; clear hX; ((try clear hF); refine hfI ?_; intro hF)))
          go_ret
          exact ⟨by rw [hf.out, HST.out]; rfl, hS.ext⟩
        | true =>
          ((try clear hF); refine hfI ?_; intro hF)
          go_wp2_with (first | (refine hab ?_; (try clear hF); clear hS; intro wk hS; (try simp only [List.set_cons_zero, List.set_cons_succ, heap_size, heap_set_size] at hS); ((try clear hF); refine hfI ?_; intro hF)) | (go_at_call 65; (with_reducible refine (HCB.out _ hS.ext).mono ?_); rintro e wk ⟨rfl, hX⟩; replace hS := hS.step hX; clear hX; ((try clear hF); refine hfI ?_; intro hF)) | (go_at_call 66; (with_reducible refine (HXB.out _ _ hS.ext hF.1.1.1 hF.1.2.1.1).mono ?_); rintro e wk ⟨rfl, hX⟩; replace hS := hS.step hX; clear hX; ((try clear hF); refine hfI ?_; intro hF)))
          go_ret
          exact ⟨by rw [hf.out, HST.out]; rfl, hS.ext⟩
      · have hdi : decide (next ≤ c.id) = false := by simp; omega
        have hdf : decide (c.id < next) = true := by simp; omega
        rw [hdf] at HST
        clear hid hdf hib ib
        cases cb with
        | false =>
          ((try clear hF); refine hfI ?_; intro hF)
          go_wp2_with (first | (refine hab ?_; (try clear hF); clear hS; intro wk hS; (try simp only [List.set_cons_zero, List.set_cons_succ, heap_size, heap_set_size] at hS); ((try clear hF); refine hfI ?_; intro hF)) | (go_at_call 65; (with_reducible refine (HCB.out _ hS.ext).mono ?_); rintro e wk ⟨rfl, hX⟩; replace hS := hS.step hX; clear hX; ((try clear hF); refine hfI ?_; intro hF)) | (go_at_call 66; (with_reducible refine (HXB.out _ _ hS.ext hF.1.1.1 hF.1.2.1.1).mono ?_); rintro e wk ⟨rfl, hX⟩; replace hS := hS.step hX; clear hX; ((try clear hF); refine hfI ?_; intro hF)))
          go_ret
          exact ⟨by rw [hf.out, HST.out]; rfl, hS.ext⟩
        | true =>
          cases xb with
          | false =>
            ((try clear hF); refine hfI ?_; intro hF)
            go_wp2_with (first | (refine hab ?_; (try clear hF); clear hS; intro wk hS; (try simp only [List.set_cons_zero, List.set_cons_succ, heap_size, heap_set_size] at hS); ((try clear hF); refine hfI ?_; intro hF)) | (go_at_call 65; (with_reducible refine (HCB.out _ hS.ext).mono ?_); rintro e wk ⟨rfl, hX⟩; replace hS := hS.step hX; clear hX; ((try clear hF); refine hfI ?_; intro hF)) | (go_at_call 66; (with_reducible refine (HXB.out _ _ hS.ext hF.1.1.1 hF.1.2.1.1).mono ?_); rintro e wk ⟨rfl, hX⟩; replace hS := hS.step hX; clear hX; ((try clear hF); refine hfI ?_; intro hF)))
            go_roundw
            case rel => exact ⟨k + 1, by go_num, by omega, Lib.hid (by rw [hf.out, HST.out]; rfl), hS.sub (by simp)⟩
            case measure => simp [intOf]; omega
          | true =>
            ((try clear hF); refine hfI ?_; intro hF)
            go_wp2_with (first | (refine hab ?_; (try clear hF); clear hS; intro wk hS; (try simp only [List.set_cons_zero, List.set_cons_succ, heap_size, heap_set_size] at hS); ((try clear hF); refine hfI ?_; intro hF)) | (go_at_call 65; (with_reducible refine (HCB.out _ hS.ext).mono ?_); rintro e wk ⟨rfl, hX⟩; replace hS := hS.step hX; clear hX; ((try clear hF); refine hfI ?_; intro hF)) | (go_at_call 66; (with_reducible refine (HXB.out _ _ hS.ext hF.1.1.1 hF.1.2.1.1).mono ?_); rintro e wk ⟨rfl, hX⟩; replace hS := hS.step hX; clear hX; ((try clear hF); refine hfI ?_; intro hF)))
            go_ret
            exact ⟨by rw [hf.out, HST.out]; rfl, hS.ext⟩
    · obtain rfl : k = n := by omega
      have hfin : rgt next [] l = true := by rw [hf.out, Hn.out, List.drop_length]; rfl
      have HFIN := Lib.hid hfin
      clear hfin hf
      by_cases h1 : 1 ≤ k
      · by_cases h8 : k ≤ 8
        · ((try clear hF); refine hfI ?_; intro hF)
          go_wp2_with (first | (refine hab ?_; (try clear hF); clear hS; intro wk hS; (try simp only [List.set_cons_zero, List.set_cons_succ, heap_size, heap_set_size] at hS); ((try clear hF); refine hfI ?_; intro hF)) | fail)
          go_ret
          exact ⟨by rw [HFIN.out, decide_eq_true h1, decide_eq_true h8]; show Ending.returned (.bool (decide ((k : Int) ≤ 8))) = _; rw [decide_eq_true (by omega : (k : Int) ≤ 8)]; rfl, hS.ext⟩
        · ((try clear hF); refine hfI ?_; intro hF)
          go_wp2_with (first | (refine hab ?_; (try clear hF); clear hS; intro wk hS; (try simp only [List.set_cons_zero, List.set_cons_succ, heap_size, heap_set_size] at hS); ((try clear hF); refine hfI ?_; intro hF)) | fail)
          go_ret
          exact ⟨by rw [HFIN.out, decide_eq_true h1, decide_eq_false h8]; show Ending.returned (.bool (decide ((k : Int) ≤ 8))) = _; rw [decide_eq_false (by omega : ¬(k : Int) ≤ 8)]; rfl, hS.ext⟩
      · ((try clear hF); refine hfI ?_; intro hF)
        go_wp2_with (first | (refine hab ?_; (try clear hF); clear hS; intro wk hS; (try simp only [List.set_cons_zero, List.set_cons_succ, heap_size, heap_set_size] at hS); ((try clear hF); refine hfI ?_; intro hF)) | fail)
        go_ret
        exact ⟨by first | rfl | (rw [HFIN.out, decide_eq_false h1]; rfl), hS.ext⟩
end Go.Proofs.YtlgidjanmaijaaaGreatDoor

/- millpondkeep.columns: they are short. -/
namespace Go.Proofs.YtlgidjanmaijaaaGreatDoor
set_option linter.all false
set_option linter.unusedSimpArgs false
set_option linter.unusedVariables false
open Go.RowKit
def shortC (c : CG) : Bool := decide (c.name.size ≤ 60) && decide (c.d.text.size ≤ 100)
def shortCs (cs : List CG) : Bool := decide (cs.length ≤ 20) && cs.all shortC
theorem all_upto {α : Type} {p : α → Bool} {l : List α} {k : Nat} {x : α} (h : (l.take k).all p = true) (hx : l[k]? = some x) (hp : p x = true) : (l.take (k + 1)).all p = true := by
  rw [List.take_add_one, List.all_append, h, hx]
  simp [hp]
theorem all_not {α : Type} {p : α → Bool} {l : List α} {k : Nat} {x : α} (hx : l[k]? = some x) (hp : p x = false) : l.all p = false := by
  rw [List.all_eq_false]
  exact ⟨x, List.mem_of_getElem? hx, by rw [hp]; simp⟩
set_option maxRecDepth 100000 in
set_option maxHeartbeats 8000000 in
theorem columns_any (cs : List CG) (A : Option Addr) (n cap : Nat) (w : World) (hn : cs.length = n) (hr : RC w A cs) :
    Calls Tryz.prog 17 #[.slice A n cap] w fun e w' => e = .returned (.bool (shortCs cs)) ∧ Ext w w' := by
  have Hn := Lib.hid hn
  unfold shortCs
  rw [hn]
  clear hn
  have hS := Hp.init w
  have hR := Reads.nil w
  by_cases h20 : 20 < n
  · rw [show decide (n ≤ 20) = false by simp; omega]
    go_enter Tryz.func17, Tryz.ntmps17
    go_wp2_with (first | (refine hab ?_; (try clear hF); clear hS; intro wk hS; (try simp only [List.set_cons_zero, List.set_cons_succ, heap_size, heap_set_size] at hS); ((try clear hF); refine hfI ?_; intro hF)) | fail)
    go_ret
    exact ⟨rfl, hS.ext⟩
  · rw [show decide (n ≤ 20) = true by simp; omega, Bool.true_and]
    go_enter Tryz.func17, Tryz.ntmps17
    go_wp2_with (first | (refine hab ?_; (try clear hF); clear hS; intro wk hS; (try simp only [List.set_cons_zero, List.set_cons_succ, heap_size, heap_set_size] at hS); ((try clear hF); refine hfI ?_; intro hF)) | fail)
    go_loopw [3] (fun i wr => ∃ k : Nat, i = .int .i64 k ∧ k ≤ n ∧ Hid ((cs.take k).all shortC = true) ∧ Hp w.heap.size w wr []) (fun i _ => n - (intOf i).toNat)
    case atStart => exact ⟨0, rfl, Nat.zero_le _, Lib.hid rfl, hS⟩
    case round =>
      clear hS
      obtain ⟨k, rfl, hk, hf, hS⟩ := hrel
      by_cases hlt : k < n
      · obtain ⟨c, hc'⟩ : ∃ x, cs[k]? = some x := ⟨cs[k]'(by rw [Hn.out]; exact hlt), List.getElem?_eq_getElem _⟩
        obtain ⟨b, o, rfl, c0, c1, c2, c3, c4, c5, c6⟩ := hr k c hc'
        have hR := Reads.cell c1 (Reads.cell c6 (Reads.nil w))
        have HX := Lib.hid hc'
        clear hc' c0 c1 c2 c3 c4 c5 c6 hr
        by_cases e1 : 60 < c.name.size
        · have HF2 := Lib.hid (all_not HX.out (show shortC c = false by unfold shortC; rw [decide_eq_false (by omega)]; rfl))
          ((try clear hF); refine hfI ?_; intro hF)
          go_wp2_with (first | (refine hab ?_; (try clear hF); clear hS; intro wk hS; (try simp only [List.set_cons_zero, List.set_cons_succ, heap_size, heap_set_size] at hS); ((try clear hF); refine hfI ?_; intro hF)) | fail)
          go_ret
          exact ⟨by rw [HF2.out]; rfl, hS.ext⟩
        by_cases e2 : 100 < c.d.text.size
        · have HF2 := Lib.hid (all_not HX.out (show shortC c = false by unfold shortC; rw [decide_eq_false (p := c.d.text.size ≤ 100) (by omega), Bool.and_false]))
          ((try clear hF); refine hfI ?_; intro hF)
          go_wp2_with (first | (refine hab ?_; (try clear hF); clear hS; intro wk hS; (try simp only [List.set_cons_zero, List.set_cons_succ, heap_size, heap_set_size] at hS); ((try clear hF); refine hfI ?_; intro hF)) | fail)
          go_ret
          exact ⟨by rw [HF2.out]; rfl, hS.ext⟩
        have HT := Lib.hid (all_upto hf.out HX.out (show shortC c = true by unfold shortC; rw [decide_eq_true (by omega), decide_eq_true (by omega)]; rfl))
        ((try clear hF); refine hfI ?_; intro hF)
        go_wp2_with (first | (refine hab ?_; (try clear hF); clear hS; intro wk hS; (try simp only [List.set_cons_zero, List.set_cons_succ, heap_size, heap_set_size] at hS); ((try clear hF); refine hfI ?_; intro hF)) | fail)
        go_roundw
        case rel => exact ⟨k + 1, by go_num, by omega, HT, hS⟩
        case measure => simp [intOf]; omega
      · obtain rfl : k = n := by omega
        ((try clear hF); refine hfI ?_; intro hF)
        go_wp2_with (first | (refine hab ?_; (try clear hF); clear hS; intro wk hS; (try simp only [List.set_cons_zero, List.set_cons_succ, heap_size, heap_set_size] at hS); ((try clear hF); refine hfI ?_; intro hF)) | fail)
        go_ret
        refine ⟨?_, hS.ext⟩
        have := hf.out
        rw [← Hn.out, List.take_length] at this
        rw [this]
        rfl
end Go.Proofs.YtlgidjanmaijaaaGreatDoor

/- slices of columns: Clone, Delete, Equal of the same. -/
namespace Go.Proofs.YtlgidjanmaijaaaGreatDoor
set_option linter.all false
set_option linter.unusedSimpArgs false
set_option linter.unusedVariables false
open Go.RowKit
theorem RC.cells {w : World} {b o : Nat} {l : List CG} (h : RC w (some ⟨b, o, none⟩) l) : ∀ (j : Nat) (u : Value), (cellsC l)[j]? = some u → w.cell? ⟨b, o + j, none⟩ = some u := fun j u hj => by
  have hlt : j < l.length * 7 := by rw [← cellsC_len]; exact (List.getElem?_eq_some_iff.1 hj).1
  obtain ⟨c, hc⟩ : ∃ c, l[j / 7]? = some c := ⟨_, List.getElem?_eq_getElem (by omega)⟩
  obtain ⟨b', o', hb, c0, c1, c2, c3, c4, c5, c6⟩ := h _ c hc
  obtain ⟨d0, d1, d2, d3, d4, d5, d6⟩ := cellsC_at l _ c hc
  simp only [Option.some.injEq, Addr.mk.injEq, and_true] at hb
  obtain ⟨rfl, rfl⟩ := hb
  have hm : j % 7 < 7 := Nat.mod_lt _ (by decide)
  have e : j = j / 7 * 7 + j % 7 := by omega
  generalize j % 7 = r at *
  generalize j / 7 = q at *
  subst e
  rcases (by omega : r = 0 ∨ r = 1 ∨ r = 2 ∨ r = 3 ∨ r = 4 ∨ r = 5 ∨ r = 6) with rfl | rfl | rfl | rfl | rfl | rfl | rfl
  · rw [Nat.add_zero] at hj ⊢; rw [d0] at hj; cases hj; exact c0
  · rw [d1] at hj; cases hj; rw [← Nat.add_assoc]; exact c1
  · rw [d2] at hj; cases hj; rw [← Nat.add_assoc]; exact c2
  · rw [d3] at hj; cases hj; rw [← Nat.add_assoc]; exact c3
  · rw [d4] at hj; cases hj; rw [← Nat.add_assoc]; exact c4
  · rw [d5] at hj; cases hj; rw [← Nat.add_assoc]; exact c5
  · rw [d6] at hj; cases hj; rw [← Nat.add_assoc]; exact c6
theorem addr_add (b o j : Nat) : (⟨b, o, none⟩ : Addr).add j = ⟨b, o + j, none⟩ := by unfold Addr.add; split <;> simp_all
set_option maxRecDepth 100000 in
set_option maxHeartbeats 8000000 in
theorem clone_any (l : List CG) (b o cap : Nat) (w : World) (hr : RC w (some ⟨b, o, none⟩) l) (hl : l.length ≤ 1000) :
    Calls Tryz.prog 61 #[.slice (some ⟨b, o, none⟩) l.length cap] w fun e w' => ∃ A' cap', e = .returned (.slice A' l.length cap') ∧ Hp w.heap.size w w' [cRow A' cap' l] := by
  have HC := Lib.hid (fun (W : World) (hx : Ext w W) => (hr.ext hx).cells)
  have HL := Lib.hid (cellsC_len l)
  have H1 := Lib.hid (cellsC_one l)
  unfold cRow
  obtain ⟨n, hn⟩ : ∃ n, n = l.length := ⟨_, rfl⟩
  rw [← hn] at hl HL ⊢
  clear hn hr
  have hS := Hp.init w
  have hR := Reads.nil w
  have he : ∀ w : World, (binOp .eql 30 (.slice (some ⟨b, o, none⟩) n cap) (.slice none 0 0)).run Tryz.prog w = .ok (.bool false) w := fun _ => rfl
  go_enter Tryz.func61, Tryz.ntmps61
  go_wp2_with (first | (refine hab ?_; (try clear hF); clear hS; intro wk hS; (try simp only [List.set_cons_zero, List.set_cons_succ, heap_size, heap_set_size] at hS); ((try clear hF); refine hfI ?_; intro hF)) | (at_builtin; refine wpList_append_hp Tryz.elem_cols rfl (.tmp 5) (.tmp 6) rfl (hS.blkRow (size := 7) (n := 0) rfl (by omega)) rfl ⟨b, o, none⟩ rfl (news := cellsC l) HL.out (fun j u hu => by rw [addr_add]; exact HC.out _ hS.ext j u hu) H1.out (by omega) (by omega) ?_; clear hS; intro A' cap' wk hS; ((try clear hF); refine hfI ?_; intro hF)))
  go_ret
  exact ⟨A', cap', rfl, by simpa using hS⟩
end Go.Proofs.YtlgidjanmaijaaaGreatDoor

/- slices of a table's files (entries): what their cells hold; Clone, IndexFunc, Delete. -/
namespace Go.Proofs.YtlgidjanmaijaaaGreatDoor
set_option linter.unusedSimpArgs false
set_option linter.unusedVariables false
open Go.RowKit
set_option linter.all false
/-- a file of a table, as it lies in memory -/
structure EV where
  path : ByteArray
  rows : Int
  ma : Option Addr
  mn : Nat
  mc : Nat
def cellsE : List EV → List Value
  | [] => []
  | v :: l => .string v.path :: .int .i64 v.rows :: .slice v.ma v.mn v.mc :: cellsE l
def RE (w : World) (A : Option Addr) (l : List EV) : Prop :=
  ∀ (i : Nat) (v : EV), l[i]? = some v → ∃ b o : Nat, A = some ⟨b, o, none⟩ ∧ w.cell? ⟨b, o + i * 3, none⟩ = some (.string v.path) ∧ w.cell? ⟨b, o + i * 3 + 1, none⟩ = some (.int .i64 v.rows) ∧ w.cell? ⟨b, o + i * 3 + 2, none⟩ = some (.slice v.ma v.mn v.mc)
theorem RE.ext {w w' : World} {A : Option Addr} {l : List EV} (h : RE w A l) (hx : Ext w w') : RE w' A l := fun i c hi => by
  obtain ⟨b, o, hA, h0, h1, h2⟩ := h i c hi
  exact ⟨b, o, hA, hx.keeps h0, hx.keeps h1, hx.keeps h2⟩
theorem cellsE_len : ∀ l : List EV, (cellsE l).length = l.length * 3
  | [] => rfl
  | x :: l => by simp [cellsE, cellsE_len l]; omega
theorem cellsE_append : ∀ l m : List EV, cellsE (l ++ m) = cellsE l ++ cellsE m
  | [], m => rfl
  | x :: l, m => by simp [cellsE, cellsE_append l m]
theorem cellsE_one : ∀ (l : List EV), ∀ u ∈ cellsE l, u.oneCell' = true
  | [], u, h => by cases h
  | x :: l, u, h => by
    simp only [cellsE, List.mem_cons] at h
    rcases h with rfl | rfl | rfl | h
    all_goals first | rfl | exact cellsE_one l u h
theorem cellsE_at : ∀ (l : List EV) (i : Nat) (v : EV), l[i]? = some v → (cellsE l)[i * 3]? = some (.string v.path) ∧ (cellsE l)[i * 3 + 1]? = some (.int .i64 v.rows) ∧ (cellsE l)[i * 3 + 2]? = some (.slice v.ma v.mn v.mc)
  | [], i, x, h => by simp at h
  | y :: l, 0, x, h => by simp at h; subst h; simp [cellsE]
  | y :: l, i + 1, x, h => by
    have := cellsE_at l i x (by simpa using h)
    rw [show (i + 1) * 3 = i * 3 + 3 by omega]
    simpa [cellsE] using this
theorem RE.block {w : World} {l : List EV} {g : Nat} {cs : Array Value} {t : TypeId} {fr : Nat × Nat} (h : w.heap[g]? = some (.cells cs t fr)) (hcs : cs = (cellsE l).toArray) : RE w (some ⟨g, 0, none⟩) l := fun i x hi => by
  subst hcs
  obtain ⟨h0, h1, h2⟩ := cellsE_at l i x hi
  refine ⟨g, 0, rfl, ?_, ?_, ?_⟩ <;> simp [World.cell?, h, *]
theorem Tryz.elem_ents : Elem Tryz.prog 31 85 3 48 := by
  obtain ⟨i0, hi0, hz0, hz1, hz2⟩ := info_parts (show (Tryz.prog.info? 85).map (fun i => (i.zero, i.size, i.bytes)) = some (some (.agg #[.string ⟨#[]⟩, .int .i64 0, .slice none 0 0]), 3, 48) by kernel_rfl)
  exact ⟨Tryz.underlying31, ⟨i0, _, hi0, hz0, hz1, hz2, rfl⟩, by omega⟩
abbrev eRow (A : Option Addr) (n cap : Nat) (l : List EV) : Item := .row 85 3 A n cap (cellsE l)
theorem Hp.re {B : Nat} {w0 w : World} {L : List Item} {A : Option Addr} {cap n : Nat} {l : List EV} (h : Hp B w0 w L) (i : Nat) (hi : L[i]? = some (.row 85 3 A n cap (cellsE l))) : RE w A l := fun j x hj => by
  obtain ⟨h0, h1, h2⟩ := cellsE_at l j x hj
  obtain ⟨g, hg, c0, _⟩ := h.rowCell i hi h0
  obtain ⟨g1, hg1, c1, _⟩ := h.rowCell i hi h1
  obtain ⟨g2, hg2, c2, _⟩ := h.rowCell i hi h2
  rw [hg] at hg1 hg2
  simp only [Option.some.injEq, Addr.mk.injEq, and_true] at hg1 hg2
  subst hg1 hg2
  refine ⟨g, 0, hg, ?_, ?_, ?_⟩ <;> rw [Nat.zero_add] <;> assumption
theorem RE.cells {w : World} {b o : Nat} {l : List EV} (h : RE w (some ⟨b, o, none⟩) l) : ∀ (j : Nat) (u : Value), (cellsE l)[j]? = some u → w.cell? ⟨b, o + j, none⟩ = some u := fun j u hj => by
  have hlt : j < l.length * 3 := by rw [← cellsE_len]; exact (List.getElem?_eq_some_iff.1 hj).1
  obtain ⟨c, hc⟩ : ∃ c, l[j / 3]? = some c := ⟨_, List.getElem?_eq_getElem (by omega)⟩
  obtain ⟨b', o', hb, c0, c1, c2⟩ := h _ c hc
  obtain ⟨d0, d1, d2⟩ := cellsE_at l _ c hc
  simp only [Option.some.injEq, Addr.mk.injEq, and_true] at hb
  obtain ⟨rfl, rfl⟩ := hb
  have hm : j % 3 < 3 := Nat.mod_lt _ (by decide)
  have e : j = j / 3 * 3 + j % 3 := by omega
  generalize j % 3 = r at *
  generalize j / 3 = q at *
  subst e
  rcases (by omega : r = 0 ∨ r = 1 ∨ r = 2) with rfl | rfl | rfl
  · rw [Nat.add_zero] at hj ⊢; rw [d0] at hj; cases hj; exact c0
  · rw [d1] at hj; cases hj; rw [← Nat.add_assoc]; exact c1
  · rw [d2] at hj; cases hj; rw [← Nat.add_assoc]; exact c2
set_option maxRecDepth 100000 in
set_option maxHeartbeats 8000000 in
theorem eclone_any (l : List EV) (A : Option Addr) (n cap : Nat) (w : World) (hn : l.length = n) (hr : RE w A l) (hz : A = none → cap = 0) (hl : n ≤ 1000) :
    Calls Tryz.prog 33 #[.slice A n cap] w fun e w' => ∃ A' cap', e = .returned (.slice A' n cap') ∧ (A' = none → cap' = 0) ∧ Hp w.heap.size w w' [eRow A' n cap' l] := by
  cases A with
  | none =>
    obtain rfl : cap = 0 := hz rfl
    have hF : l = [] := by
      cases l with
      | nil => rfl
      | cons x l =>
        obtain ⟨b, o, e, _⟩ := hr 0 x rfl
        cases e
    subst hF
    obtain rfl : n = 0 := by simpa using hn.symm
    have hS := Hp.init w
    have he : ∀ w : World, (binOp .eql 31 (.slice none 0 0) (.slice none 0 0)).run Tryz.prog w = .ok (.bool true) w := fun _ => rfl
    go_enter Tryz.func33, Tryz.ntmps33
    go_wp2_with (first | (refine hab ?_; (try clear hF); clear hS; intro wk hS; (try simp only [List.set_cons_zero, List.set_cons_succ, heap_size, heap_set_size] at hS); ((try clear hF); refine hfI ?_; intro hF)) | fail)
    go_ret
    exact ⟨none, 0, rfl, fun _ => rfl, hS.nilRow _ _⟩
  | some ad =>
    obtain ⟨b, o, hs⟩ : ∃ b o, l ≠ [] → ad = ⟨b, o, none⟩ := by
      cases l with
      | nil => exact ⟨0, 0, fun h => absurd rfl h⟩
      | cons x l =>
        obtain ⟨b, o, e, _⟩ := hr 0 x rfl
        exact ⟨b, o, fun _ => Option.some.inj e⟩
    have HC := Lib.hid (fun (W : World) (hx : Ext w W) (j : Nat) (u : Value) (hu : (cellsE l)[j]? = some u) => show W.cell? (ad.add j) = some u from by
      have hne : l ≠ [] := fun e => by subst e; simp [cellsE] at hu
      obtain rfl := hs hne
      have e : (⟨b, o, none⟩ : Addr).add j = ⟨b, o + j, none⟩ := by unfold Addr.add; split <;> simp_all
      rw [e]
      exact (hr.ext hx).cells j u hu)
    have HL := Lib.hid (show (cellsE l).length = n * 3 by rw [cellsE_len, hn])
    have H1 := Lib.hid (cellsE_one l)
    clear hr hn hz hs
    have hS := Hp.init w
    have hR := Reads.nil w
    have he : ∀ w : World, (binOp .eql 31 (.slice (some ad) n cap) (.slice none 0 0)).run Tryz.prog w = .ok (.bool false) w := fun _ => rfl
    go_enter Tryz.func33, Tryz.ntmps33
    go_wp2_with (first | (refine hab ?_; (try clear hF); clear hS; intro wk hS; (try simp only [List.set_cons_zero, List.set_cons_succ, heap_size, heap_set_size] at hS); ((try clear hF); refine hfI ?_; intro hF)) | (at_builtin; refine wpList_append_hp Tryz.elem_ents rfl (.tmp 5) (.tmp 6) rfl (hS.blkRow (size := 3) (n := 0) rfl (by omega)) rfl ad rfl (news := cellsE l) HL.out (fun j u hu => HC.out _ hS.ext j u hu) H1.out (by omega) (by omega) ?_; clear hS; intro A' cap' wk hS; ((try clear hF); refine hfI ?_; intro hF)))
    rw [Nat.zero_add, List.nil_append] at hS
    go_ret
    refine ⟨A', cap', by simp, fun h => ?_, hS⟩
    subst h
    exact (hS.rowNil 0 rfl).2.1
def idxE (p : EV → Bool) : Nat → List EV → Int
  | _, [] => -1
  | k, x :: l => if p x then k else idxE p (k + 1) l
theorem dropE {l : List EV} {k : Nat} {x : EV} (h : l[k]? = some x) : l.drop k = x :: l.drop (k + 1) := by
  obtain ⟨h1, e⟩ := List.getElem?_eq_some_iff.1 h
  rw [List.drop_eq_getElem_cons h1, e]
def PredE (w0 : World) (g : Nat) (lb : Array Value) (p : EV → Bool) : Prop :=
  ∀ W, Ext w0 W → ∀ v : EV, Calls Tryz.prog g (#[.agg #[.string v.path, .int .i64 v.rows, .slice v.ma v.mn v.mc]] ++ lb) W fun e w' => e = .returned (.bool (p v)) ∧ Ext W w'
theorem PredE.at {w0 : World} {g : Nat} {lb : Array Value} {p : EV → Bool} (h : PredE w0 g lb p) (W : World) (hx : Ext w0 W) (v : EV) : Calls Tryz.prog g (#[.agg #[.string v.path, .int .i64 v.rows, .slice v.ma v.mn v.mc]] ++ lb) W fun e w' => e = .returned (.bool (p v)) ∧ Ext W w' := h W hx v
set_option maxRecDepth 100000 in
set_option maxHeartbeats 8000000 in
theorem eindexFunc_any (l : List EV) (A : Option Addr) (n cap : Nat) (g : Nat) (lb : Array Value) (p : EV → Bool) (w : World) (hn : l.length = n) (hr : RE w A l) (hl : n ≤ 1000000) (eg : ∀ args w, (callFunc g args).run Tryz.prog w = .ok (.enter g args) w) (hp : PredE w g lb p) :
    Calls Tryz.prog 59 #[.slice A n cap, .func (.func g) #[] lb] w fun e w' => e = .returned (.int .i64 (idxE p 0 l)) ∧ Ext w w' := by
  have Hn := Lib.hid hn.symm
  clear hn
  have HP := Lib.hid hp
  clear hp
  have hS := Hp.init w
  have hR := Reads.nil w
  go_enter Tryz.func59, Tryz.ntmps59
  go_wp2_with (first | (refine hab ?_; (try clear hF); clear hS; intro wk hS; (try simp only [List.set_cons_zero, List.set_cons_succ, heap_size, heap_set_size] at hS); ((try clear hF); refine hfI ?_; intro hF)) | fail)
  go_loopw [8, 5] (fun i _ wr => ∃ k : Nat, i = .int .i64 k ∧ k ≤ n ∧ Hid (idxE p 0 l = idxE p k (l.drop k)) ∧ Hp w.heap.size w wr []) (fun i _ _ => n - (intOf i).toNat)
  case atStart => exact ⟨0, rfl, Nat.zero_le _, Lib.hid rfl, hS⟩
  case round =>
    clear hS
    obtain ⟨k, rfl, hk, hf, hS⟩ := hrel
    by_cases hlt : k < n
    · have hlt' : k < l.length := by rw [← Hn.out]; exact hlt
      obtain ⟨x, hx'⟩ : ∃ x, l[k]? = some x := ⟨l[k], List.getElem?_eq_getElem hlt'⟩
      obtain ⟨b, o, rfl, c0, c1, c2⟩ := hr k x hx'
      have hR := Reads.cell c0 (Reads.cell c1 (Reads.cell c2 (Reads.nil w)))
      have HD := Lib.hid (dropE hx')
      clear hx' hlt' c0 c1 c2 hr
      ((try clear hF); refine hfI ?_; intro hF)
      go_wp2_with (first | (refine hab ?_; (try clear hF); clear hS; intro wk hS; (try simp only [List.set_cons_zero, List.set_cons_succ, heap_size, heap_set_size] at hS); ((try clear hF); refine hfI ?_; intro hF)) | ((with_reducible refine (HP.out.at _ hS.ext x).mono ?_); rintro e wk ⟨rfl, hX⟩; replace hS := hS.step hX; clear hX; ((try clear hF); refine hfI ?_; intro hF)))
      · go_ret
        refine ⟨?_, hS.ext⟩
        have hc : p x = true := by assumption
        rw [hf.out, HD.out, idxE, if_pos hc]; first | done | rfl
      · go_roundw
        case rel =>
          have hc : p x = false := by assumption
          exact ⟨k + 1, by go_num, by omega, Lib.hid (by rw [hf.out, HD.out, idxE, if_neg (by rw [hc]; simp)]), hS⟩
        case measure => simp [intOf]; omega
    · obtain rfl : n = k := by omega
      ((try clear hF); refine hfI ?_; intro hF)
      go_wp2_with (first | (refine hab ?_; (try clear hF); clear hS; intro wk hS; (try simp only [List.set_cons_zero, List.set_cons_succ, heap_size, heap_set_size] at hS); ((try clear hF); refine hfI ?_; intro hF)) | fail)
      go_ret
      exact ⟨by rw [hf.out, Hn.out, List.drop_length]; rfl, hS.ext⟩
theorem idxE_range (p : EV → Bool) : ∀ (l : List EV) (k : Nat), -1 ≤ idxE p k l ∧ idxE p k l < k + l.length
  | [], k => by simp [idxE]; omega
  | x :: l, k => by
    unfold idxE
    have := idxE_range p l (k + 1)
    rw [List.length_cons]
    split <;> omega
theorem zero_E : ∀ w, (zeroValue 85).run Tryz.prog w = .ok (.agg #[.string ⟨#[]⟩, .int .i64 0, .slice none 0 0]) w := fun _ => by kernel_rfl
theorem addr_add3 (b o j : Nat) : (⟨b, o, none⟩ : Addr).add j = ⟨b, o + j, none⟩ := by unfold Addr.add; split <;> simp_all
set_option maxRecDepth 100000 in
set_option maxHeartbeats 8000000 in
/-- the k-th element is taken out, in place -/
theorem edelete_any {B : Nat} {w0 w : World} {L : List Item} (l : List EV) (g n cap k : Nat) (hn : l.length = n) (hk : k < n) (hc : n ≤ cap) (hl : cap ≤ 9223372036854775807) (hS : Hp B w0 w (.row 85 3 (some ⟨g, 0, none⟩) n cap (cellsE l) :: L)) :
    Calls Tryz.prog 62 #[.slice (some ⟨g, 0, none⟩) n cap, .int .i64 k, .int .i64 ((k : Int) + 1)] w fun e w' => e = .returned (.slice (some ⟨g, 0, none⟩) (n - 1 : Nat) cap) ∧ Hp B w0 w' (.row 85 3 (some ⟨g, 0, none⟩) (n - 1) cap (cellsE (l.eraseIdx k)) :: L) := by
  obtain ⟨m, rfl⟩ : ∃ m, n = k + 1 + m := ⟨n - (k + 1), by omega⟩
  have HL := Lib.hid (show (cellsE (l.drop (k + 1))).length = m * 3 by rw [cellsE_len, List.length_drop, hn]; omega)
  have H1 := Lib.hid (cellsE_one (l.drop (k + 1)))
  have HER := Lib.hid (show (cellsE l).take (k * 3) ++ cellsE (l.drop (k + 1)) = cellsE (l.eraseIdx k) by
    rw [List.eraseIdx_eq_take_drop_succ, cellsE_append]
    congr 1
    have : cellsE l = cellsE (l.take k) ++ cellsE (l.drop k) := by rw [← cellsE_append, List.take_append_drop]
    rw [this, List.take_left' (by rw [cellsE_len, List.length_take]; omega)])
  have HSRC := Lib.hid (show ∀ W, Hp B w0 W (.row 85 3 (some ⟨g, 0, none⟩) (k + 1 + m) cap (cellsE l) :: L) → ∀ j u, (cellsE (l.drop (k + 1)))[j]? = some u → W.cell? ⟨g, (k + 1) * 3 + j, none⟩ = some u from fun W hW j u hu => by
    have e : (cellsE l)[(k + 1) * 3 + j]? = some u := by
      have : cellsE l = cellsE (l.take (k + 1)) ++ cellsE (l.drop (k + 1)) := by rw [← cellsE_append, List.take_append_drop]
      rw [this, List.getElem?_append_right (by rw [cellsE_len, List.length_take]; omega), cellsE_len, List.length_take, Nat.min_eq_left (by omega), Nat.add_sub_cancel_left]
      exact hu
    obtain ⟨g', hg, hcell, _⟩ := hW.rowCell 0 rfl e
    obtain rfl : g = g' := by simpa using hg
    exact hcell)
  clear hn
  have f1 : (k : Int) + 1 ≤ (k : Int) + 1 + m := by omega
  have f2 : (k : Int) ≤ cap := by omega
  have f3 : (k : Int) + 1 + m ≤ cap := by omega
  have f4 : ¬ cap = k + m := by omega
  have f5 : (0 : Int) ≤ (k : Int) + 1 := by omega
  have f6 : (k : Int) ≤ (k : Int) + 1 := by omega
  by_cases hcj : cap = k + 1
  · obtain rfl : m = 0 := by omega
    subst hcj
    ((try clear hF); refine hfI ?_; intro hF)
    go_enter Tryz.func62, Tryz.ntmps62
    go_wp2_with (first | (refine hab ?_; (try clear hF); clear hS; intro wk hS; (try simp only [List.set_cons_zero, List.set_cons_succ, heap_size, heap_set_size] at hS); ((try clear hF); refine hfI ?_; intro hF)) | fail)
    ((with_reducible refine wp_region_chain_hp [.q, .q, .q, .q, .q, .q, .t, .t] [] (by kernel_rfl) rfl (by kernel_rfl) hS (fun w h => h.sub (by simp)) ?_); clear hS; (repeat ((with_reducible refine Walk.here ?_); (first | ((with_reducible apply Walk.skipQ); (first | rfl | exact wanted_false rfl rfl rfl (by assumption)); (try simp only [Mark.isQ, if_true, Bool.false_eq_true, if_false, Act.put, List.setIfInBounds_toArray, List.set_cons_zero, List.set_cons_succ])) | ((with_reducible apply Walk.val); (first | rfl | exact wanted_true rfl rfl rfl (by assumption)); (rintro w hS; ((try clear hF); refine hfI ?_; intro hF); go_simp; first | with_reducible rfl | (rw [if_neg (by first | omega | (simp only [ByteArray.size_append]; omega) | (simp [ByteArray.size_append]; omega))]; try with_reducible rfl)); (try simp only [Mark.isQ, if_true, Bool.false_eq_true, if_false, Act.put, List.setIfInBounds_toArray, List.set_cons_zero, List.set_cons_succ])) | ((with_reducible apply Walk.tail); (try simp only [Mark.isQ, if_true, Bool.false_eq_true, if_false, Act.put, List.setIfInBounds_toArray, List.set_cons_zero, List.set_cons_succ])) | ((with_reducible apply Walk.guardT); rfl; rfl; rfl; (all_goals intro hg)) | ((with_reducible apply Walk.guardF); rfl; rfl; rfl; (all_goals intro hg))))); refine Walk.done ?_; simp only [chainOf, Mark.isT, if_true, Bool.false_eq_true, if_false])
    refine Chain.appendSpare (news := cellsE (l.drop (k + 1))) Tryz.elem_ents rfl (.tmp 22) (.tmp 25) rfl rfl ⟨g, 0, none⟩ rfl HL.out (by omega) (by omega) (fun W hW j u hu => by
      have := HL.out
      rw [Nat.zero_mul] at this
      rw [List.eq_nil_of_length_eq_zero this] at hu
      cases hu) H1.out (fun w h => h.sub (by simp)) ?_
    try simp only [Act.put, List.setIfInBounds_toArray, List.set_cons_zero, List.set_cons_succ]
    (refine Chain.val (by (first | rfl | exact wanted_true rfl rfl rfl (by assumption))) (fun w h => h.sub (by simp)) (by rintro w hS; ((try clear hF); refine hfI ?_; intro hF); go_simp; with_reducible rfl) ?_; try simp only [Act.put, List.setIfInBounds_toArray, List.set_cons_zero, List.set_cons_succ])
    (refine Chain.done ?_; (try clear hF); intro wk hS; ((try clear hF); refine hfI ?_; intro hF))
    rw [HER.out] at hS
    ((try clear hF); refine hfI ?_; intro hF)
    go_wp2_with (first | (refine hab ?_; (try clear hF); clear hS; intro wk hS; (try simp only [List.set_cons_zero, List.set_cons_succ, heap_size, heap_set_size] at hS); ((try clear hF); refine hfI ?_; intro hF)) | (refine wpList_clear_hp Tryz.underlying31 zero_E rfl (by simp [Value.cells, Value.oneCell']) rfl (.tmp 31) rfl hS rfl (by omega) ?_; clear hS; intro wk hS; ((try clear hF); refine hfI ?_; intro hF)))
    go_ret
    exact ⟨rfl, hS⟩
  · skip
    ((try clear hF); refine hfI ?_; intro hF)
    go_enter Tryz.func62, Tryz.ntmps62
    go_wp2_with (first | (refine hab ?_; (try clear hF); clear hS; intro wk hS; (try simp only [List.set_cons_zero, List.set_cons_succ, heap_size, heap_set_size] at hS); ((try clear hF); refine hfI ?_; intro hF)) | fail)
    ((with_reducible refine wp_region_chain_hp [.q, .q, .q, .q, .q, .q, .t, .t] [] (by kernel_rfl) rfl (by kernel_rfl) hS (fun w h => h.sub (by simp)) ?_); clear hS; (repeat ((with_reducible refine Walk.here ?_); (first | ((with_reducible apply Walk.skipQ); (first | rfl | exact wanted_false rfl rfl rfl (by assumption)); (try simp only [Mark.isQ, if_true, Bool.false_eq_true, if_false, Act.put, List.setIfInBounds_toArray, List.set_cons_zero, List.set_cons_succ])) | ((with_reducible apply Walk.val); (first | rfl | exact wanted_true rfl rfl rfl (by assumption)); (rintro w hS; ((try clear hF); refine hfI ?_; intro hF); go_simp; first | with_reducible rfl | (rw [if_neg (by first | omega | (simp only [ByteArray.size_append]; omega) | (simp [ByteArray.size_append]; omega))]; try with_reducible rfl)); (try simp only [Mark.isQ, if_true, Bool.false_eq_true, if_false, Act.put, List.setIfInBounds_toArray, List.set_cons_zero, List.set_cons_succ])) | ((with_reducible apply Walk.tail); (try simp only [Mark.isQ, if_true, Bool.false_eq_true, if_false, Act.put, List.setIfInBounds_toArray, List.set_cons_zero, List.set_cons_succ])) | ((with_reducible apply Walk.guardT); rfl; rfl; rfl; (all_goals intro hg)) | ((with_reducible apply Walk.guardF); rfl; rfl; rfl; (all_goals intro hg))))); refine Walk.done ?_; simp only [chainOf, Mark.isT, if_true, Bool.false_eq_true, if_false])
    refine Chain.appendSpare (news := cellsE (l.drop (k + 1))) Tryz.elem_ents rfl (.tmp 22) (.tmp 25) rfl rfl ⟨g, (k + 1) * 3, none⟩ rfl HL.out (by omega) (by omega) (fun W hW j u hu => by rw [addr_add3]; exact HSRC.out W hW j u hu) H1.out (fun w h => h.sub (by simp)) ?_
    try simp only [Act.put, List.setIfInBounds_toArray, List.set_cons_zero, List.set_cons_succ]
    (refine Chain.val (by (first | rfl | exact wanted_true rfl rfl rfl (by assumption))) (fun w h => h.sub (by simp)) (by rintro w hS; ((try clear hF); refine hfI ?_; intro hF); go_simp; with_reducible rfl) ?_; try simp only [Act.put, List.setIfInBounds_toArray, List.set_cons_zero, List.set_cons_succ])
    (refine Chain.done ?_; (try clear hF); intro wk hS; ((try clear hF); refine hfI ?_; intro hF))
    rw [HER.out] at hS
    ((try clear hF); refine hfI ?_; intro hF)
    have f7 : k + 1 + m - (k + m) = 1 := by omega
    go_wp2_with (first | (refine hab ?_; (try clear hF); clear hS; intro wk hS; (try simp only [List.set_cons_zero, List.set_cons_succ, heap_size, heap_set_size] at hS); ((try clear hF); refine hfI ?_; intro hF)) | (refine wpList_clear_hp Tryz.underlying31 zero_E rfl (by simp [Value.cells, Value.oneCell']) rfl (.tmp 31) rfl hS (show Value.slice (some ⟨g, (k + m) * 3, none⟩) (k + 1 + m - (k + m)) (cap - (k + m)) = Value.slice (some ⟨g, (k + m) * 3, none⟩) 1 (cap - (k + m)) by rw [f7]) (by omega) ?_; clear hS; intro wk hS; ((try clear hF); refine hfI ?_; intro hF)))
    go_ret
    have e : k + 1 + m - 1 = k + m := by omega
    rw [e]
    exact ⟨rfl, hS⟩
end Go.Proofs.YtlgidjanmaijaaaGreatDoor

/- log.masks. -/
namespace Go.Proofs.YtlgidjanmaijaaaGreatDoor
set_option linter.unusedSimpArgs false
set_option linter.unusedVariables false
open Go.RowKit
set_option linter.all false
set_option maxRecDepth 100000 in
theorem eg_lmasks1 : ∀ args w, (callFunc 96 args).run Tryz.prog w = .ok (.enter 96 args) w := fun _ _ => by kernel_rfl
set_option maxRecDepth 100000 in
set_option maxHeartbeats 8000000 in
theorem lmasks1_any (x : Int) (g : Nat) (mk : List Int) (A : Option Addr) (n cap : Nat) (w : World) (hn : mk.length = n) (hl : n ≤ 1000) (hr : RI w A mk) (h : w.cell? ⟨g, 2, none⟩ = some (.slice A n cap)) :
    Calls Tryz.prog 96 #[.int .i64 x, .pointer (some ⟨g, 0, none⟩)] w fun e w' => e = .returned (.bool (mk.contains x)) ∧ Ext w w' := by
  have HC := Lib.hid (fun (W : World) (hx : Ext w W) => icontains_any (x := x) (cap := cap) hn (by omega) (hr.ext hx))
  have hS := Hp.init w
  have hR := Reads.cell h (Reads.nil w)
  clear h hr hn
  obtain ⟨b, hb⟩ : ∃ b, b = mk.contains x := ⟨_, rfl⟩
  rw [← hb] at HC ⊢
  clear hb
  ((try clear hF); refine hfI ?_; intro hF)
  go_enter Tryz.func96, Tryz.ntmps96
  go_wp2_with (first | (refine hab ?_; (try clear hF); clear hS; intro wk hS; (try simp only [List.set_cons_zero, List.set_cons_succ, heap_size, heap_set_size] at hS); ((try clear hF); refine hfI ?_; intro hF)) | (go_at_call 97; (with_reducible refine (HC.out _ hS.ext).mono ?_); rintro e wk ⟨rfl, hX⟩; replace hS := hS.step hX; clear hX; ((try clear hF); refine hfI ?_; intro hF)))
  go_ret
  exact ⟨rfl, hS.ext⟩
theorem cellsE_set : ∀ (l : List EV) (k : Nat) (v : EV), k < l.length → (((cellsE l).set (k * 3) (.string v.path)).set (k * 3 + 1) (.int .i64 v.rows)).set (k * 3 + 2) (.slice v.ma v.mn v.mc) = cellsE (l.set k v)
  | [], k, v, h => by simp at h
  | x :: l, 0, v, h => by simp [cellsE]
  | x :: l, k + 1, v, h => by
    have := cellsE_set l k v (by simpa using h)
    rw [show (k + 1) * 3 = k * 3 + 3 by omega]
    simp only [cellsE, List.set_cons_succ]
    rw [this]
/-- what masks answers -/
def masksE (v : Int) (mk l : List Int) : Int := if l.length = 0 ∨ maskB l v = false then 1 else if l.any mk.contains = true then 6 else 0
def snB (gs : Nat) (ver : Int) (Ac : Option Addr) (nc cc : Nat) (nx : Int) (Af : Option Addr) (nf cf : Nat) : Item := .blk gs [.int .i64 ver, .slice Ac nc cc, .int .i64 nx, .slice Af nf cf] 33
set_option maxRecDepth 100000 in
set_option maxHeartbeats 8000000 in
theorem masks_any {B : Nat} {w0 w : World} {K : List Item} (gs gf k : Nat) (ver nx : Int) (Ac Al : Option Addr) (nc cc nf cf nl cl : Nat) (evs : List EV) (v : EV) (mk l : List Int) (hnf : evs.length = nf) (hk : evs[k]? = some v) (hl : l.length = nl) (hl2 : nl ≤ 100) (hmn : mk.length = v.mn) (hmn2 : v.mn ≤ 100)
    (hz : v.ma = none → v.mc = 0) (hzl : Al = none → cl = 0) (HMK : Hid (∀ W, Hp B w0 W K → RI W v.ma mk)) (HL : Hid (∀ W, Hp B w0 W K → RI W Al l))
    (hS : Hp B w0 w (snB gs ver Ac nc cc nx (some ⟨gf, 0, none⟩) nf cf :: eRow (some ⟨gf, 0, none⟩) nf cf evs :: K)) :
    Calls Tryz.prog 63 #[.pointer (some ⟨gs, 0, none⟩), .int .i64 k, .slice Al nl cl] w fun e w' => e = .returned (.int .i64 (masksE v.rows mk l)) ∧
      if masksE v.rows mk l = 0 then ∃ Am cm, (Am = none → cm = 0) ∧ Hp B w0 w' (snB gs ver Ac nc cc nx (some ⟨gf, 0, none⟩) nf cf :: eRow (some ⟨gf, 0, none⟩) nf cf (evs.set k ⟨v.path, v.rows, Am, v.mn + nl, cm⟩) :: .row 3 1 Am (v.mn + nl) cm (intsV (sortI (mk ++ l))) :: K)
      else Hp B w0 w' (snB gs ver Ac nc cc nx (some ⟨gf, 0, none⟩) nf cf :: eRow (some ⟨gf, 0, none⟩) nf cf evs :: K) := by
  unfold snB eRow at *
  have hkl := (List.getElem?_eq_some_iff.1 hk).1
  obtain ⟨b0, o0, hA, q0, q1, q2⟩ := (hS.re 1 rfl) k v hk
  obtain ⟨rfl, rfl⟩ : gf = b0 ∧ 0 = o0 := by simpa using hA
  simp only [Nat.zero_add] at q0 q1 q2
  have hkf : k < nf := by omega
  have hk0 : (0 : Int) ≤ (k : Int) := by omega
  have HMB := Lib.hid (fun (W : World) (h : Hp B w0 W K) => mask_any l Al nl cl v.rows W hl (by omega) (HL.out W h))
  by_cases hl0 : nl = 0
  · subst hl0
    have e0 : masksE v.rows mk l = 1 := by unfold masksE; rw [if_pos (.inl hl)]
    rw [e0]
    clear HMB HMK HL hkl hA e0
    ((try clear hF); refine hfI ?_; intro hF)
    go_enter Tryz.func63, Tryz.ntmps63
    go_wp2_with (first | (refine hab ?_; (try clear hF); clear hS; intro wk hS; (try simp only [List.set_cons_zero, List.set_cons_succ, heap_size, heap_set_size] at hS); ((try clear hF); refine hfI ?_; intro hF)) | fail)
    go_ret
    exact ⟨rfl, hS.tail⟩
  · have hln : ¬ ((nl : Int) = 0) := by omega
    have HCF := Lib.hid (fun (W : World) (g7 : Nat) (h : Hp B w0 W K) (h2 : W.cell? ⟨g7, 2, none⟩ = some (.slice v.ma v.mn v.mc)) => icontainsFunc_any l Al nl cl 96 #[.pointer (some ⟨g7, 0, none⟩)] mk.contains W hl (HL.out W h) (by omega) eg_lmasks1 (fun W' hx x => lmasks1_any x g7 mk v.ma v.mn v.mc W' hmn (by omega) ((HMK.out W h).ext hx) (hx.keeps h2)))
    have HCC := Lib.hid (fun (W : World) (gq : Nat) (t : TypeId) (h : Hp B w0 W K) (h2 : W.heap[gq]? = some (.cells #[.slice v.ma v.mn v.mc, .slice Al nl cl] t (0, 0))) => iconcat_any mk l v.ma Al v.mn nl v.mc cl gq t W hmn hl (by omega) (by omega) (HMK.out W h) (HL.out W h) hz hzl h2)
    have HME := Lib.hid (show masksE v.rows mk l = if maskB l v.rows = false then 1 else if l.any mk.contains = true then 6 else 0 by unfold masksE; rw [hl]; simp [hl0])
    obtain ⟨mb, hmb⟩ : ∃ b, b = maskB l v.rows := ⟨_, rfl⟩
    obtain ⟨an, han⟩ : ∃ b, b = l.any mk.contains := ⟨_, rfl⟩
    rw [← hmb] at HMB HME
    rw [← han] at HCF HME
    clear hmb han hA hkl
    cases mb with
    | false =>
      rw [HME.out, if_pos rfl]
      clear HCF HCC HME
      ((try clear hF); refine hfI ?_; intro hF)
      go_enter Tryz.func63, Tryz.ntmps63
      go_wp2_with (first | (refine hab ?_; (try clear hF); clear hS; intro wk hS; (try simp only [List.set_cons_zero, List.set_cons_succ, heap_size, heap_set_size] at hS); ((try clear hF); refine hfI ?_; intro hF)) | (go_at_call 36; (with_reducible refine (HMB.out _ (hS.sub (by first | simp | ((repeat (first | exact List.nil_sublist _ | exact List.Sublist.refl _ | with_reducible apply List.Sublist.cons₂ | apply List.Sublist.cons)))))).mono ?_); rintro e wk ⟨rfl, hX⟩; replace hS := hS.step hX; clear hX; ((try clear hF); refine hfI ?_; intro hF)))
      go_ret
      exact ⟨rfl, hS.tail⟩
    | true => cases an with
      | true =>
        rw [HME.out, if_neg (by decide), if_pos rfl]
        clear HCC HME
        ((try clear hF); refine hfI ?_; intro hF)
        go_enter Tryz.func63, Tryz.ntmps63
        go_wp2_with (first | (refine hab ?_; (try clear hF); clear hS; intro wk hS; (try simp only [List.set_cons_zero, List.set_cons_succ, heap_size, heap_set_size] at hS); ((try clear hF); refine hfI ?_; intro hF)) | (go_at_call 36; (with_reducible refine (HMB.out _ (hS.sub (by first | simp | ((repeat (first | exact List.nil_sublist _ | exact List.Sublist.refl _ | with_reducible apply List.Sublist.cons₂ | apply List.Sublist.cons)))))).mono ?_); rintro e wk ⟨rfl, hX⟩; replace hS := hS.step hX; clear hX; ((try clear hF); refine hfI ?_; intro hF)) | (go_at_call 95; (with_reducible refine (HCF.out _ _ (hS.sub (by first | simp | ((repeat (first | exact List.nil_sublist _ | exact List.Sublist.refl _ | with_reducible apply List.Sublist.cons₂ | apply List.Sublist.cons))))) hF.1.2.2.1).mono ?_); rintro e wk ⟨rfl, hX⟩; replace hS := hS.step hX; clear hX; ((try clear hF); refine hfI ?_; intro hF)))
        go_ret
        exact ⟨rfl, hS.tail⟩
      | false =>
        rw [HME.out, if_neg (by decide), if_neg (by decide)]
        clear HME
        ((try clear hF); refine hfI ?_; intro hF)
        go_enter Tryz.func63, Tryz.ntmps63
        go_wp2_with (first | (refine hab ?_; (try clear hF); clear hS; intro wk hS; (try simp only [List.set_cons_zero, List.set_cons_succ, heap_size, heap_set_size] at hS); ((try clear hF); refine hfI ?_; intro hF)) | (go_at_call 36; (with_reducible refine (HMB.out _ (hS.sub (by first | simp | ((repeat (first | exact List.nil_sublist _ | exact List.Sublist.refl _ | with_reducible apply List.Sublist.cons₂ | apply List.Sublist.cons)))))).mono ?_); rintro e wk ⟨rfl, hX⟩; replace hS := hS.step hX; clear hX; ((try clear hF); refine hfI ?_; intro hF)) | (go_at_call 95; (with_reducible refine (HCF.out _ _ (hS.sub (by first | simp | ((repeat (first | exact List.nil_sublist _ | exact List.Sublist.refl _ | with_reducible apply List.Sublist.cons₂ | apply List.Sublist.cons))))) hF.1.2.2.1).mono ?_); rintro e wk ⟨rfl, hX⟩; replace hS := hS.step hX; clear hX; ((try clear hF); refine hfI ?_; intro hF)) | (go_at_call 98; (with_reducible refine Calls.mono (HCC.out _ _ _ (hS.sub (by first | simp | ((repeat (first | exact List.nil_sublist _ | exact List.Sublist.refl _ | with_reducible apply List.Sublist.cons₂ | apply List.Sublist.cons))))) (hS.blkAt 0 rfl)) ?_); rintro e wk ⟨Am, cm, rfl, hW⟩; replace hS := hS.join hW; clear hW; simp only [List.cons_append, List.nil_append] at hS; ((try clear hF); refine hfI ?_; intro hF)) | (go_at_call 99; (with_reducible refine Calls.mono (isort_any (mk ++ l) (by rw [List.length_append, hmn, hl]) (by omega) hS) ?_); clear hS; rintro e wk ⟨rfl, hS⟩; ((try clear hF); refine hfI ?_; intro hF)))
        ((with_reducible refine wp_region_tail_hp (id := 8) [.q, .q, .q, .q, .q, .q, .q, .t] (by kernel_rfl) rfl (by kernel_rfl) hS ?_); (repeat ((with_reducible refine Walk.here ?_); (first | ((with_reducible apply Walk.skipQ); (first | rfl | exact wanted_false rfl rfl rfl (by assumption)); (try simp only [Mark.isQ, if_true, Bool.false_eq_true, if_false, Act.put, List.setIfInBounds_toArray, List.set_cons_zero, List.set_cons_succ])) | ((with_reducible apply Walk.skipP); (first | rfl | exact wanted_false rfl rfl rfl (by assumption)); (try simp only [Mark.isQ, if_true, Bool.false_eq_true, if_false, Act.put, List.setIfInBounds_toArray, List.set_cons_zero, List.set_cons_succ])) | ((with_reducible apply Walk.val); (first | rfl | exact wanted_true rfl rfl rfl (by assumption)); (rintro w hS; ((try clear hF); refine hfI ?_; intro hF); go_simp; with_reducible rfl); (try simp only [Mark.isQ, if_true, Bool.false_eq_true, if_false, Act.put, List.setIfInBounds_toArray, List.set_cons_zero, List.set_cons_succ])) | ((with_reducible apply Walk.pure); (first | rfl | exact wanted_true rfl rfl rfl (by assumption)); (intro w; go_simp; with_reducible rfl); (try simp only [Mark.isQ, if_true, Bool.false_eq_true, if_false, Act.put, List.setIfInBounds_toArray, List.set_cons_zero, List.set_cons_succ])) | ((with_reducible apply Walk.blk); (focus (intro w; go_simp; try with_reducible rfl)); (try simp only [Mark.isQ, if_true, Bool.false_eq_true, if_false, Act.put, List.setIfInBounds_toArray, List.set_cons_zero, List.set_cons_succ])) | ((with_reducible apply Walk.tail); (try simp only [Mark.isQ, if_true, Bool.false_eq_true, if_false, Act.put, List.setIfInBounds_toArray, List.set_cons_zero, List.set_cons_succ])) | ((with_reducible apply Walk.guardT); rfl; rfl; rfl; (all_goals intro hg)) | ((with_reducible apply Walk.guardF); rfl; rfl; rfl; (all_goals intro hg))))); refine Walk.done ?_; (try clear hF); clear hS; intro bs wk hS QN hQN; simp only [itemsOf, blksOf, List.map_cons, List.map_nil, List.cons_append, List.nil_append, Nat.reduceAdd, Nat.zero_add] at hS; simp only [tailsOf, putB, Act.put, List.setIfInBounds_toArray, List.set_cons_zero, List.set_cons_succ, Nat.reduceAdd, Nat.zero_add]; ((try clear hF); refine hfI ?_; intro hF))
        obtain ⟨z0, z1, z2⟩ := cellsE_at evs k v hk
        obtain ⟨ga, hga, d0, f0⟩ := hS.rowCell 4 rfl z0
        obtain rfl : gf = ga := by simpa using hga
        obtain ⟨gb, hgb, d1, f1⟩ := hS.rowCell 4 rfl z1
        obtain rfl : gf = gb := by simpa using hgb
        obtain ⟨gc, hgc, d2, f2⟩ := hS.rowCell 4 rfl z2
        obtain rfl : gf = gc := by simpa using hgc
        clear hga hgb hgc z0 z1 z2
        go_wp2_with fail
        go_ret
        have hS2 := (((hS.front 4 rfl).putRow (k * 3) (.string v.path)).putRow (k * 3 + 1) (.int .i64 v.rows)).putRow (k * 3 + 2) (.slice Am (v.mn + nl) cm)
        have hset := cellsE_set evs k ⟨v.path, v.rows, Am, v.mn + nl, cm⟩ (by omega)
        simp only at hset
        rw [hset] at hS2
        simp only [List.eraseIdx_cons_zero, List.eraseIdx_cons_succ] at hS2
        have hS3 := (hS2.sub (M := .row 85 3 (some ⟨gf, 0, none⟩) nf cf (cellsE (evs.set k ⟨v.path, v.rows, Am, v.mn + nl, cm⟩)) :: .row 3 1 Am (v.mn + nl) cm (intsV (sortI (mk ++ l))) :: .blk gs [.int .i64 ver, .slice Ac nc cc, .int .i64 nx, .slice (some ⟨gf, 0, none⟩) nf cf] 33 :: K) (by first | simp | ((repeat (first | exact List.nil_sublist _ | exact List.Sublist.refl _ | with_reducible apply List.Sublist.cons₂ | apply List.Sublist.cons))))).front 2 rfl
        simp only [List.eraseIdx_cons_zero, List.eraseIdx_cons_succ] at hS3
        refine ⟨rfl, ?_⟩
        first
          | exact ⟨Am, cm, fun h => by subst h; exact (hS.rowNil 0 rfl).2.1, hS3⟩
          | (rw [if_pos rfl]; exact ⟨Am, cm, fun h => by subst h; exact (hS.rowNil 0 rfl).2.1, hS3⟩)
end Go.Proofs.YtlgidjanmaijaaaGreatDoor

/- log.action. -/
namespace Go.Proofs.YtlgidjanmaijaaaGreatDoor
set_option linter.unusedSimpArgs false
set_option linter.unusedVariables false
open Go.RowKit
set_option linter.all false
/-- a file of a table; a table; an action -/
structure EN where
  path : ByteArray
  rows : Int
  mask : List Int
structure SN where
  ver : Int
  cols : List CG
  next : Int
  files : List EN
structure AN where
  kind : Int
  path : ByteArray
  rows : Int
  mask : List Int
  cols : List CG
  next : Int
def pathEq (p : ByteArray) (q : ByteArray) : Bool := q.toList == p.toList
def idxP (p : ByteArray) : Nat → List ByteArray → Int
  | _, [] => -1
  | k, x :: l => if pathEq p x then k else idxP p (k + 1) l
def actE (s : SN) (a : AN) : Int :=
  if a.kind = 4 then (if rightC a.cols a.next = false ∨ a.next < s.next then 1 else 0)
  else if a.kind = 1 then (if nameB a.path = false ∨ a.rows < 1 ∨ 60 < a.rows then 1 else if 0 ≤ idxP a.path 0 (s.files.map (·.path)) then 9 else if s.cols.length = 0 then 6 else if 40 ≤ s.files.length then 12 else 0)
  else if a.kind = 2 ∨ a.kind = 3 then (if idxP a.path 0 (s.files.map (·.path)) < 0 then 7 else if a.kind = 2 then 0 else match s.files[(idxP a.path 0 (s.files.map (·.path))).toNat]? with | some e => masksE e.rows e.mask a.mask | none => 1)
  else 1
def actS (s : SN) (a : AN) : SN :=
  if a.kind = 4 then { s with cols := a.cols, next := a.next }
  else if a.kind = 1 then { s with files := s.files ++ [⟨a.path, a.rows, []⟩] }
  else if a.kind = 2 then { s with files := s.files.eraseIdx (idxP a.path 0 (s.files.map (·.path))).toNat }
  else match s.files[(idxP a.path 0 (s.files.map (·.path))).toNat]? with
    | some e => { s with files := s.files.set (idxP a.path 0 (s.files.map (·.path))).toNat ⟨e.path, e.rows, sortI (e.mask ++ a.mask)⟩ }
    | none => s
/-- a file in memory reads so, as long as the things of K stand -/
structure EvOk (B : Nat) (w0 : World) (K : List Item) (v : EV) (e : EN) : Prop where
  path : v.path = e.path
  rows : v.rows = e.rows
  len : e.mask.length = v.mn
  nil : v.ma = none → v.mc = 0
  mask : ∀ W, Hp B w0 W K → RI W v.ma e.mask
structure FsOk (B : Nat) (w0 : World) (K : List Item) (evs : List EV) (ens : List EN) : Prop where
  len : evs.length = ens.length
  one : ∀ (i : Nat) (v : EV) (e : EN), evs[i]? = some v → ens[i]? = some e → EvOk B w0 K v e
theorem EvOk.more {B : Nat} {w0 : World} {K K' : List Item} {v : EV} {e : EN} (h : EvOk B w0 K v e) (hK : ∀ W, Hp B w0 W K' → Hp B w0 W K) : EvOk B w0 K' v e := ⟨h.path, h.rows, h.len, h.nil, fun W hW => h.mask W (hK W hW)⟩
theorem FsOk.more {B : Nat} {w0 : World} {K K' : List Item} {evs : List EV} {ens : List EN} (h : FsOk B w0 K evs ens) (hK : ∀ W, Hp B w0 W K' → Hp B w0 W K) : FsOk B w0 K' evs ens := ⟨h.len, fun i v e h1 h2 => (h.one i v e h1 h2).more hK⟩
theorem FsOk.paths {B : Nat} {w0 : World} {K : List Item} {evs : List EV} {ens : List EN} (h : FsOk B w0 K evs ens) : evs.map (·.path) = ens.map (·.path) := by
  refine List.ext_getElem (by simp [h.len]) fun i h1 h2 => ?_
  simp only [List.getElem_map]
  exact (h.one i _ _ (List.getElem?_eq_getElem (by simpa using h1)) (List.getElem?_eq_getElem (by simpa using h2))).path
theorem idxE_P (p : ByteArray) : ∀ (l : List EV) (k : Nat), idxE (fun v => pathEq p v.path) k l = idxP p k (l.map (·.path))
  | [], k => rfl
  | x :: l, k => by
    rw [List.map_cons, idxE, idxP, idxE_P p l (k + 1)]
theorem FsOk.set {B : Nat} {w0 : World} {K : List Item} {evs : List EV} {ens : List EN} (h : FsOk B w0 K evs ens) (k : Nat) {v : EV} {e : EN} (hv : EvOk B w0 K v e) : FsOk B w0 K (evs.set k v) (ens.set k e) :=
  ⟨by rw [List.length_set, List.length_set, h.len], fun i a b h1 h2 => by
    rw [List.getElem?_set] at h1 h2
    by_cases hk : k = i
    · rw [if_pos hk] at h1 h2
      split at h1
      · split at h2
        · obtain rfl := Option.some.inj h1
          obtain rfl := Option.some.inj h2
          exact hv
        · cases h2
      · cases h1
    · rw [if_neg hk] at h1 h2
      exact h.one i a b h1 h2⟩
theorem FsOk.erase {B : Nat} {w0 : World} {K : List Item} {evs : List EV} {ens : List EN} (h : FsOk B w0 K evs ens) (k : Nat) : FsOk B w0 K (evs.eraseIdx k) (ens.eraseIdx k) :=
  ⟨by rw [List.length_eraseIdx, List.length_eraseIdx, h.len], fun i a b h1 h2 => by
    rw [List.getElem?_eraseIdx] at h1 h2
    split at h1
    · exact h.one i a b h1 (by rw [if_pos (by assumption)] at h2; exact h2)
    · exact h.one _ a b h1 (by rw [if_neg (by assumption)] at h2; exact h2)⟩
theorem FsOk.push {B : Nat} {w0 : World} {K : List Item} {evs : List EV} {ens : List EN} (h : FsOk B w0 K evs ens) {v : EV} {e : EN} (hv : EvOk B w0 K v e) : FsOk B w0 K (evs ++ [v]) (ens ++ [e]) :=
  ⟨by rw [List.length_append, List.length_append, h.len]; rfl, fun i a b h1 h2 => by
    by_cases hi : i < evs.length
    · rw [List.getElem?_append_left hi] at h1
      rw [List.getElem?_append_left (by rw [← h.len]; exact hi)] at h2
      exact h.one i a b h1 h2
    · rw [List.getElem?_append_right (by omega)] at h1
      rw [List.getElem?_append_right (by rw [← h.len]; omega)] at h2
      have hlt := (List.getElem?_eq_some_iff.1 h1).1
      obtain hz : i - evs.length = 0 := by simpa using hlt
      rw [hz] at h1
      rw [← h.len, hz] at h2
      obtain rfl : v = a := by simpa using h1
      obtain rfl : e = b := by simpa using h2
      exact hv⟩
set_option maxRecDepth 100000 in
theorem eg_laction1 : ∀ args w, (callFunc 60 args).run Tryz.prog w = .ok (.enter 60 args) w := fun _ _ => by kernel_rfl
set_option maxRecDepth 100000 in
set_option maxHeartbeats 8000000 in
theorem laction1_any (p : ByteArray) (v : EV) (g : Nat) (w : World) (h : w.cell? ⟨g, 1, none⟩ = some (.string p)) :
    Calls Tryz.prog 60 #[.agg #[.string v.path, .int .i64 v.rows, .slice v.ma v.mn v.mc], .pointer (some ⟨g, 0, none⟩)] w fun e w' => e = .returned (.bool (pathEq p v.path)) ∧ Ext w w' := by
  have hS := Hp.init w
  have hR := Reads.cell h (Reads.nil w)
  clear h
  unfold pathEq
  ((try clear hF); refine hfI ?_; intro hF)
  go_enter Tryz.func60, Tryz.ntmps60
  go_wp2_with (first | (refine hab ?_; (try clear hF); clear hS; intro wk hS; (try simp only [List.set_cons_zero, List.set_cons_succ, heap_size, heap_set_size] at hS); ((try clear hF); refine hfI ?_; intro hF)) | fail)
  go_ret
  exact ⟨rfl, hS.ext⟩
end Go.Proofs.YtlgidjanmaijaaaGreatDoor

/- slices.Equal of the same columns. -/
namespace Go.Proofs.YtlgidjanmaijaaaGreatDoor
set_option linter.all false
set_option linter.unusedSimpArgs false
set_option linter.unusedVariables false
open Go.RowKit
theorem neqC_self (c : CG) (w : World) :
    (binOp .neq 61 (.agg #[.int .i64 c.id, .string c.name, .int .i64 c.kind, .bool c.must, .int .i64 c.d.kind, .int .i64 c.d.num, .string c.d.text]) (.agg #[.int .i64 c.id, .string c.name, .int .i64 c.kind, .bool c.must, .int .i64 c.d.kind, .int .i64 c.d.num, .string c.d.text])).run Tryz.prog w = .ok (.bool false) w := by
  simp [go_sem]
set_option maxRecDepth 100000 in
set_option maxHeartbeats 8000000 in
theorem cequal_any (l : List CG) (A A2 : Option Addr) (cap cap2 : Nat) (w : World) (hr : RC w A l) (hr2 : RC w A2 l) (hl : l.length ≤ 1000) :
    Calls Tryz.prog 29 #[.slice A l.length cap, .slice A2 l.length cap2] w fun e w' => e = .returned (.bool true) ∧ Ext w w' := by
  obtain ⟨n, hn⟩ : ∃ n, n = l.length := ⟨_, rfl⟩
  rw [← hn]
  have Hn := Lib.hid hn
  rw [← hn] at hl
  clear hn
  have hS := Hp.init w
  have hR := Reads.nil w
  go_enter Tryz.func29, Tryz.ntmps29
  go_wp2_with (first | (refine hab ?_; (try clear hF); clear hS; intro wk hS; (try simp only [List.set_cons_zero, List.set_cons_succ, heap_size, heap_set_size] at hS); ((try clear hF); refine hfI ?_; intro hF)) | fail)
  go_loopw [13, 5] (fun i _ wr => ∃ k : Nat, i = .int .i64 k ∧ k ≤ n ∧ Hp w.heap.size w wr []) (fun i _ _ => n - (intOf i).toNat)
  case atStart => exact ⟨0, rfl, Nat.zero_le _, hS⟩
  case round =>
    clear hS
    obtain ⟨k, rfl, hk, hS⟩ := hrel
    by_cases hlt : k < n
    · have hlt' : k < l.length := by rw [← Hn.out]; exact hlt
      obtain ⟨x, hx'⟩ : ∃ x, l[k]? = some x := ⟨l[k], List.getElem?_eq_getElem hlt'⟩
      obtain ⟨b, o, rfl, c0, c1, c2, c3, c4, c5, c6⟩ := hr k x hx'
      obtain ⟨b2, o2, rfl, d0, d1, d2, d3, d4, d5, d6⟩ := hr2 k x hx'
      have hR := Reads.cell c0 (Reads.cell c1 (Reads.cell c2 (Reads.cell c3 (Reads.cell c4 (Reads.cell c5 (Reads.cell c6 (Reads.cell d0 (Reads.cell d1 (Reads.cell d2 (Reads.cell d3 (Reads.cell d4 (Reads.cell d5 (Reads.cell d6 (Reads.nil w))))))))))))))
      have b5 := neqC_self x
      clear hx' hlt' c0 c1 c2 c3 c4 c5 c6 d0 d1 d2 d3 d4 d5 d6 hr hr2
      ((try clear hF); refine hfI ?_; intro hF)
      go_wp2_with (first | (refine hab ?_; (try clear hF); clear hS; intro wk hS; (try simp only [List.set_cons_zero, List.set_cons_succ, heap_size, heap_set_size] at hS); ((try clear hF); refine hfI ?_; intro hF)) | (first | (with_reducible refine wp_region_hp (draw := true) (by kernel_rfl) (by kernel_rfl) hS ?_) | ((with_reducible refine Fixed.here ?_); (first | ((with_reducible apply Fixed.skip); (first | rfl | exact wanted_false rfl rfl rfl (by assumption)); try simp only [Act.put, List.setIfInBounds_toArray, List.set_cons_zero, List.set_cons_succ]) | ((with_reducible apply Fixed.val); (first | rfl | exact wanted_true rfl rfl rfl (by assumption)); (rintro w hS; ((try clear hF); refine hfI ?_; intro hF); go_simp; with_reducible rfl); try simp only [Act.put, List.setIfInBounds_toArray, List.set_cons_zero, List.set_cons_succ]) | ((with_reducible apply Fixed.guardT); rfl; rfl; rfl; (all_goals intro hg)) | ((with_reducible apply Fixed.guardF); rfl; rfl; rfl; (all_goals intro hg)) | (with_reducible refine Fixed.done ?_; (try clear hF); clear hS; intro wk hS; ((try clear hF); refine hfI ?_; intro hF))))))
      go_roundw
      case rel => exact ⟨k + 1, by go_num, by omega, hS⟩
      case measure => simp [intOf]; omega
    · obtain rfl : k = n := by omega
      ((try clear hF); refine hfI ?_; intro hF)
      go_wp2_with (first | (refine hab ?_; (try clear hF); clear hS; intro wk hS; (try simp only [List.set_cons_zero, List.set_cons_succ, heap_size, heap_set_size] at hS); ((try clear hF); refine hfI ?_; intro hF)) | fail)
      go_ret
      exact ⟨rfl, hS.ext⟩
end Go.Proofs.YtlgidjanmaijaaaGreatDoor
