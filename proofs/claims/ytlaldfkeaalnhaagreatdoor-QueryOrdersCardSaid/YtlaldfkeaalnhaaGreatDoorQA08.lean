/- schema.Name, schema.column: what they answer. -/
import Derived.Test.YtlaldfkeaalnhaaGreatDoorQA01
import Derived.Test.YtlaldfkeaalnhaaGreatDoorQA02
import Derived.Test.YtlaldfkeaalnhaaGreatDoorQA03
import Derived.Test.YtlaldfkeaalnhaaGreatDoorQA04
namespace Go.Proofs.YtlaldfkeaalnhaaGreatDoor
set_option linter.all false
set_option linter.unusedSimpArgs false
set_option linter.unusedVariables false
open Go.RowKit
/-- a column as Go has it -/
structure CG where
  id : Int
  name : ByteArray
  kind : Int
  must : Bool
  d : GV
def keptL : List ByteArray := [⟨#[97, 110, 100]⟩, ⟨#[105, 115]⟩, ⟨#[110, 111, 116]⟩, ⟨#[110, 117, 108, 108]⟩, ⟨#[111, 114]⟩]
/-- the words that are no names, in the program's variable -/
def KeptAt (w : World) : Prop := ∀ j, j < 5 → w.cell? ⟨3, j, none⟩ = some (.string (keptL.getD j ByteArray.empty))
theorem KeptAt.ext {w w' : World} (h : KeptAt w) (hx : Ext w w') : KeptAt w' := fun j hj => hx.keeps (h j hj)
def keptB (s : ByteArray) : Bool := Lib.containsS keptL s
theorem kept_any (s : ByteArray) (w : World) (h : KeptAt w) : Calls Tryz.prog 23 #[.slice (some ⟨3, 0, none⟩) 5 5, .string s] w fun e w' => e = .returned (.bool (keptB s)) ∧ Ext w w' :=
  (Tryz.slices_Contains_string 3 0 5 5 keptL s w (by decide) (by decide) (fun j hj => by rw [Nat.zero_add]; exact h j hj)).mono fun e w' ⟨h1, h2⟩ => ⟨h1, by rw [h2]; exact Ext.refl _⟩
/-- whether a column may be -/
def colB (c : CG) : Bool := nameB c.name && !keptB c.name && (c.kind == 1 || c.kind == 2) && decide (1 ≤ c.id) && rightB c.d.kind c.d.num c.d.text && (c.d.kind == 0 || c.d.kind == c.kind)
set_option maxRecDepth 100000 in
set_option maxHeartbeats 8000000 in
theorem column_any (c : CG) (w : World) (h : KeptAt w) :
    Calls Tryz.prog 83 #[.agg #[.int .i64 c.id, .string c.name, .int .i64 c.kind, .bool c.must, .int .i64 c.d.kind, .int .i64 c.d.num, .string c.d.text]] w fun e w' => e = .returned (.bool (colB c)) ∧ Ext w w' := by
  have hS := Hp.init w
  have hR := Reads.nil w
  unfold colB
  obtain ⟨nb, hnb⟩ : ∃ b, b = nameB c.name := ⟨_, rfl⟩
  obtain ⟨kb, hkb⟩ : ∃ b, b = keptB c.name := ⟨_, rfl⟩
  obtain ⟨rb, hrb⟩ : ∃ b, b = rightB c.d.kind c.d.num c.d.text := ⟨_, rfl⟩
  have HN := Lib.hid (fun W => name_any c.name W)
  have HK := Lib.hid (fun W hx => kept_any c.name W (h.ext (w' := W) hx))
  have HR := Lib.hid (fun W => right_any c.d.kind c.d.num c.d.text W)
  rw [← hnb] at HN ⊢
  rw [← hkb] at HK ⊢
  rw [← hrb] at HR ⊢
  clear hnb hkb hrb h
  cases nb with
  | false =>
    go_enter Tryz.func83, Tryz.ntmps83
    go_wp2_with (first | (refine hab ?_; (try clear hF); clear hS; intro wk hS; (try simp only [List.set_cons_zero, List.set_cons_succ, heap_size, heap_set_size] at hS); ((try clear hF); refine hfI ?_; intro hF)) | (first | (with_reducible refine wp_region_hp (draw := true) (by kernel_rfl) (by kernel_rfl) hS ?_) | ((with_reducible refine Fixed.here ?_); (first | ((with_reducible apply Fixed.skip); (first | rfl | exact wanted_false rfl rfl rfl (by assumption)); try simp only [Act.put, List.setIfInBounds_toArray, List.set_cons_zero, List.set_cons_succ]) | ((with_reducible apply Fixed.val); (first | rfl | exact wanted_true rfl rfl rfl (by assumption)); (rintro w hS; ((try clear hF); refine hfI ?_; intro hF); go_simp; with_reducible rfl); try simp only [Act.put, List.setIfInBounds_toArray, List.set_cons_zero, List.set_cons_succ]) | ((with_reducible apply Fixed.call); (first | rfl | exact wanted_true rfl rfl rfl (by assumption)); (rintro w hS; ((try clear hF); refine hfI ?_; intro hF); go_simp; exact ⟨rfl, rfl⟩); (rintro w hS; first | (with_reducible exact HN.out w) | (with_reducible exact HK.out w hS.ext) | (with_reducible exact HR.out w)); try simp only [Act.put, List.setIfInBounds_toArray, List.set_cons_zero, List.set_cons_succ]) | ((with_reducible apply Fixed.guardT); rfl; rfl; rfl; (all_goals intro hg)) | ((with_reducible apply Fixed.guardF); rfl; rfl; rfl; (all_goals intro hg)) | (with_reducible refine Fixed.done ?_; (try clear hF); clear hS; intro wk hS; ((try clear hF); refine hfI ?_; intro hF))))))
    all_goals
      go_ret
      refine ⟨?_, hS.ext⟩
      clear hS hF HN HK HR
      first | rfl | (simp_all; done) | (simp_all; omega) | (simp_all; intros; omega)
  | true =>
    cases kb with
    | true =>
      go_enter Tryz.func83, Tryz.ntmps83
      go_wp2_with (first | (refine hab ?_; (try clear hF); clear hS; intro wk hS; (try simp only [List.set_cons_zero, List.set_cons_succ, heap_size, heap_set_size] at hS); ((try clear hF); refine hfI ?_; intro hF)) | (first | (with_reducible refine wp_region_hp (draw := true) (by kernel_rfl) (by kernel_rfl) hS ?_) | ((with_reducible refine Fixed.here ?_); (first | ((with_reducible apply Fixed.skip); (first | rfl | exact wanted_false rfl rfl rfl (by assumption)); try simp only [Act.put, List.setIfInBounds_toArray, List.set_cons_zero, List.set_cons_succ]) | ((with_reducible apply Fixed.val); (first | rfl | exact wanted_true rfl rfl rfl (by assumption)); (rintro w hS; ((try clear hF); refine hfI ?_; intro hF); go_simp; with_reducible rfl); try simp only [Act.put, List.setIfInBounds_toArray, List.set_cons_zero, List.set_cons_succ]) | ((with_reducible apply Fixed.call); (first | rfl | exact wanted_true rfl rfl rfl (by assumption)); (rintro w hS; ((try clear hF); refine hfI ?_; intro hF); go_simp; exact ⟨rfl, rfl⟩); (rintro w hS; first | (with_reducible exact HN.out w) | (with_reducible exact HK.out w hS.ext) | (with_reducible exact HR.out w)); try simp only [Act.put, List.setIfInBounds_toArray, List.set_cons_zero, List.set_cons_succ]) | ((with_reducible apply Fixed.guardT); rfl; rfl; rfl; (all_goals intro hg)) | ((with_reducible apply Fixed.guardF); rfl; rfl; rfl; (all_goals intro hg)) | (with_reducible refine Fixed.done ?_; (try clear hF); clear hS; intro wk hS; ((try clear hF); refine hfI ?_; intro hF))))))
      all_goals
        go_ret
        refine ⟨?_, hS.ext⟩
        clear hS hF HN HK HR
        first | rfl | (simp_all; done) | (simp_all; omega) | (simp_all; intros; omega)
    | false =>
      cases rb with
      | false =>
        go_enter Tryz.func83, Tryz.ntmps83
        go_wp2_with (first | (refine hab ?_; (try clear hF); clear hS; intro wk hS; (try simp only [List.set_cons_zero, List.set_cons_succ, heap_size, heap_set_size] at hS); ((try clear hF); refine hfI ?_; intro hF)) | (first | (with_reducible refine wp_region_hp (draw := true) (by kernel_rfl) (by kernel_rfl) hS ?_) | ((with_reducible refine Fixed.here ?_); (first | ((with_reducible apply Fixed.skip); (first | rfl | exact wanted_false rfl rfl rfl (by assumption)); try simp only [Act.put, List.setIfInBounds_toArray, List.set_cons_zero, List.set_cons_succ]) | ((with_reducible apply Fixed.val); (first | rfl | exact wanted_true rfl rfl rfl (by assumption)); (rintro w hS; ((try clear hF); refine hfI ?_; intro hF); go_simp; with_reducible rfl); try simp only [Act.put, List.setIfInBounds_toArray, List.set_cons_zero, List.set_cons_succ]) | ((with_reducible apply Fixed.call); (first | rfl | exact wanted_true rfl rfl rfl (by assumption)); (rintro w hS; ((try clear hF); refine hfI ?_; intro hF); go_simp; exact ⟨rfl, rfl⟩); (rintro w hS; first | (with_reducible exact HN.out w) | (with_reducible exact HK.out w hS.ext) | (with_reducible exact HR.out w)); try simp only [Act.put, List.setIfInBounds_toArray, List.set_cons_zero, List.set_cons_succ]) | ((with_reducible apply Fixed.guardT); rfl; rfl; rfl; (all_goals intro hg)) | ((with_reducible apply Fixed.guardF); rfl; rfl; rfl; (all_goals intro hg)) | (with_reducible refine Fixed.done ?_; (try clear hF); clear hS; intro wk hS; ((try clear hF); refine hfI ?_; intro hF))))))
        all_goals
          go_ret
          refine ⟨?_, hS.ext⟩
          clear hS hF HN HK HR
          first | rfl | (simp_all; done) | (simp_all; omega) | (simp_all; intros; omega)
      | true =>
        go_enter Tryz.func83, Tryz.ntmps83
        go_wp2_with (first | (refine hab ?_; (try clear hF); clear hS; intro wk hS; (try simp only [List.set_cons_zero, List.set_cons_succ, heap_size, heap_set_size] at hS); ((try clear hF); refine hfI ?_; intro hF)) | (first | (with_reducible refine wp_region_hp (draw := true) (by kernel_rfl) (by kernel_rfl) hS ?_) | ((with_reducible refine Fixed.here ?_); (first | ((with_reducible apply Fixed.skip); (first | rfl | exact wanted_false rfl rfl rfl (by assumption)); try simp only [Act.put, List.setIfInBounds_toArray, List.set_cons_zero, List.set_cons_succ]) | ((with_reducible apply Fixed.val); (first | rfl | exact wanted_true rfl rfl rfl (by assumption)); (rintro w hS; ((try clear hF); refine hfI ?_; intro hF); go_simp; with_reducible rfl); try simp only [Act.put, List.setIfInBounds_toArray, List.set_cons_zero, List.set_cons_succ]) | ((with_reducible apply Fixed.call); (first | rfl | exact wanted_true rfl rfl rfl (by assumption)); (rintro w hS; ((try clear hF); refine hfI ?_; intro hF); go_simp; exact ⟨rfl, rfl⟩); (rintro w hS; first | (with_reducible exact HN.out w) | (with_reducible exact HK.out w hS.ext) | (with_reducible exact HR.out w)); try simp only [Act.put, List.setIfInBounds_toArray, List.set_cons_zero, List.set_cons_succ]) | ((with_reducible apply Fixed.guardT); rfl; rfl; rfl; (all_goals intro hg)) | ((with_reducible apply Fixed.guardF); rfl; rfl; rfl; (all_goals intro hg)) | (with_reducible refine Fixed.done ?_; (try clear hF); clear hS; intro wk hS; ((try clear hF); refine hfI ?_; intro hF))))))
        all_goals
          go_ret
          refine ⟨?_, hS.ext⟩
          clear hS hF HN HK HR
          first | rfl | (simp_all; done) | (simp_all; omega) | (simp_all; intros; omega)
end Go.Proofs.YtlaldfkeaalnhaaGreatDoor
