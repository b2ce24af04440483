/- ask.whole at questions, ask.Parse: what a text asks. -/
import Derived.Test.YtlaldfkeaalnhaaGreatDoorQA24
import Derived.Test.YtlaldfkeaalnhaaGreatDoorQA16
import Derived.Test.YtlaldfkeaalnhaaGreatDoorQA03
import Derived.Test.YtlaldfkeaalnhaaGreatDoorQA04
import Derived.Defers
import Derived.Recover
import Derived.RegionTactic
namespace Go.Proofs.YtlaldfkeaalnhaaGreatDoor
set_option linter.unusedSimpArgs false
set_option linter.unusedVariables false
open Go.RowKit
set_option linter.all false
def wrongV (tp : TypeId) (pv : Value) : Value := .iface 124 (.agg #[.iface tp pv])
@[go_sem] theorem run_assert_wrong (xT tp : TypeId) (pv : Value) (w : World) : (Instr.typeAssert (.iface 124 (.agg #[.iface tp pv])) xT 124 true).run Tryz.prog w = .ok (.tuple #[.agg #[.iface tp pv], .bool true]) w := by kernel_rfl
theorem wp_post {P : Program} {c : Code} {Q : Exit → Act → World → Prop} {a : Act} {w : World} (I : Act → World → Prop) (hI : ∀ a' w', I a' w' → Q .normal a' w') (h : ∀ Q' : Exit → Act → World → Prop, (∀ a' w', I a' w' → Q' .normal a' w') → Code.wp P c Q' a w) : Code.wp P c Q a w := h Q hI
abbrev zQ : List Value := [.slice none 0 0, .pointer none, .slice none 0 0, .slice none 0 0, .int .i64 0]
set_option maxRecDepth 100000 in
set_option maxHeartbeats 8000000 in
theorem catchq_pan {B : Nat} {w0 w : World} {L : List Item} (go ge : Nat) (o0 o1 o2 o3 o4 ev : Value) (tp : TypeId) (pv : Value) (hS : Hp B w0 w (.blk ge [ev] 51 :: .blk go [o0, o1, o2, o3, o4] 49 :: L)) :
  CallsD Tryz.prog 68 #[.pointer (some ⟨go, 0, none⟩), .pointer (some ⟨ge, 0, none⟩)] (.panicking ({ v := wrongV tp pv, recovered := false } :: [])) w fun e u' w' =>
   e = .returned (.tuple #[]) ∧ u' = .panicking ({ v := wrongV tp pv, recovered := true } :: []) ∧ Hp B w0 w' (.blk ge [.iface tp pv] 51 :: .blk go zQ 49 :: L) := by
 have hR := Reads.nil w
 unfold wrongV
 refine callsD_of_wpS Tryz.func68 rfl fun c₀ cs hu => ?_
 simp only [Tryz.ntmps68, List.size_toArray, List.length_cons, List.length_nil, Nat.reduceAdd, Nat.reduceSub, Array.replicate_succ, Array.replicate_zero, List.push_toArray, List.append_toArray, List.nil_append, List.cons_append]
 apply wpS_seq
 apply wpS_region
 simp [wpOpsS, go_sem, recoverD, hu, Exit.thenS]
 refine wpS_of_wp ?_
 refine wp_post (fun a' w' => a'.defers = [] ∧ Hp B w0 w' (.blk ge [.iface tp pv] 51 :: .blk go zQ 49 :: L)) ?_ ?_
 ·rintro a' w' ⟨hd, hw⟩
  simp [bodyPostS, results, Tryz.results68, hd, hw]
 intro QQ hQQ
 ((try clear hF); refine hfI ?_; intro hF)
 go_upto_region 6 with (first | (refine hab ?_; (try clear hF); clear hS; intro wk hS; (try simp only [List.set_cons_zero, List.set_cons_succ, heap_size, heap_set_size] at hS); ((try clear hF); refine hfI ?_; intro hF)) | fail)
 obtain ⟨g5, hg5⟩ := hS.nameQ 0 rfl
 rw [← hg5] at hS hF ⊢
 clear hg5
 obtain ⟨g3, hg3⟩ := hS.nameQ 1 rfl
 rw [← hg3] at hS hF ⊢
 clear hg3
 ((with_reducible refine wp_region_braidz_hp [.t, .t, .t, .t, .t] 0 [.blk g5 zQ 49, .blk g3 [.iface tp pv] 124] (by kernel_rfl) rfl (by kernel_rfl) hS (fun w h => h.sub (by simp)) ?_); clear hS; (repeat ((with_reducible refine Walk.here ?_); (first | ((with_reducible apply Walk.skipQ); (first | rfl | exact wanted_false rfl rfl rfl (by assumption)); (try simp only [Mark.isQ, if_true, Bool.false_eq_true, if_false, Act.put, List.setIfInBounds_toArray, List.set_cons_zero, List.set_cons_succ])) | ((with_reducible apply Walk.val); (first | rfl | exact wanted_true rfl rfl rfl (by assumption)); (rintro w hS; ((try clear hF); refine hfI ?_; intro hF); go_simp; first | with_reducible rfl | (rw [if_neg (by first | omega | (simp only [ByteArray.size_append]; omega) | (simp [ByteArray.size_append]; omega))]; try with_reducible rfl)); (try simp only [Mark.isQ, if_true, Bool.false_eq_true, if_false, Act.put, List.setIfInBounds_toArray, List.set_cons_zero, List.set_cons_succ])) | ((with_reducible apply Walk.tail); (try simp only [Mark.isQ, if_true, Bool.false_eq_true, if_false, Act.put, List.setIfInBounds_toArray, List.set_cons_zero, List.set_cons_succ])) | ((with_reducible apply Walk.guardT); rfl; rfl; rfl; (all_goals intro hg)) | ((with_reducible apply Walk.guardF); rfl; rfl; rfl; (all_goals intro hg))))); refine Walk.done ?_; show BraidZ _ _ _ _ 0 5 [0, 1, 2, 3, 4] _ _)
 (refine BraidZ.earlyN (i := 1) (by kernel_rfl) (by kernel_rfl) (by kernel_rfl) (by kernel_rfl) rfl (fun _ _ h hx => h.step hx) ?_; (try simp only [List.getElem_toArray, List.getElem_cons_succ, List.getElem_cons_zero]); refine EStep.val (by (first | rfl | exact wanted_true rfl rfl rfl (by assumption))) (fun w => by go_simp; with_reducible rfl) ?_; try simp only [Act.put, List.setIfInBounds_toArray, List.set_cons_zero, List.set_cons_succ])
 (refine BraidZ.next2 (i := 0) (j := 2) (by kernel_rfl) (by kernel_rfl) rfl rfl ?_ ?_ <;> (try simp only [List.getElem_toArray, List.getElem_cons_succ, List.getElem_cons_zero]))
 ·(refine ZStep.val (by (first | rfl | exact wanted_true rfl rfl rfl (by assumption))) (fun w h => h.sub (by first | simp | ((try simp only [List.eraseIdx_cons_zero, List.eraseIdx_cons_succ]); (repeat (first | exact List.nil_sublist _ | exact List.Sublist.refl _ | with_reducible apply List.Sublist.cons₂ | apply List.Sublist.cons))))) (by rintro w hS; ((try clear hF); refine hfI ?_; intro hF); go_simp; with_reducible rfl) ?_; try simp only [Act.put, List.setIfInBounds_toArray, List.set_cons_zero, List.set_cons_succ])
  (refine BraidZ.next2 (i := 2) (j := 3) (by kernel_rfl) (by kernel_rfl) rfl rfl ?_ ?_ <;> (try simp only [List.getElem_toArray, List.getElem_cons_succ, List.getElem_cons_zero]))
  ·(refine ZStep.val (by (first | rfl | exact wanted_true rfl rfl rfl (by assumption))) (fun w h => h.sub (by first | simp | ((try simp only [List.eraseIdx_cons_zero, List.eraseIdx_cons_succ]); (repeat (first | exact List.nil_sublist _ | exact List.Sublist.refl _ | with_reducible apply List.Sublist.cons₂ | apply List.Sublist.cons))))) (by rintro w hS; ((try clear hF); refine hfI ?_; intro hF); go_simp; with_reducible rfl) ?_; try simp only [Act.put, List.setIfInBounds_toArray, List.set_cons_zero, List.set_cons_succ])
   (refine BraidZ.next1 (i := 3) (by kernel_rfl) (by kernel_rfl) rfl ?_; (try simp only [List.getElem_toArray, List.getElem_cons_succ, List.getElem_cons_zero]))
   (show ZStep _ _ _ true _ _ _ _; refine ZStep.storeRow (i := 3) (g := go) (us := [.slice none 0 0, .pointer none, .slice none 0 0, .slice none 0 0, .int .i64 0]) (.inl rfl) (by (first | rfl | exact wanted_true rfl rfl rfl (by assumption))) rfl rfl rfl rfl (by kernel_rfl) rfl (by simp [Value.oneCell']) ?_; try simp only [Act.put, List.setIfInBounds_toArray, List.set_cons_zero, List.set_cons_succ])
   (refine BraidZ.next1 (i := 4) (by kernel_rfl) (by kernel_rfl) rfl ?_; (try simp only [List.getElem_toArray, List.getElem_cons_succ, List.getElem_cons_zero]))
   (show ZStep _ _ _ true _ _ _ _; refine ZStep.turn (by (first | rfl | exact wanted_true rfl rfl rfl (by assumption))) (fun w hS => ⟨w.setCell ⟨ge, 0, none⟩ (.iface tp pv), .inl (by ((try clear hF); refine hfI ?_; intro hF); go_simp), hS.put (i := 2) rfl⟩) ?_; try simp only [Act.put, List.setIfInBounds_toArray, List.set_cons_zero, List.set_cons_succ])
   (refine BraidZ.last (by kernel_rfl) ?_; (try clear hF); intro wk hS; ((try clear hF); refine hfI ?_; intro hF))
   exact hQQ _ _ ⟨rfl, hS.tail.tail⟩
  ·(show ZStep _ _ _ true _ _ _ _; refine ZStep.storeRow (i := 3) (g := go) (us := [.slice none 0 0, .pointer none, .slice none 0 0, .slice none 0 0, .int .i64 0]) (.inl rfl) (by (first | rfl | exact wanted_true rfl rfl rfl (by assumption))) rfl rfl rfl rfl (by kernel_rfl) rfl (by simp [Value.oneCell']) ?_; try simp only [Act.put, List.setIfInBounds_toArray, List.set_cons_zero, List.set_cons_succ])
   (refine BraidZ.next1 (i := 2) (by kernel_rfl) (by kernel_rfl) rfl ?_; (try simp only [List.getElem_toArray, List.getElem_cons_succ, List.getElem_cons_zero]))
   (refine ZStep.val (by (first | rfl | exact wanted_true rfl rfl rfl (by assumption))) (fun w h => h.sub (by first | simp | ((try simp only [List.eraseIdx_cons_zero, List.eraseIdx_cons_succ]); (repeat (first | exact List.nil_sublist _ | exact List.Sublist.refl _ | with_reducible apply List.Sublist.cons₂ | apply List.Sublist.cons))))) (by rintro w hS; ((try clear hF); refine hfI ?_; intro hF); go_simp; with_reducible rfl) ?_; try simp only [Act.put, List.setIfInBounds_toArray, List.set_cons_zero, List.set_cons_succ])
   (refine BraidZ.next1 (i := 4) (by kernel_rfl) (by kernel_rfl) rfl ?_; (try simp only [List.getElem_toArray, List.getElem_cons_succ, List.getElem_cons_zero]))
   (show ZStep _ _ _ true _ _ _ _; refine ZStep.turn (by (first | rfl | exact wanted_true rfl rfl rfl (by assumption))) (fun w hS => ⟨w.setCell ⟨ge, 0, none⟩ (.iface tp pv), .inl (by ((try clear hF); refine hfI ?_; intro hF); go_simp), hS.put (i := 2) rfl⟩) ?_; try simp only [Act.put, List.setIfInBounds_toArray, List.set_cons_zero, List.set_cons_succ])
   (refine BraidZ.last (by kernel_rfl) ?_; (try clear hF); intro wk hS; ((try clear hF); refine hfI ?_; intro hF))
   exact hQQ _ _ ⟨rfl, hS.tail.tail⟩
 ·(refine ZStep.val (by (first | rfl | exact wanted_true rfl rfl rfl (by assumption))) (fun w h => h.sub (by first | simp | ((try simp only [List.eraseIdx_cons_zero, List.eraseIdx_cons_succ]); (repeat (first | exact List.nil_sublist _ | exact List.Sublist.refl _ | with_reducible apply List.Sublist.cons₂ | apply List.Sublist.cons))))) (by rintro w hS; ((try clear hF); refine hfI ?_; intro hF); go_simp; with_reducible rfl) ?_; try simp only [Act.put, List.setIfInBounds_toArray, List.set_cons_zero, List.set_cons_succ])
  (refine BraidZ.next1 (i := 0) (by kernel_rfl) (by kernel_rfl) rfl ?_; (try simp only [List.getElem_toArray, List.getElem_cons_succ, List.getElem_cons_zero]))
  (refine ZStep.val (by (first | rfl | exact wanted_true rfl rfl rfl (by assumption))) (fun w h => h.sub (by first | simp | ((try simp only [List.eraseIdx_cons_zero, List.eraseIdx_cons_succ]); (repeat (first | exact List.nil_sublist _ | exact List.Sublist.refl _ | with_reducible apply List.Sublist.cons₂ | apply List.Sublist.cons))))) (by rintro w hS; ((try clear hF); refine hfI ?_; intro hF); go_simp; with_reducible rfl) ?_; try simp only [Act.put, List.setIfInBounds_toArray, List.set_cons_zero, List.set_cons_succ])
  (refine BraidZ.next1 (i := 3) (by kernel_rfl) (by kernel_rfl) rfl ?_; (try simp only [List.getElem_toArray, List.getElem_cons_succ, List.getElem_cons_zero]))
  (show ZStep _ _ _ true _ _ _ _; refine ZStep.storeRow (i := 3) (g := go) (us := [.slice none 0 0, .pointer none, .slice none 0 0, .slice none 0 0, .int .i64 0]) (.inl rfl) (by (first | rfl | exact wanted_true rfl rfl rfl (by assumption))) rfl rfl rfl rfl (by kernel_rfl) rfl (by simp [Value.oneCell']) ?_; try simp only [Act.put, List.setIfInBounds_toArray, List.set_cons_zero, List.set_cons_succ])
  (refine BraidZ.next1 (i := 4) (by kernel_rfl) (by kernel_rfl) rfl ?_; (try simp only [List.getElem_toArray, List.getElem_cons_succ, List.getElem_cons_zero]))
  (show ZStep _ _ _ true _ _ _ _; refine ZStep.turn (by (first | rfl | exact wanted_true rfl rfl rfl (by assumption))) (fun w hS => ⟨w.setCell ⟨ge, 0, none⟩ (.iface tp pv), .inl (by ((try clear hF); refine hfI ?_; intro hF); go_simp), hS.put (i := 2) rfl⟩) ?_; try simp only [Act.put, List.setIfInBounds_toArray, List.set_cons_zero, List.set_cons_succ])
  (refine BraidZ.last (by kernel_rfl) ?_; (try clear hF); intro wk hS; ((try clear hF); refine hfI ?_; intro hF))
  exact hQQ _ _ ⟨rfl, hS.tail.tail⟩
set_option maxRecDepth 100000 in
set_option maxHeartbeats 8000000 in
theorem catchq_idle (go ge : Nat) (w : World) :
  CallsD Tryz.prog 68 #[.pointer (some ⟨go, 0, none⟩), .pointer (some ⟨ge, 0, none⟩)] .returning w fun e u' w' => e = .returned (.tuple #[]) ∧ u' = .returning ∧ w' = w := by
 refine callsD_of_wpS Tryz.func68 rfl fun c₀ cs hu => ?_
 simp only [Tryz.ntmps68, List.size_toArray, List.length_cons, List.length_nil, Nat.reduceAdd, Nat.reduceSub, Array.replicate_succ, Array.replicate_zero, List.push_toArray, List.append_toArray, List.nil_append, List.cons_append]
 apply wpS_seq
 apply wpS_region
 simp [wpOpsS, go_sem, recoverD, hu, Exit.thenS]
 refine wpS_of_wp ?_
 refine wp_post (fun a' w' => a'.defers = [] ∧ w' = w) ?_ ?_
 ·rintro a' w' ⟨hd, rfl⟩
  cases c₀
  simp_all [bodyPostS, results, Tryz.results68]
 intro QQ hQQ
 go_wp2
/-- how a text is read -/
def QryRes (w0 : World) (L : List Item) (r : Option QG) (e : Ending) (w' : World) : Prop := match r with
 | some q => ∃ v X, e = .returned (.tuple #[qV v, .nilIface]) ∧ Hid (QIn w0.heap.size w0 X v q) ∧ Hp w0.heap.size w0 w' (X ++ L)
 | none => (∃ tp pv, e = .returned (.tuple #[.agg #[.slice none 0 0, .pointer none, .slice none 0 0, .slice none 0 0, .int .i64 0], .iface tp pv])) ∧ Hp w0.heap.size w0 w' L
theorem swingK {B : Nat} {w0 W : World} {y R a b : Item} {K L : List Item} (h : Hp B w0 W (y :: R :: (K ++ (a :: b :: L)))) : Hp B w0 W (a :: b :: y :: R :: (K ++ L)) := by
 refine unB (h.perm ?_)
 exact ((List.perm_append_comm_assoc K [a, b] L).symm.cons R).cons y
set_option maxRecDepth 100000 in
set_option maxHeartbeats 8000000 in
theorem wholeq_bad {w0 w : World} {L : List Item} (s : ByteArray) (m : Nat) (hm : s.size = m) (hm2 : m ≤ 5000) (hM : MarksAt w0) (ht : tokL (m + 1) s.data.toList 0 = none) (hS : Hp w0.heap.size w0 w L) :
  Calls Tryz.prog 34 #[.string s, .func (.func 35) #[] #[]] w (QryRes w0 L none) := by
 have HT := Lib.hid (fun (W : World) (hx : Ext w0 W) => tokens_any s W m hm (by omega) (hM.ext hx))
 rw [ht] at HT
 have hmf : ∀ (fn : Fn) (first cap : Array Value) (w : World), (Instr.makeFunc fn first cap).run Tryz.prog w = .ok (.func fn first cap) w := fun _ _ _ _ => rfl
 have hR := Reads.nil w0
 clear ht
 go_enter_defers Tryz.func34, Tryz.ntmps34
 go_wp2_with (first | (refine hab ?_; (try clear hF); clear hS; intro wk hS; (try simp only [List.set_cons_zero, List.set_cons_succ, heap_size, heap_set_size] at hS); ((try clear hF); refine hfI ?_; intro hF)) | (go_at_call 69; (with_reducible refine Calls.mono (HT.out _ hS.ext) ?_); rintro e wk ⟨⟨tp, pv, rfl⟩, hX⟩; replace hS := hS.step hX; clear hX; ((try clear hF); refine hfI ?_; intro hF)))
 obtain ⟨ge, hge⟩ := hS.nameQ 0 rfl
 rw [← hge] at hS hF ⊢
 clear hge
 obtain ⟨go, hgo⟩ := hS.nameQ 1 rfl
 rw [← hgo] at hS hF ⊢
 clear hgo
 ((with_reducible refine wp_region_braidz_hp [.t, .t, .t, .t] 0 [.blk ge [.iface tp pv] 51, .blk go zQ 49] (by kernel_rfl) rfl (by kernel_rfl) hS (fun w h => h.sub (by simp)) ?_); clear hS; (repeat ((with_reducible refine Walk.here ?_); (first | ((with_reducible apply Walk.skipQ); (first | rfl | exact wanted_false rfl rfl rfl (by assumption)); (try simp only [Mark.isQ, if_true, Bool.false_eq_true, if_false, Act.put, List.setIfInBounds_toArray, List.set_cons_zero, List.set_cons_succ])) | ((with_reducible apply Walk.val); (first | rfl | exact wanted_true rfl rfl rfl (by assumption)); (rintro w hS; ((try clear hF); refine hfI ?_; intro hF); go_simp; first | with_reducible rfl | (rw [if_neg (by first | omega | (simp only [ByteArray.size_append]; omega) | (simp [ByteArray.size_append]; omega))]; try with_reducible rfl)); (try simp only [Mark.isQ, if_true, Bool.false_eq_true, if_false, Act.put, List.setIfInBounds_toArray, List.set_cons_zero, List.set_cons_succ])) | ((with_reducible apply Walk.tail); (try simp only [Mark.isQ, if_true, Bool.false_eq_true, if_false, Act.put, List.setIfInBounds_toArray, List.set_cons_zero, List.set_cons_succ])) | ((with_reducible apply Walk.guardT); rfl; rfl; rfl; (all_goals intro hg)) | ((with_reducible apply Walk.guardF); rfl; rfl; rfl; (all_goals intro hg))))); refine Walk.done ?_; show BraidZ _ _ _ _ 0 4 [0, 1, 2, 3] _ _)
 (refine BraidZ.next2 (i := 0) (j := 1) (by kernel_rfl) (by kernel_rfl) rfl rfl ?_ ?_ <;> (try simp only [List.getElem_toArray, List.getElem_cons_succ, List.getElem_cons_zero]))
 ·(refine ZStep.val (by (first | rfl | exact wanted_true rfl rfl rfl (by assumption))) (fun w h => h.sub (by first | simp | ((try simp only [List.eraseIdx_cons_zero, List.eraseIdx_cons_succ]); (repeat (first | exact List.nil_sublist _ | exact List.Sublist.refl _ | with_reducible apply List.Sublist.cons₂ | apply List.Sublist.cons))))) (by rintro w hS; ((try clear hF); refine hfI ?_; intro hF); go_simp; with_reducible rfl) ?_; try simp only [Act.put, List.setIfInBounds_toArray, List.set_cons_zero, List.set_cons_succ])
  (refine BraidZ.next2 (i := 1) (j := 2) (by kernel_rfl) (by kernel_rfl) rfl rfl ?_ ?_ <;> (try simp only [List.getElem_toArray, List.getElem_cons_succ, List.getElem_cons_zero]))
  ·(refine ZStep.val (by (first | rfl | exact wanted_true rfl rfl rfl (by assumption))) (fun w h => h.sub (by first | simp | ((try simp only [List.eraseIdx_cons_zero, List.eraseIdx_cons_succ]); (repeat (first | exact List.nil_sublist _ | exact List.Sublist.refl _ | with_reducible apply List.Sublist.cons₂ | apply List.Sublist.cons))))) (by rintro w hS; ((try clear hF); refine hfI ?_; intro hF); go_simp; with_reducible rfl) ?_; try simp only [Act.put, List.setIfInBounds_toArray, List.set_cons_zero, List.set_cons_succ])
   (refine BraidZ.next1 (i := 2) (by kernel_rfl) (by kernel_rfl) rfl ?_; (try simp only [List.getElem_toArray, List.getElem_cons_succ, List.getElem_cons_zero]))
   (show ZStep _ _ _ true _ _ _ _; refine ZStep.storeRow (i := 1) (g := go) (us := [.slice none 0 0, .pointer none, .slice none 0 0, .slice none 0 0, .int .i64 0]) (.inl rfl) (by (first | rfl | exact wanted_true rfl rfl rfl (by assumption))) rfl rfl rfl rfl (by kernel_rfl) rfl (by simp [Value.oneCell']) ?_; try simp only [Act.put, List.setIfInBounds_toArray, List.set_cons_zero, List.set_cons_succ])
   (refine BraidZ.next1 (i := 3) (by kernel_rfl) (by kernel_rfl) rfl ?_; (try simp only [List.getElem_toArray, List.getElem_cons_succ, List.getElem_cons_zero]))
   (show ZStep _ _ _ true _ _ _ _; refine ZStep.turn (by (first | rfl | exact wanted_true rfl rfl rfl (by assumption))) (fun w hS => ⟨w.setCell ⟨ge, 0, none⟩ (.iface tp pv), .inl (by ((try clear hF); refine hfI ?_; intro hF); go_simp), hS.put (i := 0) rfl⟩) ?_; try simp only [Act.put, List.setIfInBounds_toArray, List.set_cons_zero, List.set_cons_succ])
   (refine BraidZ.last (by kernel_rfl) ?_; (try clear hF); intro wk hS; ((try clear hF); refine hfI ?_; intro hF))
   go_wp2_with (first | (refine hab ?_; (try clear hF); clear hS; intro wk hS; (try simp only [List.set_cons_zero, List.set_cons_succ, heap_size, heap_set_size] at hS); ((try clear hF); refine hfI ?_; intro hF)) | fail)
   ((try clear hF); refine hfI ?_; intro hF)
   refine leaves_cons (f := 68) (by simp) (by simp [go_sem]; rfl) ?_
   refine (catchq_idle _ _ _).mono ?_
   rintro e u' w'' ⟨rfl, rfl, rfl⟩
   refine ⟨.tuple #[.agg #[.slice none 0 0, .pointer none, .slice none 0 0, .slice none 0 0, .int .i64 0], .iface tp pv], ?_, ⟨⟨_, _, rfl⟩, hS.tail.tail⟩⟩
   simp [results, Tryz.results34, go_sem, hF]
  ·(show ZStep _ _ _ true _ _ _ _; refine ZStep.storeRow (i := 1) (g := go) (us := [.slice none 0 0, .pointer none, .slice none 0 0, .slice none 0 0, .int .i64 0]) (.inl rfl) (by (first | rfl | exact wanted_true rfl rfl rfl (by assumption))) rfl rfl rfl rfl (by kernel_rfl) rfl (by simp [Value.oneCell']) ?_; try simp only [Act.put, List.setIfInBounds_toArray, List.set_cons_zero, List.set_cons_succ])
   (refine BraidZ.next1 (i := 1) (by kernel_rfl) (by kernel_rfl) rfl ?_; (try simp only [List.getElem_toArray, List.getElem_cons_succ, List.getElem_cons_zero]))
   (refine ZStep.val (by (first | rfl | exact wanted_true rfl rfl rfl (by assumption))) (fun w h => h.sub (by first | simp | ((try simp only [List.eraseIdx_cons_zero, List.eraseIdx_cons_succ]); (repeat (first | exact List.nil_sublist _ | exact List.Sublist.refl _ | with_reducible apply List.Sublist.cons₂ | apply List.Sublist.cons))))) (by rintro w hS; ((try clear hF); refine hfI ?_; intro hF); go_simp; with_reducible rfl) ?_; try simp only [Act.put, List.setIfInBounds_toArray, List.set_cons_zero, List.set_cons_succ])
   (refine BraidZ.next1 (i := 3) (by kernel_rfl) (by kernel_rfl) rfl ?_; (try simp only [List.getElem_toArray, List.getElem_cons_succ, List.getElem_cons_zero]))
   (show ZStep _ _ _ true _ _ _ _; refine ZStep.turn (by (first | rfl | exact wanted_true rfl rfl rfl (by assumption))) (fun w hS => ⟨w.setCell ⟨ge, 0, none⟩ (.iface tp pv), .inl (by ((try clear hF); refine hfI ?_; intro hF); go_simp), hS.put (i := 0) rfl⟩) ?_; try simp only [Act.put, List.setIfInBounds_toArray, List.set_cons_zero, List.set_cons_succ])
   (refine BraidZ.last (by kernel_rfl) ?_; (try clear hF); intro wk hS; ((try clear hF); refine hfI ?_; intro hF))
   go_wp2_with (first | (refine hab ?_; (try clear hF); clear hS; intro wk hS; (try simp only [List.set_cons_zero, List.set_cons_succ, heap_size, heap_set_size] at hS); ((try clear hF); refine hfI ?_; intro hF)) | fail)
   ((try clear hF); refine hfI ?_; intro hF)
   refine leaves_cons (f := 68) (by simp) (by simp [go_sem]; rfl) ?_
   refine (catchq_idle _ _ _).mono ?_
   rintro e u' w'' ⟨rfl, rfl, rfl⟩
   refine ⟨.tuple #[.agg #[.slice none 0 0, .pointer none, .slice none 0 0, .slice none 0 0, .int .i64 0], .iface tp pv], ?_, ⟨⟨_, _, rfl⟩, hS.tail.tail⟩⟩
   simp [results, Tryz.results34, go_sem, hF]
 ·(refine ZStep.val (by (first | rfl | exact wanted_true rfl rfl rfl (by assumption))) (fun w h => h.sub (by first | simp | ((try simp only [List.eraseIdx_cons_zero, List.eraseIdx_cons_succ]); (repeat (first | exact List.nil_sublist _ | exact List.Sublist.refl _ | with_reducible apply List.Sublist.cons₂ | apply List.Sublist.cons))))) (by rintro w hS; ((try clear hF); refine hfI ?_; intro hF); go_simp; with_reducible rfl) ?_; try simp only [Act.put, List.setIfInBounds_toArray, List.set_cons_zero, List.set_cons_succ])
  (refine BraidZ.next1 (i := 0) (by kernel_rfl) (by kernel_rfl) rfl ?_; (try simp only [List.getElem_toArray, List.getElem_cons_succ, List.getElem_cons_zero]))
  (refine ZStep.val (by (first | rfl | exact wanted_true rfl rfl rfl (by assumption))) (fun w h => h.sub (by first | simp | ((try simp only [List.eraseIdx_cons_zero, List.eraseIdx_cons_succ]); (repeat (first | exact List.nil_sublist _ | exact List.Sublist.refl _ | with_reducible apply List.Sublist.cons₂ | apply List.Sublist.cons))))) (by rintro w hS; ((try clear hF); refine hfI ?_; intro hF); go_simp; with_reducible rfl) ?_; try simp only [Act.put, List.setIfInBounds_toArray, List.set_cons_zero, List.set_cons_succ])
  (refine BraidZ.next1 (i := 2) (by kernel_rfl) (by kernel_rfl) rfl ?_; (try simp only [List.getElem_toArray, List.getElem_cons_succ, List.getElem_cons_zero]))
  (show ZStep _ _ _ true _ _ _ _; refine ZStep.storeRow (i := 1) (g := go) (us := [.slice none 0 0, .pointer none, .slice none 0 0, .slice none 0 0, .int .i64 0]) (.inl rfl) (by (first | rfl | exact wanted_true rfl rfl rfl (by assumption))) rfl rfl rfl rfl (by kernel_rfl) rfl (by simp [Value.oneCell']) ?_; try simp only [Act.put, List.setIfInBounds_toArray, List.set_cons_zero, List.set_cons_succ])
  (refine BraidZ.next1 (i := 3) (by kernel_rfl) (by kernel_rfl) rfl ?_; (try simp only [List.getElem_toArray, List.getElem_cons_succ, List.getElem_cons_zero]))
  (show ZStep _ _ _ true _ _ _ _; refine ZStep.turn (by (first | rfl | exact wanted_true rfl rfl rfl (by assumption))) (fun w hS => ⟨w.setCell ⟨ge, 0, none⟩ (.iface tp pv), .inl (by ((try clear hF); refine hfI ?_; intro hF); go_simp), hS.put (i := 0) rfl⟩) ?_; try simp only [Act.put, List.setIfInBounds_toArray, List.set_cons_zero, List.set_cons_succ])
  (refine BraidZ.last (by kernel_rfl) ?_; (try clear hF); intro wk hS; ((try clear hF); refine hfI ?_; intro hF))
  go_wp2_with (first | (refine hab ?_; (try clear hF); clear hS; intro wk hS; (try simp only [List.set_cons_zero, List.set_cons_succ, heap_size, heap_set_size] at hS); ((try clear hF); refine hfI ?_; intro hF)) | fail)
  ((try clear hF); refine hfI ?_; intro hF)
  refine leaves_cons (f := 68) (by simp) (by simp [go_sem]; rfl) ?_
  refine (catchq_idle _ _ _).mono ?_
  rintro e u' w'' ⟨rfl, rfl, rfl⟩
  refine ⟨.tuple #[.agg #[.slice none 0 0, .pointer none, .slice none 0 0, .slice none 0 0, .int .i64 0], .iface tp pv], ?_, ⟨⟨_, _, rfl⟩, hS.tail.tail⟩⟩
  simp [results, Tryz.results34, go_sem, hF]
set_option maxRecDepth 100000 in
set_option maxHeartbeats 8000000 in
theorem wholeq_toks {w0 w : World} {L : List Item} (s : ByteArray) (m : Nat) (hm : s.size = m) (hm2 : m ≤ 5000) (hM : MarksAt w0) (hK : KeptA w0) (hFn : FnsAt w0) (hy : SynAt w0) (hr : RngAt w0) (l : List Tk) (ht : tokL (m + 1) s.data.toList 0 = some l) (hS : Hp w0.heap.size w0 w L) :
  Calls Tryz.prog 34 #[.string s, .func (.func 35) #[] #[]] w (QryRes w0 L (match queryP l with | some (q, r) => if kind1 r = 5 then some q else none | none => none)) := by
 have HT := Lib.hid (fun (W : World) (hx : Ext w0 W) => tokens_any s W m hm (by omega) (hM.ext hx))
 rw [ht] at HT
 obtain ⟨hl, hok, hlen⟩ := toks_ok ht (by rw [← Lib.size_eq]; omega)
 have HK := Lib.hid (fun (W : World) (hx : Ext w0 W) => show KeptA W ∧ SynAt W ∧ RngAt W from ⟨hK.ext hx, hy.ext hx, hr.ext hx⟩)
 have HE := Lib.hid (show ∀ R, EnvQ w0.heap.size w0 R from fun R => ⟨fun W hW => HK.out W hW.ext, fun W hW => hFn.ext hW.ext⟩)
 have hmf : ∀ (fn : Fn) (first cap : Array Value) (w : World), (Instr.makeFunc fn first cap).run Tryz.prog w = .ok (.func fn first cap) w := fun _ _ _ _ => rfl
 have HL := Lib.hid hl
 have HOK := Lib.hid hok
 obtain ⟨D, hD⟩ : ∃ D, D = (match queryP l with | some (q, r) => if kind1 r = 5 then some q else none | none => none) := ⟨_, rfl⟩
 rw [← hD]
 have hR := Reads.nil w0
 clear ht hM hK hFn hy hr hl hok HK
 go_enter_defers Tryz.func34, Tryz.ntmps34
 go_upto_region 5 with (first | (refine hab ?_; (try clear hF); clear hS; intro wk hS; (try simp only [List.set_cons_zero, List.set_cons_succ, heap_size, heap_set_size] at hS); ((try clear hF); refine hfI ?_; intro hF)) | (go_at_call 69; (with_reducible refine Calls.mono (HT.out _ hS.ext) ?_); rintro e wk ⟨A, n, cap, q, hq, hqn, rfl, hX⟩; replace hS := hS.join hX; clear hX; simp only [List.cons_append, List.nil_append] at hS; ((try clear hF); refine hfI ?_; intro hF)))
 have hn0 : 0 < n := by
  have := HL.out.ne
  rw [← hqn]
  cases q with
  | nil => simp at hq; exact (this (by first | exact hq | exact hq.symm)).elim
  | cons _ _ => simp
 obtain ⟨gt, hgt, hnc, hcm⟩ : ∃ gt, A = some ⟨gt, 0, none⟩ ∧ n ≤ cap ∧ cap ≤ 9223372036854775807 := by
  have ho : wk.ownsRow w0.heap.size 132 3 (.slice A n cap) n (tkV q) := hS.head
  rcases ho.2 with ⟨_, h0⟩ | ⟨g, cp, cur, hv, _, _, h1, h2, _⟩
  ·omega
  ·simp only [Value.slice.injEq, Int.natCast_inj] at hv
   obtain ⟨rfl, _, rfl⟩ := hv
   refine ⟨g, rfl, h1, ?_⟩
   unfold maxLen at h2
   omega
 subst hgt
 have HCF := Lib.hid (fun (gp : Nat) (M : List Item) (W : World) (h : Hp w0.heap.size w0 W (.blk gp [.slice (some ⟨gt, 0, none⟩) n cap] 130 :: .row 132 3 (some ⟨gt, 0, none⟩) n cap (tkV q) :: M)) => query_par (HE.out _) HL.out HOK.out (by omega) ⟨0, n, cap, q, hq, hqn, hnc, hcm, rfl, tkIn_row⟩ h)
 cases hw : queryP l with
 | none =>
  rw [hw] at hD HCF
  simp only at hD
  subst hD
  clear hw
  go_wp2_with (first | (refine hab ?_; (try clear hF); clear hS; intro wk hS; (try simp only [List.set_cons_zero, List.set_cons_succ, heap_size, heap_set_size] at hS); ((try clear hF); refine hfI ?_; intro hF)) | (go_at_call 35; (with_reducible refine Calls.mono (HCF.out _ _ _ hS) ?_); clear hS; rintro e wk ⟨⟨tp, pv, rfl⟩, hS⟩))
  refine leaves_cons (f := 68) (by simp) (by simp [go_sem]; rfl) ?_
  refine (catchq_pan _ _ _ _ _ _ _ _ tp pv hS).mono ?_
  clear hS
  rintro e u' w'' ⟨rfl, rfl, hS⟩
  ((try clear hF); refine hfI ?_; intro hF)
  refine ⟨.tuple #[.agg #[.slice none 0 0, .pointer none, .slice none 0 0, .slice none 0 0, .int .i64 0], .iface tp pv], ?_, ⟨⟨_, _, rfl⟩, hS.tail.tail⟩⟩
  simp [results, Tryz.results34, go_sem, hF]
 | some z =>
  obtain ⟨qq, r⟩ := z
  rw [hw] at hD HCF
  simp only at hD
  clear hw
  go_upto_region 7 with (first | (refine hab ?_; (try clear hF); clear hS; intro wk hS; (try simp only [List.set_cons_zero, List.set_cons_succ, heap_size, heap_set_size] at hS); ((try clear hF); refine hfI ?_; intro hF)) | (go_at_call 35; (with_reducible refine Calls.mono (HCF.out _ _ _ hS) ?_); clear hS; rintro e wk ⟨v, K, y2, rfl, HC, HRE, HY2, hS⟩; replace hS := swingK hS; ((try clear hF); refine hfI ?_; intro hF)))
  have hEr := HRE.out
  have HFL := Lib.hid (fun (a b : Item) (W : World) (h : Hp w0.heap.size w0 W (a :: b :: y2 :: .row 132 3 (some ⟨gt, 0, none⟩) n cap (tkV q) :: (K ++ L))) => fail_any 3 hEr.ne HY2 h.tail.tail)
  obtain ⟨off, n2, cap2, q2, rfl, hn2, hc2, hc3, rfl, hT⟩ := HY2
  cases q2 with
  | nil => exact absurd rfl hEr.ne
  | cons x q2 =>
   have HRD := Lib.hid hT.hd
   have hn20 : 0 < n2 := by rw [← hn2]; simp
   have hk : kind1 ((x :: q2).map (·.1)) = x.1.kind := rfl
   rw [hk] at hD
   clear hk hT hn2 HCF HE HL HOK hEr HRE
   by_cases h5 : x.1.kind = 5
   ·rw [if_pos h5] at hD
    have q5 : (x.1.kind != 5) = false := by simp [h5]
    subst hD
    clear h5 HFL
    ((try clear hF); refine hfI ?_; intro hF)
    go_wp2_with (first | (refine hab ?_; (try clear hF); clear hS; intro wk hS; (try simp only [List.set_cons_zero, List.set_cons_succ, heap_size, heap_set_size] at hS); ((try clear hF); refine hfI ?_; intro hF)) | fail)
    replace hS := hS.put (i := 0) (j := 0) (u := .nilIface) rfl
    revert hS
    generalize (wk.setCell _ .nilIface : World) = W2
    intro hS
    replace hS : Hp _ _ W2 (.blk _ [.nilIface] 51 :: .blk _ [.slice v.ia v.im v.ic, .pointer v.wp, .slice v.ba v.bn v.bc, .slice v.oa v.om v.oc, .int .i64 v.lim] 49 :: _ :: _ :: (K ++ L)) := hS
    have hx := hS.ext
    ((try clear hF); refine hfI ?_; intro hF)
    refine leaves_cons (f := 68) (by simp) (by simp [go_sem]; rfl) ?_
    refine (catchq_idle _ _ _).mono ?_
    rintro e u' w'' ⟨rfl, rfl, rfl⟩
    refine ⟨.tuple #[qV v, .nilIface], ?_, ⟨v, K, rfl, HC, hS.tail.tail.tail.tail⟩⟩
    simp [results, Tryz.results34, go_sem, hF]
   ·rw [if_neg h5] at hD
    have q5 : (x.1.kind != 5) = true := by simp [h5]
    subst hD
    clear h5
    ((try clear hF); refine hfI ?_; intro hF)
    go_wp2_with (first | (refine hab ?_; (try clear hF); clear hS; intro wk hS; (try simp only [List.set_cons_zero, List.set_cons_succ, heap_size, heap_set_size] at hS); ((try clear hF); refine hfI ?_; intro hF)) | (go_at_call 70; (with_reducible refine (HFL.out _ _ _ hS).mono ?_); rintro e wk ⟨⟨tp, pv, rfl⟩, hX⟩; replace hS := hS.step hX; clear hX))
    refine leaves_cons (f := 68) (by simp) (by simp [go_sem]; rfl) ?_
    refine (catchq_pan _ _ _ _ _ _ _ _ tp pv hS).mono ?_
    clear hS
    rintro e u' w'' ⟨rfl, rfl, hS⟩
    ((try clear hF); refine hfI ?_; intro hF)
    refine ⟨.tuple #[.agg #[.slice none 0 0, .pointer none, .slice none 0 0, .slice none 0 0, .int .i64 0], .iface tp pv], ?_, ⟨⟨_, _, rfl⟩, hS.tail.tail.tail.tail.sub (List.sublist_append_right K L)⟩⟩
    simp [results, Tryz.results34, go_sem, hF]
theorem wholeq_any {w0 w : World} {L : List Item} (s : ByteArray) (m : Nat) (hm : s.size = m) (hm2 : m ≤ 5000) (hM : MarksAt w0) (hK : KeptA w0) (hFn : FnsAt w0) (hy : SynAt w0) (hr : RngAt w0) (hS : Hp w0.heap.size w0 w L) :
  Calls Tryz.prog 34 #[.string s, .func (.func 35) #[] #[]] w (QryRes w0 L (parseQ s.data.toList)) := by
 unfold parseQ
 rw [← Lib.size_eq, hm]
 cases ht : tokL (m + 1) s.data.toList 0 with
 | none => exact wholeq_bad s m hm hm2 hM ht hS
 | some l =>
  have := wholeq_toks s m hm hm2 hM hK hFn hy hr l ht hS
  exact this
theorem pullq1 {B : Nat} {w0 W : World} {a : Item} {X L : List Item} (h : Hp B w0 W (X ++ (a :: L))) : Hp B w0 W (a :: (X ++ L)) := h.perm List.perm_middle.symm
set_option maxRecDepth 100000 in
set_option maxHeartbeats 8000000 in
theorem parse_q {w0 w : World} {L : List Item} (s : ByteArray) (m : Nat) (hm : s.size = m) (hm2 : m ≤ 5000) (hM : MarksAt w0) (hK : KeptA w0) (hFn : FnsAt w0) (hy : SynAt w0) (hr : RngAt w0) (hS : Hp w0.heap.size w0 w L) :
  Calls Tryz.prog 16 #[.string s] w (QryRes w0 L (parseQ s.data.toList)) := by
 have HW := Lib.hid (fun (a : Item) (W : World) (h : Hp w0.heap.size w0 W (a :: L)) => wholeq_any s m hm hm2 hM hK hFn hy hr h)
 obtain ⟨D, hD⟩ : ∃ D, D = parseQ s.data.toList := ⟨_, rfl⟩
 rw [← hD] at HW ⊢
 clear hD hM hK hFn hy hr
 have hR := Reads.nil w0
 cases D with
 | none =>
  go_enter Tryz.func16, Tryz.ntmps16
  go_wp2_with (first | (refine hab ?_; (try clear hF); clear hS; intro wk hS; (try simp only [List.set_cons_zero, List.set_cons_succ, heap_size, heap_set_size] at hS); ((try clear hF); refine hfI ?_; intro hF)) | (go_at_call 34; (with_reducible refine Calls.mono (HW.out _ _ hS) ?_); clear hS; rintro e wk ⟨⟨tp, pv, rfl⟩, hS⟩; ((try clear hF); refine hfI ?_; intro hF)))
  refine bodyPost_ret (v := .tuple #[.agg #[.slice none 0 0, .pointer none, .slice none 0 0, .slice none 0 0, .int .i64 0], .iface tp pv]) (by simp [results, Tryz.results16, go_sem, hF]) rfl (by exact ⟨⟨_, _, rfl⟩, hS.tail⟩)
 | some q =>
  go_enter Tryz.func16, Tryz.ntmps16
  go_wp2_with (first | (refine hab ?_; (try clear hF); clear hS; intro wk hS; (try simp only [List.set_cons_zero, List.set_cons_succ, heap_size, heap_set_size] at hS); ((try clear hF); refine hfI ?_; intro hF)) | (go_at_call 34; (with_reducible refine Calls.mono (HW.out _ _ hS) ?_); clear hS; rintro e wk ⟨v, X, rfl, hc, hS⟩; replace hS := pullq1 hS; ((try clear hF); refine hfI ?_; intro hF)))
  refine bodyPost_ret (v := .tuple #[qV v, .nilIface]) (by simp [results, Tryz.results16, go_sem, hF]) rfl (by exact ⟨v, X, rfl, hc, hS.tail⟩)
end Go.Proofs.YtlaldfkeaalnhaaGreatDoor
