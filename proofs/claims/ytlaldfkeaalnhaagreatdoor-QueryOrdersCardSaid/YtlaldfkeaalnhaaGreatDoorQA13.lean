/- slices.Chunk at rows, six at a time: what it hands back is a range over the parts, in their order. -/
import Derived.Test.YtlaldfkeaalnhaaGreatDoorQA04
import Derived.Test.YtlaldfkeaalnhaaGreatDoorQA11
namespace Go.Proofs.YtlaldfkeaalnhaaGreatDoor
set_option linter.all false
set_option linter.unusedSimpArgs false
set_option linter.unusedVariables false
open Go.RowKit
set_option maxRecDepth 100000 in
set_option maxHeartbeats 8000000 in
theorem rchunk_any (b off len cap : Nat) (w : World) :
    Calls Tryz.prog 58 #[.slice (some ⟨b, off, none⟩) len cap, .int .i64 6] w fun e w' => ∃ bs bn : Nat, e = .returned (.func (.func 87) #[] #[.pointer (some ⟨bs, 0, none⟩), .pointer (some ⟨bn, 0, none⟩)]) ∧ Hp w.heap.size w w' [.blk bn [.int .i64 6] 3, .blk bs [.slice (some ⟨b, off, none⟩) len cap] 23] := by
  have hS := Hp.init w
  have hR := Reads.nil w
  go_enter Tryz.func58, Tryz.ntmps58
  go_wp2_with (first | (refine hab ?_; (try clear hF); clear hS; intro wk hS; (try simp only [List.set_cons_zero, List.set_cons_succ, heap_size, heap_set_size] at hS); ((try clear hF); refine hfI ?_; intro hF)) | fail)
  go_ret
  exact ⟨_, _, rfl, hS⟩
/-- the two blocks that the iterator reads lie as they lay -/
def ChKeep (bs bn : Nat) (W W' : World) : Prop := (∀ v, W.cell? ⟨bs, 0, none⟩ = some v → W'.cell? ⟨bs, 0, none⟩ = some v) ∧ (∀ v, W.cell? ⟨bn, 0, none⟩ = some v → W'.cell? ⟨bn, 0, none⟩ = some v)
theorem ChKeep.trans {bs bn : Nat} {A B C : World} (h : ChKeep bs bn A B) (k : ChKeep bs bn B C) : ChKeep bs bn A C := ⟨fun v hv => k.1 v (h.1 v hv), fun v hv => k.2 v (h.2 v hv)⟩
theorem ChKeep.ext {bs bn : Nat} {A B : World} (h : Ext A B) : ChKeep bs bn A B := ⟨fun v hv => h.keeps hv, fun v hv => h.keeps hv⟩
abbrev chV (b off len : Nat) (x : Nat) : Array Value := #[.slice (some ⟨b, off + 6 * x, none⟩) (min 6 (len - 6 * x)) (min 6 (len - 6 * x))]
attribute [local go_sem] Oper.semAt_some
set_option maxRecDepth 100000 in
set_option maxHeartbeats 8000000 in
theorem rchunk1_in (n : Nat) (hn : 1 ≤ n) (l bs bn b off len cap : Nat) (hl : len ≤ 1000) (hc : len ≤ cap) (hcap : cap ≤ 140737488355328) (J Jx : List Nat → World → Prop) (W0 : World) (hJa : AbidesFrom W0.heap.size J)
    (hY : ∀ pre x W, J pre W → pre.length < (len + 5) / 6 → YieldAt Fence.wide (n - 1) Tryz.prog l (chV b off len x) W fun e W' =>
      (e = .returned (.bool true) ∧ J (pre ++ [x]) W' ∧ ChKeep bs bn W W') ∨ (e = .returned (.bool false) ∧ Jx (pre ++ [x]) W'))
    (h1 : W0.cell? ⟨bs, 0, none⟩ = some (.slice (some ⟨b, off, none⟩) len cap)) (h2 : W0.cell? ⟨bn, 0, none⟩ = some (.int .i64 6)) (h0 : J [] W0) :
    CallsIn Fence.wide n Tryz.prog 87 #[.func (.yield l) #[] #[], .pointer (some ⟨bs, 0, none⟩), .pointer (some ⟨bn, 0, none⟩)] W0 fun e W' => (∃ v, e = .returned v) ∧
      (J (List.range ((len + 5) / 6)) W' ∨ (∃ pre, Jx pre W')) := by
  refine callsIn_of_wp Tryz.func87 rfl trivial ?_ rfl
  simp only [Tryz.ntmps87, List.size_toArray, List.length_cons, List.length_nil, Nat.reduceAdd, Nat.reduceSub, Array.replicate_succ, Array.replicate_zero, List.push_toArray, List.append_toArray, List.nil_append, List.cons_append]
  gi_wp2
  gi_loopw [4] (fun i wr => ∃ k : Nat, k ≤ (len + 5) / 6 ∧ i = .int .i64 (6 * (k : Int)) ∧ J (List.range k) wr ∧ wr.cell? ⟨bs, 0, none⟩ = some (.slice (some ⟨b, off, none⟩) len cap) ∧ wr.cell? ⟨bn, 0, none⟩ = some (.int .i64 6))
    (fun i _ => len + 6 - (intOf i).toNat)
  case atStart => exact ⟨0, Nat.zero_le _, rfl, h0, h1, h2⟩
  case round =>
    clear h0 h1 h2
    obtain ⟨k, hk, rfl, hJs, h1, h2⟩ := hrel
    by_cases hlt : 6 * k < len
    · have hmn : min 6 (len - 6 * k) ≤ len - 6 * k := Nat.min_le_right _ _
      have hmm : min (6 : Int) ((len - 6 * k : Nat) : Int) = ((min 6 (len - 6 * k) : Nat) : Int) := by omega
      have hi1 : 6 * (k : Int) < (len : Int) := by omega
      have hi2 : 6 * (k : Int) ≤ (len : Int) := by omega
      have hi0 : 0 ≤ 6 * (k : Int) := by omega
      have ht : (6 * (k : Int)).toNat = 6 * k := by omega
      have hcn : ¬ cap = 6 * k := by omega
      have hcl : ∀ w w' : World, (J (List.range k) w ∧ w.cell? ⟨bs, 0, none⟩ = some (.slice (some ⟨b, off, none⟩) len cap) ∧ w.cell? ⟨bn, 0, none⟩ = some (.int .i64 6)) → Ext w w' → (J (List.range k) w' ∧ w'.cell? ⟨bs, 0, none⟩ = some (.slice (some ⟨b, off, none⟩) len cap) ∧ w'.cell? ⟨bn, 0, none⟩ = some (.int .i64 6)) :=
        fun w w' ⟨a, b, c⟩ hx => ⟨hJa _ _ _ none a (hx.grownBy none) (fun r e => by cases e), hx.keeps b, hx.keeps c⟩
      gi_wp2
      refine wpIn_region_fixed open_wide (G := fun w => J (List.range k) w ∧ w.cell? ⟨bs, 0, none⟩ = some (.slice (some ⟨b, off, none⟩) len cap) ∧ w.cell? ⟨bn, 0, none⟩ = some (.int .i64 6)) (by kernel_rfl) (by kernel_rfl) (by kernel_rfl) hcl ⟨hJs, h1, h2⟩ ?_
      (repeat ((with_reducible refine Fixed.here ?_); (first | ((with_reducible apply Fixed.val); rfl; (rintro w ⟨hj2, hb1, hb2⟩; go_simp; with_reducible rfl); try simp only [Act.put, List.setIfInBounds_toArray, List.set_cons_zero, List.set_cons_succ]))))
      (with_reducible refine Fixed.done ?_)
      intro wk _ hG
      obtain ⟨hJk, hk1, hk2⟩ := hG
      obtain ⟨fn, tmps, assign, body, hy, hR⟩ := hY (List.range k) k wk hJk (by rw [List.length_range]; omega)
      simp only [chV] at hy
      have hw1 : IntKind.i64.wrap (6 * (k : Int) + ((min 6 (len - 6 * k) : Nat) : Int)) = 6 * (k : Int) + ((min 6 (len - 6 * k) : Nat) : Int) := IntWalk.i64_in _ (by omega)
      have ht2 : (6 * (k : Int) + ((min 6 (len - 6 * k) : Nat) : Int)).toNat = 6 * k + min 6 (len - 6 * k) := by omega
      have hs1 : 6 * k + min 6 (len - 6 * k) - 6 * k = min 6 (len - 6 * k) := by omega
      have hle1 : 6 * (k : Int) + ((min 6 (len - 6 * k) : Nat) : Int) ≤ (cap : Int) := by omega
      have hge1 : 6 * (k : Int) ≤ 6 * (k : Int) + ((min 6 (len - 6 * k) : Nat) : Int) := by omega
      gi_wp2
      refine hR.mono ?_
      rintro e W3 (⟨rfl, hJ3, hk3⟩ | ⟨rfl, hJx3⟩)
      · have hq1 := hk3.1 _ hk1
        have hq2 := hk3.2 _ hk2
        gi_wp2
        go_roundw
        case rel => exact ⟨k + 1, by omega, by simp; omega, by rw [List.range_succ]; exact hJ3, hq1, hq2⟩
        case measure => simp [intOf]; omega
      · gi_wp2
        refine bodyPost_ret (results_none rfl _ _ _) rfl ?_
        exact ⟨⟨_, rfl⟩, .inr ⟨_, hJx3⟩⟩
    · obtain rfl : k = (len + 5) / 6 := by omega
      gi_wp2
      go_end0
      exact ⟨⟨_, rfl⟩, .inl hJs⟩
end Go.Proofs.YtlaldfkeaalnhaaGreatDoor
