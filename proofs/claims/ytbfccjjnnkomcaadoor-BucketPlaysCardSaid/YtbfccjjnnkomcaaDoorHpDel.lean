/- In place: a row is shrunk, appended to where there is room, cleared behind its end. For any program. -/
import Derived.Test.YtbfccjjnnkomcaaDoorHpReg
import Derived.Deep.DeepAppendRoom
import Derived.Lib.SliceRun
namespace Go.Proofs.YtbfccjjnnkomcaaDoor
open Go.RowKit
section
variable {P : Program} {ops : Array Oper} {F : World → Prop} {QN : Act → World → Prop} {B : Nat} {w0 w : World} {L : List Item} {o : Oper} {rest : List Oper} {a : Act}
theorem ownsRow_shrink {e : TypeId} {size g n cap k : Nat} {xs : List Value} (h : w.ownsRow B e size (.slice (some ⟨g, 0, none⟩) n cap) n xs) (hk : k ≤ n) : w.ownsRow B e size (.slice (some ⟨g, 0, none⟩) k cap) k (xs.take (k * size)) := by
  obtain ⟨hl, h⟩ := h
  have hks : k * size ≤ n * size := Nat.mul_le_mul_right _ hk
  rcases h with ⟨hv, _⟩ | ⟨g', cap', cur, hv, hb, hg, hnc, hcm, hcs, ht⟩
  · cases hv
  · simp at hv
    obtain ⟨rfl, rfl⟩ := hv
    refine ⟨by rw [List.length_take, hl]; omega, .inr ⟨g, cap, cur, rfl, hb, hg, by omega, hcm, hcs, ?_⟩⟩
    rw [← ht, List.take_take, Nat.min_eq_left hks]
theorem Hp.shrink {e : TypeId} {size g n cap : Nat} {xs : List Value} (h : Hp B w0 w (.row e size (some ⟨g, 0, none⟩) n cap xs :: L)) (k : Nat) (hk : k ≤ n) : Hp B w0 w (.row e size (some ⟨g, 0, none⟩) k cap (xs.take (k * size)) :: L) :=
  h.turn ((Ext.refl w).grownBy none) (.inl rfl) (ownsRow_shrink h.head hk) (.inl rfl)
theorem Hp.blkRow {e : TypeId} {size g n : Nat} {cs : List Value} (h : Hp B w0 w (.blk g cs e :: L)) (hl : cs.length = n * size) (hm : n ≤ 140737488355328) : Hp B w0 w (.row e size (some ⟨g, 0, none⟩) n n cs :: L) := by
  refine h.turn ((Ext.refl w).grownBy none) (.inl rfl) ⟨hl, .inr ⟨g, n, cs.toArray, rfl, h.head.1, h.head.2, Nat.le_refl _, by unfold maxLen; omega, by simpa using hl, ?_⟩⟩ (.inl rfl)
  rw [← hl]; simp
theorem Hp.putPast {e : TypeId} {size g n cap : Nat} {xs : List Value} : ∀ (vs : List Value) (off : Nat) (w : World), Hp B w0 w (.row e size (some ⟨g, 0, none⟩) n cap xs :: L) → xs.length ≤ off → Hp B w0 (w.setCells g off vs) (.row e size (some ⟨g, 0, none⟩) n cap xs :: L)
  | [], _, _, h, _ => h
  | v :: vs, off, w, h, hx => by
    rw [World.setCells]
    refine Hp.putPast vs (off + 1) _ ?_ (by omega)
    have := h.putRow off v
    rwa [List.set_eq_of_length_le hx] at this
theorem Hp.putRows {e : TypeId} {size g n cap : Nat} {xs : List Value} (h : Hp B w0 w (.row e size (some ⟨g, 0, none⟩) n cap xs :: L)) (j : Nat) (u : Value) : Hp B w0 (w.setCell ⟨g, j, none⟩ u) (.row e size (some ⟨g, 0, none⟩) n cap (xs.set j u) :: L) := h.putRow j u
theorem row_room {e : TypeId} {size g n cap : Nat} {xs : List Value} (h : w.ownsRow B e size (.slice (some ⟨g, 0, none⟩) n cap) n xs) (j : Nat) (hj : j < cap * size) : (w.cell? ⟨g, j, none⟩).isSome = true ∧ w.frozen? ⟨g, j, none⟩ = false := by
  obtain ⟨hl, h⟩ := h
  rcases h with ⟨hv, _⟩ | ⟨g', cap', cur, hv, hb, hg, hnc, hcm, hcs, ht⟩
  · cases hv
  · simp at hv
    obtain ⟨rfl, rfl⟩ := hv
    have : j < cur.size := by omega
    simp [World.cell?, World.frozen?, hg, this]
theorem zeroCells_one (cs : Array Value) : (Builtin.zeroCells cs 1).toList = cs.toList := by
  unfold Builtin.zeroCells
  apply List.ext_getElem
  · simp
  · intro i h1 h2
    simp at h1 h2
    simp [Nat.mod_eq_of_lt h2, h2]
theorem run_clear_one (w : World) (t e ty : TypeId) (z : Value) (ht : P.underlying t = some (.slice e)) (hv : ∀ w, (zeroValue e).run P w = .ok z w) (h1 : ∀ u ∈ z.cells.toList, u.oneCell' = true) (b off c : Nat)
    (hc : ∀ j, j < z.cells.size → (w.cell? ⟨b, off + j, none⟩).isSome = true) (hf : ∀ j, j < z.cells.size → w.frozen? ⟨b, off + j, none⟩ = false) :
    (Builtin.clear_ #[t] ty #[.slice (some ⟨b, off, none⟩) 1 c]).run P w = .ok (.tuple #[]) (w.setCells b off z.cells.toList) := by
  have hst := run_storeCells_cells (P := P) b off z.cells.toList 0 w (by simpa using hc) (by simpa using hf) h1
  simp only [Nat.add_zero] at hst
  simp [Builtin.clear_, run_underlying ht, hv, zeroCells_one, hst]
theorem wpList_clear_hp {t e : TypeId} {size n cap g c : Nat} {z : Value} {xs : List Value} {Q : Exit → Act → World → Prop} (ht : P.underlying t = some (.slice e)) (hv : ∀ w, (zeroValue e).run P w = .ok z w) (hzs : z.cells.size = size) (h1 : ∀ u ∈ z.cells.toList, u.oneCell' = true) (hgd : o.guard = none) (x : Operand)
    (ho : o.op = .call { callee := .builtin .clear, args := #[x], argTypes := #[t] }) (h : Hp B w0 w (.row e size (some ⟨g, 0, none⟩) n cap xs :: L)) (hx : a.eval x = .slice (some ⟨g, n * size, none⟩) 1 c) (hcap : n + 1 ≤ cap)
    (k : ∀ w', Hp B w0 w' (.row e size (some ⟨g, 0, none⟩) n cap xs :: L) → wpList P ops Q rest (a.put o.dst (.tuple #[])) w') : wpList P ops Q (o :: rest) a w := by
  refine wpList_plain hgd fun K hK => ?_
  have hrow : w.ownsRow B e size (.slice (some ⟨g, 0, none⟩) n cap) n xs := h.head
  have e1 : (n + 1) * size ≤ cap * size := Nat.mul_le_mul_right _ hcap
  have e2 : (n + 1) * size = n * size + size := Nat.succ_mul n size
  have hr := run_clear_one (P := P) w t e o.type z ht hv h1 g (n * size) c (fun j hj => (row_room hrow _ (by omega)).1) (fun j hj => (row_room hrow _ (by omega)).2)
  unfold Oper.wp execOp
  simp only [ho, resolve, invoke, builtin, Sem.run_bind, Sem.run_pure, Result.andThen_ok, List.map_toArray, List.map_cons, List.map_nil, hx, hr]
  exact hK _ _ (k _ (Hp.putPast _ _ _ h (by rw [hrow.1]; exact Nat.le_refl _)))
theorem wpList_clearN_hp {t e : TypeId} {n cap g c m : Nat} {z : Value} {xs : List Value} {Q : Exit → Act → World → Prop} (ht : P.underlying t = some (.slice e)) (hv : ∀ w, (zeroValue e).run P w = .ok z w) (hz : z.cells = #[z]) (h1 : z.oneCell' = true) (hgd : o.guard = none) (x : Operand)
    (ho : o.op = .call { callee := .builtin .clear, args := #[x], argTypes := #[t] }) (h : Hp B w0 w (.row e 1 (some ⟨g, 0, none⟩) n cap xs :: L)) (hm : 0 < m) (hx : a.eval x = .slice (some ⟨g, n, none⟩) m c) (hcap : n + m ≤ cap)
    (k : ∀ w', Hp B w0 w' (.row e 1 (some ⟨g, 0, none⟩) n cap xs :: L) → wpList P ops Q rest (a.put o.dst (.tuple #[])) w') : wpList P ops Q (o :: rest) a w := by
  refine wpList_plain hgd fun K hK => ?_
  have hrow : w.ownsRow B e 1 (.slice (some ⟨g, 0, none⟩) n cap) n xs := h.head
  have hr := Lib.run_clear_slice (P := P) w t e o.type z ht hv hz h1 g n m c hm (fun j hj => (row_room hrow _ (by omega)).1) (fun j hj => (row_room hrow _ (by omega)).2)
  unfold Oper.wp execOp
  simp only [ho, resolve, invoke, builtin, Sem.run_bind, Sem.run_pure, Result.andThen_ok, List.map_toArray, List.map_cons, List.map_nil, hx, hr]
  have hl := hrow.1
  exact hK _ _ (k _ (Hp.putPast _ _ _ h (by omega)))
/-- append in place: of the first k elements, where there is room -/
theorem Chain.appendSpare {t e : TypeId} {size bytes n m c cap k g : Nat} {xs news : List Value} (hE : Elem P t e size bytes) (hw : Region.wanted o (yielded ops a.tmps) = true) (s x : Operand)
    (ho : o.op = .call { callee := .builtin .append, args := #[s, x], argTypes := #[t, t] }) (hs : a.eval s = .slice (some ⟨g, 0, none⟩) k cap) (ad : Addr) (hx : a.eval x = .slice (some ad) m c) (hl : news.length = m * size) (hk : k ≤ n) (hroom : k + m ≤ cap)
    (hnews : ∀ w, Hp B w0 w (.row e size (some ⟨g, 0, none⟩) n cap xs :: L) → ∀ j u, news[j]? = some u → w.cell? (ad.add j) = some u) (h1 : ∀ u ∈ news, u.oneCell' = true)
    (hF : ∀ w, Hp B w0 w L → F w) (h : Chain P ops F QN rest (a.put o.dst (.slice (some ⟨g, 0, none⟩) (k + m : Nat) cap)) (fun W => Hp B w0 W (.row e size (some ⟨g, 0, none⟩) (k + m) cap (xs.take (k * size) ++ news) :: L))) :
    Chain P ops F QN (o :: rest) a (fun W => Hp B w0 W (.row e size (some ⟨g, 0, none⟩) n cap xs :: L)) := by
  refine .inl ⟨hw, fun w hS => ?_⟩
  obtain ⟨i, z, hi, hz, hsz, hby, hzs⟩ := hE.info
  obtain ⟨w', hr, hown, hg⟩ := run_append_own_spare (P := P) (w := w) B t o.type e i size hE.under hi hsz g k cap (xs.take (k * size)) (ownsRow_shrink hS.head hk) ad m c news hl (hnews w hS) h1 hroom
  unfold Oper.wp execOp
  simp only [ho, resolve, invoke, builtin, Sem.run_bind, Sem.run_pure, Result.andThen_ok, List.map_toArray, List.map_cons, List.map_nil, hs, hx, hr]
  exact ⟨_, hS.turn (y := .row e size (some ⟨g, 0, none⟩) (k + m) cap (xs.take (k * size) ++ news)) hg (.inr rfl) hown (.inl rfl), fun _ _ h hx => h.step hx, fun W hW => hF W hW.tail, h⟩
end
end Go.Proofs.YtbfccjjnnkomcaaDoor
