/- Slices that a call builds itself: appended to, read, made a string. Plain laws, for any program. -/
import Derived.Test.YtbfccjjnnkomcaaDoorBase
import Derived.Maps.AppendAt
import Derived.Deep.AppendLies
import Derived.Laws.IdiomStrings
namespace Go.Proofs.YtbfccjjnnkomcaaDoor
open Go.RowKit

/-- t is a slice type, its elements of type e take so many cells and bytes -/
structure Elem (P : Program) (t e : TypeId) (size bytes : Nat) : Prop where
  under : P.underlying t = some (.slice e)
  info : ∃ i z, P.info? e = some i ∧ i.zero = some z ∧ i.size = size ∧ i.bytes = bytes ∧ z.cells.size = size
  pos : 0 < size

/-- since w0 the slice v has been built: n elements, the cells xs, in a block from B on; below B all is as it was -/
structure Mk (B : Nat) (w0 w : World) (e : TypeId) (size : Nat) (v : Value) (n : Nat) (xs : List Value) : Prop where
  own : w.ownsRow B e size v n xs
  below : Below B w0 w
  base : B ≤ w.heap.size

section
variable {P : Program} {B : Nat} {w0 w w' : World} {e : TypeId} {size n : Nat} {v : Value} {xs : List Value}
theorem Mk.nil (h : Below B w0 w) (hB : B ≤ w.heap.size) : Mk B w0 w e size (.slice none 0 0) 0 [] := ⟨World.ownsRow_nil _ _ _ _, h, hB⟩
theorem Mk.alloc (h : Mk B w0 w e size v n xs) (o : Obj) : Mk B w0 (w.alloc o) e size v n xs := ⟨h.own.alloc o, h.below.alloc h.base o, by have := h.base; simp; omega⟩
theorem Mk.drew (h : Mk B w0 w e size v n xs) : Mk B w0 w.drew e size v n xs := ⟨h.own.drew, h.below.drew, h.base⟩
theorem Mk.step (h : Mk B w0 w e size v n xs) (hx : Ext w w') : Mk B w0 w' e size v n xs :=
  ⟨h.own.kept (row := none) ⟨hx.os, hx.tape, hx.output, hx.size, fun k hk _ => hx.block k hk⟩ (by cases hv : v.ownBlock <;> simp), h.below.trans (Below.mono hx h.base), Nat.le_trans h.base hx.size⟩
theorem Mk.ext (h : Mk w0.heap.size w0 w e size v n xs) : Ext w0 w := h.below

theorem Mk.stored {g cap : Nat} (h : Mk B w0 w e size (.slice (some ⟨g, 0, none⟩) n cap) n xs) (j : Nat) (u : Value) : Mk B w0 (w.setCell ⟨g, j, none⟩ u) e size (.slice (some ⟨g, 0, none⟩) n cap) n (xs.set j u) :=
  ⟨(h.own.stored j u).1, h.below.setCell (h.own.lt g rfl).1 u, by simpa [World.setCell] using h.base⟩

theorem Mk.row (h : Mk B w0 w e size v n xs) : ∀ g, v.ownBlock = some g → ∃ cs fr, w.heap[g]? = some (.cells cs e fr) := by
  intro g hg
  rcases h.own.2 with ⟨rfl, _⟩ | ⟨g', cap, cur, rfl, _, hgg, _⟩
  · simp [Value.ownBlock] at hg
  · simp [Value.ownBlock] at hg
    subst hg
    exact ⟨_, _, hgg⟩

theorem wpList_push {t : TypeId} {bytes : Nat} (hE : Elem P t e size bytes) {ops : Array Oper} {rest : List Oper} {o : Oper} {a : Act} {Q : Exit → Act → World → Prop} (hgd : o.guard = none) (s x : Operand)
    (ho : o.op = .call { callee := .builtin .append, args := #[s, x], argTypes := #[t, t] }) (news : List Value)
    (hM : Mk B w0 w e size v n xs) (S : Nat) (hS : w.heap.size = S) (hs : a.eval s = v) (hx : a.eval x = .slice (some ⟨S, 0, none⟩) 1 1) (hl : news.length = size) (h1 : ∀ u ∈ news, u.oneCell' = true)
    (hn : (n + 1) * bytes ≤ 140737488355328) (hm : n + 1 ≤ 140737488355328)
    (h : ∀ g cap w', Mk B w0 w' e size (.slice (some ⟨g, 0, none⟩) (n + 1 : Nat) cap) (n + 1) (xs ++ news) → w.grownBy w' v.ownBlock → (v.ownBlock = some g ∨ g = w.heap.size + 1) → wpList P ops Q rest (a.put o.dst (.slice (some ⟨g, 0, none⟩) (n + 1 : Nat) cap)) w') :
    wpList P ops Q (o :: rest) a (w.alloc (.cells news.toArray e)) := by
  subst hS
  obtain ⟨i, z, hi, hz, hsz, hby, hzs⟩ := hE.info
  have hM' := hM.alloc (.cells news.toArray e)
  refine wpList_append_own_at (P := P) (w := w.alloc (.cells news.toArray e)) hgd s x t ho B e i z size bytes hE.under hi hz hsz hby hzs hE.pos v n xs hs hM'.own ⟨w.heap.size, 0, none⟩ 1 1 news hx (by simpa using hl) ?_ h1 (by unfold maxLen; omega) hn hM'.base ?_
  · exact fun j u hu => World.news_of_block (heap_alloc_new w _) j u (by simpa using hu)
  · intro v' w' hown hg _ hat
    obtain ⟨g, cap, rfl, _, _⟩ := hown.form (by omega)
    refine h g cap w' ⟨hown, ?_, Nat.le_trans hM'.base hg.size⟩ ?_ (by simpa [Value.ownBlock, eq_comm] using hat)
    · exact hM'.below.grown hg hM'.base (fun k hk => (hM.own.lt k hk).1)
    · exact ⟨hg.os, hg.tape, hg.output, Nat.le_trans (by simp) hg.size, fun k hk hne => (hg.block k (by simp; omega) hne).trans (Below.heap_alloc w _ k hk)⟩

/-- append of one element to a slice that has no room: a new row; all that was there is as it was -/
theorem run_append_tight {t ty : TypeId} {bytes : Nat} (hE : Elem P t e size bytes) (a : Addr) (hxs : xs.length = n * size) (holds : ∀ j u, xs[j]? = some u → w.cell? (a.add j) = some u)
    (ad : Addr) (c : Nat) (news : List Value) (hl : news.length = size) (hnews : ∀ j u, news[j]? = some u → w.cell? (ad.add j) = some u) (hn : (n + 1) * bytes ≤ 140737488355328) (hm : n + 1 ≤ 140737488355328) (hB : B ≤ w.heap.size) :
    ∃ cap w', (Builtin.append_ #[t, t] ty #[.slice (some a) n n, .slice (some ad) 1 c]).run P w = .ok (.slice (some ⟨w.heap.size, 0, none⟩) (n + 1) cap) w' ∧ w'.ownsRow B e size (.slice (some ⟨w.heap.size, 0, none⟩) (n + 1 : Nat) cap) (n + 1) (xs ++ news) ∧ Ext w w' := by
  obtain ⟨i, z, hi, hz, hsz, hby, hzs⟩ := hE.info
  subst hsz
  subst hby
  have hr := run_append_grow (P := P) w t ty e i z hE.under hi hz a n n xs hxs holds ad 1 c news (by simpa using hl) hnews (by omega) (by omega) (growslice_fits (by omega) hn)
  refine ⟨_, _, hr, ⟨by simp [hxs, hl, Nat.add_mul], .inr ⟨w.heap.size, _, _, rfl, hB, heap_alloc_new w.drew _, grownCap_ge w (n + 1) n e, grownCap_le_maxLen w (n + 1) n e (by unfold maxLen; omega), ?_, ?_⟩⟩, ((Ext.refl w).drew).alloc _⟩
  · have hge := grownCap_ge w (n + 1) n e
    simp only [Array.size_append, List.size_toArray, size_zeroCells, hzs, hxs, hl]
    rw [show n * i.size + i.size = (n + 1) * i.size by rw [Nat.add_mul]; omega, ← Nat.add_mul]
    congr 1
    omega
  · simp only [Array.toList_append, List.append_assoc]
    rw [← List.append_assoc, show (n + 1) * i.size = (xs ++ news).length by simp [hxs, hl, Nat.add_mul]]
    exact List.take_left

theorem cell_one_at (W : World) (u0 : Value) (e : TypeId) (S : Nat) (hS : W.heap.size = S) : ∀ j u, [u0][j]? = some u → (W.alloc (.cells #[u0] e)).drew.cell? ((⟨S, 0, none⟩ : Addr).add j) = some u := by
  subst hS
  intro j u hu
  exact World.news_of_block (w := W.alloc (.cells #[u0] e)) (heap_alloc_new W _) j u (by simpa using hu)
theorem Ext.grownBy {a b : World} (h : Ext a b) (row : Option Nat) : a.grownBy b row := ⟨h.os, h.tape, h.output, h.size, fun k hk _ => h.block k hk⟩

/-- string(b) of a slice of bytes that was built -/
theorem run_string_own {src dst : TypeId} (hs : P.underlying src = some (.slice e)) (he : P.underlying e = some (.int .u8)) (hd : P.underlying dst = some .string) (l : List UInt8)
    (hown : w.ownsRow B e 1 v n (l.map fun c => Value.int .u8 (c.toNat : Int))) : (convert src dst v).run P w = .ok (.string ⟨l.toArray⟩) w := by
  have hln := hown.1
  simp only [List.length_map, Nat.mul_one] at hln
  rcases hown.2 with ⟨rfl, rfl⟩ | ⟨g, cap, cur, rfl, _, hg, _, _, _, htk⟩
  · have : l = [] := List.eq_nil_of_length_eq_zero hln
    subst this
    rw [run_convert_bytes_string w src dst e none 0 0 hs he hd]
    simp [Conv.bytesToString]
    rfl
  · subst hln
    exact run_convert_bytes_back w src dst e ⟨g, 0, none⟩ cap l hs he hd fun j hj => hown.cells (g := g) rfl j _ (by simp [hj])
end
end Go.Proofs.YtbfccjjnnkomcaaDoor
