/- What a call owns: the blocks that it made, and the cells that it reads; kept over allocations, stores, calls. For any program. -/
import Derived.Test.YtbfccjjnnkomcaaDoorBase
namespace Go.Proofs.YtbfccjjnnkomcaaDoor
open Go.RowKit

theorem heap_keeps {a w : World} (h : Ext a w) {g : Nat} {o : Obj} (hg : a.heap[g]? = some o) : w.heap[g]? = some o := by
  have hlt : g < a.heap.size := by
    rcases Nat.lt_or_ge g a.heap.size with h | h
    · exact h
    · rw [Array.getElem?_eq_none h] at hg; cases hg
  exact (h.block g hlt).trans hg
theorem heap_lt {w : World} {g : Nat} {o : Obj} (hg : w.heap[g]? = some o) : g < w.heap.size := by
  rcases Nat.lt_or_ge g w.heap.size with h | h
  · exact h
  · rw [Array.getElem?_eq_none h] at hg; cases hg
theorem heap_past {w : World} {o : Obj} {n : Nat} (h : n < w.heap.size) : (w.alloc o).heap[n]? = w.heap[n]? := ((Ext.refl w).alloc o).block n h
theorem heap_set {w : World} {b j : Nat} {cs : Array Value} {u : Value} {t : TypeId} {fr : Nat × Nat} (h : w.heap[b]? = some (.cells cs t fr)) : (w.setCell ⟨b, j, none⟩ u).heap[b]? = some (.cells (cs.setIfInBounds j u) t fr) := by
  unfold World.setCell
  simp [h, Array.getElem?_modify]
theorem heap_size {w : World} {o : Obj} : (w.alloc o).heap.size = w.heap.size + 1 := by simp
theorem heap_set_size {w : World} {p : Addr} {u : Value} : (w.setCell p u).heap.size = w.heap.size := by simp [World.setCell]
theorem heap_set_other {w : World} {b j k : Nat} {u : Value} (h : k ≠ b) : (w.setCell ⟨b, j, none⟩ u).heap[k]? = w.heap[k]? := by
  unfold World.setCell
  simp [Array.getElem?_modify, Ne.symm h]

theorem int_beq (a b : Int) : (a == b) = decide (a = b) := by cases h : (a == b) <;> simp_all

/-- a block of the call's own: its number, its cells, its type -/
abbrev Blk := Nat × List Value × TypeId

/-- since w0: all that was there is as it was; the blocks L are the call's own, apart from each other, with these cells -/
structure St (w0 w : World) (L : List Blk) : Prop where
  ext : Ext w0 w
  apart : L.Pairwise fun a b => a.1 ≠ b.1
  own : ∀ x ∈ L, w0.heap.size ≤ x.1 ∧ w.heap[x.1]? = some (.cells x.2.1.toArray x.2.2 (0, 0))

def cellFacts (w : World) (g : Nat) : Nat → List Value → Prop
  | _, [] => True
  | j, v :: l => (w.cell? ⟨g, j, none⟩ = some v ∧ w.frozen? ⟨g, j, none⟩ = false) ∧ cellFacts w g (j + 1) l
def Facts (w : World) : List Blk → Prop
  | [] => True
  | x :: l => cellFacts w x.1 0 x.2.1 ∧ Facts w l

section
variable {w0 w w' : World} {L : List Blk}
theorem St.init (w : World) : St w w [] := ⟨Ext.refl w, List.Pairwise.nil, fun _ h => by cases h⟩
theorem St.step (h : St w0 w L) (hx : Ext w w') : St w0 w' L := ⟨h.ext.trans hx, h.apart, fun x hx' => ⟨(h.own x hx').1, heap_keeps hx (h.own x hx').2⟩⟩
theorem St.drew (h : St w0 w L) : St w0 w.drew L := h.step (Ext.refl w).drew
theorem St.alloc (h : St w0 w L) (cs : List Value) (t : TypeId) : St w0 (w.alloc (.cells cs.toArray t)) ((w.heap.size, cs, t) :: L) := by
  refine ⟨h.ext.alloc _, List.Pairwise.cons (fun x hx e => ?_) h.apart, fun x hx => ?_⟩
  · have := heap_lt (h.own x hx).2
    simp only at e
    omega
  · rcases List.mem_cons.1 hx with rfl | hx
    · exact ⟨h.ext.size, heap_alloc_new w _⟩
    · exact ⟨(h.own x hx).1, heap_keeps ((Ext.refl w).alloc _) (h.own x hx).2⟩
theorem St.old (h : St w0 w L) (o : Obj) : St w0 (w.alloc o) L := h.step ((Ext.refl w).alloc o)
theorem pairwise_set : ∀ (L : List Blk) (i : Nat) (g : Nat) (cs ds : List Value) (t : TypeId), L[i]? = some (g, cs, t) → L.Pairwise (fun a b => a.1 ≠ b.1) → (L.set i (g, ds, t)).Pairwise fun a b => a.1 ≠ b.1
  | [], i, g, cs, ds, t, h, _ => by simp at h
  | x :: L, 0, g, cs, ds, t, h, hp => by
    simp at h; subst h
    exact List.Pairwise.cons (fun y hy => (List.pairwise_cons.1 hp).1 y hy) (List.pairwise_cons.1 hp).2
  | x :: L, i + 1, g, cs, ds, t, h, hp => by
    rw [List.set_cons_succ]
    refine List.Pairwise.cons (fun y hy => ?_) (pairwise_set L i g cs ds t (by simpa using h) (List.pairwise_cons.1 hp).2)
    rcases List.mem_or_eq_of_mem_set hy with hy | rfl
    · exact (List.pairwise_cons.1 hp).1 y hy
    · exact (List.pairwise_cons.1 hp).1 (g, cs, t) (List.mem_of_getElem? (by simpa using h))
theorem pairwise_ne {L : List Blk} (hp : L.Pairwise fun a b => a.1 ≠ b.1) {i j : Nat} {x y : Blk} (hi : L[i]? = some x) (hj : L[j]? = some y) (hij : i ≠ j) : x.1 ≠ y.1 := by
  obtain ⟨li, rfl⟩ := List.getElem?_eq_some_iff.1 hi
  obtain ⟨lj, rfl⟩ := List.getElem?_eq_some_iff.1 hj
  rw [List.pairwise_iff_getElem] at hp
  rcases Nat.lt_or_gt_of_ne hij with h | h
  · exact hp i j li lj h
  · exact (hp j i lj li h).symm
theorem St.setAt (i : Nat) {g : Nat} {cs : List Value} {t : TypeId} (hi : L[i]? = some (g, cs, t)) (h : St w0 w L) (j : Nat) (u : Value) : St w0 (w.setCell ⟨g, j, none⟩ u) (L.set i (g, cs.set j u, t)) := by
  have ho := h.own _ (List.mem_of_getElem? hi)
  refine ⟨h.ext.setCell ho.1 u, pairwise_set L i g cs _ t hi h.apart, fun x hx => ?_⟩
  obtain ⟨k, hk⟩ := List.mem_iff_getElem?.1 hx
  rw [List.getElem?_set] at hk
  split at hk
  · rename_i hik
    split at hk
    · simp at hk; subst hk
      refine ⟨ho.1, ?_⟩
      rw [heap_set ho.2]
      simp
    · cases hk
  · rename_i hik
    have hx' := h.own x (List.mem_of_getElem? hk)
    exact ⟨hx'.1, by rw [heap_set_other (fun e => pairwise_ne h.apart hi hk hik e.symm)]; exact hx'.2⟩
theorem St.put {g : Nat} {cs : List Value} {t : TypeId} {i j : Nat} {u : Value} (h : St w0 w L) (hi : L[i]? = some (g, cs, t)) : St w0 (w.setCell ⟨g, j, none⟩ u) (L.set i (g, cs.set j u, t)) := h.setAt i hi j u
theorem St.drop (i : Nat) (h : St w0 w L) : St w0 w (L.eraseIdx i) := ⟨h.ext, h.apart.sublist (List.eraseIdx_sublist L i), fun x hx => h.own x (List.mem_of_mem_eraseIdx hx)⟩

theorem cellFacts_of {g : Nat} {t : TypeId} {all : List Value} (h : w.heap[g]? = some (.cells all.toArray t (0, 0))) : ∀ (l : List Value) (j : Nat), (∀ k, l[k]? = all[j + k]?) → cellFacts w g j l
  | [], _, _ => trivial
  | v :: l, j, hl => by
    have h0 := hl 0
    simp at h0
    refine ⟨⟨?_, ?_⟩, cellFacts_of h l (j + 1) fun k => ?_⟩
    · simp [World.cell?, h, ← h0]
    · simp [World.frozen?, h]
    · have := hl (k + 1)
      rw [show j + 1 + k = j + (k + 1) by omega]
      simpa using this
theorem facts_of : ∀ L : List Blk, (∀ x ∈ L, w.heap[x.1]? = some (.cells x.2.1.toArray x.2.2 (0, 0))) → Facts w L
  | [], _ => trivial
  | x :: L, h => ⟨cellFacts_of (h x (by simp)) x.2.1 0 (fun k => by simp), facts_of L fun y hy => h y (by simp [hy])⟩
theorem St.facts (h : St w0 w L) : Facts w L := facts_of L fun x hx => (h.own x hx).2
theorem abs_list_alloc {P : Program} {W : World} {o : Obj} {ops : Array Oper} {Q : Exit → Act → World → Prop} {l : List Oper} {a : Act} (h : St w0 (W.alloc o) L) (k : ∀ w, St w0 w L → wpList P ops Q l a w) : wpList P ops Q l a (W.alloc o) := k _ h
theorem abs_list_set {P : Program} {W : World} {p : Addr} {u : Value} {ops : Array Oper} {Q : Exit → Act → World → Prop} {l : List Oper} {a : Act} (h : St w0 (W.setCell p u) L) (k : ∀ w, St w0 w L → wpList P ops Q l a w) : wpList P ops Q l a (W.setCell p u) := k _ h
theorem abs_list_drew {P : Program} {W : World}  {ops : Array Oper} {Q : Exit → Act → World → Prop} {l : List Oper} {a : Act} (h : St w0 (W.drew) L) (k : ∀ w, St w0 w L → wpList P ops Q l a w) : wpList P ops Q l a (W.drew) := k _ h
theorem abs_code_alloc {P : Program} {W : World} {o : Obj} {c : Code} {Q : Exit → Act → World → Prop} {a : Act} (h : St w0 (W.alloc o) L) (k : ∀ w, St w0 w L → Code.wp P c Q a w) : Code.wp P c Q a (W.alloc o) := k _ h
theorem abs_code_set {P : Program} {W : World} {p : Addr} {u : Value} {c : Code} {Q : Exit → Act → World → Prop} {a : Act} (h : St w0 (W.setCell p u) L) (k : ∀ w, St w0 w L → Code.wp P c Q a w) : Code.wp P c Q a (W.setCell p u) := k _ h
theorem abs_code_drew {P : Program} {W : World}  {c : Code} {Q : Exit → Act → World → Prop} {a : Act} (h : St w0 (W.drew) L) (k : ∀ w, St w0 w L → Code.wp P c Q a w) : Code.wp P c Q a (W.drew) := k _ h
theorem abs_post_alloc {P : Program} {W : World} {o : Obj} {fn : Func} {R : Ending → World → Prop} {x : Exit} {a : Act} (h : St w0 (W.alloc o) L) (k : ∀ w, St w0 w L → bodyPost P fn R x a w) : bodyPost P fn R x a (W.alloc o) := k _ h
theorem abs_post_set {P : Program} {W : World} {p : Addr} {u : Value} {fn : Func} {R : Ending → World → Prop} {x : Exit} {a : Act} (h : St w0 (W.setCell p u) L) (k : ∀ w, St w0 w L → bodyPost P fn R x a w) : bodyPost P fn R x a (W.setCell p u) := k _ h
theorem abs_post_drew {P : Program} {W : World}  {fn : Func} {R : Ending → World → Prop} {x : Exit} {a : Act} (h : St w0 (W.drew) L) (k : ∀ w, St w0 w L → bodyPost P fn R x a w) : bodyPost P fn R x a (W.drew) := k _ h
theorem abs_calls_alloc {P : Program} {W : World} {o : Obj} {f : FuncId} {R : Ending → World → Prop} {args : Array Value} (h : St w0 (W.alloc o) L) (k : ∀ w, St w0 w L → Calls P f args w R) : Calls P f args (W.alloc o) R := k _ h
theorem abs_calls_set {P : Program} {W : World} {p : Addr} {u : Value} {f : FuncId} {R : Ending → World → Prop} {args : Array Value} (h : St w0 (W.setCell p u) L) (k : ∀ w, St w0 w L → Calls P f args w R) : Calls P f args (W.setCell p u) R := k _ h
theorem abs_calls_drew {P : Program} {W : World}  {f : FuncId} {R : Ending → World → Prop} {args : Array Value} (h : St w0 (W.drew) L) (k : ∀ w, St w0 w L → Calls P f args w R) : Calls P f args (W.drew) R := k _ h
theorem at0 {α : Type} {x : α} {l : List α} : (x :: l)[0]? = some x := rfl
theorem at1 {α : Type} {a x : α} {l : List α} : (a :: x :: l)[1]? = some x := rfl
theorem at2 {α : Type} {a b x : α} {l : List α} : (a :: b :: x :: l)[2]? = some x := rfl
theorem at3 {α : Type} {a b c x : α} {l : List α} : (a :: b :: c :: x :: l)[3]? = some x := rfl
theorem at4 {α : Type} {a b c d x : α} {l : List α} : (a :: b :: c :: d :: x :: l)[4]? = some x := rfl
theorem at5 {α : Type} {a b c d e x : α} {l : List α} : (a :: b :: c :: d :: e :: x :: l)[5]? = some x := rfl
theorem atS {α : Type} {x y : α} {l : List α} {i : Nat} (h : l[i]? = some y) : (l.set i x)[i]? = some x := by
  obtain ⟨hl, _⟩ := List.getElem?_eq_some_iff.1 h
  simp [hl]
theorem atO {α : Type} {x y : α} {l : List α} {i j : Nat} (hij : i ≠ j) (h : l[j]? = some y) : (l.set i x)[j]? = some y := by
  rw [List.getElem?_set_ne hij]; exact h
/-- what was there when the call began, and is read: cells, blocks -/
inductive Rd where
  | cell (p : Addr) (v : Value)
  | blk (g : Nat) (cs : List Value) (t : TypeId) (fr : Nat × Nat)
def Rd.holds (w : World) : Rd → Prop
  | .cell p v => w.cell? p = some v
  | .blk g cs t fr => w.heap[g]? = some (.cells cs.toArray t fr)
def Reads (w : World) (R : List Rd) : Prop := ∀ x ∈ R, x.holds w
def cellOnly (w : World) (g : Nat) : Nat → List Value → Prop
  | _, [] => True
  | j, v :: l => w.cell? ⟨g, j, none⟩ = some v ∧ cellOnly w g (j + 1) l
def RFacts (w : World) : List Rd → Prop
  | [] => True
  | .cell p v :: l => w.cell? p = some v ∧ RFacts w l
  | .blk g cs _ _ :: l => cellOnly w g 0 cs ∧ RFacts w l
theorem Reads.nil (w : World) : Reads w [] := fun _ h => by cases h
theorem Reads.cell {R : List Rd} {p : Addr} {v : Value} (hc : w.cell? p = some v) (h : Reads w R) : Reads w (.cell p v :: R) := fun x hx => by
  rcases List.mem_cons.1 hx with rfl | hx
  · exact hc
  · exact h x hx
theorem Reads.blk {R : List Rd} {g : Nat} {cs : Array Value} {t : TypeId} {fr : Nat × Nat} (hc : w.heap[g]? = some (.cells cs t fr)) (h : Reads w R) : Reads w (.blk g cs.toList t fr :: R) := fun x hx => by
  rcases List.mem_cons.1 hx with rfl | hx
  · simpa [Rd.holds] using hc
  · exact h x hx
theorem Reads.ext {R : List Rd} (h : Reads w R) (hx : Ext w w') : Reads w' R := fun x hx' => by
  have := h x hx'
  cases x with
  | cell p v => exact hx.keeps this
  | blk g cs t fr => exact heap_keeps hx this
theorem cellOnly_of {g : Nat} {t : TypeId} {fr : Nat × Nat} {all : List Value} (h : w.heap[g]? = some (.cells all.toArray t fr)) : ∀ (l : List Value) (j : Nat), (∀ k, l[k]? = all[j + k]?) → cellOnly w g j l
  | [], _, _ => trivial
  | v :: l, j, hl => by
    have h0 := hl 0
    simp at h0
    refine ⟨by simp [World.cell?, h, ← h0], cellOnly_of h l (j + 1) fun k => ?_⟩
    have := hl (k + 1)
    rw [show j + 1 + k = j + (k + 1) by omega]
    simpa using this
theorem rfacts_of : ∀ R : List Rd, Reads w R → RFacts w R
  | [], _ => trivial
  | .cell p v :: R, h => ⟨h (.cell p v) (by simp), rfacts_of R fun y hy => h y (by simp [hy])⟩
  | .blk g cs t fr :: R, h => ⟨cellOnly_of (h (.blk g cs t fr) (by simp)) cs 0 (fun k => by simp), rfacts_of R fun y hy => h y (by simp [hy])⟩
theorem Reads.at {R : List Rd} (h : Reads w R) (hx : Ext w w') : RFacts w' R := rfacts_of R (h.ext hx)
end
end Go.Proofs.YtbfccjjnnkomcaaDoor
