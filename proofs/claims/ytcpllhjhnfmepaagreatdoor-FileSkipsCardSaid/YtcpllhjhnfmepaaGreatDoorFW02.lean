/- Texts joined: value.Right: what it answers; the world has at most new blocks. What a call owns: the blocks that it made, and the cells that it reads; kept over allocations, stores, calls. For any program. A region under St, whether its order is drawn or not: walked once in the order of the text; guards may be open. For any program. What a call owns, in general: blocks whose cells are known, slices that it builds; each apart from the others; kept over allocations, stores, appends, calls. For any program. A region of quiet operations, of new blocks, and of a tail that waits for them: walked in the order of the text, whatever order is drawn. For any program. Slices of values: what their cells hold. An argument that is a slice of values: what its cells hold. -/
import Derived.Test.YtcpllhjhnfmepaaGreatDoorFW01
import Derived.Deep.QuietTactic
import Derived.Shelf.Abstract
import Derived.Lib.AppendStr
import Derived.Laws.MakeOwn
/- value.Right: what it answers; the world has at most new blocks. -/
namespace Go.Proofs.YtcpllhjhnfmepaaGreatDoor
set_option linter.all false
set_option linter.unusedSimpArgs false
set_option linter.unusedVariables false
open Go.RowKit
/-- what value.Right answers -/
def rightB (k n : Int) (s : ByteArray) : Bool :=
  if k = 0 then decide (n = 0) && decide (s = ⟨#[]⟩) else if k = 1 then decide (s = ⟨#[]⟩) else if k = 2 then decide (n = 0) && decide (s.size ≤ 40) && okText s else false

set_option maxHeartbeats 8000000 in
theorem right1_any (r : Nat) (w : World) : Calls Tryz.prog 77 #[.int .i32 (r : Int)] w fun e w' => e = .returned (.bool (badL r)) ∧ ∃ q, w' = w.drewN q := by
  unfold badL
  by_cases h1 : r < 32
  · have f : (decide (r < 32) || decide (126 < r) || decide (r = 39)) = true := by simp [h1]
    rw [f]
    go_enter Tryz.func77, Tryz.ntmps77
    go_wp2
    go_ret
    exact ⟨rfl, 0, rfl⟩
  · by_cases h2 : 126 < r
    · have f : (decide (r < 32) || decide (126 < r) || decide (r = 39)) = true := by simp [h2]
      rw [f]
      go_enter Tryz.func77, Tryz.ntmps77
      go_wp2
      go_ret
      exact ⟨rfl, 0, rfl⟩
    · by_cases h3 : r = 39
      · subst h3
        go_enter Tryz.func77, Tryz.ntmps77
        go_wp2
        go_ret
        exact ⟨rfl, 0, rfl⟩
      · have f : (decide (r < 32) || decide (126 < r) || decide (r = 39)) = false := by simp [h1, h2, h3]
        have b3 : ((r : Int) == 39) = false := by simp; omega
        rw [f]
        have c1 : (decide ((r : Int) < 32)) = false := by simp; omega
        have c2 : (decide ((126 : Int) < r)) = false := by simp; omega
        go_enter Tryz.func77, Tryz.ntmps77
        go_wp2
        go_ret
        exact ⟨rfl, 0, rfl⟩
theorem nil_iff (s : ByteArray) : s.toList = [] ↔ s = ⟨#[]⟩ := by
  rw [ByteArray.toList_eq]
  constructor
  · intro h; apply ByteArray.ext; apply Array.toList_inj.1; simpa using h
  · intro h; rw [h]
theorem right1_at (w : World) : PredAt Tryz.prog 77 #[] encR badL w := fun W x _ => right1_any x W
theorem enters_right1 : ∀ (args : Array Value) (w : World), (callFunc 77 args).run Tryz.prog w = .ok (.enter 77 args) w := by
  exact Go.Proofs.enters_of Tryz.func77 (by kernel_rfl) rfl

set_option maxHeartbeats 8000000 in
theorem right_any (k n : Int) (s : ByteArray) (w : World) :
    Calls Tryz.prog 51 #[.agg #[.int .i64 k, .int .i64 n, .string s]] w fun e w' => e = .returned (.bool (rightB k n s)) ∧ Ext w w' := by
  by_cases k0 : k = 0
  · subst k0
    by_cases hn : n = 0
    · subst hn
      by_cases hs : s = ⟨#[]⟩
      · subst hs
        have f : rightB 0 0 ⟨#[]⟩ = true := by simp [rightB]
        rw [f]; clear f
        go_enter Tryz.func51, Tryz.ntmps51
        go_wp2
        go_ret
        refine ⟨rfl, ?_⟩
        (repeat (first | with_reducible exact Ext.refl _ | with_reducible assumption | with_reducible refine Ext.drew ?_ | with_reducible refine Ext.alloc ?_ _ | with_reducible refine Ext.drewN ?_ _ | refine Ext.trans ?_ (by with_reducible assumption)))
      · have f : rightB 0 0 s = false := by simp [rightB, hs]
        have hs' : ¬ s.toList = [] := by rw [nil_iff]; exact hs
        rw [f]; clear f hs
        go_enter Tryz.func51, Tryz.ntmps51
        go_wp2
        go_ret
        refine ⟨rfl, ?_⟩
        (repeat (first | with_reducible exact Ext.refl _ | with_reducible assumption | with_reducible refine Ext.drew ?_ | with_reducible refine Ext.alloc ?_ _ | with_reducible refine Ext.drewN ?_ _ | refine Ext.trans ?_ (by with_reducible assumption)))
    · have f : rightB 0 n s = false := by simp [rightB, hn]
      rw [f]; clear f
      go_enter Tryz.func51, Tryz.ntmps51
      go_wp2
      go_ret
      refine ⟨rfl, ?_⟩
      (repeat (first | with_reducible exact Ext.refl _ | with_reducible assumption | with_reducible refine Ext.drew ?_ | with_reducible refine Ext.alloc ?_ _ | with_reducible refine Ext.drewN ?_ _ | refine Ext.trans ?_ (by with_reducible assumption)))
  · have b0 : (k == 0) = false := by simp [k0]
    by_cases k1 : k = 1
    · subst k1
      by_cases hs : s = ⟨#[]⟩
      · subst hs
        have f : rightB 1 n ⟨#[]⟩ = true := by simp [rightB]
        rw [f]; clear f
        go_enter Tryz.func51, Tryz.ntmps51
        go_wp2
        go_ret
        refine ⟨rfl, ?_⟩
        (repeat (first | with_reducible exact Ext.refl _ | with_reducible assumption | with_reducible refine Ext.drew ?_ | with_reducible refine Ext.alloc ?_ _ | with_reducible refine Ext.drewN ?_ _ | refine Ext.trans ?_ (by with_reducible assumption)))
      · have f : rightB 1 n s = false := by simp [rightB, hs]
        have hs' : s.toList.isEmpty = false := by simpa [nil_iff] using hs
        rw [f]; clear f hs
        go_enter Tryz.func51, Tryz.ntmps51
        go_wp2
        go_ret
        refine ⟨?_, ?_⟩
        · simp [hs']
        · (repeat (first | with_reducible exact Ext.refl _ | with_reducible assumption | with_reducible refine Ext.drew ?_ | with_reducible refine Ext.alloc ?_ _ | with_reducible refine Ext.drewN ?_ _ | refine Ext.trans ?_ (by with_reducible assumption)))
    · have b1 : (k == 1) = false := by simp [k1]
      by_cases k2 : k = 2
      · subst k2
        clear k0 k1 b0 b1
        by_cases hn : n = 0
        · subst hn
          by_cases hz : s.size ≤ 40
          · have f : rightB 2 0 s = decide (Lib.idxFunc badL true s < 0) := by rw [idx_ok]; simp [rightB, hz]
            rw [f]; clear f
            go_enter Tryz.func51, Tryz.ntmps51
            go_wp2_with (go_at_call 76; refine (Tryz.strings_IndexFunc 77 #[] enters_right1 badL _ _ (right1_at _)).mono ?_; rintro e w1 ⟨rfl, hb1⟩; have hx1 := Ext.mk hb1; clear hb1)

            go_ret
            refine ⟨rfl, ?_⟩
            (repeat (first | with_reducible exact Ext.refl _ | with_reducible assumption | with_reducible refine Ext.drew ?_ | with_reducible refine Ext.alloc ?_ _ | with_reducible refine Ext.drewN ?_ _ | refine Ext.trans ?_ (by with_reducible assumption)))
          · have f : rightB 2 0 s = false := by simp [rightB, hz]
            rw [f]; clear f
            go_enter Tryz.func51, Tryz.ntmps51
            go_wp2_with fail
            go_ret
            refine ⟨rfl, ?_⟩
            (repeat (first | with_reducible exact Ext.refl _ | with_reducible assumption | with_reducible refine Ext.drew ?_ | with_reducible refine Ext.alloc ?_ _ | with_reducible refine Ext.drewN ?_ _ | refine Ext.trans ?_ (by with_reducible assumption)))
        · have f : rightB 2 n s = false := by simp [rightB, hn]
          have bn : (n == 0) = false := by simp [hn]
          rw [f]; clear f hn
          go_enter Tryz.func51, Tryz.ntmps51
          go_wp2_with fail
          go_ret
          refine ⟨rfl, ?_⟩
          (repeat (first | with_reducible exact Ext.refl _ | with_reducible assumption | with_reducible refine Ext.drew ?_ | with_reducible refine Ext.alloc ?_ _ | with_reducible refine Ext.drewN ?_ _ | refine Ext.trans ?_ (by with_reducible assumption)))
      · have b2 : (k == 2) = false := by simp [k2]
        have f : rightB k n s = false := by simp [rightB, k0, k1, k2]
        rw [f]
        clear f k0 k1 k2
        go_enter Tryz.func51, Tryz.ntmps51
        go_wp2
        go_ret
        refine ⟨rfl, ?_⟩
        (repeat (first | with_reducible exact Ext.refl _ | with_reducible assumption | with_reducible refine Ext.drew ?_ | with_reducible refine Ext.alloc ?_ _ | with_reducible refine Ext.drewN ?_ _ | refine Ext.trans ?_ (by with_reducible assumption)))
end Go.Proofs.YtcpllhjhnfmepaaGreatDoor

/- What a call owns: the blocks that it made, and the cells that it reads; kept over allocations, stores, calls. For any program. -/
namespace Go.Proofs.YtcpllhjhnfmepaaGreatDoor
set_option linter.all false
open Go.RowKit

theorem heap_keeps {a w : World} (h : Ext a w) {g : Nat} {o : Obj} (hg : a.heap[g]? = some o) : w.heap[g]? = some o := by
  have hlt : g < a.heap.size := by
    rcases Nat.lt_or_ge g a.heap.size with h | h
    · exact h
    · rw [Array.getElem?_eq_none h] at hg; cases hg
  exact (h.block g hlt).trans hg
theorem heap_lt {w : World} {g : Nat} {o : Obj} (hg : w.heap[g]? = some o) : g < w.heap.size := by
  rcases Nat.lt_or_ge g w.heap.size with h | h
  · exact h
  · rw [Array.getElem?_eq_none h] at hg; cases hg
theorem heap_set {w : World} {b j : Nat} {cs : Array Value} {u : Value} {t : TypeId} {fr : Nat × Nat} (h : w.heap[b]? = some (.cells cs t fr)) : (w.setCell ⟨b, j, none⟩ u).heap[b]? = some (.cells (cs.setIfInBounds j u) t fr) := by
  unfold World.setCell
  simp [h, Array.getElem?_modify]
theorem heap_size {w : World} {o : Obj} : (w.alloc o).heap.size = w.heap.size + 1 := by simp
theorem heap_set_size {w : World} {p : Addr} {u : Value} : (w.setCell p u).heap.size = w.heap.size := by simp [World.setCell]
theorem heap_set_other {w : World} {b j k : Nat} {u : Value} (h : k ≠ b) : (w.setCell ⟨b, j, none⟩ u).heap[k]? = w.heap[k]? := by
  unfold World.setCell
  simp [Array.getElem?_modify, Ne.symm h]

theorem int_beq (a b : Int) : (a == b) = decide (a = b) := by cases h : (a == b) <;> simp_all

/-- a block of the call's own: its number, its cells, its type -/
abbrev Blk := Nat × List Value × TypeId

/-- since w0: all that was there is as it was; the blocks L are the call's own, apart from each other, with these cells -/
structure St (w0 w : World) (L : List Blk) : Prop where
  ext : Ext w0 w
  apart : L.Pairwise fun a b => a.1 ≠ b.1
  own : ∀ x ∈ L, w0.heap.size ≤ x.1 ∧ w.heap[x.1]? = some (.cells x.2.1.toArray x.2.2 (0, 0))

def cellFacts (w : World) (g : Nat) : Nat → List Value → Prop
  | _, [] => True
  | j, v :: l => (w.cell? ⟨g, j, none⟩ = some v ∧ w.frozen? ⟨g, j, none⟩ = false) ∧ cellFacts w g (j + 1) l
def Facts (w : World) : List Blk → Prop
  | [] => True
  | x :: l => cellFacts w x.1 0 x.2.1 ∧ Facts w l

section
variable {w0 w w' : World} {L : List Blk}
theorem St.init (w : World) : St w w [] := ⟨Ext.refl w, List.Pairwise.nil, fun _ h => by cases h⟩
theorem St.step (h : St w0 w L) (hx : Ext w w') : St w0 w' L := ⟨h.ext.trans hx, h.apart, fun x hx' => ⟨(h.own x hx').1, heap_keeps hx (h.own x hx').2⟩⟩
theorem St.drew (h : St w0 w L) : St w0 w.drew L := h.step (Ext.refl w).drew
theorem St.alloc (h : St w0 w L) (cs : List Value) (t : TypeId) : St w0 (w.alloc (.cells cs.toArray t)) ((w.heap.size, cs, t) :: L) := by
  refine ⟨h.ext.alloc _, List.Pairwise.cons (fun x hx e => ?_) h.apart, fun x hx => ?_⟩
  · have := heap_lt (h.own x hx).2
    simp only at e
    omega
  · rcases List.mem_cons.1 hx with rfl | hx
    · exact ⟨h.ext.size, heap_alloc_new w _⟩
    · exact ⟨(h.own x hx).1, heap_keeps ((Ext.refl w).alloc _) (h.own x hx).2⟩
theorem St.old (h : St w0 w L) (o : Obj) : St w0 (w.alloc o) L := h.step ((Ext.refl w).alloc o)
theorem pairwise_set : ∀ (L : List Blk) (i : Nat) (g : Nat) (cs ds : List Value) (t : TypeId), L[i]? = some (g, cs, t) → L.Pairwise (fun a b => a.1 ≠ b.1) → (L.set i (g, ds, t)).Pairwise fun a b => a.1 ≠ b.1
  | [], i, g, cs, ds, t, h, _ => by simp at h
  | x :: L, 0, g, cs, ds, t, h, hp => by
    simp at h; subst h
    exact List.Pairwise.cons (fun y hy => (List.pairwise_cons.1 hp).1 y hy) (List.pairwise_cons.1 hp).2
  | x :: L, i + 1, g, cs, ds, t, h, hp => by
    rw [List.set_cons_succ]
    refine List.Pairwise.cons (fun y hy => ?_) (pairwise_set L i g cs ds t (by simpa using h) (List.pairwise_cons.1 hp).2)
    rcases List.mem_or_eq_of_mem_set hy with hy | rfl
    · exact (List.pairwise_cons.1 hp).1 y hy
    · exact (List.pairwise_cons.1 hp).1 (g, cs, t) (List.mem_of_getElem? (by simpa using h))
theorem pairwise_ne {L : List Blk} (hp : L.Pairwise fun a b => a.1 ≠ b.1) {i j : Nat} {x y : Blk} (hi : L[i]? = some x) (hj : L[j]? = some y) (hij : i ≠ j) : x.1 ≠ y.1 := by
  obtain ⟨li, rfl⟩ := List.getElem?_eq_some_iff.1 hi
  obtain ⟨lj, rfl⟩ := List.getElem?_eq_some_iff.1 hj
  rw [List.pairwise_iff_getElem] at hp
  rcases Nat.lt_or_gt_of_ne hij with h | h
  · exact hp i j li lj h
  · exact (hp j i lj li h).symm
theorem St.setAt (i : Nat) {g : Nat} {cs : List Value} {t : TypeId} (hi : L[i]? = some (g, cs, t)) (h : St w0 w L) (j : Nat) (u : Value) : St w0 (w.setCell ⟨g, j, none⟩ u) (L.set i (g, cs.set j u, t)) := by
  have ho := h.own _ (List.mem_of_getElem? hi)
  refine ⟨h.ext.setCell ho.1 u, pairwise_set L i g cs _ t hi h.apart, fun x hx => ?_⟩
  obtain ⟨k, hk⟩ := List.mem_iff_getElem?.1 hx
  rw [List.getElem?_set] at hk
  split at hk
  · rename_i hik
    split at hk
    · simp at hk; subst hk
      refine ⟨ho.1, ?_⟩
      rw [heap_set ho.2]
      simp
    · cases hk
  · rename_i hik
    have hx' := h.own x (List.mem_of_getElem? hk)
    exact ⟨hx'.1, by rw [heap_set_other (fun e => pairwise_ne h.apart hi hk hik e.symm)]; exact hx'.2⟩
theorem St.put {g : Nat} {cs : List Value} {t : TypeId} {i j : Nat} {u : Value} (h : St w0 w L) (hi : L[i]? = some (g, cs, t)) : St w0 (w.setCell ⟨g, j, none⟩ u) (L.set i (g, cs.set j u, t)) := h.setAt i hi j u
theorem St.drop (i : Nat) (h : St w0 w L) : St w0 w (L.eraseIdx i) := ⟨h.ext, h.apart.sublist (List.eraseIdx_sublist L i), fun x hx => h.own x (List.mem_of_mem_eraseIdx hx)⟩

theorem cellFacts_of {g : Nat} {t : TypeId} {all : List Value} (h : w.heap[g]? = some (.cells all.toArray t (0, 0))) : ∀ (l : List Value) (j : Nat), (∀ k, l[k]? = all[j + k]?) → cellFacts w g j l
  | [], _, _ => trivial
  | v :: l, j, hl => by
    have h0 := hl 0
    simp at h0
    refine ⟨⟨?_, ?_⟩, cellFacts_of h l (j + 1) fun k => ?_⟩
    · simp [World.cell?, h, ← h0]
    · simp [World.frozen?, h]
    · have := hl (k + 1)
      rw [show j + 1 + k = j + (k + 1) by omega]
      simpa using this
theorem facts_of : ∀ L : List Blk, (∀ x ∈ L, w.heap[x.1]? = some (.cells x.2.1.toArray x.2.2 (0, 0))) → Facts w L
  | [], _ => trivial
  | x :: L, h => ⟨cellFacts_of (h x (by simp)) x.2.1 0 (fun k => by simp), facts_of L fun y hy => h y (by simp [hy])⟩
theorem St.facts (h : St w0 w L) : Facts w L := facts_of L fun x hx => (h.own x hx).2
theorem abs_list_alloc {P : Program} {W : World} {o : Obj} {ops : Array Oper} {Q : Exit → Act → World → Prop} {l : List Oper} {a : Act} (h : St w0 (W.alloc o) L) (k : ∀ w, St w0 w L → wpList P ops Q l a w) : wpList P ops Q l a (W.alloc o) := k _ h
theorem abs_list_set {P : Program} {W : World} {p : Addr} {u : Value} {ops : Array Oper} {Q : Exit → Act → World → Prop} {l : List Oper} {a : Act} (h : St w0 (W.setCell p u) L) (k : ∀ w, St w0 w L → wpList P ops Q l a w) : wpList P ops Q l a (W.setCell p u) := k _ h
theorem abs_list_drew {P : Program} {W : World}  {ops : Array Oper} {Q : Exit → Act → World → Prop} {l : List Oper} {a : Act} (h : St w0 (W.drew) L) (k : ∀ w, St w0 w L → wpList P ops Q l a w) : wpList P ops Q l a (W.drew) := k _ h
theorem abs_code_alloc {P : Program} {W : World} {o : Obj} {c : Code} {Q : Exit → Act → World → Prop} {a : Act} (h : St w0 (W.alloc o) L) (k : ∀ w, St w0 w L → Code.wp P c Q a w) : Code.wp P c Q a (W.alloc o) := k _ h
theorem abs_code_set {P : Program} {W : World} {p : Addr} {u : Value} {c : Code} {Q : Exit → Act → World → Prop} {a : Act} (h : St w0 (W.setCell p u) L) (k : ∀ w, St w0 w L → Code.wp P c Q a w) : Code.wp P c Q a (W.setCell p u) := k _ h
theorem abs_code_drew {P : Program} {W : World}  {c : Code} {Q : Exit → Act → World → Prop} {a : Act} (h : St w0 (W.drew) L) (k : ∀ w, St w0 w L → Code.wp P c Q a w) : Code.wp P c Q a (W.drew) := k _ h
theorem abs_post_alloc {P : Program} {W : World} {o : Obj} {fn : Func} {R : Ending → World → Prop} {x : Exit} {a : Act} (h : St w0 (W.alloc o) L) (k : ∀ w, St w0 w L → bodyPost P fn R x a w) : bodyPost P fn R x a (W.alloc o) := k _ h
theorem abs_post_set {P : Program} {W : World} {p : Addr} {u : Value} {fn : Func} {R : Ending → World → Prop} {x : Exit} {a : Act} (h : St w0 (W.setCell p u) L) (k : ∀ w, St w0 w L → bodyPost P fn R x a w) : bodyPost P fn R x a (W.setCell p u) := k _ h
theorem abs_post_drew {P : Program} {W : World}  {fn : Func} {R : Ending → World → Prop} {x : Exit} {a : Act} (h : St w0 (W.drew) L) (k : ∀ w, St w0 w L → bodyPost P fn R x a w) : bodyPost P fn R x a (W.drew) := k _ h
theorem abs_calls_alloc {P : Program} {W : World} {o : Obj} {f : FuncId} {R : Ending → World → Prop} {args : Array Value} (h : St w0 (W.alloc o) L) (k : ∀ w, St w0 w L → Calls P f args w R) : Calls P f args (W.alloc o) R := k _ h
theorem abs_calls_set {P : Program} {W : World} {p : Addr} {u : Value} {f : FuncId} {R : Ending → World → Prop} {args : Array Value} (h : St w0 (W.setCell p u) L) (k : ∀ w, St w0 w L → Calls P f args w R) : Calls P f args (W.setCell p u) R := k _ h
theorem abs_calls_drew {P : Program} {W : World}  {f : FuncId} {R : Ending → World → Prop} {args : Array Value} (h : St w0 (W.drew) L) (k : ∀ w, St w0 w L → Calls P f args w R) : Calls P f args (W.drew) R := k _ h
theorem at0 {α : Type} {x : α} {l : List α} : (x :: l)[0]? = some x := rfl
theorem at1 {α : Type} {a x : α} {l : List α} : (a :: x :: l)[1]? = some x := rfl
theorem at2 {α : Type} {a b x : α} {l : List α} : (a :: b :: x :: l)[2]? = some x := rfl
theorem at3 {α : Type} {a b c x : α} {l : List α} : (a :: b :: c :: x :: l)[3]? = some x := rfl
theorem at4 {α : Type} {a b c d x : α} {l : List α} : (a :: b :: c :: d :: x :: l)[4]? = some x := rfl
theorem at5 {α : Type} {a b c d e x : α} {l : List α} : (a :: b :: c :: d :: e :: x :: l)[5]? = some x := rfl
theorem atS {α : Type} {x y : α} {l : List α} {i : Nat} (h : l[i]? = some y) : (l.set i x)[i]? = some x := by
  obtain ⟨hl, _⟩ := List.getElem?_eq_some_iff.1 h
  simp [hl]
/-- what was there when the call began, and is read: cells, blocks -/
inductive Rd where
  | cell (p : Addr) (v : Value)
  | blk (g : Nat) (cs : List Value) (t : TypeId) (fr : Nat × Nat)
def Rd.holds (w : World) : Rd → Prop
  | .cell p v => w.cell? p = some v
  | .blk g cs t fr => w.heap[g]? = some (.cells cs.toArray t fr)
def Reads (w : World) (R : List Rd) : Prop := ∀ x ∈ R, x.holds w
def cellOnly (w : World) (g : Nat) : Nat → List Value → Prop
  | _, [] => True
  | j, v :: l => w.cell? ⟨g, j, none⟩ = some v ∧ cellOnly w g (j + 1) l
def RFacts (w : World) : List Rd → Prop
  | [] => True
  | .cell p v :: l => w.cell? p = some v ∧ RFacts w l
  | .blk g cs _ _ :: l => cellOnly w g 0 cs ∧ RFacts w l
theorem Reads.nil (w : World) : Reads w [] := fun _ h => by cases h
theorem Reads.cell {R : List Rd} {p : Addr} {v : Value} (hc : w.cell? p = some v) (h : Reads w R) : Reads w (.cell p v :: R) := fun x hx => by
  rcases List.mem_cons.1 hx with rfl | hx
  · exact hc
  · exact h x hx
theorem Reads.blk {R : List Rd} {g : Nat} {cs : Array Value} {t : TypeId} {fr : Nat × Nat} (hc : w.heap[g]? = some (.cells cs t fr)) (h : Reads w R) : Reads w (.blk g cs.toList t fr :: R) := fun x hx => by
  rcases List.mem_cons.1 hx with rfl | hx
  · simpa [Rd.holds] using hc
  · exact h x hx
theorem Reads.ext {R : List Rd} (h : Reads w R) (hx : Ext w w') : Reads w' R := fun x hx' => by
  have := h x hx'
  cases x with
  | cell p v => exact hx.keeps this
  | blk g cs t fr => exact heap_keeps hx this
theorem cellOnly_of {g : Nat} {t : TypeId} {fr : Nat × Nat} {all : List Value} (h : w.heap[g]? = some (.cells all.toArray t fr)) : ∀ (l : List Value) (j : Nat), (∀ k, l[k]? = all[j + k]?) → cellOnly w g j l
  | [], _, _ => trivial
  | v :: l, j, hl => by
    have h0 := hl 0
    simp at h0
    refine ⟨by simp [World.cell?, h, ← h0], cellOnly_of h l (j + 1) fun k => ?_⟩
    have := hl (k + 1)
    rw [show j + 1 + k = j + (k + 1) by omega]
    simpa using this
theorem rfacts_of : ∀ R : List Rd, Reads w R → RFacts w R
  | [], _ => trivial
  | .cell p v :: R, h => ⟨h (.cell p v) (by simp), rfacts_of R fun y hy => h y (by simp [hy])⟩
  | .blk g cs t fr :: R, h => ⟨cellOnly_of (h (.blk g cs t fr) (by simp)) cs 0 (fun k => by simp), rfacts_of R fun y hy => h y (by simp [hy])⟩
theorem Reads.at {R : List Rd} (h : Reads w R) (hx : Ext w w') : RFacts w' R := rfacts_of R (h.ext hx)
end
end Go.Proofs.YtcpllhjhnfmepaaGreatDoor

/- A region under St, whether its order is drawn or not: walked once in the order of the text; guards may be open. For any program. -/
namespace Go.Proofs.YtcpllhjhnfmepaaGreatDoor
set_option linter.all false
open Go.RowKit
section
variable {P : Program} {ops : Array Oper} {F : World → Prop} {K : Act → Prop} {o : Oper} {rest : List Oper} {a : Act} {j : Nat} {p b : Bool} {d : Tmp}
theorem wanted_eq (hg : o.guard = some (j, p)) (hd : (ops[j]?).bind (·.dst) = some d) (ht : a.tmps[d]? = some (.bool b)) : Region.wanted o (yielded ops a.tmps) = (b == p) := by
  have hy : yielded ops a.tmps j = some b := by unfold yielded; rw [hd]; simp [ht]
  cases b <;> cases p <;> simp [Region.wanted, hg, hy]
theorem wanted_true (hg : o.guard = some (j, p)) (hd : (ops[j]?).bind (·.dst) = some d) (ht : a.tmps[d]? = some (.bool b)) (hb : b = p) : Region.wanted o (yielded ops a.tmps) = true := by
  rw [wanted_eq hg hd ht]; simp [hb]
theorem wanted_false (hg : o.guard = some (j, p)) (hd : (ops[j]?).bind (·.dst) = some d) (ht : a.tmps[d]? = some (.bool b)) (hb : b = !p) : Region.wanted o (yielded ops a.tmps) = false := by
  rw [wanted_eq hg hd ht]; subst hb; cases p <;> rfl
theorem Fixed.here {l : List Oper} (h : Fixed P ops F K l a) : Fixed P ops F K l a := h
/-- the guard is open: both ways -/
theorem Fixed.guardT (_ : o.guard = some (j, true)) (_ : (ops[j]?).bind (·.dst) = some d) (_ : a.tmps[d]? = some (.bool b)) (h1 : b = true → Fixed P ops F K (o :: rest) a) (h2 : b = false → Fixed P ops F K (o :: rest) a) : Fixed P ops F K (o :: rest) a := by
  cases hb : b
  · exact h2 hb
  · exact h1 hb
theorem Fixed.guardF (_ : o.guard = some (j, false)) (_ : (ops[j]?).bind (·.dst) = some d) (_ : a.tmps[d]? = some (.bool b)) (h1 : b = false → Fixed P ops F K (o :: rest) a) (h2 : b = true → Fixed P ops F K (o :: rest) a) : Fixed P ops F K (o :: rest) a := by
  cases hb : b
  · exact h1 hb
  · exact h2 hb
theorem Fixed.imp {K' : Act → Prop} (hK : ∀ a, K a → K' a) : ∀ (l : List Oper) (a : Act), Fixed P ops F K l a → Fixed P ops F K' l a
  | [], a, h => hK a h
  | _ :: l, _, .inl ⟨hw, v, hs, h⟩ => .inl ⟨hw, v, hs, Fixed.imp hK l _ h⟩
  | _ :: l, _, .inr ⟨hw, h⟩ => .inr ⟨hw, Fixed.imp hK l _ h⟩
theorem wp_region_st {w0 w : World} {L : List Blk} {Q : Exit → Act → World → Prop} {id : Nat} {l : List Oper} {draw : Bool} (hm : P.follows .mixedOrders = true) (hok : fixedOk l.toArray = true)
    (hS : St w0 w L) (h : Fixed P l.toArray (fun W => St w0 W L) (fun a' => ∀ w', St w0 w' L → Q .normal a' w') l a) : (Code.region id l.toArray draw).wp P Q a w :=
  wp_region_fixed (F := fun W => St w0 W L) hm hok (fun _ _ h hx => St.step h hx) hS (Fixed.imp (fun _ hk w' _ hs => hk w' hs) l a h)
end
end Go.Proofs.YtcpllhjhnfmepaaGreatDoor

/- What a call owns, in general: blocks whose cells are known, slices that it builds; each apart from the others; kept over allocations, stores, appends, calls. For any program. -/
namespace Go.Proofs.YtcpllhjhnfmepaaGreatDoor
set_option linter.all false
open Go.RowKit

/-- a thing that the call owns: a block with its cells; a slice of n elements with its cells -/
inductive Item where
  | blk (g : Nat) (cs : List Value) (t : TypeId)
  | row (e : TypeId) (size : Nat) (A : Option Addr) (n cap : Nat) (xs : List Value)
  | ob (g : Nat) (o : Obj)
  | mp (m : Option Nat) (o : Obj)
def Item.block : Item → Option Nat
  | .blk g _ _ => some g
  | .row _ _ A _ _ _ => A.map (·.block)
  | .ob g _ => some g
  | .mp m _ => m
def Item.at (B : Nat) (w : World) : Item → Prop
  | .blk g cs t => B ≤ g ∧ w.heap[g]? = some (.cells cs.toArray t (0, 0))
  | .row e size A n cap xs => w.ownsRow B e size (.slice A n cap) n xs
  | .ob g o => B ≤ g ∧ w.heap[g]? = some o
  | .mp m o => ∀ g, m = some g → B ≤ g ∧ w.heap[g]? = some o
def clash (a b : Item) : Prop := a.block = none ∨ a.block ≠ b.block
theorem clash.symm {a b : Item} (h : clash a b) : clash b a := by
  unfold clash at *
  cases hb : b.block with
  | none => exact .inl rfl
  | some g => rcases h with h | h
              · right; rw [h]; simp
              · right; rw [hb] at h; exact fun e => h e.symm
/-- since w0: below B all is as it was; the things of L are the call's own, from B on, apart -/
structure Hp (B : Nat) (w0 w : World) (L : List Item) : Prop where
  below : Below B w0 w
  base : B ≤ w.heap.size
  apart : L.Pairwise clash
  own : ∀ x ∈ L, x.at B w
theorem own_none {A : Option Addr} {n cap : Nat} : (Value.slice A n cap).ownBlock = A.map (·.block) := by cases A <;> rfl
/-- the facts on the blocks' cells -/
def HFacts (w : World) : List Item → Prop
  | [] => True
  | .blk g cs _ :: l => cellFacts w g 0 cs ∧ HFacts w l
  | .row .. :: l => HFacts w l
  | .ob .. :: l => HFacts w l
  | .mp .. :: l => HFacts w l

section
variable {P : Program} {B : Nat} {w0 w w' : World} {L : List Item} {x : Item} {row : Option Nat}
theorem Item.at.lt (h : x.at B w) : ∀ k, x.block = some k → B ≤ k ∧ k < w.heap.size := by
  intro k hk
  cases x with
  | blk g cs t =>
    simp [Item.block] at hk; subst hk
    exact ⟨h.1, heap_lt h.2⟩
  | row e size A n cap xs => exact World.ownsRow.lt h k (by rw [own_none]; exact hk)
  | ob g o =>
    simp [Item.block] at hk; subst hk
    exact ⟨h.1, (Array.getElem?_eq_some_iff.1 h.2).1⟩
  | mp m o => exact ⟨(h k hk).1, (Array.getElem?_eq_some_iff.1 (h k hk).2).1⟩
theorem Item.at.kept (h : x.at B w) (hg : w.grownBy w' row) (hne : x.block = none ∨ x.block ≠ row) : x.at B w' := by
  cases x with
  | blk g cs t =>
    refine ⟨h.1, ?_⟩
    rw [hg.block g (heap_lt h.2) (by simpa [Item.block] using hne)]
    exact h.2
  | row e size A n cap xs => exact World.ownsRow.kept h hg (by rw [own_none]; exact hne)
  | ob g o =>
    refine ⟨h.1, ?_⟩
    rw [hg.block g (Array.getElem?_eq_some_iff.1 h.2).1 (by simpa [Item.block] using hne)]
    exact h.2
  | mp m o =>
    intro g hm
    refine ⟨(h g hm).1, ?_⟩
    rw [hg.block g (Array.getElem?_eq_some_iff.1 (h g hm).2).1 (by subst hm; simpa [Item.block] using hne)]
    exact (h g hm).2
theorem Hp.nil (h : Below B w0 w) (hB : B ≤ w.heap.size) : Hp B w0 w [] := ⟨h, hB, List.Pairwise.nil, fun _ h => by cases h⟩
theorem Hp.init (w : World) : Hp w.heap.size w w [] := Hp.nil (Below.refl _ _) (Nat.le_refl _)
theorem Hp.ext (h : Hp w0.heap.size w0 w L) : Ext w0 w := h.below
theorem Hp.grown (h : Hp B w0 w L) (hg : w.grownBy w' none) : Hp B w0 w' L :=
  ⟨h.below.grown hg h.base (fun k hk => by cases hk), Nat.le_trans h.base hg.size, h.apart, fun x hx => (h.own x hx).kept hg (by cases hb : x.block <;> simp)⟩
theorem Hp.step (h : Hp B w0 w L) (hx : Ext w w') : Hp B w0 w' L := h.grown (hx.grownBy none)
theorem Hp.drew (h : Hp B w0 w L) : Hp B w0 w.drew L := h.step (Ext.refl w).drew
theorem Hp.old (h : Hp B w0 w L) (o : Obj) : Hp B w0 (w.alloc o) L := h.step ((Ext.refl w).alloc o)
theorem Hp.cons (h : Hp B w0 w L) (hx : x.at B w) (hc : ∀ y ∈ L, clash x y) : Hp B w0 w (x :: L) :=
  ⟨h.below, h.base, List.Pairwise.cons hc h.apart, fun y hy => (List.mem_cons.1 hy).elim (fun e => e ▸ hx) (h.own y)⟩
theorem Hp.fresh (h : Hp B w0 w L) {g : Nat} (hx : x.block = some g) (hg : w.heap.size ≤ g) : ∀ y ∈ L, clash x y := fun y hy => by
  right
  rw [hx]
  intro e
  have := (h.own y hy).lt g e.symm
  omega
theorem Hp.alloc (h : Hp B w0 w L) (cs : List Value) (t : TypeId) : Hp B w0 (w.alloc (.cells cs.toArray t)) (.blk w.heap.size cs t :: L) :=
  (h.old _).cons ⟨h.base, heap_alloc_new w _⟩ (h.fresh rfl (Nat.le_refl _))
theorem Hp.nilRow (h : Hp B w0 w L) (e : TypeId) (size : Nat) : Hp B w0 w (.row e size none 0 0 [] :: L) := h.cons (World.ownsRow_nil _ _ _ _) fun _ _ => .inl rfl
theorem Hp.sub {M : List Item} (h : Hp B w0 w L) (hs : M.Sublist L) : Hp B w0 w M := ⟨h.below, h.base, h.apart.sublist hs, fun x hx => h.own x (hs.subset hx)⟩
theorem Hp.drop (i : Nat) (h : Hp B w0 w L) : Hp B w0 w (L.eraseIdx i) := h.sub (List.eraseIdx_sublist L i)
theorem Hp.perm {M : List Item} (h : Hp B w0 w L) (hp : M.Perm L) : Hp B w0 w M := ⟨h.below, h.base, (hp.pairwise_iff (fun h => clash.symm h)).2 h.apart, fun x hx => h.own x (hp.subset hx)⟩
theorem perm_front : ∀ (L : List Item) (i : Nat) (x : Item), L[i]? = some x → (x :: L.eraseIdx i).Perm L
  | [], i, x, h => by simp at h
  | y :: L, 0, x, h => by simp at h; subst h; simp
  | y :: L, i + 1, x, h => by
    rw [List.eraseIdx_cons_succ]
    exact (List.Perm.swap y x _).trans ((perm_front L i x (by simpa using h)).cons y)
/-- the thing at i comes to the head -/
theorem Hp.front (i : Nat) (h : Hp B w0 w L) (hi : L[i]? = some x) : Hp B w0 w (x :: L.eraseIdx i) := h.perm (perm_front L i x hi)
/-- the thing behind the head at i comes to the second place -/
theorem Hp.second (i : Nat) {y : Item} (h : Hp B w0 w (y :: L)) (hi : L[i]? = some x) : Hp B w0 w (y :: x :: L.eraseIdx i) := h.perm ((perm_front L i x hi).cons y)
theorem Hp.tail (h : Hp B w0 w (x :: L)) : Hp B w0 w L := h.sub (List.sublist_cons_self x L)
theorem Hp.head (h : Hp B w0 w (x :: L)) : x.at B w := h.own x (by simp)

/-- the head has been written: a block, a row -/
theorem Hp.turn {y : Item} (h : Hp B w0 w (x :: L)) (hg : w.grownBy w' row) (hr : row = none ∨ row = x.block) (hy : y.at B w') (hb : y.block = x.block ∨ y.block = none ∨ ∃ g, y.block = some g ∧ w.heap.size ≤ g) : Hp B w0 w' (y :: L) := by
  obtain ⟨hc, ha⟩ := List.pairwise_cons.1 h.apart
  refine ⟨h.below.grown hg h.base (fun k hk => ?_), Nat.le_trans h.base hg.size, List.Pairwise.cons (fun z hz => ?_) ha, fun z hz => ?_⟩
  · rcases hr with hr | hr
    · rw [hr] at hk; cases hk
    · exact (h.head.lt k (by rw [← hr]; exact hk)).1
  · rcases hb with hb | hb | ⟨g, hb, hlt⟩
    · have := hc z hz
      unfold clash at *
      rwa [hb]
    · exact .inl hb
    · exact h.fresh hb hlt z (by simp [hz])
  · rcases List.mem_cons.1 hz with rfl | hz
    · exact hy
    · refine (h.own z (by simp [hz])).kept hg ?_
      rcases hr with hr | hr
      · rw [hr]; cases hb : z.block <;> simp
      · rw [hr]; exact (hc z hz).symm
theorem grownBy_set (w : World) (g j : Nat) (u : Value) : w.grownBy (w.setCell ⟨g, j, none⟩ u) (some g) :=
  ⟨rfl, rfl, rfl, by simp [World.setCell], fun k _ hk => heap_set_other (by simpa using hk)⟩
theorem Hp.put0 {g : Nat} {cs : List Value} {t : TypeId} (h : Hp B w0 w (.blk g cs t :: L)) (j : Nat) (u : Value) : Hp B w0 (w.setCell ⟨g, j, none⟩ u) (.blk g (cs.set j u) t :: L) :=
  h.turn (grownBy_set w g j u) (.inr rfl) ⟨h.head.1, by rw [heap_set h.head.2]; simp⟩ (.inl rfl)
theorem set_perm : ∀ (L : List Item) (i : Nat) (x y : Item), L[i]? = some x → (L.set i y).Perm (y :: L.eraseIdx i)
  | [], i, x, y, h => by simp at h
  | z :: L, 0, x, y, h => by simp
  | z :: L, i + 1, x, y, h => by
    rw [List.eraseIdx_cons_succ, List.set_cons_succ]
    exact ((set_perm L i x y (by simpa using h)).cons z).trans (List.Perm.swap y z _)
theorem Hp.put {g : Nat} {cs : List Value} {t : TypeId} {i j : Nat} {u : Value} (h : Hp B w0 w L) (hi : L[i]? = some (.blk g cs t)) : Hp B w0 (w.setCell ⟨g, j, none⟩ u) (L.set i (.blk g (cs.set j u) t)) :=
  ((h.front i hi).put0 j u).perm (set_perm L i _ _ hi)
theorem Hp.putRow {e : TypeId} {size g n cap : Nat} {xs : List Value} (h : Hp B w0 w (.row e size (some ⟨g, 0, none⟩) n cap xs :: L)) (j : Nat) (u : Value) : Hp B w0 (w.setCell ⟨g, j, none⟩ u) (.row e size (some ⟨g, 0, none⟩) n cap (xs.set j u) :: L) :=
  h.turn (grownBy_set w g j u) (.inr rfl) (World.ownsRow.stored h.head j u).1 (.inl rfl)
theorem Hp.blkAt {g : Nat} {cs : List Value} {t : TypeId} (h : Hp B w0 w L) (i : Nat) (hi : L[i]? = some (.blk g cs t)) : w.heap[g]? = some (.cells cs.toArray t (0, 0)) := (h.own _ (List.mem_of_getElem? hi)).2

theorem Item.at.mono {B2 : Nat} (h : x.at B w) (hb : B2 ≤ B) : x.at B2 w := by
  cases x with
  | blk g cs t => exact ⟨Nat.le_trans hb h.1, h.2⟩
  | ob g o => exact ⟨Nat.le_trans hb h.1, h.2⟩
  | mp m o => exact fun g hm => ⟨Nat.le_trans hb (h g hm).1, (h g hm).2⟩
  | row e size A n cap xs =>
    refine ⟨(show w.ownsRow B e size (.slice A n cap) n xs from h).1, ?_⟩
    rcases (show w.ownsRow B e size (.slice A n cap) n xs from h).2 with h | ⟨g, cp, cur, h1, h2, h3⟩
    · exact .inl h
    · exact .inr ⟨g, cp, cur, h1, Nat.le_trans hb h2, h3⟩
/-- what a call that owns nothing of ours hands back is ours from then on -/
theorem Hp.join {M : List Item} (h : Hp B w0 w L) (k : Hp w.heap.size w w' M) : Hp B w0 w' (M ++ L) := by
  have h' := h.step k.ext
  refine ⟨h'.below, h'.base, List.pairwise_append.2 ⟨k.apart, h'.apart, fun a ha b hb => ?_⟩, fun z hz => ?_⟩
  · cases hab : a.block with
    | none => exact .inl hab
    | some g =>
      right
      rw [hab]
      intro e
      have h1 := ((k.own a ha).lt g hab).1
      have h2 := ((h.own b hb).lt g e.symm).2
      omega
  · rcases List.mem_append.1 hz with hz | hz
    · exact (k.own z hz).mono h.base
    · exact h'.own z hz
theorem hfacts_of : ∀ L : List Item, (∀ x ∈ L, x.at B w) → HFacts w L
  | [], _ => trivial
  | .blk g cs t :: L, h => ⟨cellFacts_of (h (.blk g cs t) (by simp)).2 cs 0 (fun k => by simp), hfacts_of L fun y hy => h y (by simp [hy])⟩
  | .row .. :: L, h => hfacts_of L fun y hy => h y (by simp [hy])
  | .ob .. :: L, h => hfacts_of L fun y hy => h y (by simp [hy])
  | .mp .. :: L, h => hfacts_of L fun y hy => h y (by simp [hy])
theorem Hp.facts (h : Hp B w0 w L) : HFacts w L := hfacts_of L h.own

/-- append of m elements that lie at ad -/
theorem run_append_hp {t ty e : TypeId} {size bytes n m c cap : Nat} {A : Option Addr} {xs news : List Value} (hE : Elem P t e size bytes) (h : Hp B w0 w (.row e size A n cap xs :: L)) (ad : Addr) (hl : news.length = m * size)
    (hnews : ∀ j u, news[j]? = some u → w.cell? (ad.add j) = some u) (h1 : ∀ u ∈ news, u.oneCell' = true) (hn : (n + m) * bytes ≤ 140737488355328) (hm : n + m ≤ 140737488355328) :
    ∃ A' cap' w', (Builtin.append_ #[t, t] ty #[.slice A n cap, .slice (some ad) m c]).run P w = .ok (.slice A' (n + m : Nat) cap') w' ∧ Hp B w0 w' (.row e size A' (n + m) cap' (xs ++ news) :: L) := by
  obtain ⟨i, z, hi, hz, hsz, hby, hzs⟩ := hE.info
  have hown : w.ownsRow B e size (.slice A n cap) n xs := h.head
  obtain ⟨v', w', hr, hown', hg, hnil, hat⟩ := run_append_own_at (P := P) w B t ty e i z size bytes hE.under hi hz hsz hby hzs hE.pos _ n xs hown ad m c news hl hnews h1 (by unfold maxLen; omega) hn h.base
  have hv : ∃ A' cap', v' = .slice A' (n + m : Nat) cap' := by
    rcases hown'.2 with ⟨rfl, h0⟩ | ⟨g, cp, cur, rfl, _⟩
    · exact ⟨none, 0, by rw [h0]⟩
    · exact ⟨_, _, rfl⟩
  obtain ⟨A', cap', rfl⟩ := hv
  refine ⟨A', cap', w', hr, h.turn hg (.inr own_none) hown' ?_⟩
  rw [own_none, own_none] at hat
  rcases hat with hat | hat
  · exact .inl hat
  · exact .inr (.inr ⟨_, hat, Nat.le_refl _⟩)
theorem wpList_append_hp {t e : TypeId} {size bytes n m c cap : Nat} {A : Option Addr} {xs news : List Value} (hE : Elem P t e size bytes) {ops : Array Oper} {rest : List Oper} {o : Oper} {a : Act} {Q : Exit → Act → World → Prop} (hgd : o.guard = none) (s x : Operand)
    (ho : o.op = .call { callee := .builtin .append, args := #[s, x], argTypes := #[t, t] }) (h : Hp B w0 w (.row e size A n cap xs :: L)) (hs : a.eval s = .slice A n cap) (ad : Addr) (hx : a.eval x = .slice (some ad) m c) (hl : news.length = m * size)
    (hnews : ∀ j u, news[j]? = some u → w.cell? (ad.add j) = some u) (h1 : ∀ u ∈ news, u.oneCell' = true) (hn : (n + m) * bytes ≤ 140737488355328) (hm : n + m ≤ 140737488355328)
    (k : ∀ A' cap' w', Hp B w0 w' (.row e size A' (n + m) cap' (xs ++ news) :: L) → wpList P ops Q rest (a.put o.dst (.slice A' (n + m : Nat) cap')) w') : wpList P ops Q (o :: rest) a w := by
  refine wpList_plain hgd fun K hK => ?_
  obtain ⟨A', cap', w', hr, h2⟩ := run_append_hp (P := P) (c := c) (ty := o.type) hE h ad hl hnews h1 hn hm
  unfold Oper.wp execOp
  simp only [ho, resolve, invoke, builtin, Sem.run_bind, Sem.run_pure, Result.andThen_ok, List.map_toArray, List.map_cons, List.map_nil, hs, hx, hr]
  exact hK _ _ (k A' cap' w' h2)
/-- append of the one element that lies in the block at the head -/
theorem wpList_push_hp {t e : TypeId} {size bytes n c cap S : Nat} {A : Option Addr} {xs news : List Value} (hE : Elem P t e size bytes) {ops : Array Oper} {rest : List Oper} {o : Oper} {a : Act} {Q : Exit → Act → World → Prop} (hgd : o.guard = none) (s x : Operand)
    (ho : o.op = .call { callee := .builtin .append, args := #[s, x], argTypes := #[t, t] }) (h : Hp B w0 w (.blk S news e :: .row e size A n cap xs :: L)) (hs : a.eval s = .slice A n cap) (hx : a.eval x = .slice (some ⟨S, 0, none⟩) 1 c) (hl : news.length = size)
    (h1 : ∀ u ∈ news, u.oneCell' = true) (hn : (n + 1) * bytes ≤ 140737488355328) (hm : n + 1 ≤ 140737488355328)
    (k : ∀ A' cap' w', Hp B w0 w' (.row e size A' (n + 1) cap' (xs ++ news) :: L) → wpList P ops Q rest (a.put o.dst (.slice A' (n + 1 : Nat) cap')) w') : wpList P ops Q (o :: rest) a w := by
  refine wpList_append_hp hE hgd s x ho h.tail hs ⟨S, 0, none⟩ hx (by simpa using hl) (fun j u hu => ?_) h1 hn hm k
  exact World.news_of_block h.head.2 j u (by simpa using hu)
/-- append of a string's bytes -/
theorem run_append_str_hp {t u ty e : TypeId} {n cap : Nat} {A : Option Addr} {xs : List Value} (hE : Elem P t e 1 1) (hz : (P.info? e).bind (·.zero) = some (.int .u8 0)) (hu : P.underlying u = some .string) (h : Hp B w0 w (.row e 1 A n cap xs :: L)) (s : ByteArray) (hm : n + s.size ≤ 140737488355328) :
    ∃ A' cap' w', (Builtin.append_ #[t, u] ty #[.slice A n cap, .string s]).run P w = .ok (.slice A' (n + s.size : Nat) cap') w' ∧ Hp B w0 w' (.row e 1 A' (n + s.size) cap' (xs ++ Lib.strCells s) :: L) := by
  obtain ⟨i, z, hi, hz', hsz, hby, hzs⟩ := hE.info
  have hz0 : i.zero = some (.int .u8 0) := by rw [hi] at hz; simpa using hz
  have hown : w.ownsRow B e 1 (.slice A n cap) n xs := h.head
  obtain ⟨v', w', hr, hown', hg, hnil⟩ := Lib.run_append_own_string (P := P) w B t u ty e i hE.under hu hi hz0 hsz hby _ n xs hown s (by unfold maxLen; omega) hm h.base
  have hv : ∃ A' cap', v' = .slice A' (n + s.size : Nat) cap' := by
    rcases hown'.2 with ⟨rfl, h0⟩ | ⟨g, cp, cur, rfl, _⟩
    · exact ⟨none, 0, by rw [h0]⟩
    · exact ⟨_, _, rfl⟩
  obtain ⟨A', cap', rfl⟩ := hv
  refine ⟨A', cap', w', hr, h.turn hg (.inr own_none) hown' ?_⟩
  show (A'.map (·.block)) = A.map (·.block) ∨ _
  rcases hown.2 with ⟨hv, h0⟩ | ⟨g, cp, cur, hv, hbg, hgg, hnc, hcm, hcs, htake⟩
  · obtain ⟨rfl, rfl, rfl⟩ : A = none ∧ n = 0 ∧ cap = 0 := by simpa using hv
    have hx : xs = [] := List.eq_nil_of_length_eq_zero (by simpa using hown.1)
    subst hx
    obtain ⟨v2, w2, hr2, hown2, _⟩ := Lib.run_append_own_string (P := P) w w.heap.size t u ty e i hE.under hu hi hz0 hsz hby (.slice none 0 0) 0 [] (World.ownsRow_nil _ _ _ _) s (by unfold maxLen; omega) hm (Nat.le_refl _)
    rw [hr] at hr2
    simp only [Result.ok.injEq] at hr2
    obtain ⟨rfl, rfl⟩ := hr2
    cases A' with
    | none => exact .inl rfl
    | some a => exact .inr (.inr ⟨a.block, rfl, (hown2.lt a.block rfl).1⟩)
  · obtain ⟨rfl, _, rfl⟩ : A = some ⟨g, 0, none⟩ ∧ n = n ∧ cap = cp := by simpa using hv
    by_cases hroom : n + s.size ≤ cap
    · have hr2 := Lib.run_append_room_string (P := P) w t u ty e i hE.under hu hi hsz g n cap cur hgg s hroom (by omega)
      rw [hr] at hr2
      simp only [Result.ok.injEq, Value.slice.injEq] at hr2
      rw [hr2.1.1]
      exact .inl rfl
    · have hr2 := Lib.run_append_grow_string (P := P) w t u ty e i (.int .u8 0) hE.under hu hi hz0 ⟨g, 0, none⟩ n cap xs (by rw [hsz]; exact hown.1) (hown.cells (g := g) rfl) s (by omega) (by omega) (by rw [hby]; exact growslice_fits (by omega) (by omega))
      rw [hr] at hr2
      simp only [Result.ok.injEq, Value.slice.injEq] at hr2
      rw [hr2.1.1]
      exact .inr (.inr ⟨_, rfl, Nat.le_refl _⟩)
theorem wpList_append_str_hp {t u e : TypeId} {n cap : Nat} {A : Option Addr} {xs : List Value} (hE : Elem P t e 1 1) (hz : (P.info? e).bind (·.zero) = some (.int .u8 0)) (hu : P.underlying u = some .string) {ops : Array Oper} {rest : List Oper} {o : Oper} {a : Act} {Q : Exit → Act → World → Prop} (hgd : o.guard = none) (s x : Operand)
    (ho : o.op = .call { callee := .builtin .append, args := #[s, x], argTypes := #[t, u] }) (h : Hp B w0 w (.row e 1 A n cap xs :: L)) (hs : a.eval s = .slice A n cap) (str : ByteArray) (hx : a.eval x = .string str) (hm : n + str.size ≤ 140737488355328)
    (k : ∀ A' cap' w', Hp B w0 w' (.row e 1 A' (n + str.size) cap' (xs ++ Lib.strCells str) :: L) → wpList P ops Q rest (a.put o.dst (.slice A' (n + str.size : Nat) cap')) w') : wpList P ops Q (o :: rest) a w := by
  refine wpList_plain hgd fun K hK => ?_
  obtain ⟨A', cap', w', hr, h2⟩ := run_append_str_hp (P := P) (ty := o.type) hE hz hu h str hm
  unfold Oper.wp execOp
  simp only [ho, resolve, invoke, builtin, Sem.run_bind, Sem.run_pure, Result.andThen_ok, List.map_toArray, List.map_cons, List.map_nil, hs, hx, hr]
  exact hK _ _ (k A' cap' w' h2)

/-- append of nothing -/
theorem run_append_nilsrc {t ty e : TypeId} {size bytes n cap : Nat} {A : Option Addr} {xs : List Value} (hE : Elem P t e size bytes) (h : Hp B w0 w (.row e size A n cap xs :: L)) :
    (Builtin.append_ #[t, t] ty #[.slice A n cap, .slice none 0 0]).run P w = .ok (.slice A n cap) w := by
  obtain ⟨i, z, hi, hz, hsz, hby, hzs⟩ := hE.info
  have hc : n ≤ cap := by
    rcases (show w.ownsRow B e size (.slice A n cap) n xs from h.head).2 with ⟨hv, h0⟩ | ⟨g, cp, cur, hv, _, _, hc, _⟩
    · omega
    · obtain ⟨rfl, _, rfl⟩ : A = some ⟨g, 0, none⟩ ∧ n = n ∧ cap = cp := by simpa using hv
      exact hc
  cases A <;> simp [Builtin.append_, run_underlying hE.under, sizeOf, typeInfo, hi, Builtin.lenOf, Builtin.firstCells, loadCells, loadCellsFrom, hc, storeCells]
/-- the cells of a row -/
theorem Hp.rowCell {e : TypeId} {size n cap : Nat} {A : Option Addr} {xs : List Value} (h : Hp B w0 w L) (i : Nat) (hi : L[i]? = some (.row e size A n cap xs)) {j : Nat} {u : Value} (hj : xs[j]? = some u) :
    ∃ g, A = some ⟨g, 0, none⟩ ∧ w.cell? ⟨g, j, none⟩ = some u ∧ w.frozen? ⟨g, j, none⟩ = false := by
  have ho : w.ownsRow B e size (.slice A n cap) n xs := h.own _ (List.mem_of_getElem? hi)
  rcases ho.2 with ⟨hv, h0⟩ | ⟨g, cp, cur, hv, _⟩
  · have := ho.1
    rw [h0, Nat.zero_mul] at this
    rw [List.eq_nil_of_length_eq_zero this] at hj
    simp at hj
  · obtain ⟨rfl, _, rfl⟩ : A = some ⟨g, 0, none⟩ ∧ n = n ∧ cap = cp := by simpa using hv
    refine ⟨g, rfl, ?_, ho.frozenAt j⟩
    have e : (⟨g, 0, none⟩ : Addr).add j = ⟨g, j, none⟩ := by unfold Addr.add; split <;> simp_all
    rw [← e]
    exact ho.cells (g := g) rfl j u hj
theorem Hp.rowNil {e : TypeId} {size n cap : Nat} {xs : List Value} (h : Hp B w0 w L) (i : Nat) (hi : L[i]? = some (.row e size none n cap xs)) : n = 0 ∧ cap = 0 ∧ xs = [] := by
  have ho : w.ownsRow B e size (.slice none n cap) n xs := h.own _ (List.mem_of_getElem? hi)
  rcases ho.2 with ⟨hv, h0⟩ | ⟨g, cp, cur, hv, _⟩
  · obtain ⟨_, rfl⟩ : n = 0 ∧ cap = 0 := by simpa using hv
    exact ⟨h0, rfl, List.eq_nil_of_length_eq_zero (by have := ho.1; rw [h0] at this; simpa using this)⟩
  · simp at hv
theorem Hp.rowLen {e : TypeId} {size n cap : Nat} {A : Option Addr} {xs : List Value} (h : Hp B w0 w L) (i : Nat) (hi : L[i]? = some (.row e size A n cap xs)) : xs.length = n * size ∧ n ≤ cap := by
  have ho : w.ownsRow B e size (.slice A n cap) n xs := h.own _ (List.mem_of_getElem? hi)
  refine ⟨ho.1, ?_⟩
  rcases ho.2 with ⟨hv, h0⟩ | ⟨g, cp, cur, hv, _, _, hc, _⟩
  · omega
  · obtain ⟨rfl, _, rfl⟩ : A = some ⟨g, 0, none⟩ ∧ n = n ∧ cap = cp := by simpa using hv
    exact hc

/-- append of all elements of another slice of the call's own -/
theorem run_append_row {t ty e : TypeId} {size bytes n cap n2 cap2 : Nat} {A A2 : Option Addr} {xs xs2 : List Value} (hE : Elem P t e size bytes) (h : Hp B w0 w (.row e size A n cap xs :: L)) (i : Nat) (hi : L[i]? = some (.row e size A2 n2 cap2 xs2))
    (h1 : ∀ u ∈ xs2, u.oneCell' = true) (hn : (n + n2) * bytes ≤ 140737488355328) (hm : n + n2 ≤ 140737488355328) :
    ∃ A' cap' w', (Builtin.append_ #[t, t] ty #[.slice A n cap, .slice A2 n2 cap2]).run P w = .ok (.slice A' (n + n2 : Nat) cap') w' ∧ Hp B w0 w' (.row e size A' (n + n2) cap' (xs ++ xs2) :: L) := by
  cases A2 with
  | none =>
    obtain ⟨rfl, rfl, rfl⟩ := h.tail.rowNil i hi
    refine ⟨A, cap, w, run_append_nilsrc hE h, ?_⟩
    rw [List.append_nil]
    exact h
  | some ad => exact run_append_hp (c := cap2) hE h ad (h.tail.rowLen i hi).1 (fun j u hu => by
      obtain ⟨g, e1, c1, _⟩ := h.tail.rowCell i hi hu
      obtain rfl := Option.some.inj e1
      have e : (⟨g, 0, none⟩ : Addr).add j = ⟨g, j, none⟩ := by unfold Addr.add; split <;> simp_all
      rw [e]; exact c1) h1 hn hm
theorem wpList_append_row {t e : TypeId} {size bytes n cap n2 cap2 : Nat} {A A2 : Option Addr} {xs xs2 : List Value} (hE : Elem P t e size bytes) {ops : Array Oper} {rest : List Oper} {o : Oper} {a : Act} {Q : Exit → Act → World → Prop} (hgd : o.guard = none) (s x : Operand)
    (ho : o.op = .call { callee := .builtin .append, args := #[s, x], argTypes := #[t, t] }) (h : Hp B w0 w (.row e size A n cap xs :: L)) (i : Nat) (hi : L[i]? = some (.row e size A2 n2 cap2 xs2)) (hs : a.eval s = .slice A n cap) (hx : a.eval x = .slice A2 n2 cap2)
    (h1 : ∀ u ∈ xs2, u.oneCell' = true) (hn : (n + n2) * bytes ≤ 140737488355328) (hm : n + n2 ≤ 140737488355328)
    (k : ∀ A' cap' w', Hp B w0 w' (.row e size A' (n + n2) cap' (xs ++ xs2) :: L) → wpList P ops Q rest (a.put o.dst (.slice A' (n + n2 : Nat) cap')) w') : wpList P ops Q (o :: rest) a w := by
  refine wpList_plain hgd fun K hK => ?_
  obtain ⟨A', cap', w', hr, h2⟩ := run_append_row (P := P) (ty := o.type) hE h i hi h1 hn hm
  unfold Oper.wp execOp
  simp only [ho, resolve, invoke, builtin, Sem.run_bind, Sem.run_pure, Result.andThen_ok, List.map_toArray, List.map_cons, List.map_nil, hs, hx, hr]
  exact hK _ _ (k A' cap' w' h2)

theorem madeCells_rep (z : Value) (n : Nat) : (madeCells #[z] n).toList = List.replicate n z := by
  apply List.ext_getElem?
  intro j
  simp only [madeCells, List.getElem?_replicate]
  by_cases hj : j < n
  · simp [hj, Nat.mod_one]
  · simp [hj]
/-- make of m elements of one cell -/
theorem wpList_make_hp {t e : TypeId} {bytes m : Nat} {z : Value} (hE : Elem P t e 1 bytes) (hz : (P.info? e).bind (·.zero) = some z) (hzc : z.cells = #[z]) {ops : Array Oper} {rest : List Oper} {o : Oper} {a : Act} {Q : Exit → Act → World → Prop} (hgd : o.guard = none) (x y : Operand)
    (ho : o.op = .makeSlice t x y) (h : Hp B w0 w L) (kl kc : IntKind) (X Y : Int) (hx : a.eval x = .int kl X) (hy : a.eval y = .int kc Y) (hX : X = (m : Int)) (hY : Y = (m : Int)) (hb : bytes * m ≤ 281474976710656) (hm : m ≤ 140737488355328)
    (k : ∀ g w', Hp B w0 w' (.row e 1 (some ⟨g, 0, none⟩) m m (List.replicate m z) :: L) → wpList P ops Q rest (a.put o.dst (.slice (some ⟨g, 0, none⟩) m m)) w') : wpList P ops Q (o :: rest) a w := by
  obtain ⟨i, z', hi, hz', hsz, hby, hzs⟩ := hE.info
  have : z' = z := by rw [hi] at hz; simpa [hz'] using hz
  subst this
  refine wpList_make_full w hgd x y t ho B e i z' 1 hE.under hi hz' hsz kl kc X Y m hx hy hX hY (by rw [hby]; exact hb) (by unfold maxLen; omega) h.base fun w' hown hg => ?_
  refine k _ _ ((h.grown hg).cons ?_ (h.fresh rfl (Nat.le_refl _)))
  rw [Nat.mul_one, hzc, madeCells_rep] at hown
  exact hown

/-- a region of quiet operations under Hp -/
theorem wp_region_hp {Q : Exit → Act → World → Prop} {id : Nat} {l : List Oper} {draw : Bool} {a : Act} (hm : P.follows .mixedOrders = true) (hok : fixedOk l.toArray = true)
    (hS : Hp B w0 w L) (h : Fixed P l.toArray (fun W => Hp B w0 W L) (fun a' => ∀ w', Hp B w0 w' L → Q .normal a' w') l a) : (Code.region id l.toArray draw).wp P Q a w :=
  wp_region_fixed (F := fun W => Hp B w0 W L) hm hok (fun _ _ h hx => Hp.step h hx) hS (Fixed.imp (fun _ hk w' _ hs => hk w' hs) l a h)
end
-- the world that has just been turned is forgotten (the tactic finds what is owned of it)
section
variable {P : Program} {B : Nat} {w0 : World} {L : List Item}
theorem nhLa {W : World} {o : Obj} {ops : Array Oper} {Q : Exit → Act → World → Prop} {l : List Oper} {a : Act} (k : ∀ w, Hp B w0 w L → wpList P ops Q l a w) (h : Hp B w0 (W.alloc o) L := by (repeat (first | with_reducible exact hS | with_reducible apply Hp.drew | with_reducible apply Hp.alloc | with_reducible apply Hp.put | with_reducible apply atS | with_reducible exact at0 | with_reducible exact at1 | with_reducible exact at2 | with_reducible exact at3 | with_reducible exact at4 | with_reducible exact at5))) : wpList P ops Q l a (W.alloc o) := k _ h
theorem nhLs {W : World} {p : Addr} {u : Value} {ops : Array Oper} {Q : Exit → Act → World → Prop} {l : List Oper} {a : Act} (k : ∀ w, Hp B w0 w L → wpList P ops Q l a w) (h : Hp B w0 (W.setCell p u) L := by (repeat (first | with_reducible exact hS | with_reducible apply Hp.drew | with_reducible apply Hp.alloc | with_reducible apply Hp.put | with_reducible apply atS | with_reducible exact at0 | with_reducible exact at1 | with_reducible exact at2 | with_reducible exact at3 | with_reducible exact at4 | with_reducible exact at5))) : wpList P ops Q l a (W.setCell p u) := k _ h
theorem nhLd {W : World} {ops : Array Oper} {Q : Exit → Act → World → Prop} {l : List Oper} {a : Act} (k : ∀ w, Hp B w0 w L → wpList P ops Q l a w) (h : Hp B w0 W.drew L := by (repeat (first | with_reducible exact hS | with_reducible apply Hp.drew | with_reducible apply Hp.alloc | with_reducible apply Hp.put | with_reducible apply atS | with_reducible exact at0 | with_reducible exact at1 | with_reducible exact at2 | with_reducible exact at3 | with_reducible exact at4 | with_reducible exact at5))) : wpList P ops Q l a W.drew := k _ h
theorem nhCa {W : World} {o : Obj} {c : Code} {Q : Exit → Act → World → Prop} {a : Act} (k : ∀ w, Hp B w0 w L → Code.wp P c Q a w) (h : Hp B w0 (W.alloc o) L := by (repeat (first | with_reducible exact hS | with_reducible apply Hp.drew | with_reducible apply Hp.alloc | with_reducible apply Hp.put | with_reducible apply atS | with_reducible exact at0 | with_reducible exact at1 | with_reducible exact at2 | with_reducible exact at3 | with_reducible exact at4 | with_reducible exact at5))) : Code.wp P c Q a (W.alloc o) := k _ h
theorem nhCs {W : World} {p : Addr} {u : Value} {c : Code} {Q : Exit → Act → World → Prop} {a : Act} (k : ∀ w, Hp B w0 w L → Code.wp P c Q a w) (h : Hp B w0 (W.setCell p u) L := by (repeat (first | with_reducible exact hS | with_reducible apply Hp.drew | with_reducible apply Hp.alloc | with_reducible apply Hp.put | with_reducible apply atS | with_reducible exact at0 | with_reducible exact at1 | with_reducible exact at2 | with_reducible exact at3 | with_reducible exact at4 | with_reducible exact at5))) : Code.wp P c Q a (W.setCell p u) := k _ h
theorem nhCd {W : World} {c : Code} {Q : Exit → Act → World → Prop} {a : Act} (k : ∀ w, Hp B w0 w L → Code.wp P c Q a w) (h : Hp B w0 W.drew L := by (repeat (first | with_reducible exact hS | with_reducible apply Hp.drew | with_reducible apply Hp.alloc | with_reducible apply Hp.put | with_reducible apply atS | with_reducible exact at0 | with_reducible exact at1 | with_reducible exact at2 | with_reducible exact at3 | with_reducible exact at4 | with_reducible exact at5))) : Code.wp P c Q a W.drew := k _ h
theorem nhPa {W : World} {o : Obj} {fn : Func} {R : Ending → World → Prop} {x : Exit} {a : Act} (k : ∀ w, Hp B w0 w L → bodyPost P fn R x a w) (h : Hp B w0 (W.alloc o) L := by (repeat (first | with_reducible exact hS | with_reducible apply Hp.drew | with_reducible apply Hp.alloc | with_reducible apply Hp.put | with_reducible apply atS | with_reducible exact at0 | with_reducible exact at1 | with_reducible exact at2 | with_reducible exact at3 | with_reducible exact at4 | with_reducible exact at5))) : bodyPost P fn R x a (W.alloc o) := k _ h
theorem nhPs {W : World} {p : Addr} {u : Value} {fn : Func} {R : Ending → World → Prop} {x : Exit} {a : Act} (k : ∀ w, Hp B w0 w L → bodyPost P fn R x a w) (h : Hp B w0 (W.setCell p u) L := by (repeat (first | with_reducible exact hS | with_reducible apply Hp.drew | with_reducible apply Hp.alloc | with_reducible apply Hp.put | with_reducible apply atS | with_reducible exact at0 | with_reducible exact at1 | with_reducible exact at2 | with_reducible exact at3 | with_reducible exact at4 | with_reducible exact at5))) : bodyPost P fn R x a (W.setCell p u) := k _ h
theorem nhPd {W : World} {fn : Func} {R : Ending → World → Prop} {x : Exit} {a : Act} (k : ∀ w, Hp B w0 w L → bodyPost P fn R x a w) (h : Hp B w0 W.drew L := by (repeat (first | with_reducible exact hS | with_reducible apply Hp.drew | with_reducible apply Hp.alloc | with_reducible apply Hp.put | with_reducible apply atS | with_reducible exact at0 | with_reducible exact at1 | with_reducible exact at2 | with_reducible exact at3 | with_reducible exact at4 | with_reducible exact at5))) : bodyPost P fn R x a W.drew := k _ h
theorem nhKa {W : World} {o : Obj} {f : FuncId} {R : Ending → World → Prop} {args : Array Value} (k : ∀ w, Hp B w0 w L → Calls P f args w R) (h : Hp B w0 (W.alloc o) L := by (repeat (first | with_reducible exact hS | with_reducible apply Hp.drew | with_reducible apply Hp.alloc | with_reducible apply Hp.put | with_reducible apply atS | with_reducible exact at0 | with_reducible exact at1 | with_reducible exact at2 | with_reducible exact at3 | with_reducible exact at4 | with_reducible exact at5))) : Calls P f args (W.alloc o) R := k _ h
theorem nhKs {W : World} {p : Addr} {u : Value} {f : FuncId} {R : Ending → World → Prop} {args : Array Value} (k : ∀ w, Hp B w0 w L → Calls P f args w R) (h : Hp B w0 (W.setCell p u) L := by (repeat (first | with_reducible exact hS | with_reducible apply Hp.drew | with_reducible apply Hp.alloc | with_reducible apply Hp.put | with_reducible apply atS | with_reducible exact at0 | with_reducible exact at1 | with_reducible exact at2 | with_reducible exact at3 | with_reducible exact at4 | with_reducible exact at5))) : Calls P f args (W.setCell p u) R := k _ h
theorem nhKd {W : World} {f : FuncId} {R : Ending → World → Prop} {args : Array Value} (k : ∀ w, Hp B w0 w L → Calls P f args w R) (h : Hp B w0 W.drew L := by (repeat (first | with_reducible exact hS | with_reducible apply Hp.drew | with_reducible apply Hp.alloc | with_reducible apply Hp.put | with_reducible apply atS | with_reducible exact at0 | with_reducible exact at1 | with_reducible exact at2 | with_reducible exact at3 | with_reducible exact at4 | with_reducible exact at5))) : Calls P f args W.drew R := k _ h
end
end Go.Proofs.YtcpllhjhnfmepaaGreatDoor

/- A region of quiet operations, of new blocks, and of a tail that waits for them: walked in the order of the text, whatever order is drawn. For any program. -/
namespace Go.Proofs.YtcpllhjhnfmepaaGreatDoor
set_option linter.all false
open Go.RowKit

/-- what an operation of a region is: quiet; pure (it may also come behind the tail); a new block; one of the tail -/
inductive Mark where
  | q
  | p
  | a (cs : List Value) (t : TypeId)
  | t
def Mark.isQ : Mark → Bool
  | .q => true
  | .p => true
  | _ => false
def Mark.isA : Mark → Bool
  | .a .. => true
  | _ => false
def Mark.isT : Mark → Bool
  | .t => true
  | _ => false
theorem Mark.trio (m : Mark) : (m.isQ = true ∧ m.isA = false ∧ m.isT = false) ∨ (m.isQ = false ∧ m.isA = true ∧ m.isT = false) ∨ (m.isQ = false ∧ m.isA = false ∧ m.isT = true) := by
  cases m <;> simp [Mark.isQ, Mark.isA, Mark.isT]

/-- i waits for j, straight or through others -/
def deps (ops : Array Oper) : Nat → Nat → Nat → Bool
  | 0, _, _ => false
  | f + 1, i, j => waits ops i j || (List.range ops.size).any fun k => waits ops i k && deps ops f k j
def tailOk (ops : Array Oper) (mk : Nat → Mark) : Bool :=
  fixedOk ops && (List.range ops.size).all fun i =>
    (!(mk i).isA || ((ops[i]?).map (·.guard.isNone)).getD false) &&
    (List.range ops.size).all fun j =>
      if (mk i).isT then (match mk j with
        | .q => deps ops 3 i j
        | .a .. => deps ops 3 i j
        | .t => !decide (j < i) || deps ops 3 i j
        | .p => true)
      else !(waits ops i j && !(mk j).isQ)

section
variable {P : Program} {ops : Array Oper} {mk : Nat → Mark}
theorem deps_closed {L : Nat → Bool} (hcl : ∀ i j, L i = true → waits ops i j = true → L j = true) : ∀ f i j, (∀ k, waits ops i k = true → L k = true) → deps ops f i j = true → L j = true
  | 0, _, _, _, h => by cases h
  | f + 1, i, j, hi, h => by
    unfold deps at h
    rw [Bool.or_eq_true] at h
    rcases h with h | h
    · exact hi j h
    · rw [List.any_eq_true] at h
      obtain ⟨k, _, hk⟩ := h
      rw [Bool.and_eq_true] at hk
      exact deps_closed hcl f k j (fun x hx => hcl k x (hi k hk.1) hx) hk.2

theorem frames_agree2 (hd : dstApart ops = true) (hl : looksOk ops = true) {vs us : Nat → Value} {L M : Nat → Bool} {a0 b0 : Act} (h0 : a0.tmps = b0.tmps) {i : Nat} {o : Oper} (hi : ops[i]? = some o)
    (h1 : ∀ j, j < i → waits ops i j = true → L j = true ∧ M j = true ∧ vs j = us j) (h2 : ∀ j, i < j → waits ops j i = true → L j = false ∧ M j = false)
    {t : Tmp} (ht : t ∈ o.looksAt ops) : (frameOf ops vs L a0 ops.size).tmps[t]? = (frameOf ops us M b0 ops.size).tmps[t]? := by
  have li : i < ops.size := (Array.getElem?_eq_some_iff.1 hi).1
  unfold looksOk at hl
  rw [List.all_eq_true] at hl
  have hli := hl i (by simpa using li)
  rw [hi] at hli
  simp only [Bool.and_eq_true] at hli
  have hlt := hli.2
  rw [List.all_eq_true] at hlt
  have hT := hlt t ht
  rw [List.all_eq_true] at hT
  by_cases hw : ∃ j, j < ops.size ∧ (ops[j]?).bind (·.dst) = some t
  · obtain ⟨j, lj, hj⟩ := hw
    have hJ := hT j (by simpa using lj)
    rw [hj] at hJ
    simp only [bne_self_eq_false, Bool.false_or, Bool.or_eq_true, Bool.and_eq_true, decide_eq_true_eq] at hJ
    rcases hJ with ⟨hji, hwt⟩ | ⟨hij, hwt⟩
    · obtain ⟨a, b, c⟩ := h1 j hji hwt
      rw [frame_at hd hj a _ lj, frame_at hd hj b _ lj, h0, c]
    · obtain ⟨a, b⟩ := h2 j hij hwt
      rw [frame_other _ (fun k _ hk e => by
          by_cases hkj : k = j
          · subst hkj; rw [a] at hk; cases hk
          · exact dst_spec hd (fun e => hkj e.symm) hj e),
        frame_other _ (fun k _ hk e => by
          by_cases hkj : k = j
          · subst hkj; rw [b] at hk; cases hk
          · exact dst_spec hd (fun e => hkj e.symm) hj e), h0]
  · have hno : ∀ k, k < ops.size → (ops[k]?).bind (·.dst) ≠ some t := fun k hk e => hw ⟨k, hk, e⟩
    rw [frame_other _ (fun k hk _ => hno k hk), frame_other _ (fun k hk _ => hno k hk), h0]

theorem frame_defers {vs : Nat → Value} {L : Nat → Bool} {a : Act} {ds : List Deferred} : ∀ n, frameOf ops vs L { a with defers := ds } n = { frameOf ops vs L a n with defers := ds }
  | 0 => rfl
  | n + 1 => by
    unfold frameOf
    rw [frame_defers n]
    split
    · cases (ops[n]?).bind (·.dst) <;> rfl
    · rfl

theorem wp_transfer {o : Oper} {a b : Act} {w : World} {K K' : Act → World → Prop} {QN Q : Exit → Act → World → Prop} (he : execOp b.eval o = execOp a.eval o) (hQ : ∀ e a w, QN e a w → e = .normal)
    (hk : ∀ v w', K (a.put o.dst v) w' → K' (b.put o.dst v) w') (hd : ∀ d w', K ({ a with defers := d :: a.defers }.put o.dst undef) w' → K' ({ b with defers := d :: b.defers }.put o.dst undef) w')
    (h : o.wp P a w K QN) : o.wp P b w K' Q := by
  unfold Oper.wp at *
  rw [he]
  revert h
  generalize (execOp a.eval o).run P w = r
  intro h
  match r, h with
  | .ok (.value v) w', h => exact hk v w' h
  | .ok .skip w', h => exact hk _ w' h
  | .ok (.defer d) w', h => exact hd d w' h
  | .ok (.enter f args) w', h =>
    refine Calls.mono (R := fun | .returned v, w'' => K (a.put o.dst v) w'' | .panicked chain, w'' => QN (.panic chain) a w'' | .outgrown, _ => LetsOut QN) h fun e w'' hx => ?_
    cases e with
    | returned v => exact hk v w'' hx
    | panicked c => cases hQ _ _ _ hx
    | outgrown => obtain ⟨_, _, hx⟩ := hx; cases hQ _ _ _ hx
  | .ok (.row row args) w', h => exact Rows.mono (R := fun v w'' => K (a.put o.dst v) w'') h fun v w'' hx => hk v w'' hx
  | .halt (.panic v) w', h => cases hQ _ _ _ h

theorem all_listed (hl : looksOk ops = true) {listed : Array Bool} (hs : listed.size = ops.size) (hr : Region.ready .any ops listed = []) : ∀ i, i < ops.size → listed.getD i false = true := by
  intro i
  induction i using Nat.strongRecOn with
  | _ i ih =>
    intro hi
    cases hb : listed.getD i false with
    | true => rfl
    | false =>
      have ho : ops[i]? = some ops[i] := Array.getElem?_eq_getElem hi
      have hmem : i ∈ Region.ready .any ops listed := mem_ready.2 ⟨by
        have hli : i < listed.size := by omega
        simpa [Array.getD_eq_getD_getElem?, hli] using hb, _, ho, fun e he hbd => by
          have hl' := hl
          unfold looksOk at hl'
          rw [List.all_eq_true] at hl'
          have h1 := hl' i (by simpa using hi)
          rw [ho] at h1
          simp only [Bool.and_eq_true] at h1
          have h2 := h1.1.2
          have h3 := (Array.all_eq_true_iff_forall_mem.1 h2) e he
          rw [hbd] at h3
          simp at h3
          exact ih e.on h3 (by omega)⟩
      rw [hr] at hmem
      cases hmem
end
end Go.Proofs.YtcpllhjhnfmepaaGreatDoor

/- Slices of values: what their cells hold. -/
namespace Go.Proofs.YtcpllhjhnfmepaaGreatDoor
set_option linter.all false
set_option linter.unusedSimpArgs false
set_option linter.unusedVariables false
open Go.RowKit

/-- the slice at A reads as the values l -/
def RV (w : World) (A : Option Addr) (l : List GV) : Prop :=
  ∀ (i : Nat) (x : GV), l[i]? = some x → ∃ b o : Nat, A = some ⟨b, o, none⟩ ∧ w.cell? ⟨b, o + i * 3, none⟩ = some (.int .i64 x.kind) ∧ w.cell? ⟨b, o + i * 3 + 1, none⟩ = some (.int .i64 x.num) ∧ w.cell? ⟨b, o + i * 3 + 2, none⟩ = some (.string x.text)
theorem RV.ext {w w' : World} {A : Option Addr} {l : List GV} (h : RV w A l) (hx : Ext w w') : RV w' A l := fun i x hi => by
  obtain ⟨b, o, hA, h0, h1, h2⟩ := h i x hi
  exact ⟨b, o, hA, hx.keeps h0, hx.keeps h1, hx.keeps h2⟩

/-- the cells of values -/
def cellsV : List GV → List Value
  | [] => []
  | x :: l => .int .i64 x.kind :: .int .i64 x.num :: .string x.text :: cellsV l
theorem cellsV_len : ∀ l : List GV, (cellsV l).length = l.length * 3
  | [] => rfl
  | x :: l => by simp [cellsV, cellsV_len l]; omega
theorem cellsV_append : ∀ l m : List GV, cellsV (l ++ m) = cellsV l ++ cellsV m
  | [], m => rfl
  | x :: l, m => by simp [cellsV, cellsV_append l m]
theorem cellsV_at : ∀ (l : List GV) (i : Nat) (x : GV), l[i]? = some x → (cellsV l)[i * 3]? = some (.int .i64 x.kind) ∧ (cellsV l)[i * 3 + 1]? = some (.int .i64 x.num) ∧ (cellsV l)[i * 3 + 2]? = some (.string x.text)
  | [], i, x, h => by simp at h
  | y :: l, 0, x, h => by simp at h; subst h; simp [cellsV]
  | y :: l, i + 1, x, h => by
    have := cellsV_at l i x (by simpa using h)
    rw [show (i + 1) * 3 = i * 3 + 3 by omega]
    simpa [cellsV] using this
theorem RV.block {w : World} {l : List GV} {g : Nat} {cs : Array Value} {t : TypeId} {fr : Nat × Nat} (h : w.heap[g]? = some (.cells cs t fr)) (hcs : cs = (cellsV l).toArray) : RV w (some ⟨g, 0, none⟩) l := fun i x hi => by
  subst hcs
  obtain ⟨h0, h1, h2⟩ := cellsV_at l i x hi
  refine ⟨g, 0, rfl, ?_, ?_, ?_⟩ <;> simp [World.cell?, h, *]
theorem RV.own {w : World} {B : Nat} {e : TypeId} {g cap n : Nat} {l : List GV} (h : w.ownsRow B e 3 (.slice (some ⟨g, 0, none⟩) n cap) n (cellsV l)) : RV w (some ⟨g, 0, none⟩) l := fun i x hi => by
  obtain ⟨h0, h1, h2⟩ := cellsV_at l i x hi
  have hn : l.length = n := by have := h.1; rw [cellsV_len] at this; omega
  have hi' : i < n := by rw [← hn]; exact (List.getElem?_eq_some_iff.1 hi).1
  refine ⟨g, 0, rfl, ?_, ?_, ?_⟩
  · rw [Nat.zero_add, h.cellAt _ (by omega), h0]
  · rw [Nat.zero_add, h.cellAt _ (by omega), h1]
  · rw [Nat.zero_add, h.cellAt _ (by omega), h2]

end Go.Proofs.YtcpllhjhnfmepaaGreatDoor

/- An argument that is a slice of values: what its cells hold. -/
namespace Go.Proofs.YtcpllhjhnfmepaaGreatDoor
set_option linter.unusedSimpArgs false
set_option linter.unusedVariables false
open Go.RowKit
set_option linter.all false
open Go.ChangeShapes Go.WideShapes Go.ChangeAt Go.Joins Go.Deep
set_option maxRecDepth 100000 in
/-- the cells of a value -/
theorem val_cells {H : Type} {enc : TypeId × Value → H} {w : World} {base fuel : Nat} {spare : Nat → Bool} {held : Bool} {cs : List Value} {x : DataW H × List MemPlace} (h : DataW.trod enc Tryz.prog w base spare held fuel 45 cs = some x) :
    ∃ p : GV, cs = [.int .i64 p.kind, .int .i64 p.num, .string p.text] ∧ i64 p.num := by
  obtain ⟨y0, y1, y2, n, _, hl, h0, h1, h2⟩ := trod_struct3 Tryz.underlying45 h
  rw [Tryz.cellsVal] at hl
  match cs, hl with
  | [c0, c1, c2], _ =>
    simp only [Tryz.cellsInt, Tryz.cellsInt64, Tryz.cellsString, List.drop_zero, List.drop_succ_cons, List.take_succ_cons, List.take_zero] at h0 h1 h2
    obtain ⟨kind, e2, _, _⟩ := DataW.trod_int Tryz.underlying3 h0
    obtain ⟨num, e3, _, wn⟩ := DataW.trod_int Tryz.underlying2 h1
    obtain ⟨text, e4, _, _⟩ := DataW.trod_string Tryz.underlying9 h2
    simp only [List.cons.injEq, and_true] at e2 e3 e4
    subst e2 e3 e4
    exact ⟨⟨kind, num, text⟩, rfl, i64_wf wn⟩
end Go.Proofs.YtcpllhjhnfmepaaGreatDoor
