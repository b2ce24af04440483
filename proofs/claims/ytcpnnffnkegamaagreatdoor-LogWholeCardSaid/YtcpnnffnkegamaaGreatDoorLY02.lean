/- Texts joined: value.Right: what it answers; the world has at most new blocks. What a call owns: the blocks that it made, and the cells that it reads; kept over allocations, stores, calls. For any program. A region under St, whether its order is drawn or not: walked once in the order of the text; guards may be open. For any program. What a call owns, in general: blocks whose cells are known, slices that it builds; each apart from the others; kept over allocations, stores, appends, calls. For any program. A region of quiet operations, of new blocks, and of a tail that waits for them: walked in the order of the text, whatever order is drawn. For any program. A region of quiet operations, of new blocks, and of a tail: the two phases. For any program. -/
import Derived.Test.YtcpnnffnkegamaaGreatDoorLY01
import Derived.Deep.QuietTactic
import Derived.Shelf.Abstract
import Derived.Lib.AppendStr
import Derived.Laws.MakeOwn
/- value.Right: what it answers; the world has at most new blocks. -/
namespace Go.Proofs.YtcpnnffnkegamaaGreatDoor
set_option linter.all false
set_option linter.unusedSimpArgs false
set_option linter.unusedVariables false
open Go.RowKit
/-- what value.Right answers -/
def rightB (k n : Int) (s : ByteArray) : Bool :=
  if k = 0 then decide (n = 0) && decide (s = ⟨#[]⟩) else if k = 1 then decide (s = ⟨#[]⟩) else if k = 2 then decide (n = 0) && decide (s.size ≤ 40) && okText s else false

set_option maxHeartbeats 8000000 in
theorem right1_any (r : Nat) (w : World) : Calls Tryz.prog 71 #[.int .i32 (r : Int)] w fun e w' => e = .returned (.bool (badL r)) ∧ ∃ q, w' = w.drewN q := by
  unfold badL
  by_cases h1 : r < 32
  · have f : (decide (r < 32) || decide (126 < r) || decide (r = 39)) = true := by simp [h1]
    rw [f]
    go_enter Tryz.func71, Tryz.ntmps71
    go_wp2
    go_ret
    exact ⟨rfl, 0, rfl⟩
  · by_cases h2 : 126 < r
    · have f : (decide (r < 32) || decide (126 < r) || decide (r = 39)) = true := by simp [h2]
      rw [f]
      go_enter Tryz.func71, Tryz.ntmps71
      go_wp2
      go_ret
      exact ⟨rfl, 0, rfl⟩
    · by_cases h3 : r = 39
      · subst h3
        go_enter Tryz.func71, Tryz.ntmps71
        go_wp2
        go_ret
        exact ⟨rfl, 0, rfl⟩
      · have f : (decide (r < 32) || decide (126 < r) || decide (r = 39)) = false := by simp [h1, h2, h3]
        have b3 : ((r : Int) == 39) = false := by simp; omega
        rw [f]
        have c1 : (decide ((r : Int) < 32)) = false := by simp; omega
        have c2 : (decide ((126 : Int) < r)) = false := by simp; omega
        go_enter Tryz.func71, Tryz.ntmps71
        go_wp2
        go_ret
        exact ⟨rfl, 0, rfl⟩
theorem nil_iff (s : ByteArray) : s.toList = [] ↔ s = ⟨#[]⟩ := by
  rw [ByteArray.toList_eq]
  constructor
  · intro h; apply ByteArray.ext; apply Array.toList_inj.1; simpa using h
  · intro h; rw [h]
theorem right1_at (w : World) : PredAt Tryz.prog 71 #[] encR badL w := fun W x _ => right1_any x W
theorem enters_right1 : ∀ (args : Array Value) (w : World), (callFunc 71 args).run Tryz.prog w = .ok (.enter 71 args) w := by
  exact Go.Proofs.enters_of Tryz.func71 (by kernel_rfl) rfl

set_option maxHeartbeats 8000000 in
theorem right_any (k n : Int) (s : ByteArray) (w : World) :
    Calls Tryz.prog 45 #[.agg #[.int .i64 k, .int .i64 n, .string s]] w fun e w' => e = .returned (.bool (rightB k n s)) ∧ Ext w w' := by
  by_cases k0 : k = 0
  · subst k0
    by_cases hn : n = 0
    · subst hn
      by_cases hs : s = ⟨#[]⟩
      · subst hs
        have f : rightB 0 0 ⟨#[]⟩ = true := by simp [rightB]
        rw [f]; clear f
        go_enter Tryz.func45, Tryz.ntmps45
        go_wp2
        go_ret
        refine ⟨rfl, ?_⟩
        (repeat (first | with_reducible exact Ext.refl _ | with_reducible assumption | with_reducible refine Ext.drew ?_ | with_reducible refine Ext.alloc ?_ _ | with_reducible refine Ext.drewN ?_ _ | refine Ext.trans ?_ (by with_reducible assumption)))
      · have f : rightB 0 0 s = false := by simp [rightB, hs]
        have hs' : ¬ s.toList = [] := by rw [nil_iff]; exact hs
        rw [f]; clear f hs
        go_enter Tryz.func45, Tryz.ntmps45
        go_wp2
        go_ret
        refine ⟨rfl, ?_⟩
        (repeat (first | with_reducible exact Ext.refl _ | with_reducible assumption | with_reducible refine Ext.drew ?_ | with_reducible refine Ext.alloc ?_ _ | with_reducible refine Ext.drewN ?_ _ | refine Ext.trans ?_ (by with_reducible assumption)))
    · have f : rightB 0 n s = false := by simp [rightB, hn]
      rw [f]; clear f
      go_enter Tryz.func45, Tryz.ntmps45
      go_wp2
      go_ret
      refine ⟨rfl, ?_⟩
      (repeat (first | with_reducible exact Ext.refl _ | with_reducible assumption | with_reducible refine Ext.drew ?_ | with_reducible refine Ext.alloc ?_ _ | with_reducible refine Ext.drewN ?_ _ | refine Ext.trans ?_ (by with_reducible assumption)))
  · have b0 : (k == 0) = false := by simp [k0]
    by_cases k1 : k = 1
    · subst k1
      by_cases hs : s = ⟨#[]⟩
      · subst hs
        have f : rightB 1 n ⟨#[]⟩ = true := by simp [rightB]
        rw [f]; clear f
        go_enter Tryz.func45, Tryz.ntmps45
        go_wp2
        go_ret
        refine ⟨rfl, ?_⟩
        (repeat (first | with_reducible exact Ext.refl _ | with_reducible assumption | with_reducible refine Ext.drew ?_ | with_reducible refine Ext.alloc ?_ _ | with_reducible refine Ext.drewN ?_ _ | refine Ext.trans ?_ (by with_reducible assumption)))
      · have f : rightB 1 n s = false := by simp [rightB, hs]
        have hs' : s.toList.isEmpty = false := by simpa [nil_iff] using hs
        rw [f]; clear f hs
        go_enter Tryz.func45, Tryz.ntmps45
        go_wp2
        go_ret
        refine ⟨?_, ?_⟩
        · simp [hs']
        · (repeat (first | with_reducible exact Ext.refl _ | with_reducible assumption | with_reducible refine Ext.drew ?_ | with_reducible refine Ext.alloc ?_ _ | with_reducible refine Ext.drewN ?_ _ | refine Ext.trans ?_ (by with_reducible assumption)))
    · have b1 : (k == 1) = false := by simp [k1]
      by_cases k2 : k = 2
      · subst k2
        clear k0 k1 b0 b1
        by_cases hn : n = 0
        · subst hn
          by_cases hz : s.size ≤ 40
          · have f : rightB 2 0 s = decide (Lib.idxFunc badL true s < 0) := by rw [idx_ok]; simp [rightB, hz]
            rw [f]; clear f
            go_enter Tryz.func45, Tryz.ntmps45
            go_wp2_with (go_at_call 70; refine (Tryz.strings_IndexFunc 71 #[] enters_right1 badL _ _ (right1_at _)).mono ?_; rintro e w1 ⟨rfl, hb1⟩; have hx1 := Ext.mk hb1; clear hb1)

            go_ret
            refine ⟨rfl, ?_⟩
            (repeat (first | with_reducible exact Ext.refl _ | with_reducible assumption | with_reducible refine Ext.drew ?_ | with_reducible refine Ext.alloc ?_ _ | with_reducible refine Ext.drewN ?_ _ | refine Ext.trans ?_ (by with_reducible assumption)))
          · have f : rightB 2 0 s = false := by simp [rightB, hz]
            rw [f]; clear f
            go_enter Tryz.func45, Tryz.ntmps45
            go_wp2_with fail
            go_ret
            refine ⟨rfl, ?_⟩
            (repeat (first | with_reducible exact Ext.refl _ | with_reducible assumption | with_reducible refine Ext.drew ?_ | with_reducible refine Ext.alloc ?_ _ | with_reducible refine Ext.drewN ?_ _ | refine Ext.trans ?_ (by with_reducible assumption)))
        · have f : rightB 2 n s = false := by simp [rightB, hn]
          have bn : (n == 0) = false := by simp [hn]
          rw [f]; clear f hn
          go_enter Tryz.func45, Tryz.ntmps45
          go_wp2_with fail
          go_ret
          refine ⟨rfl, ?_⟩
          (repeat (first | with_reducible exact Ext.refl _ | with_reducible assumption | with_reducible refine Ext.drew ?_ | with_reducible refine Ext.alloc ?_ _ | with_reducible refine Ext.drewN ?_ _ | refine Ext.trans ?_ (by with_reducible assumption)))
      · have b2 : (k == 2) = false := by simp [k2]
        have f : rightB k n s = false := by simp [rightB, k0, k1, k2]
        rw [f]
        clear f k0 k1 k2
        go_enter Tryz.func45, Tryz.ntmps45
        go_wp2
        go_ret
        refine ⟨rfl, ?_⟩
        (repeat (first | with_reducible exact Ext.refl _ | with_reducible assumption | with_reducible refine Ext.drew ?_ | with_reducible refine Ext.alloc ?_ _ | with_reducible refine Ext.drewN ?_ _ | refine Ext.trans ?_ (by with_reducible assumption)))
end Go.Proofs.YtcpnnffnkegamaaGreatDoor

/- What a call owns: the blocks that it made, and the cells that it reads; kept over allocations, stores, calls. For any program. -/
namespace Go.Proofs.YtcpnnffnkegamaaGreatDoor
set_option linter.all false
open Go.RowKit

theorem heap_keeps {a w : World} (h : Ext a w) {g : Nat} {o : Obj} (hg : a.heap[g]? = some o) : w.heap[g]? = some o := by
  have hlt : g < a.heap.size := by
    rcases Nat.lt_or_ge g a.heap.size with h | h
    · exact h
    · rw [Array.getElem?_eq_none h] at hg; cases hg
  exact (h.block g hlt).trans hg
theorem heap_lt {w : World} {g : Nat} {o : Obj} (hg : w.heap[g]? = some o) : g < w.heap.size := by
  rcases Nat.lt_or_ge g w.heap.size with h | h
  · exact h
  · rw [Array.getElem?_eq_none h] at hg; cases hg
theorem heap_set {w : World} {b j : Nat} {cs : Array Value} {u : Value} {t : TypeId} {fr : Nat × Nat} (h : w.heap[b]? = some (.cells cs t fr)) : (w.setCell ⟨b, j, none⟩ u).heap[b]? = some (.cells (cs.setIfInBounds j u) t fr) := by
  unfold World.setCell
  simp [h, Array.getElem?_modify]
theorem heap_size {w : World} {o : Obj} : (w.alloc o).heap.size = w.heap.size + 1 := by simp
theorem heap_set_size {w : World} {p : Addr} {u : Value} : (w.setCell p u).heap.size = w.heap.size := by simp [World.setCell]
theorem heap_set_other {w : World} {b j k : Nat} {u : Value} (h : k ≠ b) : (w.setCell ⟨b, j, none⟩ u).heap[k]? = w.heap[k]? := by
  unfold World.setCell
  simp [Array.getElem?_modify, Ne.symm h]

/-- a block of the call's own: its number, its cells, its type -/
abbrev Blk := Nat × List Value × TypeId

/-- since w0: all that was there is as it was; the blocks L are the call's own, apart from each other, with these cells -/
structure St (w0 w : World) (L : List Blk) : Prop where
  ext : Ext w0 w
  apart : L.Pairwise fun a b => a.1 ≠ b.1
  own : ∀ x ∈ L, w0.heap.size ≤ x.1 ∧ w.heap[x.1]? = some (.cells x.2.1.toArray x.2.2 (0, 0))

def cellFacts (w : World) (g : Nat) : Nat → List Value → Prop
  | _, [] => True
  | j, v :: l => (w.cell? ⟨g, j, none⟩ = some v ∧ w.frozen? ⟨g, j, none⟩ = false) ∧ cellFacts w g (j + 1) l
def Facts (w : World) : List Blk → Prop
  | [] => True
  | x :: l => cellFacts w x.1 0 x.2.1 ∧ Facts w l

section
variable {w0 w w' : World} {L : List Blk}
theorem St.init (w : World) : St w w [] := ⟨Ext.refl w, List.Pairwise.nil, fun _ h => by cases h⟩
theorem St.step (h : St w0 w L) (hx : Ext w w') : St w0 w' L := ⟨h.ext.trans hx, h.apart, fun x hx' => ⟨(h.own x hx').1, heap_keeps hx (h.own x hx').2⟩⟩
theorem St.drew (h : St w0 w L) : St w0 w.drew L := h.step (Ext.refl w).drew
theorem St.alloc (h : St w0 w L) (cs : List Value) (t : TypeId) : St w0 (w.alloc (.cells cs.toArray t)) ((w.heap.size, cs, t) :: L) := by
  refine ⟨h.ext.alloc _, List.Pairwise.cons (fun x hx e => ?_) h.apart, fun x hx => ?_⟩
  · have := heap_lt (h.own x hx).2
    simp only at e
    omega
  · rcases List.mem_cons.1 hx with rfl | hx
    · exact ⟨h.ext.size, heap_alloc_new w _⟩
    · exact ⟨(h.own x hx).1, heap_keeps ((Ext.refl w).alloc _) (h.own x hx).2⟩
theorem St.old (h : St w0 w L) (o : Obj) : St w0 (w.alloc o) L := h.step ((Ext.refl w).alloc o)
theorem pairwise_set : ∀ (L : List Blk) (i : Nat) (g : Nat) (cs ds : List Value) (t : TypeId), L[i]? = some (g, cs, t) → L.Pairwise (fun a b => a.1 ≠ b.1) → (L.set i (g, ds, t)).Pairwise fun a b => a.1 ≠ b.1
  | [], i, g, cs, ds, t, h, _ => by simp at h
  | x :: L, 0, g, cs, ds, t, h, hp => by
    simp at h; subst h
    exact List.Pairwise.cons (fun y hy => (List.pairwise_cons.1 hp).1 y hy) (List.pairwise_cons.1 hp).2
  | x :: L, i + 1, g, cs, ds, t, h, hp => by
    rw [List.set_cons_succ]
    refine List.Pairwise.cons (fun y hy => ?_) (pairwise_set L i g cs ds t (by simpa using h) (List.pairwise_cons.1 hp).2)
    rcases List.mem_or_eq_of_mem_set hy with hy | rfl
    · exact (List.pairwise_cons.1 hp).1 y hy
    · exact (List.pairwise_cons.1 hp).1 (g, cs, t) (List.mem_of_getElem? (by simpa using h))
theorem pairwise_ne {L : List Blk} (hp : L.Pairwise fun a b => a.1 ≠ b.1) {i j : Nat} {x y : Blk} (hi : L[i]? = some x) (hj : L[j]? = some y) (hij : i ≠ j) : x.1 ≠ y.1 := by
  obtain ⟨li, rfl⟩ := List.getElem?_eq_some_iff.1 hi
  obtain ⟨lj, rfl⟩ := List.getElem?_eq_some_iff.1 hj
  rw [List.pairwise_iff_getElem] at hp
  rcases Nat.lt_or_gt_of_ne hij with h | h
  · exact hp i j li lj h
  · exact (hp j i lj li h).symm
theorem St.setAt (i : Nat) {g : Nat} {cs : List Value} {t : TypeId} (hi : L[i]? = some (g, cs, t)) (h : St w0 w L) (j : Nat) (u : Value) : St w0 (w.setCell ⟨g, j, none⟩ u) (L.set i (g, cs.set j u, t)) := by
  have ho := h.own _ (List.mem_of_getElem? hi)
  refine ⟨h.ext.setCell ho.1 u, pairwise_set L i g cs _ t hi h.apart, fun x hx => ?_⟩
  obtain ⟨k, hk⟩ := List.mem_iff_getElem?.1 hx
  rw [List.getElem?_set] at hk
  split at hk
  · rename_i hik
    split at hk
    · simp at hk; subst hk
      refine ⟨ho.1, ?_⟩
      rw [heap_set ho.2]
      simp
    · cases hk
  · rename_i hik
    have hx' := h.own x (List.mem_of_getElem? hk)
    exact ⟨hx'.1, by rw [heap_set_other (fun e => pairwise_ne h.apart hi hk hik e.symm)]; exact hx'.2⟩
theorem St.put {g : Nat} {cs : List Value} {t : TypeId} {i j : Nat} {u : Value} (h : St w0 w L) (hi : L[i]? = some (g, cs, t)) : St w0 (w.setCell ⟨g, j, none⟩ u) (L.set i (g, cs.set j u, t)) := h.setAt i hi j u
theorem St.drop (i : Nat) (h : St w0 w L) : St w0 w (L.eraseIdx i) := ⟨h.ext, h.apart.sublist (List.eraseIdx_sublist L i), fun x hx => h.own x (List.mem_of_mem_eraseIdx hx)⟩

theorem cellFacts_of {g : Nat} {t : TypeId} {all : List Value} (h : w.heap[g]? = some (.cells all.toArray t (0, 0))) : ∀ (l : List Value) (j : Nat), (∀ k, l[k]? = all[j + k]?) → cellFacts w g j l
  | [], _, _ => trivial
  | v :: l, j, hl => by
    have h0 := hl 0
    simp at h0
    refine ⟨⟨?_, ?_⟩, cellFacts_of h l (j + 1) fun k => ?_⟩
    · simp [World.cell?, h, ← h0]
    · simp [World.frozen?, h]
    · have := hl (k + 1)
      rw [show j + 1 + k = j + (k + 1) by omega]
      simpa using this
theorem facts_of : ∀ L : List Blk, (∀ x ∈ L, w.heap[x.1]? = some (.cells x.2.1.toArray x.2.2 (0, 0))) → Facts w L
  | [], _ => trivial
  | x :: L, h => ⟨cellFacts_of (h x (by simp)) x.2.1 0 (fun k => by simp), facts_of L fun y hy => h y (by simp [hy])⟩
theorem St.facts (h : St w0 w L) : Facts w L := facts_of L fun x hx => (h.own x hx).2
theorem at0 {α : Type} {x : α} {l : List α} : (x :: l)[0]? = some x := rfl
theorem at1 {α : Type} {a x : α} {l : List α} : (a :: x :: l)[1]? = some x := rfl
theorem at2 {α : Type} {a b x : α} {l : List α} : (a :: b :: x :: l)[2]? = some x := rfl
theorem at3 {α : Type} {a b c x : α} {l : List α} : (a :: b :: c :: x :: l)[3]? = some x := rfl
theorem at4 {α : Type} {a b c d x : α} {l : List α} : (a :: b :: c :: d :: x :: l)[4]? = some x := rfl
theorem at5 {α : Type} {a b c d e x : α} {l : List α} : (a :: b :: c :: d :: e :: x :: l)[5]? = some x := rfl
theorem atS {α : Type} {x y : α} {l : List α} {i : Nat} (h : l[i]? = some y) : (l.set i x)[i]? = some x := by
  obtain ⟨hl, _⟩ := List.getElem?_eq_some_iff.1 h
  simp [hl]
/-- what was there when the call began, and is read: cells, blocks -/
inductive Rd where
  | cell (p : Addr) (v : Value)
  | blk (g : Nat) (cs : List Value) (t : TypeId) (fr : Nat × Nat)
def Rd.holds (w : World) : Rd → Prop
  | .cell p v => w.cell? p = some v
  | .blk g cs t fr => w.heap[g]? = some (.cells cs.toArray t fr)
def Reads (w : World) (R : List Rd) : Prop := ∀ x ∈ R, x.holds w
def cellOnly (w : World) (g : Nat) : Nat → List Value → Prop
  | _, [] => True
  | j, v :: l => w.cell? ⟨g, j, none⟩ = some v ∧ cellOnly w g (j + 1) l
def RFacts (w : World) : List Rd → Prop
  | [] => True
  | .cell p v :: l => w.cell? p = some v ∧ RFacts w l
  | .blk g cs _ _ :: l => cellOnly w g 0 cs ∧ RFacts w l
theorem Reads.nil (w : World) : Reads w [] := fun _ h => by cases h
theorem Reads.cell {R : List Rd} {p : Addr} {v : Value} (hc : w.cell? p = some v) (h : Reads w R) : Reads w (.cell p v :: R) := fun x hx => by
  rcases List.mem_cons.1 hx with rfl | hx
  · exact hc
  · exact h x hx
theorem Reads.blk {R : List Rd} {g : Nat} {cs : Array Value} {t : TypeId} {fr : Nat × Nat} (hc : w.heap[g]? = some (.cells cs t fr)) (h : Reads w R) : Reads w (.blk g cs.toList t fr :: R) := fun x hx => by
  rcases List.mem_cons.1 hx with rfl | hx
  · simpa [Rd.holds] using hc
  · exact h x hx
theorem Reads.ext {R : List Rd} (h : Reads w R) (hx : Ext w w') : Reads w' R := fun x hx' => by
  have := h x hx'
  cases x with
  | cell p v => exact hx.keeps this
  | blk g cs t fr => exact heap_keeps hx this
theorem cellOnly_of {g : Nat} {t : TypeId} {fr : Nat × Nat} {all : List Value} (h : w.heap[g]? = some (.cells all.toArray t fr)) : ∀ (l : List Value) (j : Nat), (∀ k, l[k]? = all[j + k]?) → cellOnly w g j l
  | [], _, _ => trivial
  | v :: l, j, hl => by
    have h0 := hl 0
    simp at h0
    refine ⟨by simp [World.cell?, h, ← h0], cellOnly_of h l (j + 1) fun k => ?_⟩
    have := hl (k + 1)
    rw [show j + 1 + k = j + (k + 1) by omega]
    simpa using this
theorem rfacts_of : ∀ R : List Rd, Reads w R → RFacts w R
  | [], _ => trivial
  | .cell p v :: R, h => ⟨h (.cell p v) (by simp), rfacts_of R fun y hy => h y (by simp [hy])⟩
  | .blk g cs t fr :: R, h => ⟨cellOnly_of (h (.blk g cs t fr) (by simp)) cs 0 (fun k => by simp), rfacts_of R fun y hy => h y (by simp [hy])⟩
theorem Reads.at {R : List Rd} (h : Reads w R) (hx : Ext w w') : RFacts w' R := rfacts_of R (h.ext hx)
end
end Go.Proofs.YtcpnnffnkegamaaGreatDoor

/- A region under St, whether its order is drawn or not: walked once in the order of the text; guards may be open. For any program. -/
namespace Go.Proofs.YtcpnnffnkegamaaGreatDoor
set_option linter.all false
open Go.RowKit
section
variable {P : Program} {ops : Array Oper} {F : World → Prop} {K : Act → Prop} {o : Oper} {rest : List Oper} {a : Act} {j : Nat} {p b : Bool} {d : Tmp}
theorem wanted_eq (hg : o.guard = some (j, p)) (hd : (ops[j]?).bind (·.dst) = some d) (ht : a.tmps[d]? = some (.bool b)) : Region.wanted o (yielded ops a.tmps) = (b == p) := by
  have hy : yielded ops a.tmps j = some b := by unfold yielded; rw [hd]; simp [ht]
  cases b <;> cases p <;> simp [Region.wanted, hg, hy]
theorem wanted_true (hg : o.guard = some (j, p)) (hd : (ops[j]?).bind (·.dst) = some d) (ht : a.tmps[d]? = some (.bool b)) (hb : b = p) : Region.wanted o (yielded ops a.tmps) = true := by
  rw [wanted_eq hg hd ht]; simp [hb]
theorem wanted_false (hg : o.guard = some (j, p)) (hd : (ops[j]?).bind (·.dst) = some d) (ht : a.tmps[d]? = some (.bool b)) (hb : b = !p) : Region.wanted o (yielded ops a.tmps) = false := by
  rw [wanted_eq hg hd ht]; subst hb; cases p <;> rfl
theorem Fixed.here {l : List Oper} (h : Fixed P ops F K l a) : Fixed P ops F K l a := h
/-- the guard is open: both ways -/
theorem Fixed.guardT (_ : o.guard = some (j, true)) (_ : (ops[j]?).bind (·.dst) = some d) (_ : a.tmps[d]? = some (.bool b)) (h1 : b = true → Fixed P ops F K (o :: rest) a) (h2 : b = false → Fixed P ops F K (o :: rest) a) : Fixed P ops F K (o :: rest) a := by
  cases hb : b
  · exact h2 hb
  · exact h1 hb
theorem Fixed.guardF (_ : o.guard = some (j, false)) (_ : (ops[j]?).bind (·.dst) = some d) (_ : a.tmps[d]? = some (.bool b)) (h1 : b = false → Fixed P ops F K (o :: rest) a) (h2 : b = true → Fixed P ops F K (o :: rest) a) : Fixed P ops F K (o :: rest) a := by
  cases hb : b
  · exact h1 hb
  · exact h2 hb
theorem Fixed.imp {K' : Act → Prop} (hK : ∀ a, K a → K' a) : ∀ (l : List Oper) (a : Act), Fixed P ops F K l a → Fixed P ops F K' l a
  | [], a, h => hK a h
  | _ :: l, _, .inl ⟨hw, v, hs, h⟩ => .inl ⟨hw, v, hs, Fixed.imp hK l _ h⟩
  | _ :: l, _, .inr ⟨hw, h⟩ => .inr ⟨hw, Fixed.imp hK l _ h⟩
end
end Go.Proofs.YtcpnnffnkegamaaGreatDoor

/- What a call owns, in general: blocks whose cells are known, slices that it builds; each apart from the others; kept over allocations, stores, appends, calls. For any program. -/
namespace Go.Proofs.YtcpnnffnkegamaaGreatDoor
set_option linter.all false
open Go.RowKit

/-- a thing that the call owns: a block with its cells; a slice of n elements with its cells -/
inductive Item where
  | blk (g : Nat) (cs : List Value) (t : TypeId)
  | row (e : TypeId) (size : Nat) (A : Option Addr) (n cap : Nat) (xs : List Value)
  | ob (g : Nat) (o : Obj)
  | mp (m : Option Nat) (o : Obj)
def Item.block : Item → Option Nat
  | .blk g _ _ => some g
  | .row _ _ A _ _ _ => A.map (·.block)
  | .ob g _ => some g
  | .mp m _ => m
def Item.at (B : Nat) (w : World) : Item → Prop
  | .blk g cs t => B ≤ g ∧ w.heap[g]? = some (.cells cs.toArray t (0, 0))
  | .row e size A n cap xs => w.ownsRow B e size (.slice A n cap) n xs
  | .ob g o => B ≤ g ∧ w.heap[g]? = some o
  | .mp m o => ∀ g, m = some g → B ≤ g ∧ w.heap[g]? = some o
def clash (a b : Item) : Prop := a.block = none ∨ a.block ≠ b.block
theorem clash.symm {a b : Item} (h : clash a b) : clash b a := by
  unfold clash at *
  cases hb : b.block with
  | none => exact .inl rfl
  | some g => rcases h with h | h
              · right; rw [h]; simp
              · right; rw [hb] at h; exact fun e => h e.symm
/-- since w0: below B all is as it was; the things of L are the call's own, from B on, apart -/
structure Hp (B : Nat) (w0 w : World) (L : List Item) : Prop where
  below : Below B w0 w
  base : B ≤ w.heap.size
  apart : L.Pairwise clash
  own : ∀ x ∈ L, x.at B w
theorem own_none {A : Option Addr} {n cap : Nat} : (Value.slice A n cap).ownBlock = A.map (·.block) := by cases A <;> rfl
/-- the facts on the blocks' cells -/
def HFacts (w : World) : List Item → Prop
  | [] => True
  | .blk g cs _ :: l => cellFacts w g 0 cs ∧ HFacts w l
  | .row .. :: l => HFacts w l
  | .ob .. :: l => HFacts w l
  | .mp .. :: l => HFacts w l

section
variable {P : Program} {B : Nat} {w0 w w' : World} {L : List Item} {x : Item} {row : Option Nat}
theorem Item.at.lt (h : x.at B w) : ∀ k, x.block = some k → B ≤ k ∧ k < w.heap.size := by
  intro k hk
  cases x with
  | blk g cs t =>
    simp [Item.block] at hk; subst hk
    exact ⟨h.1, heap_lt h.2⟩
  | row e size A n cap xs => exact World.ownsRow.lt h k (by rw [own_none]; exact hk)
  | ob g o =>
    simp [Item.block] at hk; subst hk
    exact ⟨h.1, (Array.getElem?_eq_some_iff.1 h.2).1⟩
  | mp m o => exact ⟨(h k hk).1, (Array.getElem?_eq_some_iff.1 (h k hk).2).1⟩
theorem Item.at.kept (h : x.at B w) (hg : w.grownBy w' row) (hne : x.block = none ∨ x.block ≠ row) : x.at B w' := by
  cases x with
  | blk g cs t =>
    refine ⟨h.1, ?_⟩
    rw [hg.block g (heap_lt h.2) (by simpa [Item.block] using hne)]
    exact h.2
  | row e size A n cap xs => exact World.ownsRow.kept h hg (by rw [own_none]; exact hne)
  | ob g o =>
    refine ⟨h.1, ?_⟩
    rw [hg.block g (Array.getElem?_eq_some_iff.1 h.2).1 (by simpa [Item.block] using hne)]
    exact h.2
  | mp m o =>
    intro g hm
    refine ⟨(h g hm).1, ?_⟩
    rw [hg.block g (Array.getElem?_eq_some_iff.1 (h g hm).2).1 (by subst hm; simpa [Item.block] using hne)]
    exact (h g hm).2
theorem Hp.nil (h : Below B w0 w) (hB : B ≤ w.heap.size) : Hp B w0 w [] := ⟨h, hB, List.Pairwise.nil, fun _ h => by cases h⟩
theorem Hp.init (w : World) : Hp w.heap.size w w [] := Hp.nil (Below.refl _ _) (Nat.le_refl _)
theorem Hp.ext (h : Hp w0.heap.size w0 w L) : Ext w0 w := h.below
theorem Hp.grown (h : Hp B w0 w L) (hg : w.grownBy w' none) : Hp B w0 w' L :=
  ⟨h.below.grown hg h.base (fun k hk => by cases hk), Nat.le_trans h.base hg.size, h.apart, fun x hx => (h.own x hx).kept hg (by cases hb : x.block <;> simp)⟩
theorem Hp.step (h : Hp B w0 w L) (hx : Ext w w') : Hp B w0 w' L := h.grown (hx.grownBy none)
theorem Hp.drew (h : Hp B w0 w L) : Hp B w0 w.drew L := h.step (Ext.refl w).drew
theorem Hp.old (h : Hp B w0 w L) (o : Obj) : Hp B w0 (w.alloc o) L := h.step ((Ext.refl w).alloc o)
theorem Hp.cons (h : Hp B w0 w L) (hx : x.at B w) (hc : ∀ y ∈ L, clash x y) : Hp B w0 w (x :: L) :=
  ⟨h.below, h.base, List.Pairwise.cons hc h.apart, fun y hy => (List.mem_cons.1 hy).elim (fun e => e ▸ hx) (h.own y)⟩
theorem Hp.fresh (h : Hp B w0 w L) {g : Nat} (hx : x.block = some g) (hg : w.heap.size ≤ g) : ∀ y ∈ L, clash x y := fun y hy => by
  right
  rw [hx]
  intro e
  have := (h.own y hy).lt g e.symm
  omega
theorem Hp.alloc (h : Hp B w0 w L) (cs : List Value) (t : TypeId) : Hp B w0 (w.alloc (.cells cs.toArray t)) (.blk w.heap.size cs t :: L) :=
  (h.old _).cons ⟨h.base, heap_alloc_new w _⟩ (h.fresh rfl (Nat.le_refl _))
theorem Hp.nilRow (h : Hp B w0 w L) (e : TypeId) (size : Nat) : Hp B w0 w (.row e size none 0 0 [] :: L) := h.cons (World.ownsRow_nil _ _ _ _) fun _ _ => .inl rfl
theorem Hp.sub {M : List Item} (h : Hp B w0 w L) (hs : M.Sublist L) : Hp B w0 w M := ⟨h.below, h.base, h.apart.sublist hs, fun x hx => h.own x (hs.subset hx)⟩
theorem Hp.drop (i : Nat) (h : Hp B w0 w L) : Hp B w0 w (L.eraseIdx i) := h.sub (List.eraseIdx_sublist L i)
theorem Hp.perm {M : List Item} (h : Hp B w0 w L) (hp : M.Perm L) : Hp B w0 w M := ⟨h.below, h.base, (hp.pairwise_iff (fun h => clash.symm h)).2 h.apart, fun x hx => h.own x (hp.subset hx)⟩
theorem perm_front : ∀ (L : List Item) (i : Nat) (x : Item), L[i]? = some x → (x :: L.eraseIdx i).Perm L
  | [], i, x, h => by simp at h
  | y :: L, 0, x, h => by simp at h; subst h; simp
  | y :: L, i + 1, x, h => by
    rw [List.eraseIdx_cons_succ]
    exact (List.Perm.swap y x _).trans ((perm_front L i x (by simpa using h)).cons y)
/-- the thing at i comes to the head -/
theorem Hp.front (i : Nat) (h : Hp B w0 w L) (hi : L[i]? = some x) : Hp B w0 w (x :: L.eraseIdx i) := h.perm (perm_front L i x hi)
/-- the thing behind the head at i comes to the second place -/
theorem Hp.second (i : Nat) {y : Item} (h : Hp B w0 w (y :: L)) (hi : L[i]? = some x) : Hp B w0 w (y :: x :: L.eraseIdx i) := h.perm ((perm_front L i x hi).cons y)
theorem Hp.tail (h : Hp B w0 w (x :: L)) : Hp B w0 w L := h.sub (List.sublist_cons_self x L)
theorem Hp.head (h : Hp B w0 w (x :: L)) : x.at B w := h.own x (by simp)

/-- the head has been written: a block, a row -/
theorem Hp.turn {y : Item} (h : Hp B w0 w (x :: L)) (hg : w.grownBy w' row) (hr : row = none ∨ row = x.block) (hy : y.at B w') (hb : y.block = x.block ∨ y.block = none ∨ ∃ g, y.block = some g ∧ w.heap.size ≤ g) : Hp B w0 w' (y :: L) := by
  obtain ⟨hc, ha⟩ := List.pairwise_cons.1 h.apart
  refine ⟨h.below.grown hg h.base (fun k hk => ?_), Nat.le_trans h.base hg.size, List.Pairwise.cons (fun z hz => ?_) ha, fun z hz => ?_⟩
  · rcases hr with hr | hr
    · rw [hr] at hk; cases hk
    · exact (h.head.lt k (by rw [← hr]; exact hk)).1
  · rcases hb with hb | hb | ⟨g, hb, hlt⟩
    · have := hc z hz
      unfold clash at *
      rwa [hb]
    · exact .inl hb
    · exact h.fresh hb hlt z (by simp [hz])
  · rcases List.mem_cons.1 hz with rfl | hz
    · exact hy
    · refine (h.own z (by simp [hz])).kept hg ?_
      rcases hr with hr | hr
      · rw [hr]; cases hb : z.block <;> simp
      · rw [hr]; exact (hc z hz).symm
theorem grownBy_set (w : World) (g j : Nat) (u : Value) : w.grownBy (w.setCell ⟨g, j, none⟩ u) (some g) :=
  ⟨rfl, rfl, rfl, by simp [World.setCell], fun k _ hk => heap_set_other (by simpa using hk)⟩
theorem Hp.put0 {g : Nat} {cs : List Value} {t : TypeId} (h : Hp B w0 w (.blk g cs t :: L)) (j : Nat) (u : Value) : Hp B w0 (w.setCell ⟨g, j, none⟩ u) (.blk g (cs.set j u) t :: L) :=
  h.turn (grownBy_set w g j u) (.inr rfl) ⟨h.head.1, by rw [heap_set h.head.2]; simp⟩ (.inl rfl)
theorem set_perm : ∀ (L : List Item) (i : Nat) (x y : Item), L[i]? = some x → (L.set i y).Perm (y :: L.eraseIdx i)
  | [], i, x, y, h => by simp at h
  | z :: L, 0, x, y, h => by simp
  | z :: L, i + 1, x, y, h => by
    rw [List.eraseIdx_cons_succ, List.set_cons_succ]
    exact ((set_perm L i x y (by simpa using h)).cons z).trans (List.Perm.swap y z _)
theorem Hp.put {g : Nat} {cs : List Value} {t : TypeId} {i j : Nat} {u : Value} (h : Hp B w0 w L) (hi : L[i]? = some (.blk g cs t)) : Hp B w0 (w.setCell ⟨g, j, none⟩ u) (L.set i (.blk g (cs.set j u) t)) :=
  ((h.front i hi).put0 j u).perm (set_perm L i _ _ hi)
theorem Hp.putRow {e : TypeId} {size g n cap : Nat} {xs : List Value} (h : Hp B w0 w (.row e size (some ⟨g, 0, none⟩) n cap xs :: L)) (j : Nat) (u : Value) : Hp B w0 (w.setCell ⟨g, j, none⟩ u) (.row e size (some ⟨g, 0, none⟩) n cap (xs.set j u) :: L) :=
  h.turn (grownBy_set w g j u) (.inr rfl) (World.ownsRow.stored h.head j u).1 (.inl rfl)
theorem Hp.blkAt {g : Nat} {cs : List Value} {t : TypeId} (h : Hp B w0 w L) (i : Nat) (hi : L[i]? = some (.blk g cs t)) : w.heap[g]? = some (.cells cs.toArray t (0, 0)) := (h.own _ (List.mem_of_getElem? hi)).2

theorem Item.at.mono {B2 : Nat} (h : x.at B w) (hb : B2 ≤ B) : x.at B2 w := by
  cases x with
  | blk g cs t => exact ⟨Nat.le_trans hb h.1, h.2⟩
  | ob g o => exact ⟨Nat.le_trans hb h.1, h.2⟩
  | mp m o => exact fun g hm => ⟨Nat.le_trans hb (h g hm).1, (h g hm).2⟩
  | row e size A n cap xs =>
    refine ⟨(show w.ownsRow B e size (.slice A n cap) n xs from h).1, ?_⟩
    rcases (show w.ownsRow B e size (.slice A n cap) n xs from h).2 with h | ⟨g, cp, cur, h1, h2, h3⟩
    · exact .inl h
    · exact .inr ⟨g, cp, cur, h1, Nat.le_trans hb h2, h3⟩
/-- what a call that owns nothing of ours hands back is ours from then on -/
theorem Hp.join {M : List Item} (h : Hp B w0 w L) (k : Hp w.heap.size w w' M) : Hp B w0 w' (M ++ L) := by
  have h' := h.step k.ext
  refine ⟨h'.below, h'.base, List.pairwise_append.2 ⟨k.apart, h'.apart, fun a ha b hb => ?_⟩, fun z hz => ?_⟩
  · cases hab : a.block with
    | none => exact .inl hab
    | some g =>
      right
      rw [hab]
      intro e
      have h1 := ((k.own a ha).lt g hab).1
      have h2 := ((h.own b hb).lt g e.symm).2
      omega
  · rcases List.mem_append.1 hz with hz | hz
    · exact (k.own z hz).mono h.base
    · exact h'.own z hz
theorem hfacts_of : ∀ L : List Item, (∀ x ∈ L, x.at B w) → HFacts w L
  | [], _ => trivial
  | .blk g cs t :: L, h => ⟨cellFacts_of (h (.blk g cs t) (by simp)).2 cs 0 (fun k => by simp), hfacts_of L fun y hy => h y (by simp [hy])⟩
  | .row .. :: L, h => hfacts_of L fun y hy => h y (by simp [hy])
  | .ob .. :: L, h => hfacts_of L fun y hy => h y (by simp [hy])
  | .mp .. :: L, h => hfacts_of L fun y hy => h y (by simp [hy])
theorem Hp.facts (h : Hp B w0 w L) : HFacts w L := hfacts_of L h.own

/-- append of m elements that lie at ad -/
theorem run_append_hp {t ty e : TypeId} {size bytes n m c cap : Nat} {A : Option Addr} {xs news : List Value} (hE : Elem P t e size bytes) (h : Hp B w0 w (.row e size A n cap xs :: L)) (ad : Addr) (hl : news.length = m * size)
    (hnews : ∀ j u, news[j]? = some u → w.cell? (ad.add j) = some u) (h1 : ∀ u ∈ news, u.oneCell' = true) (hn : (n + m) * bytes ≤ 140737488355328) (hm : n + m ≤ 140737488355328) :
    ∃ A' cap' w', (Builtin.append_ #[t, t] ty #[.slice A n cap, .slice (some ad) m c]).run P w = .ok (.slice A' (n + m : Nat) cap') w' ∧ Hp B w0 w' (.row e size A' (n + m) cap' (xs ++ news) :: L) := by
  obtain ⟨i, z, hi, hz, hsz, hby, hzs⟩ := hE.info
  have hown : w.ownsRow B e size (.slice A n cap) n xs := h.head
  obtain ⟨v', w', hr, hown', hg, hnil, hat⟩ := run_append_own_at (P := P) w B t ty e i z size bytes hE.under hi hz hsz hby hzs hE.pos _ n xs hown ad m c news hl hnews h1 (by unfold maxLen; omega) hn h.base
  have hv : ∃ A' cap', v' = .slice A' (n + m : Nat) cap' := by
    rcases hown'.2 with ⟨rfl, h0⟩ | ⟨g, cp, cur, rfl, _⟩
    · exact ⟨none, 0, by rw [h0]⟩
    · exact ⟨_, _, rfl⟩
  obtain ⟨A', cap', rfl⟩ := hv
  refine ⟨A', cap', w', hr, h.turn hg (.inr own_none) hown' ?_⟩
  rw [own_none, own_none] at hat
  rcases hat with hat | hat
  · exact .inl hat
  · exact .inr (.inr ⟨_, hat, Nat.le_refl _⟩)
theorem wpList_append_hp {t e : TypeId} {size bytes n m c cap : Nat} {A : Option Addr} {xs news : List Value} (hE : Elem P t e size bytes) {ops : Array Oper} {rest : List Oper} {o : Oper} {a : Act} {Q : Exit → Act → World → Prop} (hgd : o.guard = none) (s x : Operand)
    (ho : o.op = .call { callee := .builtin .append, args := #[s, x], argTypes := #[t, t] }) (h : Hp B w0 w (.row e size A n cap xs :: L)) (hs : a.eval s = .slice A n cap) (ad : Addr) (hx : a.eval x = .slice (some ad) m c) (hl : news.length = m * size)
    (hnews : ∀ j u, news[j]? = some u → w.cell? (ad.add j) = some u) (h1 : ∀ u ∈ news, u.oneCell' = true) (hn : (n + m) * bytes ≤ 140737488355328) (hm : n + m ≤ 140737488355328)
    (k : ∀ A' cap' w', Hp B w0 w' (.row e size A' (n + m) cap' (xs ++ news) :: L) → wpList P ops Q rest (a.put o.dst (.slice A' (n + m : Nat) cap')) w') : wpList P ops Q (o :: rest) a w := by
  refine wpList_plain hgd fun K hK => ?_
  obtain ⟨A', cap', w', hr, h2⟩ := run_append_hp (P := P) (c := c) (ty := o.type) hE h ad hl hnews h1 hn hm
  unfold Oper.wp execOp
  simp only [ho, resolve, invoke, builtin, Sem.run_bind, Sem.run_pure, Result.andThen_ok, List.map_toArray, List.map_cons, List.map_nil, hs, hx, hr]
  exact hK _ _ (k A' cap' w' h2)
/-- append of the one element that lies in the block at the head -/
theorem wpList_push_hp {t e : TypeId} {size bytes n c cap S : Nat} {A : Option Addr} {xs news : List Value} (hE : Elem P t e size bytes) {ops : Array Oper} {rest : List Oper} {o : Oper} {a : Act} {Q : Exit → Act → World → Prop} (hgd : o.guard = none) (s x : Operand)
    (ho : o.op = .call { callee := .builtin .append, args := #[s, x], argTypes := #[t, t] }) (h : Hp B w0 w (.blk S news e :: .row e size A n cap xs :: L)) (hs : a.eval s = .slice A n cap) (hx : a.eval x = .slice (some ⟨S, 0, none⟩) 1 c) (hl : news.length = size)
    (h1 : ∀ u ∈ news, u.oneCell' = true) (hn : (n + 1) * bytes ≤ 140737488355328) (hm : n + 1 ≤ 140737488355328)
    (k : ∀ A' cap' w', Hp B w0 w' (.row e size A' (n + 1) cap' (xs ++ news) :: L) → wpList P ops Q rest (a.put o.dst (.slice A' (n + 1 : Nat) cap')) w') : wpList P ops Q (o :: rest) a w := by
  refine wpList_append_hp hE hgd s x ho h.tail hs ⟨S, 0, none⟩ hx (by simpa using hl) (fun j u hu => ?_) h1 hn hm k
  exact World.news_of_block h.head.2 j u (by simpa using hu)
/-- append of nothing -/
theorem run_append_nilsrc {t ty e : TypeId} {size bytes n cap : Nat} {A : Option Addr} {xs : List Value} (hE : Elem P t e size bytes) (h : Hp B w0 w (.row e size A n cap xs :: L)) :
    (Builtin.append_ #[t, t] ty #[.slice A n cap, .slice none 0 0]).run P w = .ok (.slice A n cap) w := by
  obtain ⟨i, z, hi, hz, hsz, hby, hzs⟩ := hE.info
  have hc : n ≤ cap := by
    rcases (show w.ownsRow B e size (.slice A n cap) n xs from h.head).2 with ⟨hv, h0⟩ | ⟨g, cp, cur, hv, _, _, hc, _⟩
    · omega
    · obtain ⟨rfl, _, rfl⟩ : A = some ⟨g, 0, none⟩ ∧ n = n ∧ cap = cp := by simpa using hv
      exact hc
  cases A <;> simp [Builtin.append_, run_underlying hE.under, sizeOf, typeInfo, hi, Builtin.lenOf, Builtin.firstCells, loadCells, loadCellsFrom, hc, storeCells]
/-- the cells of a row -/
theorem Hp.rowCell {e : TypeId} {size n cap : Nat} {A : Option Addr} {xs : List Value} (h : Hp B w0 w L) (i : Nat) (hi : L[i]? = some (.row e size A n cap xs)) {j : Nat} {u : Value} (hj : xs[j]? = some u) :
    ∃ g, A = some ⟨g, 0, none⟩ ∧ w.cell? ⟨g, j, none⟩ = some u ∧ w.frozen? ⟨g, j, none⟩ = false := by
  have ho : w.ownsRow B e size (.slice A n cap) n xs := h.own _ (List.mem_of_getElem? hi)
  rcases ho.2 with ⟨hv, h0⟩ | ⟨g, cp, cur, hv, _⟩
  · have := ho.1
    rw [h0, Nat.zero_mul] at this
    rw [List.eq_nil_of_length_eq_zero this] at hj
    simp at hj
  · obtain ⟨rfl, _, rfl⟩ : A = some ⟨g, 0, none⟩ ∧ n = n ∧ cap = cp := by simpa using hv
    refine ⟨g, rfl, ?_, ho.frozenAt j⟩
    have e : (⟨g, 0, none⟩ : Addr).add j = ⟨g, j, none⟩ := by unfold Addr.add; split <;> simp_all
    rw [← e]
    exact ho.cells (g := g) rfl j u hj
theorem Hp.rowNil {e : TypeId} {size n cap : Nat} {xs : List Value} (h : Hp B w0 w L) (i : Nat) (hi : L[i]? = some (.row e size none n cap xs)) : n = 0 ∧ cap = 0 ∧ xs = [] := by
  have ho : w.ownsRow B e size (.slice none n cap) n xs := h.own _ (List.mem_of_getElem? hi)
  rcases ho.2 with ⟨hv, h0⟩ | ⟨g, cp, cur, hv, _⟩
  · obtain ⟨_, rfl⟩ : n = 0 ∧ cap = 0 := by simpa using hv
    exact ⟨h0, rfl, List.eq_nil_of_length_eq_zero (by have := ho.1; rw [h0] at this; simpa using this)⟩
  · simp at hv
theorem Hp.rowLen {e : TypeId} {size n cap : Nat} {A : Option Addr} {xs : List Value} (h : Hp B w0 w L) (i : Nat) (hi : L[i]? = some (.row e size A n cap xs)) : xs.length = n * size ∧ n ≤ cap := by
  have ho : w.ownsRow B e size (.slice A n cap) n xs := h.own _ (List.mem_of_getElem? hi)
  refine ⟨ho.1, ?_⟩
  rcases ho.2 with ⟨hv, h0⟩ | ⟨g, cp, cur, hv, _, _, hc, _⟩
  · omega
  · obtain ⟨rfl, _, rfl⟩ : A = some ⟨g, 0, none⟩ ∧ n = n ∧ cap = cp := by simpa using hv
    exact hc

/-- a region of quiet operations under Hp -/
theorem wp_region_hp {Q : Exit → Act → World → Prop} {id : Nat} {l : List Oper} {draw : Bool} {a : Act} (hm : P.follows .mixedOrders = true) (hok : fixedOk l.toArray = true)
    (hS : Hp B w0 w L) (h : Fixed P l.toArray (fun W => Hp B w0 W L) (fun a' => ∀ w', Hp B w0 w' L → Q .normal a' w') l a) : (Code.region id l.toArray draw).wp P Q a w :=
  wp_region_fixed (F := fun W => Hp B w0 W L) hm hok (fun _ _ h hx => Hp.step h hx) hS (Fixed.imp (fun _ hk w' _ hs => hk w' hs) l a h)
end
-- the world that has just been turned is forgotten (the tactic finds what is owned of it)
section
variable {P : Program} {B : Nat} {w0 : World} {L : List Item}
theorem nhLa {W : World} {o : Obj} {ops : Array Oper} {Q : Exit → Act → World → Prop} {l : List Oper} {a : Act} (k : ∀ w, Hp B w0 w L → wpList P ops Q l a w) (h : Hp B w0 (W.alloc o) L := by (repeat (first | with_reducible exact hS | with_reducible apply Hp.drew | with_reducible apply Hp.alloc | with_reducible apply Hp.put | with_reducible apply atS | with_reducible exact at0 | with_reducible exact at1 | with_reducible exact at2 | with_reducible exact at3 | with_reducible exact at4 | with_reducible exact at5))) : wpList P ops Q l a (W.alloc o) := k _ h
theorem nhLs {W : World} {p : Addr} {u : Value} {ops : Array Oper} {Q : Exit → Act → World → Prop} {l : List Oper} {a : Act} (k : ∀ w, Hp B w0 w L → wpList P ops Q l a w) (h : Hp B w0 (W.setCell p u) L := by (repeat (first | with_reducible exact hS | with_reducible apply Hp.drew | with_reducible apply Hp.alloc | with_reducible apply Hp.put | with_reducible apply atS | with_reducible exact at0 | with_reducible exact at1 | with_reducible exact at2 | with_reducible exact at3 | with_reducible exact at4 | with_reducible exact at5))) : wpList P ops Q l a (W.setCell p u) := k _ h
theorem nhLd {W : World} {ops : Array Oper} {Q : Exit → Act → World → Prop} {l : List Oper} {a : Act} (k : ∀ w, Hp B w0 w L → wpList P ops Q l a w) (h : Hp B w0 W.drew L := by (repeat (first | with_reducible exact hS | with_reducible apply Hp.drew | with_reducible apply Hp.alloc | with_reducible apply Hp.put | with_reducible apply atS | with_reducible exact at0 | with_reducible exact at1 | with_reducible exact at2 | with_reducible exact at3 | with_reducible exact at4 | with_reducible exact at5))) : wpList P ops Q l a W.drew := k _ h
theorem nhCa {W : World} {o : Obj} {c : Code} {Q : Exit → Act → World → Prop} {a : Act} (k : ∀ w, Hp B w0 w L → Code.wp P c Q a w) (h : Hp B w0 (W.alloc o) L := by (repeat (first | with_reducible exact hS | with_reducible apply Hp.drew | with_reducible apply Hp.alloc | with_reducible apply Hp.put | with_reducible apply atS | with_reducible exact at0 | with_reducible exact at1 | with_reducible exact at2 | with_reducible exact at3 | with_reducible exact at4 | with_reducible exact at5))) : Code.wp P c Q a (W.alloc o) := k _ h
theorem nhCs {W : World} {p : Addr} {u : Value} {c : Code} {Q : Exit → Act → World → Prop} {a : Act} (k : ∀ w, Hp B w0 w L → Code.wp P c Q a w) (h : Hp B w0 (W.setCell p u) L := by (repeat (first | with_reducible exact hS | with_reducible apply Hp.drew | with_reducible apply Hp.alloc | with_reducible apply Hp.put | with_reducible apply atS | with_reducible exact at0 | with_reducible exact at1 | with_reducible exact at2 | with_reducible exact at3 | with_reducible exact at4 | with_reducible exact at5))) : Code.wp P c Q a (W.setCell p u) := k _ h
theorem nhCd {W : World} {c : Code} {Q : Exit → Act → World → Prop} {a : Act} (k : ∀ w, Hp B w0 w L → Code.wp P c Q a w) (h : Hp B w0 W.drew L := by (repeat (first | with_reducible exact hS | with_reducible apply Hp.drew | with_reducible apply Hp.alloc | with_reducible apply Hp.put | with_reducible apply atS | with_reducible exact at0 | with_reducible exact at1 | with_reducible exact at2 | with_reducible exact at3 | with_reducible exact at4 | with_reducible exact at5))) : Code.wp P c Q a W.drew := k _ h
theorem nhPa {W : World} {o : Obj} {fn : Func} {R : Ending → World → Prop} {x : Exit} {a : Act} (k : ∀ w, Hp B w0 w L → bodyPost P fn R x a w) (h : Hp B w0 (W.alloc o) L := by (repeat (first | with_reducible exact hS | with_reducible apply Hp.drew | with_reducible apply Hp.alloc | with_reducible apply Hp.put | with_reducible apply atS | with_reducible exact at0 | with_reducible exact at1 | with_reducible exact at2 | with_reducible exact at3 | with_reducible exact at4 | with_reducible exact at5))) : bodyPost P fn R x a (W.alloc o) := k _ h
theorem nhPs {W : World} {p : Addr} {u : Value} {fn : Func} {R : Ending → World → Prop} {x : Exit} {a : Act} (k : ∀ w, Hp B w0 w L → bodyPost P fn R x a w) (h : Hp B w0 (W.setCell p u) L := by (repeat (first | with_reducible exact hS | with_reducible apply Hp.drew | with_reducible apply Hp.alloc | with_reducible apply Hp.put | with_reducible apply atS | with_reducible exact at0 | with_reducible exact at1 | with_reducible exact at2 | with_reducible exact at3 | with_reducible exact at4 | with_reducible exact at5))) : bodyPost P fn R x a (W.setCell p u) := k _ h
theorem nhPd {W : World} {fn : Func} {R : Ending → World → Prop} {x : Exit} {a : Act} (k : ∀ w, Hp B w0 w L → bodyPost P fn R x a w) (h : Hp B w0 W.drew L := by (repeat (first | with_reducible exact hS | with_reducible apply Hp.drew | with_reducible apply Hp.alloc | with_reducible apply Hp.put | with_reducible apply atS | with_reducible exact at0 | with_reducible exact at1 | with_reducible exact at2 | with_reducible exact at3 | with_reducible exact at4 | with_reducible exact at5))) : bodyPost P fn R x a W.drew := k _ h
theorem nhKa {W : World} {o : Obj} {f : FuncId} {R : Ending → World → Prop} {args : Array Value} (k : ∀ w, Hp B w0 w L → Calls P f args w R) (h : Hp B w0 (W.alloc o) L := by (repeat (first | with_reducible exact hS | with_reducible apply Hp.drew | with_reducible apply Hp.alloc | with_reducible apply Hp.put | with_reducible apply atS | with_reducible exact at0 | with_reducible exact at1 | with_reducible exact at2 | with_reducible exact at3 | with_reducible exact at4 | with_reducible exact at5))) : Calls P f args (W.alloc o) R := k _ h
theorem nhKs {W : World} {p : Addr} {u : Value} {f : FuncId} {R : Ending → World → Prop} {args : Array Value} (k : ∀ w, Hp B w0 w L → Calls P f args w R) (h : Hp B w0 (W.setCell p u) L := by (repeat (first | with_reducible exact hS | with_reducible apply Hp.drew | with_reducible apply Hp.alloc | with_reducible apply Hp.put | with_reducible apply atS | with_reducible exact at0 | with_reducible exact at1 | with_reducible exact at2 | with_reducible exact at3 | with_reducible exact at4 | with_reducible exact at5))) : Calls P f args (W.setCell p u) R := k _ h
theorem nhKd {W : World} {f : FuncId} {R : Ending → World → Prop} {args : Array Value} (k : ∀ w, Hp B w0 w L → Calls P f args w R) (h : Hp B w0 W.drew L := by (repeat (first | with_reducible exact hS | with_reducible apply Hp.drew | with_reducible apply Hp.alloc | with_reducible apply Hp.put | with_reducible apply atS | with_reducible exact at0 | with_reducible exact at1 | with_reducible exact at2 | with_reducible exact at3 | with_reducible exact at4 | with_reducible exact at5))) : Calls P f args W.drew R := k _ h
end
end Go.Proofs.YtcpnnffnkegamaaGreatDoor

/- A region of quiet operations, of new blocks, and of a tail that waits for them: walked in the order of the text, whatever order is drawn. For any program. -/
namespace Go.Proofs.YtcpnnffnkegamaaGreatDoor
set_option linter.all false
open Go.RowKit

/-- what an operation of a region is: quiet; pure (it may also come behind the tail); a new block; one of the tail -/
inductive Mark where
  | q
  | p
  | a (cs : List Value) (t : TypeId)
  | t
def Mark.isQ : Mark → Bool
  | .q => true
  | .p => true
  | _ => false
def Mark.isA : Mark → Bool
  | .a .. => true
  | _ => false
def Mark.isT : Mark → Bool
  | .t => true
  | _ => false
theorem Mark.trio (m : Mark) : (m.isQ = true ∧ m.isA = false ∧ m.isT = false) ∨ (m.isQ = false ∧ m.isA = true ∧ m.isT = false) ∨ (m.isQ = false ∧ m.isA = false ∧ m.isT = true) := by
  cases m <;> simp [Mark.isQ, Mark.isA, Mark.isT]

/-- i waits for j, straight or through others -/
def deps (ops : Array Oper) : Nat → Nat → Nat → Bool
  | 0, _, _ => false
  | f + 1, i, j => waits ops i j || (List.range ops.size).any fun k => waits ops i k && deps ops f k j
def tailOk (ops : Array Oper) (mk : Nat → Mark) : Bool :=
  fixedOk ops && (List.range ops.size).all fun i =>
    (!(mk i).isA || ((ops[i]?).map (·.guard.isNone)).getD false) &&
    (List.range ops.size).all fun j =>
      if (mk i).isT then (match mk j with
        | .q => deps ops 3 i j
        | .a .. => deps ops 3 i j
        | .t => !decide (j < i) || deps ops 3 i j
        | .p => true)
      else !(waits ops i j && !(mk j).isQ)

section
variable {P : Program} {ops : Array Oper} {mk : Nat → Mark}
theorem deps_closed {L : Nat → Bool} (hcl : ∀ i j, L i = true → waits ops i j = true → L j = true) : ∀ f i j, (∀ k, waits ops i k = true → L k = true) → deps ops f i j = true → L j = true
  | 0, _, _, _, h => by cases h
  | f + 1, i, j, hi, h => by
    unfold deps at h
    rw [Bool.or_eq_true] at h
    rcases h with h | h
    · exact hi j h
    · rw [List.any_eq_true] at h
      obtain ⟨k, _, hk⟩ := h
      rw [Bool.and_eq_true] at hk
      exact deps_closed hcl f k j (fun x hx => hcl k x (hi k hk.1) hx) hk.2

theorem frames_agree2 (hd : dstApart ops = true) (hl : looksOk ops = true) {vs us : Nat → Value} {L M : Nat → Bool} {a0 b0 : Act} (h0 : a0.tmps = b0.tmps) {i : Nat} {o : Oper} (hi : ops[i]? = some o)
    (h1 : ∀ j, j < i → waits ops i j = true → L j = true ∧ M j = true ∧ vs j = us j) (h2 : ∀ j, i < j → waits ops j i = true → L j = false ∧ M j = false)
    {t : Tmp} (ht : t ∈ o.looksAt ops) : (frameOf ops vs L a0 ops.size).tmps[t]? = (frameOf ops us M b0 ops.size).tmps[t]? := by
  have li : i < ops.size := (Array.getElem?_eq_some_iff.1 hi).1
  unfold looksOk at hl
  rw [List.all_eq_true] at hl
  have hli := hl i (by simpa using li)
  rw [hi] at hli
  simp only [Bool.and_eq_true] at hli
  have hlt := hli.2
  rw [List.all_eq_true] at hlt
  have hT := hlt t ht
  rw [List.all_eq_true] at hT
  by_cases hw : ∃ j, j < ops.size ∧ (ops[j]?).bind (·.dst) = some t
  · obtain ⟨j, lj, hj⟩ := hw
    have hJ := hT j (by simpa using lj)
    rw [hj] at hJ
    simp only [bne_self_eq_false, Bool.false_or, Bool.or_eq_true, Bool.and_eq_true, decide_eq_true_eq] at hJ
    rcases hJ with ⟨hji, hwt⟩ | ⟨hij, hwt⟩
    · obtain ⟨a, b, c⟩ := h1 j hji hwt
      rw [frame_at hd hj a _ lj, frame_at hd hj b _ lj, h0, c]
    · obtain ⟨a, b⟩ := h2 j hij hwt
      rw [frame_other _ (fun k _ hk e => by
          by_cases hkj : k = j
          · subst hkj; rw [a] at hk; cases hk
          · exact dst_spec hd (fun e => hkj e.symm) hj e),
        frame_other _ (fun k _ hk e => by
          by_cases hkj : k = j
          · subst hkj; rw [b] at hk; cases hk
          · exact dst_spec hd (fun e => hkj e.symm) hj e), h0]
  · have hno : ∀ k, k < ops.size → (ops[k]?).bind (·.dst) ≠ some t := fun k hk e => hw ⟨k, hk, e⟩
    rw [frame_other _ (fun k hk _ => hno k hk), frame_other _ (fun k hk _ => hno k hk), h0]

theorem frame_defers {vs : Nat → Value} {L : Nat → Bool} {a : Act} {ds : List Deferred} : ∀ n, frameOf ops vs L { a with defers := ds } n = { frameOf ops vs L a n with defers := ds }
  | 0 => rfl
  | n + 1 => by
    unfold frameOf
    rw [frame_defers n]
    split
    · cases (ops[n]?).bind (·.dst) <;> rfl
    · rfl

theorem wp_transfer {o : Oper} {a b : Act} {w : World} {K K' : Act → World → Prop} {QN Q : Exit → Act → World → Prop} (he : execOp b.eval o = execOp a.eval o) (hQ : ∀ e a w, QN e a w → e = .normal)
    (hk : ∀ v w', K (a.put o.dst v) w' → K' (b.put o.dst v) w') (hd : ∀ d w', K ({ a with defers := d :: a.defers }.put o.dst undef) w' → K' ({ b with defers := d :: b.defers }.put o.dst undef) w')
    (h : o.wp P a w K QN) : o.wp P b w K' Q := by
  unfold Oper.wp at *
  rw [he]
  revert h
  generalize (execOp a.eval o).run P w = r
  intro h
  match r, h with
  | .ok (.value v) w', h => exact hk v w' h
  | .ok .skip w', h => exact hk _ w' h
  | .ok (.defer d) w', h => exact hd d w' h
  | .ok (.enter f args) w', h =>
    refine Calls.mono (R := fun | .returned v, w'' => K (a.put o.dst v) w'' | .panicked chain, w'' => QN (.panic chain) a w'' | .outgrown, _ => LetsOut QN) h fun e w'' hx => ?_
    cases e with
    | returned v => exact hk v w'' hx
    | panicked c => cases hQ _ _ _ hx
    | outgrown => obtain ⟨_, _, hx⟩ := hx; cases hQ _ _ _ hx
  | .ok (.row row args) w', h => exact Rows.mono (R := fun v w'' => K (a.put o.dst v) w'') h fun v w'' hx => hk v w'' hx
  | .halt (.panic v) w', h => cases hQ _ _ _ h

theorem all_listed (hl : looksOk ops = true) {listed : Array Bool} (hs : listed.size = ops.size) (hr : Region.ready .any ops listed = []) : ∀ i, i < ops.size → listed.getD i false = true := by
  intro i
  induction i using Nat.strongRecOn with
  | _ i ih =>
    intro hi
    cases hb : listed.getD i false with
    | true => rfl
    | false =>
      have ho : ops[i]? = some ops[i] := Array.getElem?_eq_getElem hi
      have hmem : i ∈ Region.ready .any ops listed := mem_ready.2 ⟨by
        have hli : i < listed.size := by omega
        simpa [Array.getD_eq_getD_getElem?, hli] using hb, _, ho, fun e he hbd => by
          have hl' := hl
          unfold looksOk at hl'
          rw [List.all_eq_true] at hl'
          have h1 := hl' i (by simpa using hi)
          rw [ho] at h1
          simp only [Bool.and_eq_true] at h1
          have h2 := h1.1.2
          have h3 := (Array.all_eq_true_iff_forall_mem.1 h2) e he
          rw [hbd] at h3
          simp at h3
          exact ih e.on h3 (by omega)⟩
      rw [hr] at hmem
      cases hmem
end
end Go.Proofs.YtcpnnffnkegamaaGreatDoor

/- A region of quiet operations, of new blocks, and of a tail: the two phases. For any program. -/
namespace Go.Proofs.YtcpnnffnkegamaaGreatDoor
set_option linter.all false
open Go.RowKit
section
variable {P : Program} {ops : Array Oper} {mk : Nat → Mark}

theorem set_getD {listed : Array Bool} {i : Nat} (h : i < listed.size) (j : Nat) : (listed.setIfInBounds i true).getD j false = (j == i || listed.getD j false) := by
  by_cases e : j = i
  · subst e
    simp [Array.getD_eq_getD_getElem?, h]
  · rw [getD_set_ne false (fun h => e h.symm)]
    have : (j == i) = false := by simpa using e
    rw [this, Bool.false_or]
theorem set_count {listed : Array Bool} {i n f : Nat} (hs : i < listed.size) (hi : i < n) (h0 : listed.getD i true = false) (hn : ((List.range n).filter fun j => !listed.getD j true).length ≤ f + 1) :
    ((List.range n).filter fun j => !(listed.setIfInBounds i true).getD j true).length ≤ f := by
  have hlen : ((List.range n).filter fun j => !(listed.setIfInBounds i true).getD j true).length < ((List.range n).filter fun j => !listed.getD j true).length := by
    refine (filter_less (p := fun j => !listed.getD j true) (q := fun j => !(listed.setIfInBounds i true).getD j true) (i := i) (by simp only [h0]; rfl) (by simp [Array.getD_eq_getD_getElem?, hs]) _ ?_).2 (by simpa using hi)
    intro j hj hj'
    by_cases e : i = j
    · subst e
      simp [Array.getD_eq_getD_getElem?, hs] at hj'
    · rw [getD_set_ne true e] at hj'; exact hj'
  omega
theorem set_closed {listed : Array Bool} {i : Nat} {o : Oper} (hs : i < listed.size) (ho : ops[i]? = some o) (hall : ∀ e ∈ o.after, Region.binds .any e = true → listed.getD e.on false = true)
    (hcld : ∀ i j, listed.getD i false = true → waits ops i j = true → listed.getD j false = true) : ∀ k j, (listed.setIfInBounds i true).getD k false = true → waits ops k j = true → (listed.setIfInBounds i true).getD j false = true := by
  intro k j hk hw
  rw [set_getD hs] at hk ⊢
  by_cases e : k = i
  · subst e
    obtain ⟨e, he, hb, rfl⟩ := (waits_spec ho).1 hw
    rw [hall e he hb]; simp
  · have : (k == i) = false := by simpa using e
    rw [this, Bool.false_or] at hk
    rw [hcld k j hk hw]; simp

theorem tailOk_fixed (h : tailOk ops mk = true) : dstApart ops = true ∧ looksOk ops = true := by
  simp only [tailOk, fixedOk, Bool.and_eq_true] at h
  exact h.1
theorem tailOk_at (h : tailOk ops mk = true) {i j : Nat} (hi : i < ops.size) (hj : j < ops.size) : (if (mk i).isT then (match mk j with
        | .q => deps ops 3 i j
        | .a .. => deps ops 3 i j
        | .t => !decide (j < i) || deps ops 3 i j
        | .p => true)
      else !(waits ops i j && !(mk j).isQ)) = true := by
  simp only [tailOk, Bool.and_eq_true] at h
  have h2 := h.2
  rw [List.all_eq_true] at h2
  have h3 := h2 i (by simpa using hi)
  simp only [Bool.and_eq_true] at h3
  have h4 := h3.2
  rw [List.all_eq_true] at h4
  exact h4 j (by simpa using hj)
theorem tailOk_guard (h : tailOk ops mk = true) {i : Nat} {o : Oper} (ho : ops[i]? = some o) (hA : (mk i).isA = true) : o.guard = none := by
  have hi : i < ops.size := (Array.getElem?_eq_some_iff.1 ho).1
  simp only [tailOk, Bool.and_eq_true] at h
  have h2 := h.2
  rw [List.all_eq_true] at h2
  have h3 := h2 i (by simpa using hi)
  simp only [Bool.and_eq_true, hA, Bool.not_true, Bool.false_or, ho, Option.map_some, Option.getD_some] at h3
  simpa using h3.1
theorem waits_lt {i j : Nat} (h : waits ops i j = true) : i < ops.size := by
  rcases Nat.lt_or_ge i ops.size with h' | h'
  · exact h'
  · simp [waits, Array.getElem?_eq_none h'] at h
theorem waits_on {i j : Nat} (hl : looksOk ops = true) (h : waits ops i j = true) : j < i := by
  have hi := waits_lt h
  have ho : ops[i]? = some ops[i] := Array.getElem?_eq_getElem hi
  obtain ⟨e, he, hb, rfl⟩ := (waits_spec ho).1 h
  unfold looksOk at hl
  rw [List.all_eq_true] at hl
  have h1 := hl i (by simpa using hi)
  rw [ho] at h1
  simp only [Bool.and_eq_true] at h1
  have h3 := (Array.all_eq_true_iff_forall_mem.1 h1.1.2) e he
  rw [hb] at h3
  simpa using h3
/-- who is not of the tail waits for quiet ones alone -/
theorem waits_quiet (h : tailOk ops mk = true) {i j : Nat} (hT : (mk i).isT = false) (hw : waits ops i j = true) : (mk j).isQ = true := by
  have hi := waits_lt hw
  have hj := Nat.lt_trans (waits_on (tailOk_fixed h).2 hw) hi
  have := tailOk_at h hi hj
  rw [hT, hw] at this
  simpa using this

/-- the quiet ones, ahead of operation i -/
def frameQ (ops : Array Oper) (mk : Nat → Mark) (vs : Nat → Value) (a0 : Act) (i : Nat) : Act := frameOf ops vs (fun j => decide (j < i) && (mk j).isQ) a0 ops.size
def PureOK (P : Program) (o : Oper) (a : Act) (v : Value) : Prop := ∀ w, (execOp a.eval o).run P w = .ok (.value v) w

theorem sel_of (hl : looksOk ops = true) {i : Nat} {o : Oper} (ho : ops[i]? = some o) : isSelect o = false := by
  unfold looksOk at hl
  rw [List.all_eq_true] at hl
  have h1 := hl i (by simpa using (Array.getElem?_eq_some_iff.1 ho).1)
  rw [ho] at h1
  simp only [Bool.and_eq_true, Bool.not_eq_true'] at h1
  exact h1.1.1
theorem exec_agree (hl : looksOk ops = true) {i : Nat} {o : Oper} (ho : ops[i]? = some o) {a b : Act} (h : ∀ t ∈ o.looksAt ops, a.tmps[t]? = b.tmps[t]?) : execOp a.eval o = execOp b.eval o :=
  execOp_congr o (fun cs c e => by have := sel_of hl ho; simp [isSelect, e] at this) (eval_agree h)

theorem wpOp_pure {Q : Exit → Act → World → Prop} {i : Nat} {o : Oper} (hl : looksOk ops = true) (hi : ops[i]? = some o) {a b : Act} {w : World} {v : Value} {K : Act → World → Prop}
    (hab : ∀ t ∈ o.looksAt ops, a.tmps[t]? = b.tmps[t]?) (hs : (Region.wanted o (yielded ops b.tmps) = true ∧ PureOK P o b v) ∨ (Region.wanted o (yielded ops b.tmps) = false ∧ v = undef))
    (h : K (a.put o.dst v) w) : wpOp P ops Q i K a w := by
  unfold wpOp
  simp only [hi]
  rw [wanted_agree hab]
  rcases hs with ⟨hw, hr⟩ | ⟨hw, rfl⟩
  · rw [if_pos hw]
    refine .inl ?_
    unfold Oper.wp
    rw [exec_agree hl hi hab, hr w]
    exact h
  · rw [hw]
    exact h
theorem frame_vsL {vs us : Nat → Value} {L : Nat → Bool} {a0 : Act} (h : ∀ i, L i = true → vs i = us i) : ∀ n, frameOf ops vs L a0 n = frameOf ops us L a0 n
  | 0 => rfl
  | n + 1 => by
    unfold frameOf
    rw [frame_vsL h n]
    split
    · rename_i hl
      rw [h n hl]
    · rfl
theorem filter_head {p q : Nat → Bool} {i n : Nat} (hi : i < n) (h1 : ∀ j, j < i → p j = false) (h2 : p i = true) (h3 : ∀ j, q j = (p j && j != i)) : (List.range n).filter p = i :: (List.range n).filter q := by
  have hr : List.range n = List.range i ++ i :: List.range' (i + 1) (n - i - 1) := by
    rw [List.range_eq_range', List.range_eq_range', ← List.range'_succ, show n - i - 1 + 1 = n - i by omega]
    have := List.range'_append (s := 0) (m := i) (n := n - i) (step := 1)
    simp only [Nat.one_mul, Nat.zero_add] at this
    rw [this, show i + (n - i) = n by omega]
  rw [hr, List.filter_append, List.filter_append, List.filter_cons, List.filter_cons, if_pos h2, if_neg (by rw [h3]; simp)]
  have e1 : (List.range i).filter p = [] := List.filter_eq_nil_iff.2 fun j hj => by rw [h1 j (by simpa using hj)]; simp
  have e2 : (List.range i).filter q = [] := List.filter_eq_nil_iff.2 fun j hj => by rw [h3, h1 j (by simpa using hj)]; simp
  rw [e1, e2]
  simp only [List.nil_append, List.cons.injEq, true_and]
  refine List.filter_congr fun j hj => ?_
  rw [h3]
  have : i + 1 ≤ j := (List.mem_range'_1.1 hj).1
  have : (j != i) = true := by simp; omega
  rw [this, Bool.and_true]

theorem phase2 {Q QN : Exit → Act → World → Prop} {a00 : Act} {vsQ : Nat → Value} (hok : tailOk ops mk = true) (hQN : ∀ a w, QN .normal a w → Q .normal a w) (hQN' : ∀ e a w, QN e a w → e = .normal)
    (hpure : ∀ i o, ops[i]? = some o → mk i = .p → (Region.wanted o (yielded ops (frameQ ops mk vsQ a00 i).tmps) = true ∧ PureOK P o (frameQ ops mk vsQ a00 i) (vsQ i)) ∨ (Region.wanted o (yielded ops (frameQ ops mk vsQ a00 i).tmps) = false ∧ vsQ i = undef)) :
    ∀ (fuel : Nat) (listed : Array Bool) (vs : Nat → Value) (a0 : Act) (w : World) (rest : List Nat), a0.tmps = a00.tmps → listed.size = ops.size → ((List.range ops.size).filter fun j => !listed.getD j true).length ≤ fuel →
      (∀ i j, listed.getD i false = true → waits ops i j = true → listed.getD j false = true) →
      (∀ i, i < ops.size → mk i ≠ .p → (mk i).isT = false → listed.getD i false = true) → (∀ i, (mk i).isQ = true → vs i = vsQ i) →
      rest = (List.range ops.size).filter (fun i => (mk i).isT && !listed.getD i false) →
      wpList P ops QN (rest.filterMap (ops[·]?)) (frameOf ops vs (fun j => !(mk j).isT || listed.getD j false) a0 ops.size) w →
      wpAny P .any ops Q fuel listed (frameOf ops vs (fun j => listed.getD j false) a0 ops.size) w := by
  obtain ⟨hd, hl⟩ := tailOk_fixed hok
  have fin : ∀ (listed : Array Bool) (vs : Nat → Value) (a0 : Act) (w : World) (rest : List Nat), listed.size = ops.size → rest = (List.range ops.size).filter (fun i => (mk i).isT && !listed.getD i false) →
      wpList P ops QN (rest.filterMap (ops[·]?)) (frameOf ops vs (fun j => !(mk j).isT || listed.getD j false) a0 ops.size) w → Region.ready .any ops listed = [] → Q .normal (frameOf ops vs (fun j => listed.getD j false) a0 ops.size) w := by
    intro listed vs a0 w rest hs hrest hw hr
    have hall := all_listed hl hs hr
    have : rest = [] := by
      rw [hrest, List.filter_eq_nil_iff]
      intro i hi
      simp [hall i (by simpa using hi)]
    subst this
    rw [frame_congr (M := fun j => !(mk j).isT || listed.getD j false) ops.size (fun j hj => by simp [hall j hj])]
    exact hQN _ _ hw
  intro fuel
  induction fuel with
  | zero =>
    intro listed vs a0 w rest _ hs hn _ _ _ hrest hw
    have hr : Region.ready .any ops listed = [] := by
      rw [List.eq_nil_iff_forall_not_mem]
      intro i hi
      obtain ⟨h0, o, ho, _⟩ := mem_ready.1 hi
      have : i ∈ (List.range ops.size).filter fun j => !listed.getD j true := List.mem_filter.2 ⟨by simpa using (Array.getElem?_eq_some_iff.1 ho).1, by simp [h0]⟩
      rw [List.eq_nil_of_length_eq_zero (Nat.le_zero.1 hn)] at this
      cases this
    exact ⟨hr, fin listed vs a0 w rest hs hrest hw hr⟩
  | succ fuel ih =>
    intro listed vs a0 w rest h00 hs hn hcld hqa hvs hrest hw
    refine ⟨fin listed vs a0 w rest hs hrest hw, fun i hi => ?_⟩
    obtain ⟨h0, o, ho, hall⟩ := mem_ready.1 hi
    have hi' : i < ops.size := (Array.getElem?_eq_some_iff.1 ho).1
    have hsi : i < listed.size := by omega
    have hLi : listed.getD i false = false := by simpa [Array.getD_eq_getD_getElem?, hsi] using h0
    have hwl : ∀ j, waits ops i j = true → listed.getD j false = true := fun j hj => by
      obtain ⟨e, he, hb, rfl⟩ := (waits_spec ho).1 hj
      exact hall e he hb
    have hlw : ∀ j, waits ops j i = true → listed.getD j false = false := fun j hj => by
      cases hb : listed.getD j false with
      | false => rfl
      | true => rw [hcld j i hb hj] at hLi; cases hLi
    have hset := set_getD hsi
    cases hT : (mk i).isT with
    | false =>
      have hp : mk i = .p := by
        by_cases e : mk i = .p
        · exact e
        · rw [hqa i hi' e hT] at hLi; cases hLi
      have hput : (ops[i]?).bind (·.dst) = o.dst := by rw [ho]; rfl
      have hwQ : vs i = vsQ i := hvs i (by rw [hp]; rfl)
      refine wpOp_pure (b := frameQ ops mk vsQ a00 i) (v := vsQ i) hl ho ?_ (hpure i o ho hp) ?_
      · intro t ht
        unfold frameQ
        refine frames_agree2 hd hl h00 ho (fun j hj hw => ⟨hwl j hw, ?_, ?_⟩) (fun j hj hw => ⟨hlw j hw, by simp; omega⟩) ht
        · simp [hj, waits_quiet hok hT hw]
        · exact hvs j (waits_quiet hok hT hw)
      · have hmore := frame_more hd (vs := vs) (L := fun j => listed.getD j false) (a0 := a0) hLi ops.size hi'
        rw [hput, hwQ] at hmore
        rw [← hmore, frame_congr (M := fun j => (listed.setIfInBounds i true).getD j false) ops.size (fun j _ => (hset j).symm)]
        refine ih _ vs a0 w rest h00 (by simpa using hs) (set_count hsi hi' h0 hn) (set_closed hsi ho hall hcld) (fun j hj h1 h2 => by rw [hset, hqa j hj h1 h2]; simp) hvs ?_ ?_
        · rw [hrest]
          refine List.filter_congr fun j _ => ?_
          rw [hset]
          by_cases e : j = i
          · subst e; simp [hT]
          · have : (j == i) = false := by simpa using e
            rw [this, Bool.false_or]
        · rw [frame_congr (M := fun j => !(mk j).isT || listed.getD j false) ops.size (fun j _ => by
            rw [hset]
            by_cases e : j = i
            · subst e; simp [hT]
            · have : (j == i) = false := by simpa using e
              rw [this, Bool.false_or])]
          exact hw
    | true =>
      have hput : (ops[i]?).bind (·.dst) = o.dst := by rw [ho]; rfl
      have hnQ : ∀ j, (mk j).isQ = true → j ≠ i := fun j hj e => by subst e; rcases (mk j).trio with h | h | h <;> simp_all
      have hhead : rest = i :: (List.range ops.size).filter (fun j => (mk j).isT && !(listed.setIfInBounds i true).getD j false) := by
        rw [hrest]
        refine filter_head hi' (fun j hj => ?_) (by simp [hT, hLi]) (fun j => ?_)
        · cases hTj : (mk j).isT with
          | false => simp
          | true =>
            have hdep := tailOk_at hok hi' (Nat.lt_trans hj hi')
            rw [hT] at hdep
            have hmt : mk j = .t := by cases hm : mk j <;> simp_all [Mark.isT]
            rw [hmt] at hdep
            simp only [if_true, hj, decide_true, Bool.not_true, Bool.false_or] at hdep
            rw [deps_closed hcld 3 i j hwl hdep]; simp
        · rw [hset]
          by_cases e : j = i
          · subst e; simp
          · have : (j == i) = false := by simpa using e
            have h' : (j != i) = true := by simpa using e
            rw [this, h', Bool.false_or, Bool.and_true]
      rw [hhead, List.filterMap_cons, ho] at hw
      have hLf : ∀ j, (!(mk j).isT || (listed.setIfInBounds i true).getD j false) = (j == i || (!(mk j).isT || listed.getD j false)) := fun j => by
        rw [hset]
        by_cases e : j = i
        · subst e; simp
        · have : (j == i) = false := by simpa using e
          rw [this]; simp
      have hgo : ∀ (v : Value) (w' : World) (ds : List Deferred), wpList P ops QN ((List.filter (fun j => (mk j).isT && !(listed.setIfInBounds i true).getD j false) (List.range ops.size)).filterMap (ops[·]?)) ((frameOf ops vs (fun j => !(mk j).isT || listed.getD j false) { a0 with defers := ds } ops.size).put o.dst v) w' →
          wpAny P .any ops Q fuel (listed.setIfInBounds i true) ((frameOf ops vs (fun j => listed.getD j false) { a0 with defers := ds } ops.size).put o.dst v) w' := by
        intro v w' ds hw'
        obtain ⟨us, hus⟩ : ∃ us : Nat → Value, us = fun j => if j = i then v else vs j := ⟨_, rfl⟩
        have hui : us i = v := by rw [hus]; simp
        have huo : ∀ j, j ≠ i → us j = vs j := fun j hj => by rw [hus]; simp [hj]
        have m1 := frame_more hd (vs := us) (L := fun j => listed.getD j false) (a0 := { a0 with defers := ds }) hLi ops.size hi'
        have m2 := frame_more hd (vs := us) (L := fun j => !(mk j).isT || listed.getD j false) (a0 := { a0 with defers := ds }) (i := i) (by rw [hT, hLi]; rfl) ops.size hi'
        rw [hput, hui, frame_vsL (us := vs) (L := fun j => listed.getD j false) (fun j hj => huo j (fun e => by have hj : listed.getD j false = true := hj; rw [e, hLi] at hj; cases hj))] at m1
        rw [hput, hui, frame_vsL (us := vs) (L := fun j => !(mk j).isT || listed.getD j false) (fun j hj => huo j (fun e => by have hj : (!(mk j).isT || listed.getD j false) = true := hj; rw [e, hT, hLi] at hj; cases hj))] at m2
        rw [← m1, frame_congr (M := fun j => (listed.setIfInBounds i true).getD j false) ops.size (fun j _ => (hset j).symm)]
        rw [← m2, frame_congr (M := fun j => !(mk j).isT || (listed.setIfInBounds i true).getD j false) ops.size (fun j _ => (hLf j).symm)] at hw'
        exact ih _ us { a0 with defers := ds } w' _ h00 (by simpa using hs) (set_count hsi hi' h0 hn) (set_closed hsi ho hall hcld) (fun j hj h1 h2 => by rw [hset, hqa j hj h1 h2]; simp)
          (fun j hj => by rw [huo j (hnQ j hj)]; exact hvs j hj) rfl hw'
      have hab : ∀ t ∈ o.looksAt ops, (frameOf ops vs (fun j => listed.getD j false) a0 ops.size).tmps[t]? = (frameOf ops vs (fun j => !(mk j).isT || listed.getD j false) a0 ops.size).tmps[t]? := fun t ht =>
        frames_agree2 hd hl rfl ho (fun j hj hw => ⟨hwl j hw, by simp [hwl j hw], rfl⟩) (fun j hj hw => ⟨hlw j hw, by
          cases hTj : (mk j).isT with
          | true => simp [hlw j hw]
          | false =>
            have := waits_quiet hok hTj hw
            exact absurd rfl (hnQ i this)⟩) ht
      have e0 : ∀ (L : Nat → Bool) (ds : List Deferred), ({ frameOf ops vs L a0 ops.size with defers := ds } : Act) = frameOf ops vs L { a0 with defers := ds } ops.size := fun L ds => (frame_defers ops.size).symm
      have e1 : ∀ (L : Nat → Bool), (frameOf ops vs L a0 ops.size).defers = a0.defers := fun L => (frame_size ops.size).2
      unfold wpOp
      simp only [ho]
      rw [wanted_agree hab]
      unfold wpList at hw
      split at hw
      · rename_i hwt
        rw [if_pos hwt]
        rcases hw with hw | ⟨_, a', w'', hw⟩
        · refine .inl (wp_transfer (exec_agree hl ho hab) hQN' (fun v w' h => hgo v w' a0.defers h) (fun d w' h => ?_) hw)
          rw [e0, e1] at h ⊢
          exact hgo undef w' _ h
        · cases hQN' _ _ _ hw
      · rename_i hwt
        rw [if_neg hwt]
        exact hgo undef w a0.defers hw
end
end Go.Proofs.YtcpnnffnkegamaaGreatDoor
