/- A region of quiet operations, of new blocks, and of a tail, under Hp. For any program. -/
import Derived.Test.YtbfccjjnnkomcaaDoorHpReg
namespace Go.Proofs.YtbfccjjnnkomcaaDoor
open Go.RowKit
section
variable {P : Program} {a : Act}
def itemsOf (bs : Nat → Nat) (ms : List Mark) (n : Nat) : List Item := (blksOf bs ms n).map fun b => .blk b.1 b.2.1 b.2.2
/-- **A region of quiet operations, of new blocks, and of a tail**, whatever order is drawn. -/
theorem wp_region_tail_hp {B : Nat} {w0 w : World} {L : List Item} {Q : Exit → Act → World → Prop} {id : Nat} {l : List Oper} (ms : List Mark) (hm : P.follows .mixedOrders = true) (hlen : l.length = ms.length) (hok : tailOk l.toArray (mkOf ms) = true)
    (hS : Hp B w0 w L) (h : Walk P l.toArray (fun W => Hp B w0 W L) (fun a' => ∀ (bs : Nat → Nat) (w' : World), Hp B w0 w' (itemsOf bs ms 0 ++ L) → ∀ QN : Exit → Act → World → Prop, (∀ a w, Q .normal a w → QN .normal a w) →
      wpList P l.toArray QN (tailsOf l ms) (putB bs l ms 0 a') w') ms l a) : (Code.region id l.toArray true).wp P Q a w := by
  obtain ⟨hd, hl⟩ := tailOk_fixed hok
  have hcl : ∀ W W', Hp B w0 W L → Ext W W' → Hp B w0 W' L := fun _ _ h hx => Hp.step h hx
  have hmk : ∀ j m, ms[j]? = some m → m = mkOf ms j := fun j m hj => by simp [mkOf, hj]
  obtain ⟨vsQ, _, hK, hst⟩ := Walk.values (mk := mkOf ms) hd (a0 := a) l ms 0 (fun _ => undef) (by simp) (by simp) (fun j m hj => by rw [Nat.zero_add]; exact hmk j m hj) (by
    have : frameQ l.toArray (mkOf ms) (fun _ => undef) a 0 = a := by
      unfold frameQ
      generalize l.toArray.size = n
      induction n with
      | zero => rfl
      | succ n ih => unfold frameOf; simpa using ih
    rw [this]; exact h)
  refine wp_region_any hm ?_
  have hxd : Ext w w.drew := (Ext.refl w).drew
  have key := phase1 (Q := Q) (a0 := a) (vsQ := vsQ) (ws := w) hok hcl (fun i o ho => hst i o (Nat.zero_le _) ho) (fun vs w' hvs hF hx hM QN hQN => ?_) l.toArray.size (Array.replicate l.toArray.size false) vsQ w.drew (by simp) (by
      have := List.length_filter_le (fun j => !(Array.replicate l.toArray.size false).getD j true) (List.range l.toArray.size)
      simpa using this) (fun i j hi => by rw [repl_false] at hi; cases hi) (fun i _ => repl_false _ _) (fun _ _ => rfl) (hcl w w.drew hS hxd) hxd ⟨(fun i cs t _ hi => by have hi : (Array.replicate l.toArray.size false).getD i false = true := hi; rw [repl_false] at hi; cases hi), (fun i j _ _ hi _ _ => by have hi : (Array.replicate l.toArray.size false).getD i false = true := hi; rw [repl_false] at hi; cases hi)⟩
  · rw [frame_congr (M := fun _ => false) l.toArray.size (fun j hj => repl_false _ _)] at key
    rw [show frameOf l.toArray vsQ (fun _ => false) a l.toArray.size = a from by
      generalize l.toArray.size = n
      induction n with
      | zero => rfl
      | succ n ih => unfold frameOf; simpa using ih] at key
    exact key
  · obtain ⟨bs, hbs⟩ : ∃ bs : Nat → Nat, ∀ i cs t, i < l.toArray.size → mkOf ms i = .a cs t → vs i = .pointer (some ⟨bs i, 0, none⟩) := ⟨fun i => match vs i with | .pointer (some p) => p.block | _ => 0, fun i cs t hi hmi => by
      obtain ⟨b, h1, _, _⟩ := hM.at_ i cs t hmi (by simpa using hi)
      simp only [h1]⟩
    have hin : ∀ j cs t, ms[j]? = some (.a cs t) → j < l.toArray.size ∧ mkOf ms j = .a cs t := fun j cs t hj => ⟨by
      have := (List.getElem?_eq_some_iff.1 hj).1
      simp; omega, by simp [mkOf, hj]⟩
    have hS' : Hp B w0 w' (itemsOf bs ms 0 ++ L) := by
      have hmem : ∀ x ∈ itemsOf bs ms 0, ∃ j cs ty, j < l.toArray.size ∧ mkOf ms j = .a cs ty ∧ x = .blk (bs j) cs ty ∧ w.heap.size ≤ bs j ∧ w'.heap[bs j]? = some (.cells cs.toArray ty (0, 0)) := fun x hx => by
        obtain ⟨y, hy, rfl⟩ := List.mem_map.1 hx
        obtain ⟨j, cs, ty, hj, rfl⟩ := mem_blks ms 0 hy
        obtain ⟨lj, mj⟩ := hin j cs ty hj
        obtain ⟨b, h1, h2, h3⟩ := hM.at_ j cs ty mj (by simpa using lj)
        rw [hbs j cs ty lj mj] at h1
        simp only [Value.pointer.injEq, Option.some.injEq, Addr.mk.injEq, and_true] at h1
        simp only [Nat.zero_add]
        exact ⟨j, cs, ty, lj, mj, rfl, by rw [h1]; exact h2, by rw [h1]; exact h3⟩
      refine ⟨hF.below, hF.base, List.pairwise_append.2 ⟨?_, hF.apart, fun x hx y hy => ?_⟩, fun x hx => ?_⟩
      · unfold itemsOf
        refine List.pairwise_map.2 ((blks_apart ms 0 fun i j hij ⟨c1, t1, hi⟩ ⟨c2, t2, hj⟩ => ?_).imp fun h => .inr (by simpa [Item.block] using h))
        rw [Nat.zero_add, Nat.zero_add]
        obtain ⟨li, mi⟩ := hin i c1 t1 hi
        obtain ⟨lj, mj⟩ := hin j c2 t2 hj
        intro e
        refine hM.ne i j (by rw [mi]; rfl) (by rw [mj]; rfl) (by simpa using li) (by simpa using lj) hij ?_
        rw [hbs i c1 t1 li mi, hbs j c2 t2 lj mj, e]
      · obtain ⟨j, cs, ty, _, _, rfl, h2, _⟩ := hmem x hx
        cases hyb : y.block with
        | none => exact clash.symm (.inl hyb)
        | some g =>
          right
          have := ((hS.own y hy).lt g hyb).2
          rw [hyb]
          simp only [Item.block, ne_eq, Option.some.injEq]
          omega
      · rcases List.mem_append.1 hx with hx | hx
        · obtain ⟨j, cs, ty, _, _, rfl, h2, h3⟩ := hmem x hx
          exact ⟨Nat.le_trans hS.base h2, h3⟩
        · exact hF.own x hx
    have hw := hK bs w' hS' QN hQN
    have e1 : frameQ l.toArray (mkOf ms) vsQ a l.toArray.size = frameOf l.toArray vs (fun j => (mkOf ms j).isQ || (decide (j < 0) && (mkOf ms j).isA)) a l.toArray.size := by
      unfold frameQ
      rw [frame_congr (M := fun j => (mkOf ms j).isQ || (decide (j < 0) && (mkOf ms j).isA)) l.toArray.size (fun j hj => by rw [show decide (j < l.toArray.size) = true by simpa using hj]; simp)]
      exact frame_vsL (fun i hi => by
        have : (mkOf ms i).isQ = true := by simpa using hi
        exact (hvs i this).symm) _
    rw [e1, putB_eq hd hbs l ms 0 hlen (by simp) (by simp) (fun j m hj => by rw [Nat.zero_add]; exact hmk j m hj)] at hw
    have e2 := tails_eq (ops := l.toArray) (mk := mkOf ms) l ms 0 hlen (by simp) (fun j m hj => by rw [Nat.zero_add]; exact hmk j m hj)
    rw [← List.range_eq_range'] at e2
    rw [show l.toArray.size = l.length by simp]
    rw [e2]
    exact hw
end
end Go.Proofs.YtbfccjjnnkomcaaDoor
