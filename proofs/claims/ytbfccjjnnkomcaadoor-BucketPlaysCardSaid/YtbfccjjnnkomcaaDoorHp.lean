/- What a call owns, in general: blocks whose cells are known, slices that it builds; each apart from the others; kept over allocations, stores, appends, calls. For any program. -/
import Derived.Test.YtbfccjjnnkomcaaDoorSt
import Derived.Test.YtbfccjjnnkomcaaDoorMem
import Derived.Test.YtbfccjjnnkomcaaDoorRegion
import Derived.Test.YtbfccjjnnkomcaaDoorStReg
import Derived.Lib.AppendStr
import Derived.Laws.MakeOwn
namespace Go.Proofs.YtbfccjjnnkomcaaDoor
open Go.RowKit

/-- a thing that the call owns: a block with its cells; a slice of n elements with its cells -/
inductive Item where
  | blk (g : Nat) (cs : List Value) (t : TypeId)
  | row (e : TypeId) (size : Nat) (A : Option Addr) (n cap : Nat) (xs : List Value)
  | ob (g : Nat) (o : Obj)
  | mp (m : Option Nat) (o : Obj)
def Item.block : Item → Option Nat
  | .blk g _ _ => some g
  | .row _ _ A _ _ _ => A.map (·.block)
  | .ob g _ => some g
  | .mp m _ => m
def Item.at (B : Nat) (w : World) : Item → Prop
  | .blk g cs t => B ≤ g ∧ w.heap[g]? = some (.cells cs.toArray t (0, 0))
  | .row e size A n cap xs => w.ownsRow B e size (.slice A n cap) n xs
  | .ob g o => B ≤ g ∧ w.heap[g]? = some o
  | .mp m o => ∀ g, m = some g → B ≤ g ∧ w.heap[g]? = some o
def clash (a b : Item) : Prop := a.block = none ∨ a.block ≠ b.block
theorem clash.symm {a b : Item} (h : clash a b) : clash b a := by
  unfold clash at *
  cases hb : b.block with
  | none => exact .inl rfl
  | some g => rcases h with h | h
              · right; rw [h]; simp
              · right; rw [hb] at h; exact fun e => h e.symm
/-- since w0: below B all is as it was; the things of L are the call's own, from B on, apart -/
structure Hp (B : Nat) (w0 w : World) (L : List Item) : Prop where
  below : Below B w0 w
  base : B ≤ w.heap.size
  apart : L.Pairwise clash
  own : ∀ x ∈ L, x.at B w
theorem own_none {A : Option Addr} {n cap : Nat} : (Value.slice A n cap).ownBlock = A.map (·.block) := by cases A <;> rfl
/-- the facts on the blocks' cells -/
def HFacts (w : World) : List Item → Prop
  | [] => True
  | .blk g cs _ :: l => cellFacts w g 0 cs ∧ HFacts w l
  | .row .. :: l => HFacts w l
  | .ob .. :: l => HFacts w l
  | .mp .. :: l => HFacts w l

section
variable {P : Program} {B : Nat} {w0 w w' : World} {L : List Item} {x : Item} {row : Option Nat}
theorem Item.at.lt (h : x.at B w) : ∀ k, x.block = some k → B ≤ k ∧ k < w.heap.size := by
  intro k hk
  cases x with
  | blk g cs t =>
    simp [Item.block] at hk; subst hk
    exact ⟨h.1, heap_lt h.2⟩
  | row e size A n cap xs => exact World.ownsRow.lt h k (by rw [own_none]; exact hk)
  | ob g o =>
    simp [Item.block] at hk; subst hk
    exact ⟨h.1, (Array.getElem?_eq_some_iff.1 h.2).1⟩
  | mp m o => exact ⟨(h k hk).1, (Array.getElem?_eq_some_iff.1 (h k hk).2).1⟩
theorem Item.at.kept (h : x.at B w) (hg : w.grownBy w' row) (hne : x.block = none ∨ x.block ≠ row) : x.at B w' := by
  cases x with
  | blk g cs t =>
    refine ⟨h.1, ?_⟩
    rw [hg.block g (heap_lt h.2) (by simpa [Item.block] using hne)]
    exact h.2
  | row e size A n cap xs => exact World.ownsRow.kept h hg (by rw [own_none]; exact hne)
  | ob g o =>
    refine ⟨h.1, ?_⟩
    rw [hg.block g (Array.getElem?_eq_some_iff.1 h.2).1 (by simpa [Item.block] using hne)]
    exact h.2
  | mp m o =>
    intro g hm
    refine ⟨(h g hm).1, ?_⟩
    rw [hg.block g (Array.getElem?_eq_some_iff.1 (h g hm).2).1 (by subst hm; simpa [Item.block] using hne)]
    exact (h g hm).2
theorem Hp.nil (h : Below B w0 w) (hB : B ≤ w.heap.size) : Hp B w0 w [] := ⟨h, hB, List.Pairwise.nil, fun _ h => by cases h⟩
theorem Hp.init (w : World) : Hp w.heap.size w w [] := Hp.nil (Below.refl _ _) (Nat.le_refl _)
theorem Hp.ext (h : Hp w0.heap.size w0 w L) : Ext w0 w := h.below
theorem Hp.grown (h : Hp B w0 w L) (hg : w.grownBy w' none) : Hp B w0 w' L :=
  ⟨h.below.grown hg h.base (fun k hk => by cases hk), Nat.le_trans h.base hg.size, h.apart, fun x hx => (h.own x hx).kept hg (by cases hb : x.block <;> simp)⟩
theorem Hp.step (h : Hp B w0 w L) (hx : Ext w w') : Hp B w0 w' L := h.grown (hx.grownBy none)
theorem Hp.drew (h : Hp B w0 w L) : Hp B w0 w.drew L := h.step (Ext.refl w).drew
theorem Hp.old (h : Hp B w0 w L) (o : Obj) : Hp B w0 (w.alloc o) L := h.step ((Ext.refl w).alloc o)
theorem Hp.cons (h : Hp B w0 w L) (hx : x.at B w) (hc : ∀ y ∈ L, clash x y) : Hp B w0 w (x :: L) :=
  ⟨h.below, h.base, List.Pairwise.cons hc h.apart, fun y hy => (List.mem_cons.1 hy).elim (fun e => e ▸ hx) (h.own y)⟩
theorem Hp.fresh (h : Hp B w0 w L) {g : Nat} (hx : x.block = some g) (hg : w.heap.size ≤ g) : ∀ y ∈ L, clash x y := fun y hy => by
  right
  rw [hx]
  intro e
  have := (h.own y hy).lt g e.symm
  omega
theorem Hp.alloc (h : Hp B w0 w L) (cs : List Value) (t : TypeId) : Hp B w0 (w.alloc (.cells cs.toArray t)) (.blk w.heap.size cs t :: L) :=
  (h.old _).cons ⟨h.base, heap_alloc_new w _⟩ (h.fresh rfl (Nat.le_refl _))
theorem Hp.nilRow (h : Hp B w0 w L) (e : TypeId) (size : Nat) : Hp B w0 w (.row e size none 0 0 [] :: L) := h.cons (World.ownsRow_nil _ _ _ _) fun _ _ => .inl rfl
theorem Hp.sub {M : List Item} (h : Hp B w0 w L) (hs : M.Sublist L) : Hp B w0 w M := ⟨h.below, h.base, h.apart.sublist hs, fun x hx => h.own x (hs.subset hx)⟩
theorem Hp.drop (i : Nat) (h : Hp B w0 w L) : Hp B w0 w (L.eraseIdx i) := h.sub (List.eraseIdx_sublist L i)
theorem Hp.perm {M : List Item} (h : Hp B w0 w L) (hp : M.Perm L) : Hp B w0 w M := ⟨h.below, h.base, (hp.pairwise_iff (fun h => clash.symm h)).2 h.apart, fun x hx => h.own x (hp.subset hx)⟩
theorem perm_front : ∀ (L : List Item) (i : Nat) (x : Item), L[i]? = some x → (x :: L.eraseIdx i).Perm L
  | [], i, x, h => by simp at h
  | y :: L, 0, x, h => by simp at h; subst h; simp
  | y :: L, i + 1, x, h => by
    rw [List.eraseIdx_cons_succ]
    exact (List.Perm.swap y x _).trans ((perm_front L i x (by simpa using h)).cons y)
/-- the thing at i comes to the head -/
theorem Hp.front (i : Nat) (h : Hp B w0 w L) (hi : L[i]? = some x) : Hp B w0 w (x :: L.eraseIdx i) := h.perm (perm_front L i x hi)
/-- the thing behind the head at i comes to the second place -/
theorem Hp.second (i : Nat) {y : Item} (h : Hp B w0 w (y :: L)) (hi : L[i]? = some x) : Hp B w0 w (y :: x :: L.eraseIdx i) := h.perm ((perm_front L i x hi).cons y)
theorem Hp.tail (h : Hp B w0 w (x :: L)) : Hp B w0 w L := h.sub (List.sublist_cons_self x L)
theorem Hp.head (h : Hp B w0 w (x :: L)) : x.at B w := h.own x (by simp)

/-- the head has been written: a block, a row -/
theorem Hp.turn {y : Item} (h : Hp B w0 w (x :: L)) (hg : w.grownBy w' row) (hr : row = none ∨ row = x.block) (hy : y.at B w') (hb : y.block = x.block ∨ y.block = none ∨ ∃ g, y.block = some g ∧ w.heap.size ≤ g) : Hp B w0 w' (y :: L) := by
  obtain ⟨hc, ha⟩ := List.pairwise_cons.1 h.apart
  refine ⟨h.below.grown hg h.base (fun k hk => ?_), Nat.le_trans h.base hg.size, List.Pairwise.cons (fun z hz => ?_) ha, fun z hz => ?_⟩
  · rcases hr with hr | hr
    · rw [hr] at hk; cases hk
    · exact (h.head.lt k (by rw [← hr]; exact hk)).1
  · rcases hb with hb | hb | ⟨g, hb, hlt⟩
    · have := hc z hz
      unfold clash at *
      rwa [hb]
    · exact .inl hb
    · exact h.fresh hb hlt z (by simp [hz])
  · rcases List.mem_cons.1 hz with rfl | hz
    · exact hy
    · refine (h.own z (by simp [hz])).kept hg ?_
      rcases hr with hr | hr
      · rw [hr]; cases hb : z.block <;> simp
      · rw [hr]; exact (hc z hz).symm
theorem grownBy_set (w : World) (g j : Nat) (u : Value) : w.grownBy (w.setCell ⟨g, j, none⟩ u) (some g) :=
  ⟨rfl, rfl, rfl, by simp [World.setCell], fun k _ hk => heap_set_other (by simpa using hk)⟩
theorem Hp.put0 {g : Nat} {cs : List Value} {t : TypeId} (h : Hp B w0 w (.blk g cs t :: L)) (j : Nat) (u : Value) : Hp B w0 (w.setCell ⟨g, j, none⟩ u) (.blk g (cs.set j u) t :: L) :=
  h.turn (grownBy_set w g j u) (.inr rfl) ⟨h.head.1, by rw [heap_set h.head.2]; simp⟩ (.inl rfl)
theorem set_perm : ∀ (L : List Item) (i : Nat) (x y : Item), L[i]? = some x → (L.set i y).Perm (y :: L.eraseIdx i)
  | [], i, x, y, h => by simp at h
  | z :: L, 0, x, y, h => by simp
  | z :: L, i + 1, x, y, h => by
    rw [List.eraseIdx_cons_succ, List.set_cons_succ]
    exact ((set_perm L i x y (by simpa using h)).cons z).trans (List.Perm.swap y z _)
theorem Hp.put {g : Nat} {cs : List Value} {t : TypeId} {i j : Nat} {u : Value} (h : Hp B w0 w L) (hi : L[i]? = some (.blk g cs t)) : Hp B w0 (w.setCell ⟨g, j, none⟩ u) (L.set i (.blk g (cs.set j u) t)) :=
  ((h.front i hi).put0 j u).perm (set_perm L i _ _ hi)
theorem Hp.putRow {e : TypeId} {size g n cap : Nat} {xs : List Value} (h : Hp B w0 w (.row e size (some ⟨g, 0, none⟩) n cap xs :: L)) (j : Nat) (u : Value) : Hp B w0 (w.setCell ⟨g, j, none⟩ u) (.row e size (some ⟨g, 0, none⟩) n cap (xs.set j u) :: L) :=
  h.turn (grownBy_set w g j u) (.inr rfl) (World.ownsRow.stored h.head j u).1 (.inl rfl)
theorem Hp.blkAt {g : Nat} {cs : List Value} {t : TypeId} (h : Hp B w0 w L) (i : Nat) (hi : L[i]? = some (.blk g cs t)) : w.heap[g]? = some (.cells cs.toArray t (0, 0)) := (h.own _ (List.mem_of_getElem? hi)).2

theorem Item.at.mono {B2 : Nat} (h : x.at B w) (hb : B2 ≤ B) : x.at B2 w := by
  cases x with
  | blk g cs t => exact ⟨Nat.le_trans hb h.1, h.2⟩
  | ob g o => exact ⟨Nat.le_trans hb h.1, h.2⟩
  | mp m o => exact fun g hm => ⟨Nat.le_trans hb (h g hm).1, (h g hm).2⟩
  | row e size A n cap xs =>
    refine ⟨(show w.ownsRow B e size (.slice A n cap) n xs from h).1, ?_⟩
    rcases (show w.ownsRow B e size (.slice A n cap) n xs from h).2 with h | ⟨g, cp, cur, h1, h2, h3⟩
    · exact .inl h
    · exact .inr ⟨g, cp, cur, h1, Nat.le_trans hb h2, h3⟩
/-- what a call that owns nothing of ours hands back is ours from then on -/
theorem Hp.join {M : List Item} (h : Hp B w0 w L) (k : Hp w.heap.size w w' M) : Hp B w0 w' (M ++ L) := by
  have h' := h.step k.ext
  refine ⟨h'.below, h'.base, List.pairwise_append.2 ⟨k.apart, h'.apart, fun a ha b hb => ?_⟩, fun z hz => ?_⟩
  · cases hab : a.block with
    | none => exact .inl hab
    | some g =>
      right
      rw [hab]
      intro e
      have h1 := ((k.own a ha).lt g hab).1
      have h2 := ((h.own b hb).lt g e.symm).2
      omega
  · rcases List.mem_append.1 hz with hz | hz
    · exact (k.own z hz).mono h.base
    · exact h'.own z hz
theorem hfacts_of : ∀ L : List Item, (∀ x ∈ L, x.at B w) → HFacts w L
  | [], _ => trivial
  | .blk g cs t :: L, h => ⟨cellFacts_of (h (.blk g cs t) (by simp)).2 cs 0 (fun k => by simp), hfacts_of L fun y hy => h y (by simp [hy])⟩
  | .row .. :: L, h => hfacts_of L fun y hy => h y (by simp [hy])
  | .ob .. :: L, h => hfacts_of L fun y hy => h y (by simp [hy])
  | .mp .. :: L, h => hfacts_of L fun y hy => h y (by simp [hy])
theorem Hp.facts (h : Hp B w0 w L) : HFacts w L := hfacts_of L h.own

/-- append of m elements that lie at ad -/
theorem run_append_hp {t ty e : TypeId} {size bytes n m c cap : Nat} {A : Option Addr} {xs news : List Value} (hE : Elem P t e size bytes) (h : Hp B w0 w (.row e size A n cap xs :: L)) (ad : Addr) (hl : news.length = m * size)
    (hnews : ∀ j u, news[j]? = some u → w.cell? (ad.add j) = some u) (h1 : ∀ u ∈ news, u.oneCell' = true) (hn : (n + m) * bytes ≤ 140737488355328) (hm : n + m ≤ 140737488355328) :
    ∃ A' cap' w', (Builtin.append_ #[t, t] ty #[.slice A n cap, .slice (some ad) m c]).run P w = .ok (.slice A' (n + m : Nat) cap') w' ∧ Hp B w0 w' (.row e size A' (n + m) cap' (xs ++ news) :: L) := by
  obtain ⟨i, z, hi, hz, hsz, hby, hzs⟩ := hE.info
  have hown : w.ownsRow B e size (.slice A n cap) n xs := h.head
  obtain ⟨v', w', hr, hown', hg, hnil, hat⟩ := run_append_own_at (P := P) w B t ty e i z size bytes hE.under hi hz hsz hby hzs hE.pos _ n xs hown ad m c news hl hnews h1 (by unfold maxLen; omega) hn h.base
  have hv : ∃ A' cap', v' = .slice A' (n + m : Nat) cap' := by
    rcases hown'.2 with ⟨rfl, h0⟩ | ⟨g, cp, cur, rfl, _⟩
    · exact ⟨none, 0, by rw [h0]⟩
    · exact ⟨_, _, rfl⟩
  obtain ⟨A', cap', rfl⟩ := hv
  refine ⟨A', cap', w', hr, h.turn hg (.inr own_none) hown' ?_⟩
  rw [own_none, own_none] at hat
  rcases hat with hat | hat
  · exact .inl hat
  · exact .inr (.inr ⟨_, hat, Nat.le_refl _⟩)
theorem wpList_append_hp {t e : TypeId} {size bytes n m c cap : Nat} {A : Option Addr} {xs news : List Value} (hE : Elem P t e size bytes) {ops : Array Oper} {rest : List Oper} {o : Oper} {a : Act} {Q : Exit → Act → World → Prop} (hgd : o.guard = none) (s x : Operand)
    (ho : o.op = .call { callee := .builtin .append, args := #[s, x], argTypes := #[t, t] }) (h : Hp B w0 w (.row e size A n cap xs :: L)) (hs : a.eval s = .slice A n cap) (ad : Addr) (hx : a.eval x = .slice (some ad) m c) (hl : news.length = m * size)
    (hnews : ∀ j u, news[j]? = some u → w.cell? (ad.add j) = some u) (h1 : ∀ u ∈ news, u.oneCell' = true) (hn : (n + m) * bytes ≤ 140737488355328) (hm : n + m ≤ 140737488355328)
    (k : ∀ A' cap' w', Hp B w0 w' (.row e size A' (n + m) cap' (xs ++ news) :: L) → wpList P ops Q rest (a.put o.dst (.slice A' (n + m : Nat) cap')) w') : wpList P ops Q (o :: rest) a w := by
  refine wpList_plain hgd fun K hK => ?_
  obtain ⟨A', cap', w', hr, h2⟩ := run_append_hp (P := P) (c := c) (ty := o.type) hE h ad hl hnews h1 hn hm
  unfold Oper.wp execOp
  simp only [ho, resolve, invoke, builtin, Sem.run_bind, Sem.run_pure, Result.andThen_ok, List.map_toArray, List.map_cons, List.map_nil, hs, hx, hr]
  exact hK _ _ (k A' cap' w' h2)
/-- append of the one element that lies in the block at the head -/
theorem wpList_push_hp {t e : TypeId} {size bytes n c cap S : Nat} {A : Option Addr} {xs news : List Value} (hE : Elem P t e size bytes) {ops : Array Oper} {rest : List Oper} {o : Oper} {a : Act} {Q : Exit → Act → World → Prop} (hgd : o.guard = none) (s x : Operand)
    (ho : o.op = .call { callee := .builtin .append, args := #[s, x], argTypes := #[t, t] }) (h : Hp B w0 w (.blk S news e :: .row e size A n cap xs :: L)) (hs : a.eval s = .slice A n cap) (hx : a.eval x = .slice (some ⟨S, 0, none⟩) 1 c) (hl : news.length = size)
    (h1 : ∀ u ∈ news, u.oneCell' = true) (hn : (n + 1) * bytes ≤ 140737488355328) (hm : n + 1 ≤ 140737488355328)
    (k : ∀ A' cap' w', Hp B w0 w' (.row e size A' (n + 1) cap' (xs ++ news) :: L) → wpList P ops Q rest (a.put o.dst (.slice A' (n + 1 : Nat) cap')) w') : wpList P ops Q (o :: rest) a w := by
  refine wpList_append_hp hE hgd s x ho h.tail hs ⟨S, 0, none⟩ hx (by simpa using hl) (fun j u hu => ?_) h1 hn hm k
  exact World.news_of_block h.head.2 j u (by simpa using hu)
/-- append of a string's bytes -/
theorem run_append_str_hp {t u ty e : TypeId} {n cap : Nat} {A : Option Addr} {xs : List Value} (hE : Elem P t e 1 1) (hz : (P.info? e).bind (·.zero) = some (.int .u8 0)) (hu : P.underlying u = some .string) (h : Hp B w0 w (.row e 1 A n cap xs :: L)) (s : ByteArray) (hm : n + s.size ≤ 140737488355328) :
    ∃ A' cap' w', (Builtin.append_ #[t, u] ty #[.slice A n cap, .string s]).run P w = .ok (.slice A' (n + s.size : Nat) cap') w' ∧ Hp B w0 w' (.row e 1 A' (n + s.size) cap' (xs ++ Lib.strCells s) :: L) := by
  obtain ⟨i, z, hi, hz', hsz, hby, hzs⟩ := hE.info
  have hz0 : i.zero = some (.int .u8 0) := by rw [hi] at hz; simpa using hz
  have hown : w.ownsRow B e 1 (.slice A n cap) n xs := h.head
  obtain ⟨v', w', hr, hown', hg, hnil⟩ := Lib.run_append_own_string (P := P) w B t u ty e i hE.under hu hi hz0 hsz hby _ n xs hown s (by unfold maxLen; omega) hm h.base
  have hv : ∃ A' cap', v' = .slice A' (n + s.size : Nat) cap' := by
    rcases hown'.2 with ⟨rfl, h0⟩ | ⟨g, cp, cur, rfl, _⟩
    · exact ⟨none, 0, by rw [h0]⟩
    · exact ⟨_, _, rfl⟩
  obtain ⟨A', cap', rfl⟩ := hv
  refine ⟨A', cap', w', hr, h.turn hg (.inr own_none) hown' ?_⟩
  show (A'.map (·.block)) = A.map (·.block) ∨ _
  rcases hown.2 with ⟨hv, h0⟩ | ⟨g, cp, cur, hv, hbg, hgg, hnc, hcm, hcs, htake⟩
  · obtain ⟨rfl, rfl, rfl⟩ : A = none ∧ n = 0 ∧ cap = 0 := by simpa using hv
    have hx : xs = [] := List.eq_nil_of_length_eq_zero (by simpa using hown.1)
    subst hx
    obtain ⟨v2, w2, hr2, hown2, _⟩ := Lib.run_append_own_string (P := P) w w.heap.size t u ty e i hE.under hu hi hz0 hsz hby (.slice none 0 0) 0 [] (World.ownsRow_nil _ _ _ _) s (by unfold maxLen; omega) hm (Nat.le_refl _)
    rw [hr] at hr2
    simp only [Result.ok.injEq] at hr2
    obtain ⟨rfl, rfl⟩ := hr2
    cases A' with
    | none => exact .inl rfl
    | some a => exact .inr (.inr ⟨a.block, rfl, (hown2.lt a.block rfl).1⟩)
  · obtain ⟨rfl, _, rfl⟩ : A = some ⟨g, 0, none⟩ ∧ n = n ∧ cap = cp := by simpa using hv
    by_cases hroom : n + s.size ≤ cap
    · have hr2 := Lib.run_append_room_string (P := P) w t u ty e i hE.under hu hi hsz g n cap cur hgg s hroom (by omega)
      rw [hr] at hr2
      simp only [Result.ok.injEq, Value.slice.injEq] at hr2
      rw [hr2.1.1]
      exact .inl rfl
    · have hr2 := Lib.run_append_grow_string (P := P) w t u ty e i (.int .u8 0) hE.under hu hi hz0 ⟨g, 0, none⟩ n cap xs (by rw [hsz]; exact hown.1) (hown.cells (g := g) rfl) s (by omega) (by omega) (by rw [hby]; exact growslice_fits (by omega) (by omega))
      rw [hr] at hr2
      simp only [Result.ok.injEq, Value.slice.injEq] at hr2
      rw [hr2.1.1]
      exact .inr (.inr ⟨_, rfl, Nat.le_refl _⟩)
theorem wpList_append_str_hp {t u e : TypeId} {n cap : Nat} {A : Option Addr} {xs : List Value} (hE : Elem P t e 1 1) (hz : (P.info? e).bind (·.zero) = some (.int .u8 0)) (hu : P.underlying u = some .string) {ops : Array Oper} {rest : List Oper} {o : Oper} {a : Act} {Q : Exit → Act → World → Prop} (hgd : o.guard = none) (s x : Operand)
    (ho : o.op = .call { callee := .builtin .append, args := #[s, x], argTypes := #[t, u] }) (h : Hp B w0 w (.row e 1 A n cap xs :: L)) (hs : a.eval s = .slice A n cap) (str : ByteArray) (hx : a.eval x = .string str) (hm : n + str.size ≤ 140737488355328)
    (k : ∀ A' cap' w', Hp B w0 w' (.row e 1 A' (n + str.size) cap' (xs ++ Lib.strCells str) :: L) → wpList P ops Q rest (a.put o.dst (.slice A' (n + str.size : Nat) cap')) w') : wpList P ops Q (o :: rest) a w := by
  refine wpList_plain hgd fun K hK => ?_
  obtain ⟨A', cap', w', hr, h2⟩ := run_append_str_hp (P := P) (ty := o.type) hE hz hu h str hm
  unfold Oper.wp execOp
  simp only [ho, resolve, invoke, builtin, Sem.run_bind, Sem.run_pure, Result.andThen_ok, List.map_toArray, List.map_cons, List.map_nil, hs, hx, hr]
  exact hK _ _ (k A' cap' w' h2)

/-- append of nothing -/
theorem run_append_nilsrc {t ty e : TypeId} {size bytes n cap : Nat} {A : Option Addr} {xs : List Value} (hE : Elem P t e size bytes) (h : Hp B w0 w (.row e size A n cap xs :: L)) :
    (Builtin.append_ #[t, t] ty #[.slice A n cap, .slice none 0 0]).run P w = .ok (.slice A n cap) w := by
  obtain ⟨i, z, hi, hz, hsz, hby, hzs⟩ := hE.info
  have hc : n ≤ cap := by
    rcases (show w.ownsRow B e size (.slice A n cap) n xs from h.head).2 with ⟨hv, h0⟩ | ⟨g, cp, cur, hv, _, _, hc, _⟩
    · omega
    · obtain ⟨rfl, _, rfl⟩ : A = some ⟨g, 0, none⟩ ∧ n = n ∧ cap = cp := by simpa using hv
      exact hc
  cases A <;> simp [Builtin.append_, run_underlying hE.under, sizeOf, typeInfo, hi, Builtin.lenOf, Builtin.firstCells, loadCells, loadCellsFrom, hc, storeCells]
/-- the cells of a row -/
theorem Hp.rowCell {e : TypeId} {size n cap : Nat} {A : Option Addr} {xs : List Value} (h : Hp B w0 w L) (i : Nat) (hi : L[i]? = some (.row e size A n cap xs)) {j : Nat} {u : Value} (hj : xs[j]? = some u) :
    ∃ g, A = some ⟨g, 0, none⟩ ∧ w.cell? ⟨g, j, none⟩ = some u ∧ w.frozen? ⟨g, j, none⟩ = false := by
  have ho : w.ownsRow B e size (.slice A n cap) n xs := h.own _ (List.mem_of_getElem? hi)
  rcases ho.2 with ⟨hv, h0⟩ | ⟨g, cp, cur, hv, _⟩
  · have := ho.1
    rw [h0, Nat.zero_mul] at this
    rw [List.eq_nil_of_length_eq_zero this] at hj
    simp at hj
  · obtain ⟨rfl, _, rfl⟩ : A = some ⟨g, 0, none⟩ ∧ n = n ∧ cap = cp := by simpa using hv
    refine ⟨g, rfl, ?_, ho.frozenAt j⟩
    have e : (⟨g, 0, none⟩ : Addr).add j = ⟨g, j, none⟩ := by unfold Addr.add; split <;> simp_all
    rw [← e]
    exact ho.cells (g := g) rfl j u hj
theorem Hp.rowNil {e : TypeId} {size n cap : Nat} {xs : List Value} (h : Hp B w0 w L) (i : Nat) (hi : L[i]? = some (.row e size none n cap xs)) : n = 0 ∧ cap = 0 ∧ xs = [] := by
  have ho : w.ownsRow B e size (.slice none n cap) n xs := h.own _ (List.mem_of_getElem? hi)
  rcases ho.2 with ⟨hv, h0⟩ | ⟨g, cp, cur, hv, _⟩
  · obtain ⟨_, rfl⟩ : n = 0 ∧ cap = 0 := by simpa using hv
    exact ⟨h0, rfl, List.eq_nil_of_length_eq_zero (by have := ho.1; rw [h0] at this; simpa using this)⟩
  · simp at hv
theorem Hp.rowLen {e : TypeId} {size n cap : Nat} {A : Option Addr} {xs : List Value} (h : Hp B w0 w L) (i : Nat) (hi : L[i]? = some (.row e size A n cap xs)) : xs.length = n * size ∧ n ≤ cap := by
  have ho : w.ownsRow B e size (.slice A n cap) n xs := h.own _ (List.mem_of_getElem? hi)
  refine ⟨ho.1, ?_⟩
  rcases ho.2 with ⟨hv, h0⟩ | ⟨g, cp, cur, hv, _, _, hc, _⟩
  · omega
  · obtain ⟨rfl, _, rfl⟩ : A = some ⟨g, 0, none⟩ ∧ n = n ∧ cap = cp := by simpa using hv
    exact hc

/-- append of all elements of another slice of the call's own -/
theorem run_append_row {t ty e : TypeId} {size bytes n cap n2 cap2 : Nat} {A A2 : Option Addr} {xs xs2 : List Value} (hE : Elem P t e size bytes) (h : Hp B w0 w (.row e size A n cap xs :: L)) (i : Nat) (hi : L[i]? = some (.row e size A2 n2 cap2 xs2))
    (h1 : ∀ u ∈ xs2, u.oneCell' = true) (hn : (n + n2) * bytes ≤ 140737488355328) (hm : n + n2 ≤ 140737488355328) :
    ∃ A' cap' w', (Builtin.append_ #[t, t] ty #[.slice A n cap, .slice A2 n2 cap2]).run P w = .ok (.slice A' (n + n2 : Nat) cap') w' ∧ Hp B w0 w' (.row e size A' (n + n2) cap' (xs ++ xs2) :: L) := by
  cases A2 with
  | none =>
    obtain ⟨rfl, rfl, rfl⟩ := h.tail.rowNil i hi
    refine ⟨A, cap, w, run_append_nilsrc hE h, ?_⟩
    rw [List.append_nil]
    exact h
  | some ad => exact run_append_hp (c := cap2) hE h ad (h.tail.rowLen i hi).1 (fun j u hu => by
      obtain ⟨g, e1, c1, _⟩ := h.tail.rowCell i hi hu
      obtain rfl := Option.some.inj e1
      have e : (⟨g, 0, none⟩ : Addr).add j = ⟨g, j, none⟩ := by unfold Addr.add; split <;> simp_all
      rw [e]; exact c1) h1 hn hm
theorem wpList_append_row {t e : TypeId} {size bytes n cap n2 cap2 : Nat} {A A2 : Option Addr} {xs xs2 : List Value} (hE : Elem P t e size bytes) {ops : Array Oper} {rest : List Oper} {o : Oper} {a : Act} {Q : Exit → Act → World → Prop} (hgd : o.guard = none) (s x : Operand)
    (ho : o.op = .call { callee := .builtin .append, args := #[s, x], argTypes := #[t, t] }) (h : Hp B w0 w (.row e size A n cap xs :: L)) (i : Nat) (hi : L[i]? = some (.row e size A2 n2 cap2 xs2)) (hs : a.eval s = .slice A n cap) (hx : a.eval x = .slice A2 n2 cap2)
    (h1 : ∀ u ∈ xs2, u.oneCell' = true) (hn : (n + n2) * bytes ≤ 140737488355328) (hm : n + n2 ≤ 140737488355328)
    (k : ∀ A' cap' w', Hp B w0 w' (.row e size A' (n + n2) cap' (xs ++ xs2) :: L) → wpList P ops Q rest (a.put o.dst (.slice A' (n + n2 : Nat) cap')) w') : wpList P ops Q (o :: rest) a w := by
  refine wpList_plain hgd fun K hK => ?_
  obtain ⟨A', cap', w', hr, h2⟩ := run_append_row (P := P) (ty := o.type) hE h i hi h1 hn hm
  unfold Oper.wp execOp
  simp only [ho, resolve, invoke, builtin, Sem.run_bind, Sem.run_pure, Result.andThen_ok, List.map_toArray, List.map_cons, List.map_nil, hs, hx, hr]
  exact hK _ _ (k A' cap' w' h2)

theorem madeCells_rep (z : Value) (n : Nat) : (madeCells #[z] n).toList = List.replicate n z := by
  apply List.ext_getElem?
  intro j
  simp only [madeCells, List.getElem?_replicate]
  by_cases hj : j < n
  · simp [hj, Nat.mod_one]
  · simp [hj]
/-- make of m elements of one cell -/
theorem wpList_make_hp {t e : TypeId} {bytes m : Nat} {z : Value} (hE : Elem P t e 1 bytes) (hz : (P.info? e).bind (·.zero) = some z) (hzc : z.cells = #[z]) {ops : Array Oper} {rest : List Oper} {o : Oper} {a : Act} {Q : Exit → Act → World → Prop} (hgd : o.guard = none) (x y : Operand)
    (ho : o.op = .makeSlice t x y) (h : Hp B w0 w L) (kl kc : IntKind) (X Y : Int) (hx : a.eval x = .int kl X) (hy : a.eval y = .int kc Y) (hX : X = (m : Int)) (hY : Y = (m : Int)) (hb : bytes * m ≤ 281474976710656) (hm : m ≤ 140737488355328)
    (k : ∀ g w', Hp B w0 w' (.row e 1 (some ⟨g, 0, none⟩) m m (List.replicate m z) :: L) → wpList P ops Q rest (a.put o.dst (.slice (some ⟨g, 0, none⟩) m m)) w') : wpList P ops Q (o :: rest) a w := by
  obtain ⟨i, z', hi, hz', hsz, hby, hzs⟩ := hE.info
  have : z' = z := by rw [hi] at hz; simpa [hz'] using hz
  subst this
  refine wpList_make_full w hgd x y t ho B e i z' 1 hE.under hi hz' hsz kl kc X Y m hx hy hX hY (by rw [hby]; exact hb) (by unfold maxLen; omega) h.base fun w' hown hg => ?_
  refine k _ _ ((h.grown hg).cons ?_ (h.fresh rfl (Nat.le_refl _)))
  rw [Nat.mul_one, hzc, madeCells_rep] at hown
  exact hown

theorem abs_hlist_alloc {W : World} {o : Obj} {ops : Array Oper} {Q : Exit → Act → World → Prop} {l : List Oper} {a : Act} (h : Hp B w0 (W.alloc o) L) (k : ∀ w, Hp B w0 w L → wpList P ops Q l a w) : wpList P ops Q l a (W.alloc o) := k _ h
theorem abs_hlist_set {W : World} {p : Addr} {u : Value} {ops : Array Oper} {Q : Exit → Act → World → Prop} {l : List Oper} {a : Act} (h : Hp B w0 (W.setCell p u) L) (k : ∀ w, Hp B w0 w L → wpList P ops Q l a w) : wpList P ops Q l a (W.setCell p u) := k _ h
theorem abs_hlist_drew {W : World}  {ops : Array Oper} {Q : Exit → Act → World → Prop} {l : List Oper} {a : Act} (h : Hp B w0 (W.drew) L) (k : ∀ w, Hp B w0 w L → wpList P ops Q l a w) : wpList P ops Q l a (W.drew) := k _ h
theorem abs_hcode_alloc {W : World} {o : Obj} {c : Code} {Q : Exit → Act → World → Prop} {a : Act} (h : Hp B w0 (W.alloc o) L) (k : ∀ w, Hp B w0 w L → Code.wp P c Q a w) : Code.wp P c Q a (W.alloc o) := k _ h
theorem abs_hcode_set {W : World} {p : Addr} {u : Value} {c : Code} {Q : Exit → Act → World → Prop} {a : Act} (h : Hp B w0 (W.setCell p u) L) (k : ∀ w, Hp B w0 w L → Code.wp P c Q a w) : Code.wp P c Q a (W.setCell p u) := k _ h
theorem abs_hcode_drew {W : World}  {c : Code} {Q : Exit → Act → World → Prop} {a : Act} (h : Hp B w0 (W.drew) L) (k : ∀ w, Hp B w0 w L → Code.wp P c Q a w) : Code.wp P c Q a (W.drew) := k _ h
theorem abs_hpost_alloc {W : World} {o : Obj} {fn : Func} {R : Ending → World → Prop} {x : Exit} {a : Act} (h : Hp B w0 (W.alloc o) L) (k : ∀ w, Hp B w0 w L → bodyPost P fn R x a w) : bodyPost P fn R x a (W.alloc o) := k _ h
theorem abs_hpost_set {W : World} {p : Addr} {u : Value} {fn : Func} {R : Ending → World → Prop} {x : Exit} {a : Act} (h : Hp B w0 (W.setCell p u) L) (k : ∀ w, Hp B w0 w L → bodyPost P fn R x a w) : bodyPost P fn R x a (W.setCell p u) := k _ h
theorem abs_hpost_drew {W : World}  {fn : Func} {R : Ending → World → Prop} {x : Exit} {a : Act} (h : Hp B w0 (W.drew) L) (k : ∀ w, Hp B w0 w L → bodyPost P fn R x a w) : bodyPost P fn R x a (W.drew) := k _ h
theorem abs_hcalls_alloc {W : World} {o : Obj} {f : FuncId} {R : Ending → World → Prop} {args : Array Value} (h : Hp B w0 (W.alloc o) L) (k : ∀ w, Hp B w0 w L → Calls P f args w R) : Calls P f args (W.alloc o) R := k _ h
theorem abs_hcalls_set {W : World} {p : Addr} {u : Value} {f : FuncId} {R : Ending → World → Prop} {args : Array Value} (h : Hp B w0 (W.setCell p u) L) (k : ∀ w, Hp B w0 w L → Calls P f args w R) : Calls P f args (W.setCell p u) R := k _ h
theorem abs_hcalls_drew {W : World}  {f : FuncId} {R : Ending → World → Prop} {args : Array Value} (h : Hp B w0 (W.drew) L) (k : ∀ w, Hp B w0 w L → Calls P f args w R) : Calls P f args (W.drew) R := k _ h

/-- a region of quiet operations under Hp -/
theorem wp_region_hp {Q : Exit → Act → World → Prop} {id : Nat} {l : List Oper} {draw : Bool} {a : Act} (hm : P.follows .mixedOrders = true) (hok : fixedOk l.toArray = true)
    (hS : Hp B w0 w L) (h : Fixed P l.toArray (fun W => Hp B w0 W L) (fun a' => ∀ w', Hp B w0 w' L → Q .normal a' w') l a) : (Code.region id l.toArray draw).wp P Q a w :=
  wp_region_fixed (F := fun W => Hp B w0 W L) hm hok (fun _ _ h hx => Hp.step h hx) hS (Fixed.imp (fun _ hk w' _ hs => hk w' hs) l a h)
end
end Go.Proofs.YtbfccjjnnkomcaaDoor
