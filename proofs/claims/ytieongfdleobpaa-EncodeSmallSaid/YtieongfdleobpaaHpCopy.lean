/- copy and make under Hp, for elements of any size. For any program. -/
import Derived.Test.YtieongfdleobpaaHpReg
import Derived.Laws.CopyOwn
namespace Go.Proofs.Ytieongfdleobpaa
open Go.RowKit
section
variable {P : Program} {ops : Array Oper} {F : World → Prop} {QN : Act → World → Prop} {B : Nat} {w0 w : World} {L : List Item} {o : Oper} {rest : List Oper} {a : Act}
theorem run_copy_any {t ty e : TypeId} {size bytes : Nat} (hE : Elem P t e size bytes) (g o dLen dCap : Nat) (ad : Addr) (sLen sCap : Nat) (cur : Array Value) (te : TypeId) (m : Nat) (hm : m = Nat.min sLen dLen) (cs : List Value) (hl : cs.length = m * size)
    (hg : w.heap[g]? = some (.cells cur te (0, 0))) (hsrc : ∀ j v, cs[j]? = some v → w.cell? (ad.add j) = some v) (hfit : o + cs.length ≤ cur.size) (h1 : ∀ v ∈ cs, v.oneCell' = true) :
    (Builtin.copy_ #[t, t] ty #[.slice (some ⟨g, o, none⟩) dLen dCap, .slice (some ad) sLen sCap]).run P w = .ok (goInt m) (w.setRow g (cur.toList.take o ++ cs ++ cur.toList.drop (o + cs.length)).toArray) := by
  obtain ⟨i, z, hi, hz, hsz, hby, hzs⟩ := hE.info
  have hf := run_firstCells_some (P := P) w size m ad sLen sCap cs hl hsrc
  have hst := run_storeCells_at P g o te cs 0 cur w hg (by simpa using hfit) h1
  simp [Builtin.copy_, run_underlying hE.under, Builtin.lenOf, sizeOf, typeInfo, hi, hsz, ← hm, hf, hst]
theorem take_splice {α : Type} (cur : List α) (k off : Nat) (xs cs : List α) (hx : cur.take k = xs) (hk : k ≤ cur.length) (h : off + cs.length ≤ k) : (cur.take off ++ cs ++ cur.drop (off + cs.length)).take k = splice xs off cs := by
  subst hx
  unfold splice
  apply List.ext_getElem?
  intro j
  rw [List.getElem?_take]
  by_cases hj : j < k
  · rw [if_pos hj]
    by_cases h1 : j < off
    · rw [List.getElem?_append_left (by simp; omega), List.getElem?_append_left (by simp; omega), List.getElem?_append_left (by simp; omega), List.getElem?_take_of_lt h1, List.getElem?_take_of_lt h1, List.getElem?_take_of_lt hj]
    · by_cases h2 : j < off + cs.length
      · rw [List.getElem?_append_left (by simp; omega), List.getElem?_append_right (by simp; omega), List.getElem?_append_right (by simp; omega), List.getElem?_append_left (by simp; omega)]
        simp only [List.length_take]
        congr 1; omega
      · rw [List.getElem?_append_right (by simp; omega), List.getElem?_append_right (by simp; omega), List.getElem?_append_right (by simp; omega)]
        simp only [List.length_append, List.length_take, List.getElem?_drop]
        rw [List.getElem?_take_of_lt (by omega)]
        congr 1; omega
  · rw [if_neg hj, List.getElem?_eq_none]
    simp only [List.length_append, List.length_take, List.length_drop]
    omega
theorem run_copy_hp {t ty e : TypeId} {size bytes n cap : Nat} {g : Nat} {xs : List Value} (hE : Elem P t e size bytes) (h : Hp B w0 w (.row e size (some ⟨g, 0, none⟩) n cap xs :: L)) (k dLen dCap : Nat) (ad : Addr) (sLen sCap m : Nat) (hm : m = Nat.min sLen dLen) (cs : List Value) (hl : cs.length = m * size)
    (hfit : (k + m) ≤ n) (hsrc : ∀ j v, cs[j]? = some v → w.cell? (ad.add j) = some v) (h1 : ∀ v ∈ cs, v.oneCell' = true) :
    ∃ w', (Builtin.copy_ #[t, t] ty #[.slice (some ⟨g, k * size, none⟩) dLen dCap, .slice (some ad) sLen sCap]).run P w = .ok (goInt m) w' ∧ Hp B w0 w' (.row e size (some ⟨g, 0, none⟩) n cap (splice xs (k * size) cs) :: L) := by
  have hown : w.ownsRow B e size (.slice (some ⟨g, 0, none⟩) n cap) n xs := h.head
  obtain ⟨hxl, hrest⟩ := hown
  rcases hrest with ⟨hv, _⟩ | ⟨g', cap', cur, hv, hbg, hg, hnc, hcm, hcs, htake⟩
  · cases hv
  · simp at hv
    obtain ⟨rfl, rfl⟩ := hv
    have e1 : (k + m) * size ≤ n * size := Nat.mul_le_mul_right _ hfit
    have e2 : n * size ≤ cap * size := Nat.mul_le_mul_right _ hnc
    rw [Nat.add_mul, ← hl] at e1
    have hr := run_copy_any (P := P) (ty := ty) hE g (k * size) dLen dCap ad sLen sCap cur e m hm cs hl hg hsrc (by omega) h1
    refine ⟨_, hr, h.turn (row := some g) ⟨rfl, rfl, rfl, by simp [World.setRow], fun j _ hj => setRow_other w g j _ (fun e => hj (by rw [e]))⟩ (.inr rfl) ⟨?_, .inr ⟨g, cap, _, rfl, hbg, setRow_heap w g cur _ e _ hg, hnc, hcm, ?_, ?_⟩⟩ (.inl rfl)⟩
    · rw [length_splice _ _ _ (by omega)]; exact hxl
    · simp only [List.size_toArray, List.length_append, List.length_take, List.length_drop, Array.length_toList]
      omega
    · exact take_splice _ _ _ _ _ htake (by simp; omega) (by omega)
theorem wpList_copy_hp {t e : TypeId} {size bytes n cap : Nat} {g : Nat} {xs : List Value} (hE : Elem P t e size bytes) {Q : Exit → Act → World → Prop} (hgd : o.guard = none) (d s : Operand) (ho : o.op = .call { callee := .builtin .copy, args := #[d, s], argTypes := #[t, t] })
    (h : Hp B w0 w (.row e size (some ⟨g, 0, none⟩) n cap xs :: L)) (k dLen dCap : Nat) (ad : Addr) (sLen sCap m : Nat) (hd : a.eval d = .slice (some ⟨g, k * size, none⟩) dLen dCap) (hs : a.eval s = .slice (some ad) sLen sCap) (hm : m = Nat.min sLen dLen) (cs : List Value) (hl : cs.length = m * size)
    (hfit : (k + m) ≤ n) (hsrc : ∀ j v, cs[j]? = some v → w.cell? (ad.add j) = some v) (h1 : ∀ v ∈ cs, v.oneCell' = true)
    (kk : ∀ w', Hp B w0 w' (.row e size (some ⟨g, 0, none⟩) n cap (splice xs (k * size) cs) :: L) → wpList P ops Q rest (a.put o.dst (.int .i64 (m : Int))) w') : wpList P ops Q (o :: rest) a w := by
  refine wpList_plain hgd fun K hK => ?_
  obtain ⟨w', hr, h2⟩ := run_copy_hp (P := P) (ty := o.type) hE h k dLen dCap ad sLen sCap m hm cs hl hfit hsrc h1
  unfold Oper.wp
  simp [execOp, ho, resolve, invoke, builtin, hd, hs, hr, Result.andThen]
  exact hK _ _ (kk w' h2)
theorem Chain.copy {t e : TypeId} {size bytes n cap : Nat} {g : Nat} {xs : List Value} (hE : Elem P t e size bytes) (hw : Region.wanted o (yielded ops a.tmps) = true) (d s : Operand) (ho : o.op = .call { callee := .builtin .copy, args := #[d, s], argTypes := #[t, t] })
    (k dLen dCap : Nat) (ad : Addr) (sLen sCap m : Nat) (hd : a.eval d = .slice (some ⟨g, k * size, none⟩) dLen dCap) (hs : a.eval s = .slice (some ad) sLen sCap) (hm : m = Nat.min sLen dLen) (cs : List Value) (hl : cs.length = m * size)
    (hfit : (k + m) ≤ n) (hsrc : ∀ w, Hp B w0 w (.row e size (some ⟨g, 0, none⟩) n cap xs :: L) → ∀ j v, cs[j]? = some v → w.cell? (ad.add j) = some v) (h1 : ∀ v ∈ cs, v.oneCell' = true)
    (hF : ∀ w, Hp B w0 w L → F w) (h : Chain P ops F QN rest (a.put o.dst (.int .i64 (m : Int))) (fun W => Hp B w0 W (.row e size (some ⟨g, 0, none⟩) n cap (splice xs (k * size) cs) :: L))) :
    Chain P ops F QN (o :: rest) a (fun W => Hp B w0 W (.row e size (some ⟨g, 0, none⟩) n cap xs :: L)) := by
  refine .inl ⟨hw, fun w hS => ?_⟩
  obtain ⟨w', hr, h2⟩ := run_copy_hp (P := P) (ty := o.type) hE hS k dLen dCap ad sLen sCap m hm cs hl hfit (hsrc w hS) h1
  unfold Oper.wp
  simp only [execOp, ho, resolve, invoke, builtin, Sem.run_bind, Sem.run_pure, Result.andThen_ok, List.map_toArray, List.map_cons, List.map_nil, hd, hs, hr]
  exact ⟨_, h2, fun _ _ h hx => h.step hx, fun W hW => hF W hW.tail, h⟩
/-- make of m elements of any size -/
theorem wpList_makeN_hp {t e : TypeId} {size bytes m : Nat} (hE : Elem P t e size bytes) {Q : Exit → Act → World → Prop} (hgd : o.guard = none) (x y : Operand)
    (ho : o.op = .makeSlice t x y) (h : Hp B w0 w L) (kl kc : IntKind) (X Y : Int) (hx : a.eval x = .int kl X) (hy : a.eval y = .int kc Y) (hX : X = (m : Int)) (hY : Y = (m : Int)) (hb : bytes * m ≤ 281474976710656) (hm : m ≤ 140737488355328)
    (k : ∀ g w' xs, xs.length = m * size → Hp B w0 w' (.row e size (some ⟨g, 0, none⟩) m m xs :: L) → wpList P ops Q rest (a.put o.dst (.slice (some ⟨g, 0, none⟩) m m)) w') : wpList P ops Q (o :: rest) a w := by
  obtain ⟨i, z', hi, hz', hsz, hby, hzs⟩ := hE.info
  refine wpList_make_full w hgd x y t ho B e i z' size hE.under hi hz' hsz kl kc X Y m hx hy hX hY (by rw [hby]; exact hb) (by unfold maxLen; omega) h.base fun w' hown hg => ?_
  exact k _ _ _ hown.1 ((h.grown hg).cons hown (h.fresh rfl (Nat.le_refl _)))
end
end Go.Proofs.Ytieongfdleobpaa
