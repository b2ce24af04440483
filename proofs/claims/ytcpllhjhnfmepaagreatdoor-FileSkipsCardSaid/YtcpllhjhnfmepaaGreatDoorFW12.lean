/- millpondkeep.cond: what parts come to: a condition that lies in memory as a tree. -/
import Derived.Test.YtcpllhjhnfmepaaGreatDoorFW07
import Derived.Test.YtcpllhjhnfmepaaGreatDoorFW01
namespace Go.Proofs.YtcpllhjhnfmepaaGreatDoor
set_option linter.all false
set_option linter.unusedSimpArgs false
set_option linter.unusedVariables false
open Go.RowKit

/-- a part of a condition -/
structure PG where
  code : Int
  col : ByteArray
  v : GV
/-- the slice at A reads as the parts l -/
def RP (w : World) (A : Option Addr) (l : List PG) : Prop :=
  ∀ (i : Nat) (x : PG), l[i]? = some x → ∃ b o : Nat, A = some ⟨b, o, none⟩ ∧ w.cell? ⟨b, o + i * 5, none⟩ = some (.int .i64 x.code) ∧ w.cell? ⟨b, o + i * 5 + 1, none⟩ = some (.string x.col) ∧
    w.cell? ⟨b, o + i * 5 + 2, none⟩ = some (.int .i64 x.v.kind) ∧ w.cell? ⟨b, o + i * 5 + 3, none⟩ = some (.int .i64 x.v.num) ∧ w.cell? ⟨b, o + i * 5 + 4, none⟩ = some (.string x.v.text)
theorem RP.ext {w w' : World} {A : Option Addr} {l : List PG} (h : RP w A l) (hx : Ext w w') : RP w' A l := fun i x hi => by
  obtain ⟨b, o, hA, h0, h1, h2, h3, h4⟩ := h i x hi
  exact ⟨b, o, hA, hx.keeps h0, hx.keeps h1, hx.keeps h2, hx.keeps h3, hx.keeps h4⟩

def zeroV : GV := ⟨0, 0, ⟨#[]⟩⟩
def opC (c : Int) (l r : CT) : CT := .node c ⟨#[]⟩ zeroV l r
/-- one part more -/
def stepC (st : List CT) (x : PG) : List CT :=
  if x.code = 11 ∧ 0 < st.length then st.take (st.length - 1) ++ [opC 11 (st.getD (st.length - 1) .nil) .nil]
  else if (x.code = 9 ∨ x.code = 10) ∧ 1 < st.length then st.take (st.length - 2) ++ [opC x.code (st.getD (st.length - 2) .nil) (st.getD (st.length - 1) .nil)]
  else if 1 ≤ x.code ∧ x.code ≤ 6 ∧ x.v.text.size ≤ 100 ∧ rightB x.v.kind x.v.num x.v.text = true then st ++ [.node x.code x.col x.v .nil .nil]
  else if x.code = 7 ∨ x.code = 8 then st ++ [.node x.code x.col zeroV .nil .nil]
  else st
def stackC (l : List PG) : List CT := (l.take 14).foldl stepC []
/-- what parts come to -/
def foldC : List CT → CT
  | [] => .nil
  | c :: rest => rest.foldl (fun a b => opC 9 a b) c
def condT (l : List PG) : CT := foldC (stackC l)

theorem CondAt.pointer {w : World} {v : Value} {t : CT} (h : CondAt w v t) : ∃ p, v = .pointer p := by
  cases t with
  | nil => exact ⟨_, h⟩
  | node => obtain ⟨b, _, _, h, _⟩ := h; exact ⟨_, h⟩
def CondsAt (w : World) (ps : List Value) (ts : List CT) : Prop := ps.length = ts.length ∧ ∀ (i : Nat) (p : Value) (t : CT), ps[i]? = some p → ts[i]? = some t → CondAt w p t
theorem CondsAt.ext {w w' : World} {ps : List Value} {ts : List CT} (h : CondsAt w ps ts) (hx : Ext w w') : CondsAt w' ps ts := ⟨h.1, fun i p t hp ht => (h.2 i p t hp ht).ext hx⟩
theorem CondAt.grown {w w' : World} {row : Option Nat} (hg : w.grownBy w' row) (hrow : ∀ g, row = some g → ∃ cs fr, w.heap[g]? = some (.cells cs 60 fr)) : ∀ {t : CT} {v : Value}, CondAt w v t → CondAt w' v t
  | .nil, v, h => h
  | .node c col x l r, v, h => by
    obtain ⟨b, lv, rv, rfl, hb, hl, hr⟩ := h
    have hlt : b < w.heap.size := by
      rcases Nat.lt_or_ge b w.heap.size with h | h
      · exact h
      · rw [Array.getElem?_eq_none h] at hb; cases hb
    refine ⟨b, lv, rv, rfl, (hg.block b hlt fun e => ?_).trans hb, hl.grown hg hrow, hr.grown hg hrow⟩
    obtain ⟨cs, fr, h⟩ := hrow b e.symm
    rw [h] at hb
    cases hb
theorem CondsAt.grown {w w' : World} {row : Option Nat} (hg : w.grownBy w' row) (hrow : ∀ g, row = some g → ∃ cs fr, w.heap[g]? = some (.cells cs 60 fr)) {ps : List Value} {ts : List CT} (h : CondsAt w ps ts) : CondsAt w' ps ts :=
  ⟨h.1, fun i p t hp ht => (h.2 i p t hp ht).grown hg hrow⟩
theorem CondsAt.push {w : World} {ps : List Value} {ts : List CT} (h : CondsAt w ps ts) {p : Value} {t : CT} (hc : CondAt w p t) : CondsAt w (ps ++ [p]) (ts ++ [t]) :=
  ⟨by simp [h.1], fun i p' t' hp ht => by
    rcases Nat.lt_trichotomy i ps.length with hl | hl | hl
    · rw [List.getElem?_append_left hl] at hp
      rw [List.getElem?_append_left (by rw [← h.1]; exact hl)] at ht
      exact h.2 i p' t' hp ht
    · subst hl
      rw [List.getElem?_append_right (Nat.le_refl _)] at hp
      rw [List.getElem?_append_right (by rw [h.1]; exact Nat.le_refl _)] at ht
      simp [h.1] at hp ht
      subst hp ht
      exact hc
    · rw [List.getElem?_eq_none (by simp; omega)] at hp; cases hp⟩
theorem CondsAt.take {w : World} {ps : List Value} {ts : List CT} (h : CondsAt w ps ts) (n : Nat) : CondsAt w (ps.take n) (ts.take n) :=
  ⟨by simp [h.1], fun i p t hp ht => by
    rw [List.getElem?_take] at hp ht
    split at hp
    · rename_i hi; rw [if_pos hi] at ht; exact h.2 i p t hp ht
    · cases hp⟩

theorem Tryz.elem_conds : Elem Tryz.prog 112 60 1 8 := by
  obtain ⟨i0, hi0, hz0, hz1, hz2⟩ := info_parts (show (Tryz.prog.info? 60).map (fun i => (i.zero, i.size, i.bytes)) = some (some (.pointer none), 1, 8) by kernel_rfl)
  exact ⟨Tryz.underlying112, ⟨i0, _, hi0, hz0, hz1, hz2, rfl⟩, by omega⟩

/-- what holds at each round's head -/
def CondRel (B : Nat) (l : List PG) (w : World) (out i : Value) (wr : World) : Prop :=
  ∃ (k : Nat) (A : Option Addr) (c : Nat) (ps : List Value) (st : List CT), i = .int .i64 k ∧ k ≤ l.length ∧ k ≤ 14 ∧ st = (l.take k).foldl stepC [] ∧ out = .slice A st.length c ∧
    Mk B w wr 60 1 (.slice A st.length c) st.length ps ∧ CondsAt wr ps st ∧ st.length ≤ k

theorem step_append_tight {P : Program} {w : World} {ops : Array Oper} {o : Oper} {a : Act} {K : Act → World → Prop} {Q : Exit → Act → World → Prop} {E : Prop} {t e : TypeId} {size bytes B n : Nat} {xs : List Value} (hE : Elem P t e size bytes) (hgd : o.guard = none) (s x : Operand)
    (ho : o.op = .call { callee := .builtin .append, args := #[s, x], argTypes := #[t, t] }) (a0 : Addr) (ad : Addr) (c : Nat) (news : List Value) (hs : a.eval s = .slice (some a0) n n) (hx : a.eval x = .slice (some ad) 1 c)
    (hxs : xs.length = n * size) (holds : ∀ j u, xs[j]? = some u → w.cell? (a0.add j) = some u) (hl : news.length = size) (hnews : ∀ j u, news[j]? = some u → w.cell? (ad.add j) = some u)
    (hn : (n + 1) * bytes ≤ 140737488355328) (hm : n + 1 ≤ 140737488355328) (hB : B ≤ w.heap.size)
    (h : ∀ g cap w', w'.ownsRow B e size (.slice (some ⟨g, 0, none⟩) (n + 1 : Nat) cap) (n + 1) (xs ++ news) → Ext w w' → K (a.put o.dst (.slice (some ⟨g, 0, none⟩) (n + 1 : Nat) cap)) w') :
    if Region.wanted o (yielded ops a.tmps) = true then Oper.wp P o a w K Q else E := by
  have hw : Region.wanted o (yielded ops a.tmps) = true := by simp [Region.wanted, hgd]
  rw [if_pos hw]
  obtain ⟨cap, w', hr, h1, h2⟩ := run_append_tight (ty := o.type) (B := B) hE a0 hxs holds ad c news hl hnews hn hm hB
  unfold Oper.wp execOp
  simp only [ho, resolve, invoke, builtin, Sem.run_bind, Sem.run_pure, Result.andThen_ok, List.map_toArray, List.map_cons, List.map_nil, hs, hx, hr]
  exact h _ _ _ h1 h2

theorem fold_step {l : List PG} {k : Nat} {x : PG} {st : List CT} (hx : l[k]? = some x) (hst : st = (l.take k).foldl stepC []) : (l.take (k + 1)).foldl stepC [] = stepC st x := by
  rw [List.take_add_one, hx]
  simp [List.foldl_append, ← hst]
theorem rel_same {B : Nat} {l : List PG} {w wr W : World} {k N c : Nat} {A : Option Addr} {ps : List Value} {st : List CT} {x : PG} (hM : Mk B w wr 60 1 (.slice A N c) N ps) (hC : CondsAt wr ps st) (hN : N = st.length) (hE : Ext wr W)
    (hst : st = (l.take k).foldl stepC []) (hx : l[k]? = some x) (hk : k < 14) (hs : stepC st x = st) (hsk : N ≤ k) : CondRel B l w (.slice A N c) (.int .i64 ((k : Int) + 1)) W := by
  subst hN
  have hkl : k < l.length := (List.getElem?_eq_some_iff.1 hx).1
  exact ⟨k + 1, A, c, ps, st, by simp, by omega, by omega, by rw [fold_step hx hst, hs], rfl, hM.step hE, hC.ext hE, by omega⟩
theorem rel_new {B : Nat} {l : List PG} {w wr W w2 : World} {k N g cap' : Nat} {ps1 : List Value} {st st1 : List CT} {x : PG} {cc : Int} {col : ByteArray} {v : GV} {lt rt : CT} {lv rv : Value} {row : Option Nat} (hC : CondsAt wr ps1 st1) (hN : N = st1.length) (hE : Ext wr W)
    (hst : st = (l.take k).foldl stepC []) (hx : l[k]? = some x) (hk : k < 14) (hs : stepC st x = st1 ++ [.node cc col v lt rt]) (hsk : N ≤ k)
    (hl : CondAt W lv lt) (hr : CondAt W rv rt)
    (hg : (W.alloc (.cells #[.int .i64 cc, .string col, .int .i64 v.kind, .int .i64 v.num, .string v.text, lv, rv] 116)).grownBy w2 row)
    (hrow : ∀ g, row = some g → ∃ cs fr, (W.alloc (.cells #[.int .i64 cc, .string col, .int .i64 v.kind, .int .i64 v.num, .string v.text, lv, rv] 116)).heap[g]? = some (.cells cs 60 fr))
    (hM2 : Mk B w w2 60 1 (.slice (some ⟨g, 0, none⟩) (N + 1 : Nat) cap') (N + 1) (ps1 ++ [.pointer (some ⟨W.heap.size, 0, none⟩)])) :
    CondRel B l w (.slice (some ⟨g, 0, none⟩) (N + 1 : Nat) cap') (.int .i64 ((k : Int) + 1)) w2 := by
  subst hN
  have hkl : k < l.length := (List.getElem?_eq_some_iff.1 hx).1
  have hA : Ext W (W.alloc (.cells #[.int .i64 cc, .string col, .int .i64 v.kind, .int .i64 v.num, .string v.text, lv, rv] 116)) := (Ext.refl W).alloc _
  refine ⟨k + 1, some ⟨g, 0, none⟩, cap', ps1 ++ [.pointer (some ⟨W.heap.size, 0, none⟩)], st1 ++ [.node cc col v lt rt], by simp, by omega, by omega, by rw [fold_step hx hst, hs], by simp, by simpa using hM2, ?_, by simp; omega⟩
  exact (((hC.ext hE).ext hA).grown hg hrow).push (CondAt.grown hg hrow (t := .node cc col v lt rt) ⟨W.heap.size, lv, rv, rfl, heap_alloc_new _ _, hl.ext hA, hr.ext hA⟩)

set_option maxRecDepth 100000 in
set_option maxHeartbeats 8000000 in
theorem cond_any (l : List PG) (A : Option Addr) (cap : Nat) (w : World) (hr : RP w A l) (hl : l.length ≤ 140737488355328) :
    Calls Tryz.prog 21 #[.slice A l.length cap] w fun e w' => (∃ v, e = .returned v ∧ CondAt w' v (condT l)) ∧ Ext w w' := by
  obtain ⟨n, hn⟩ : ∃ n, n = l.length := ⟨_, rfl⟩
  rw [← hn]
  have Hn := Lib.hid hn
  rw [← hn] at hl
  have HR := Lib.hid hr
  clear hn hr
  go_enter Tryz.func21, Tryz.ntmps21
  go_wp2
  go_loopw [3, 4] (fun out i wr => CondRel w.heap.size l w out i wr) (fun _ i _ => 14 - (intOf i).toNat)
  case atStart => exact ⟨0, none, 0, [], [], rfl, Nat.zero_le _, Nat.zero_le _, rfl, rfl, Mk.nil (Below.refl _ _) (Nat.le_refl _), ⟨rfl, fun i p t hp => by simp at hp⟩, Nat.zero_le _⟩
  case round =>
    obtain ⟨k, A', c, ps, st, rfl, hk, hk14, hst, rfl, hM, hC, hsk⟩ := hrel
    have HST := Lib.hid hst
    have HC := Lib.hid hC
    clear hst hC
    rw [← Hn.out] at hk
    by_cases hlt : k < n ∧ k < 14
    · obtain ⟨h1, h2⟩ := hlt
      have hlt' : k < l.length := by rw [← Hn.out]; exact h1
      obtain ⟨x, hx'⟩ : ∃ x, l[k]? = some x := ⟨l[k], List.getElem?_eq_getElem hlt'⟩
      obtain ⟨b, o, rfl, c0, c1, c2, c3, c4⟩ := HR.out.ext hM.ext k x hx'
      have HX := Lib.hid hx'; clear hx' hlt'
      obtain ⟨N, hN⟩ : ∃ N, N = st.length := ⟨_, rfl⟩
      rw [← hN] at hM hsk ⊢
      have HN := Lib.hid hN; clear hN
      have hB := hM.base
      by_cases case1 : x.code = 11 ∧ 0 < N
--<B
      · obtain ⟨c11, n0⟩ := case1
        have d11 : (x.code == 11) = true := by simp [c11]
        have posN : (0 : Int) < N := by omega
        have hstep : stepC st x = st.take (N - 1) ++ [opC 11 (st.getD (N - 1) .nil) .nil] := by
          rw [stepC, if_pos ⟨c11, by rw [← HN.out]; exact n0⟩, ← HN.out]
        have HS := Lib.hid hstep
        obtain ⟨g, cc, hv, _, hgl⟩ := hM.own.form n0
        obtain rfl : A' = some ⟨g, 0, none⟩ := by injection hv
        have hps : ps.length = N := by have := hM.own.1; omega
        obtain ⟨pj, hpj⟩ : ∃ p, ps[N - 1]? = some p := ⟨ps[N - 1]'(by omega), List.getElem?_eq_getElem _⟩
        obtain ⟨tj, htj⟩ : ∃ t, st[N - 1]? = some t := ⟨st[N - 1]'(by rw [← HN.out]; omega), List.getElem?_eq_getElem _⟩
        have hcj := HC.out.2 (N - 1) pj tj hpj htj
        obtain ⟨aj, rfl⟩ := hcj.pointer
        have cellj : wr.cell? ⟨g, N - 1, none⟩ = some (.pointer aj) := by rw [hM.own.cellAt (N - 1) (by omega)]; exact hpj
        clear hstep c11 hv
        obtain ⟨M, rfl⟩ : ∃ M, N = M + 1 := ⟨N - 1, by omega⟩
        simp only [Nat.add_sub_cancel] at cellj
        have dw : IntKind.i64.wrap (M : Int) = M := IntWalk.i64_in _ (by omega)
        have m0 : (0 : Int) ≤ M := by omega
        have mlt : (M : Int) < (M : Int) + 1 := by omega
        have mle : (M : Int) ≤ c := by
          have := hM.own.2
          rcases this with ⟨h, _⟩ | ⟨g', cap', cur, h, _, _, hle, _⟩
          · cases h
          · injection h with _ _ h3
            omega
        have holds : ∀ j u, (ps.take M)[j]? = some u → wr.cell? ((⟨g, 0, none⟩ : Addr).add j) = some u := fun j u hu => by
          rw [List.getElem?_take] at hu
          split at hu
          · exact hM.own.cells (g := g) rfl j u hu
          · cases hu
        have HH := Lib.hid holds
        have HPS := Lib.hid hps
        have HCJ := Lib.hid hcj
        have HPJ := Lib.hid hpj
        have HTJ := Lib.hid htj
        clear holds hps hcj hpj htj
        go_wp2_with fail
        go_region_held3 (fun w' => w'.cell? ⟨g, M, none⟩ = some (.pointer aj) ∧ Ext wr w') (((try dsimp only); refine ⟨Ext.keeps (a := wr) ?_ cellj, ?_⟩ <;> (repeat (first | with_reducible exact Ext.refl _ | with_reducible assumption | with_reducible refine Ext.drew ?_ | with_reducible refine Ext.alloc ?_ _ | with_reducible refine Ext.drewN ?_ _ | refine Ext.trans ?_ (by with_reducible assumption))))) ((refine step_append_tight Tryz.elem_conds (by rfl) (.tmp 38) (.tmp 46) (by rfl) ⟨g, 0, none⟩ ⟨wr.heap.size + 1 + 1, 0, none⟩ 1 [.pointer (some ⟨wr.heap.size + 1, 0, none⟩)] (by rfl) (by rfl) (xs := ps.take M) (B := w.heap.size) (by have := HPS.out; simp; omega) (by exact fun j u hu => Ext.keeps (by (repeat (first | with_reducible exact Ext.refl _ | with_reducible assumption | with_reducible refine Ext.drew ?_ | with_reducible refine Ext.alloc ?_ _ | with_reducible refine Ext.drewN ?_ _ | refine Ext.trans ?_ (by with_reducible assumption)))) (HH.out j u hu)) (by rfl) (cell_one_at _ _ _ _ (by simp)) (by omega) (by omega) (by simp; omega) ?_; intro g' cap' w2 hown2 hx2))
        have hEw : Ext ((wr.alloc (.cells #[.int .i64 x.code, .string x.col, .int .i64 x.v.kind, .int .i64 x.v.num, .string x.v.text] 114)).alloc (.cells #[.int .i64 11, .string ⟨#[]⟩, .int .i64 zeroV.kind, .int .i64 zeroV.num, .string zeroV.text, .pointer aj, .pointer none] 116)) w2 := Ext.trans (((Ext.refl _).alloc _).drew) hx2
        have hM2 : Mk w.heap.size w w2 60 1 (.slice (some ⟨g', 0, none⟩) (M + 1 : Nat) cap') (M + 1) (ps.take M ++ [.pointer (some ⟨(wr.alloc (.cells #[.int .i64 x.code, .string x.col, .int .i64 x.v.kind, .int .i64 x.v.num, .string x.v.text] 114)).heap.size, 0, none⟩)]) :=
          ⟨by simpa using hown2, ((hM.alloc (.cells #[.int .i64 x.code, .string x.col, .int .i64 x.v.kind, .int .i64 x.v.num, .string x.v.text] 114)).alloc (.cells #[.int .i64 11, .string ⟨#[]⟩, .int .i64 zeroV.kind, .int .i64 zeroV.num, .string zeroV.text, .pointer aj, .pointer none] 116) |>.step hEw).below, Nat.le_trans ((hM.alloc (.cells #[.int .i64 x.code, .string x.col, .int .i64 x.v.kind, .int .i64 x.v.num, .string x.v.text] 114)).alloc (.cells #[.int .i64 11, .string ⟨#[]⟩, .int .i64 zeroV.kind, .int .i64 zeroV.num, .string zeroV.text, .pointer aj, .pointer none] 116)).base hEw.size⟩
        have hrel := rel_new (v := zeroV) (st1 := st.take M) (row := none) (HC.out.take M) (by simp; have := HN.out; omega) ((Ext.refl wr).alloc (.cells #[.int .i64 x.code, .string x.col, .int .i64 x.v.kind, .int .i64 x.v.num, .string x.v.text] 114)) HST.out HX.out h2 (by rw [HS.out, Nat.add_sub_cancel]; rfl) (by omega) (lt := st.getD (M + 1 - 1) .nil) (rt := .nil) (by rw [List.getD_eq_getElem?_getD, HTJ.out]; exact HCJ.out.ext ((Ext.refl _).alloc _)) rfl (hEw.grownBy none) (fun g h => by cases h) hM2
        clear hown2 hx2 hEw hM2 hM c0 c1 c2 c3 c4 cellj
        go_wp2
        go_roundw
        case rel => exact hrel
        case measure => simp [intOf]; omega
--B>
      · by_cases case2 : (x.code = 9 ∨ x.code = 10) ∧ 1 < N
        · obtain ⟨c910, n1⟩ := case2
          have n0 : 0 < N := by omega
          have d11 : (x.code == 11) = false := by simp; omega
          have posN : (0 : Int) < N := by omega
          have posN1 : (1 : Int) < N := by omega
          have hstep : stepC st x = st.take (N - 2) ++ [opC x.code (st.getD (N - 2) .nil) (st.getD (N - 1) .nil)] := by
            rw [stepC, if_neg (by omega), if_pos ⟨c910, by rw [← HN.out]; exact n1⟩, ← HN.out]
          have HS := Lib.hid hstep
          obtain ⟨g, cc, hv, _, hgl⟩ := hM.own.form n0
          obtain rfl : A' = some ⟨g, 0, none⟩ := by injection hv
          have hps : ps.length = N := by have := hM.own.1; omega
          obtain ⟨pj, hpj⟩ : ∃ p, ps[N - 1]? = some p := ⟨ps[N - 1]'(by omega), List.getElem?_eq_getElem _⟩
          obtain ⟨tj, htj⟩ : ∃ t, st[N - 1]? = some t := ⟨st[N - 1]'(by rw [← HN.out]; omega), List.getElem?_eq_getElem _⟩
          have hcj := HC.out.2 (N - 1) pj tj hpj htj
          obtain ⟨aj, rfl⟩ := hcj.pointer
          have cellj : wr.cell? ⟨g, N - 1, none⟩ = some (.pointer aj) := by rw [hM.own.cellAt (N - 1) (by omega)]; exact hpj
          obtain ⟨pi, hpi⟩ : ∃ p, ps[N - 2]? = some p := ⟨ps[N - 2]'(by omega), List.getElem?_eq_getElem _⟩
          obtain ⟨ti, hti⟩ : ∃ t, st[N - 2]? = some t := ⟨st[N - 2]'(by rw [← HN.out]; omega), List.getElem?_eq_getElem _⟩
          have hci := HC.out.2 (N - 2) pi ti hpi hti
          obtain ⟨ai, rfl⟩ := hci.pointer
          have celli : wr.cell? ⟨g, N - 2, none⟩ = some (.pointer ai) := by rw [hM.own.cellAt (N - 2) (by omega)]; exact hpi
          obtain ⟨z9, hz9⟩ : ∃ z, (x.code == 9) = z := ⟨_, rfl⟩
          have hz10 : (x.code == 10) = !z9 := by rw [← hz9]; rcases c910 with h | h <;> simp [h]
          have HNN := Lib.hid n1
          clear hstep hv case1 c910 n1
          obtain ⟨M, rfl⟩ : ∃ M, N = M + 2 := ⟨N - 2, by have := HNN.out; omega⟩
          simp only [Nat.add_sub_cancel] at celli
          have cellj : wr.cell? ⟨g, M + 1, none⟩ = some (.pointer aj) := cellj
          have dw : IntKind.i64.wrap (M : Int) = M := IntWalk.i64_in _ (by omega)
          have dw1 : IntKind.i64.wrap ((M : Int) + 1) = M + 1 := IntWalk.i64_in _ (by omega)
          have dw2 : IntKind.i64.wrap ((M : Int) + 2 - 1) = M + 1 := by rw [show (M : Int) + 2 - 1 = M + 1 by omega]; exact dw1
          have m0 : (0 : Int) ≤ M := by omega
          have mlt : (M : Int) < (M : Int) + 2 := by omega
          have mlt1 : (M : Int) + 1 < (M : Int) + 2 := by omega
          have m01 : (0 : Int) ≤ (M : Int) + 1 := by omega
          have mle : (M : Int) ≤ c := by
            have := hM.own.2
            rcases this with ⟨h, _⟩ | ⟨g', cap', cur, h, _, _, hle, _⟩
            · cases h
            · injection h with _ _ h3
              omega
          have holds : ∀ j u, (ps.take M)[j]? = some u → wr.cell? ((⟨g, 0, none⟩ : Addr).add j) = some u := fun j u hu => by
            rw [List.getElem?_take] at hu
            split at hu
            · exact hM.own.cells (g := g) rfl j u hu
            · cases hu
          have HH := Lib.hid holds
          have HPS := Lib.hid hps
          have HCJ := Lib.hid hcj
          have HPJ := Lib.hid hpj
          have HTJ := Lib.hid htj
          have HCI := Lib.hid hci
          have HPI := Lib.hid hpi
          have HTI := Lib.hid hti
          clear holds hps hcj hpj htj hci hpi hti
          cases z9
          all_goals
            go_wp2_with fail
            go_region_held3 (fun w' => w'.cell? ⟨wr.heap.size, 0, none⟩ = some (.int .i64 x.code) ∧ w'.cell? ⟨g, M, none⟩ = some (.pointer ai) ∧ w'.cell? ⟨g, M + 1, none⟩ = some (.pointer aj) ∧ Ext wr w') (((try dsimp only); refine ⟨Ext.keeps (a := wr.alloc (.cells #[.int .i64 x.code, .string x.col, .int .i64 x.v.kind, .int .i64 x.v.num, .string x.v.text] 114)) ?_ (by go_simp), Ext.keeps (a := wr) ?_ celli, Ext.keeps (a := wr) ?_ cellj, ?_⟩ <;> (repeat (first | with_reducible exact Ext.refl _ | with_reducible assumption | with_reducible refine Ext.drew ?_ | with_reducible refine Ext.alloc ?_ _ | with_reducible refine Ext.drewN ?_ _ | refine Ext.trans ?_ (by with_reducible assumption))))) ((refine step_append_tight Tryz.elem_conds (by rfl) (.tmp 66) (.tmp 81) (by rfl) ⟨g, 0, none⟩ ⟨wr.heap.size + 1 + 1, 0, none⟩ 1 [.pointer (some ⟨wr.heap.size + 1, 0, none⟩)] (by rfl) (by rfl) (xs := ps.take M) (B := w.heap.size) (by have := HPS.out; simp; omega) (by exact fun j u hu => Ext.keeps (by (repeat (first | with_reducible exact Ext.refl _ | with_reducible assumption | with_reducible refine Ext.drew ?_ | with_reducible refine Ext.alloc ?_ _ | with_reducible refine Ext.drewN ?_ _ | refine Ext.trans ?_ (by with_reducible assumption)))) (HH.out j u hu)) (by rfl) (cell_one_at _ _ _ _ (by simp)) (by omega) (by omega) (by simp; omega) ?_; intro g' cap' w2 hown2 hx2))
            have hEw : Ext ((wr.alloc (.cells #[.int .i64 x.code, .string x.col, .int .i64 x.v.kind, .int .i64 x.v.num, .string x.v.text] 114)).alloc (.cells #[.int .i64 x.code, .string ⟨#[]⟩, .int .i64 zeroV.kind, .int .i64 zeroV.num, .string zeroV.text, .pointer ai, .pointer aj] 116)) w2 := Ext.trans (((Ext.refl _).alloc _).drew) hx2
            have hM2 : Mk w.heap.size w w2 60 1 (.slice (some ⟨g', 0, none⟩) (M + 1 : Nat) cap') (M + 1) (ps.take M ++ [.pointer (some ⟨(wr.alloc (.cells #[.int .i64 x.code, .string x.col, .int .i64 x.v.kind, .int .i64 x.v.num, .string x.v.text] 114)).heap.size, 0, none⟩)]) :=
              ⟨by simpa using hown2, ((hM.alloc (.cells #[.int .i64 x.code, .string x.col, .int .i64 x.v.kind, .int .i64 x.v.num, .string x.v.text] 114)).alloc (.cells #[.int .i64 x.code, .string ⟨#[]⟩, .int .i64 zeroV.kind, .int .i64 zeroV.num, .string zeroV.text, .pointer ai, .pointer aj] 116) |>.step hEw).below, Nat.le_trans ((hM.alloc (.cells #[.int .i64 x.code, .string x.col, .int .i64 x.v.kind, .int .i64 x.v.num, .string x.v.text] 114)).alloc (.cells #[.int .i64 x.code, .string ⟨#[]⟩, .int .i64 zeroV.kind, .int .i64 zeroV.num, .string zeroV.text, .pointer ai, .pointer aj] 116)).base hEw.size⟩
            have hrel := rel_new (v := zeroV) (st1 := st.take M) (row := none) (HC.out.take M) (by simp; have := HN.out; omega) ((Ext.refl wr).alloc (.cells #[.int .i64 x.code, .string x.col, .int .i64 x.v.kind, .int .i64 x.v.num, .string x.v.text] 114)) HST.out HX.out h2 (by rw [HS.out, Nat.add_sub_cancel]; rfl) (by omega) (lt := st.getD (M + 2 - 2) .nil) (rt := st.getD (M + 2 - 1) .nil) (by rw [List.getD_eq_getElem?_getD, HTI.out]; exact HCI.out.ext ((Ext.refl _).alloc _)) (by rw [List.getD_eq_getElem?_getD, HTJ.out]; exact HCJ.out.ext ((Ext.refl _).alloc _)) (hEw.grownBy none) (fun g h => by cases h) hM2
            clear hown2 hx2 hEw hM2 hM c0 c1 c2 c3 c4 cellj celli
            go_wp2
            go_roundw
            case rel => exact hrel
            case measure => simp [intOf]; omega
--<A
        · by_cases case3 : 1 ≤ x.code ∧ x.code ≤ 6
          · have d11 : (x.code == 11) = false := by simp; omega
            have d9 : (x.code == 9) = false := by simp; omega
            have d10 : (x.code == 10) = false := by simp; omega
            have d7 : (x.code == 7) = false := by simp; omega
            have d8 : (x.code == 8) = false := by simp; omega
            obtain ⟨g1, g6⟩ := case3
            by_cases h100 : x.v.text.size ≤ 100 ∧ rightB x.v.kind x.v.num x.v.text = true
            · obtain ⟨h100, hrb⟩ := h100
              have hstep : stepC st x = st ++ [.node x.code x.col x.v .nil .nil] := by
                rw [stepC, if_neg (by rw [← HN.out]; exact case1), if_neg (by rw [← HN.out]; exact case2), if_pos ⟨g1, g6, h100, hrb⟩]
              have HS := Lib.hid hstep
              clear case1 case2 hstep
              go_wp2_with (first | (go_at_call 51; refine (right_any _ _ _ _).mono ?_; rw [hrb]; rintro e w1 ⟨rfl, hw1⟩; have e0 := hw1.keeps (p := ⟨wr.heap.size, 0, none⟩) (v := .int .i64 x.code) (by go_simp); have e1 := hw1.keeps (p := ⟨wr.heap.size, 1, none⟩) (v := .string x.col) (by go_simp); have e2 := hw1.keeps (p := ⟨wr.heap.size, 2, none⟩) (v := .int .i64 x.v.kind) (by go_simp); have e3 := hw1.keeps (p := ⟨wr.heap.size, 3, none⟩) (v := .int .i64 x.v.num) (by go_simp); have e4 := hw1.keeps (p := ⟨wr.heap.size, 4, none⟩) (v := .string x.v.text) (by go_simp)) | (at_builtin; go_must (refine wpList_push Tryz.elem_conds rfl (.tmp 104) (.tmp 113) rfl [.pointer (some ⟨w1.heap.size, 0, none⟩)] (((hM.alloc _).step hw1).alloc _) (w1.heap.size + 1) (by simp) rfl rfl rfl (by simp [Value.oneCell']) (by omega) (by omega) ?_); intro g cap' w2 hM2 hg2 _))
              have hW : Mk w.heap.size w (w1.alloc (.cells #[.int .i64 x.code, .string x.col, .int .i64 x.v.kind, .int .i64 x.v.num, .string x.v.text, .pointer none, .pointer none] 116)) 60 1 (.slice A' N c) N ps := ((hM.alloc _).step hw1).alloc _
              have hrel := rel_new HC.out HN.out (((Ext.refl wr).alloc _).trans hw1) HST.out HX.out h2 HS.out hsk (lt := .nil) (rt := .nil) rfl rfl hg2 hW.row hM2
              clear hg2 hM2 hW hM hw1 e0 e1 e2 e3 e4 c0 c1 c2 c3 c4
              go_roundw
              case rel => exact hrel
              case measure => simp [intOf]; omega
            · have hstep : stepC st x = st := by
                rw [stepC, if_neg (by rw [← HN.out]; exact case1), if_neg (by rw [← HN.out]; exact case2), if_neg (fun h => h100 ⟨h.2.2.1, h.2.2.2⟩), if_neg (by omega)]
              have HS := Lib.hid hstep
              clear case1 case2 hstep
              by_cases hz : x.v.text.size ≤ 100
              · have hrb : rightB x.v.kind x.v.num x.v.text = false := by
                  cases h : rightB x.v.kind x.v.num x.v.text with
                  | false => rfl
                  | true => exact absurd ⟨hz, h⟩ h100
                clear h100
                go_wp2_with (go_at_call 51; refine (right_any _ _ _ _).mono ?_; rw [hrb]; rintro e w1 ⟨rfl, hw1⟩; have e0 := hw1.keeps (p := ⟨wr.heap.size, 0, none⟩) (v := .int .i64 x.code) (by go_simp); have e1 := hw1.keeps (p := ⟨wr.heap.size, 1, none⟩) (v := .string x.col) (by go_simp); have e2 := hw1.keeps (p := ⟨wr.heap.size, 2, none⟩) (v := .int .i64 x.v.kind) (by go_simp); have e3 := hw1.keeps (p := ⟨wr.heap.size, 3, none⟩) (v := .int .i64 x.v.num) (by go_simp); have e4 := hw1.keeps (p := ⟨wr.heap.size, 4, none⟩) (v := .string x.v.text) (by go_simp))
                have hrel := rel_same hM HC.out HN.out (((Ext.refl wr).alloc _).trans hw1) HST.out HX.out h2 HS.out hsk
                go_roundw
                case rel => exact hrel
                case measure => simp [intOf]; omega
              · clear h100
                have hrel := rel_same hM HC.out HN.out ((Ext.refl wr).alloc (.cells #[.int .i64 x.code, .string x.col, .int .i64 x.v.kind, .int .i64 x.v.num, .string x.v.text] 114)) HST.out HX.out h2 HS.out hsk
                go_wp2
                go_roundw
                case rel => exact hrel
                case measure => simp [intOf]; omega
          · by_cases c7 : x.code = 7
            · have c78 := c7
              have hstep : stepC st x = st ++ [.node x.code x.col zeroV .nil .nil] := by
                rw [stepC, if_neg (by rw [← HN.out]; exact case1), if_neg (by rw [← HN.out]; exact case2), if_neg (by omega), if_pos (by omega)]
              have HS := Lib.hid hstep
              have d11 : (x.code == 11) = false := by simp; omega
              have d9 : (x.code == 9) = false := by simp; omega
              have d10 : (x.code == 10) = false := by simp; omega
              have d7 : (x.code == 7) = true := by simp; omega
              have d8 : (x.code == 8) = false := by simp; omega
              have g7 : 7 ≤ x.code := by omega
              clear case1 case2 hstep case3 c78 c7
              go_wp2_with (at_builtin; go_must (refine wpList_push Tryz.elem_conds rfl (.tmp 124) (.tmp 131) rfl [.pointer (some ⟨wr.heap.size + 1, 0, none⟩)] ((hM.alloc _).alloc _) (wr.heap.size + 1 + 1) (by simp) rfl rfl rfl (by simp [Value.oneCell']) (by omega) (by omega) ?_); intro g cap' w2 hM2 hg2 _)
              have hW : Mk w.heap.size w (((wr.alloc (.cells #[.int .i64 x.code, .string x.col, .int .i64 x.v.kind, .int .i64 x.v.num, .string x.v.text] 114))).alloc (.cells #[.int .i64 x.code, .string x.col, .int .i64 0, .int .i64 0, .string ⟨#[]⟩, .pointer none, .pointer none] 116)) 60 1 (.slice A' N c) N ps := (hM.alloc _).alloc _
              have hrel := rel_new (v := zeroV) HC.out HN.out ((Ext.refl wr).alloc (.cells #[.int .i64 x.code, .string x.col, .int .i64 x.v.kind, .int .i64 x.v.num, .string x.v.text] 114)) HST.out HX.out h2 HS.out hsk (lt := .nil) (rt := .nil) rfl rfl hg2 hW.row (by simpa using hM2)
              clear hg2 hM2 hW hM c0 c1 c2 c3 c4
              go_roundw
              case rel => exact hrel
              case measure => simp [intOf]; omega
            · by_cases c8 : x.code = 8
              · have c78 := c8
                have hstep : stepC st x = st ++ [.node x.code x.col zeroV .nil .nil] := by
                  rw [stepC, if_neg (by rw [← HN.out]; exact case1), if_neg (by rw [← HN.out]; exact case2), if_neg (by omega), if_pos (by omega)]
                have HS := Lib.hid hstep
                have d11 : (x.code == 11) = false := by simp; omega
                have d9 : (x.code == 9) = false := by simp; omega
                have d10 : (x.code == 10) = false := by simp; omega
                have d7 : (x.code == 7) = false := by simp; omega
                have d8 : (x.code == 8) = true := by simp; omega
                have g7 : 7 ≤ x.code := by omega
                clear case1 case2 hstep case3 c78 c7 c8
                go_wp2_with (at_builtin; go_must (refine wpList_push Tryz.elem_conds rfl (.tmp 124) (.tmp 131) rfl [.pointer (some ⟨wr.heap.size + 1, 0, none⟩)] ((hM.alloc _).alloc _) (wr.heap.size + 1 + 1) (by simp) rfl rfl rfl (by simp [Value.oneCell']) (by omega) (by omega) ?_); intro g cap' w2 hM2 hg2 _)
                have hW : Mk w.heap.size w (((wr.alloc (.cells #[.int .i64 x.code, .string x.col, .int .i64 x.v.kind, .int .i64 x.v.num, .string x.v.text] 114))).alloc (.cells #[.int .i64 x.code, .string x.col, .int .i64 0, .int .i64 0, .string ⟨#[]⟩, .pointer none, .pointer none] 116)) 60 1 (.slice A' N c) N ps := (hM.alloc _).alloc _
                have hrel := rel_new (v := zeroV) HC.out HN.out ((Ext.refl wr).alloc (.cells #[.int .i64 x.code, .string x.col, .int .i64 x.v.kind, .int .i64 x.v.num, .string x.v.text] 114)) HST.out HX.out h2 HS.out hsk (lt := .nil) (rt := .nil) rfl rfl hg2 hW.row (by simpa using hM2)
                clear hg2 hM2 hW hM c0 c1 c2 c3 c4
                go_roundw
                case rel => exact hrel
                case measure => simp [intOf]; omega
              · by_cases c11 : x.code = 11
                · have n0 : (N : Int) ≤ 0 := by omega
                  have hstep : stepC st x = st := by
                    rw [stepC, if_neg (by rw [← HN.out]; exact case1), if_neg (by rw [← HN.out]; exact case2), if_neg (by omega), if_neg (by omega)]
                  have HS := Lib.hid hstep
                  have d11 : (x.code == 11) = true := by simp; omega
                  have d9 : (x.code == 9) = false := by simp; omega
                  have d10 : (x.code == 10) = false := by simp; omega
                  have d7 : (x.code == 7) = false := by simp; omega
                  have d8 : (x.code == 8) = false := by simp; omega
                  have g7 : 7 ≤ x.code := by omega
                  clear case1 case2 case3 hstep c7 c8 c11
                  have hrel := rel_same hM HC.out HN.out ((Ext.refl wr).alloc (.cells #[.int .i64 x.code, .string x.col, .int .i64 x.v.kind, .int .i64 x.v.num, .string x.v.text] 114)) HST.out HX.out h2 HS.out hsk
                  go_wp2
                  go_roundw
                  case rel => exact hrel
                  case measure => simp [intOf]; omega
                · by_cases c910 : x.code = 9 ∨ x.code = 10
                  · have n1 : (N : Int) ≤ 1 := by omega
                    have hstep : stepC st x = st := by
                      rw [stepC, if_neg (by rw [← HN.out]; exact case1), if_neg (by rw [← HN.out]; exact case2), if_neg (by omega), if_neg (by omega)]
                    have HS := Lib.hid hstep
                    have d11 : (x.code == 11) = false := by simp; omega
                    have d7 : (x.code == 7) = false := by simp; omega
                    have d8 : (x.code == 8) = false := by simp; omega
                    have g7 : 7 ≤ x.code := by omega
                    clear case1 case2 case3 hstep c7 c8 c11
                    rcases c910 with h9 | h10
                    · have d9 : (x.code == 9) = true := by simp [h9]
                      clear h9
                      have hrel := rel_same hM HC.out HN.out ((Ext.refl wr).alloc (.cells #[.int .i64 x.code, .string x.col, .int .i64 x.v.kind, .int .i64 x.v.num, .string x.v.text] 114)) HST.out HX.out h2 HS.out hsk
                      go_wp2
                      go_roundw
                      case rel => exact hrel
                      case measure => simp [intOf]; omega
                    · have d9 : (x.code == 9) = false := by simp [h10]
                      have d10 : (x.code == 10) = true := by simp [h10]
                      clear h10
                      have hrel := rel_same hM HC.out HN.out ((Ext.refl wr).alloc (.cells #[.int .i64 x.code, .string x.col, .int .i64 x.v.kind, .int .i64 x.v.num, .string x.v.text] 114)) HST.out HX.out h2 HS.out hsk
                      go_wp2
                      go_roundw
                      case rel => exact hrel
                      case measure => simp [intOf]; omega
                  · have d11 : (x.code == 11) = false := by simp; omega
                    have d9 : (x.code == 9) = false := by simp; omega
                    have d10 : (x.code == 10) = false := by simp; omega
                    have d7 : (x.code == 7) = false := by simp; omega
                    have d8 : (x.code == 8) = false := by simp; omega
                    have hstep : stepC st x = st := by
                      rw [stepC, if_neg (by rw [← HN.out]; exact case1), if_neg (by rw [← HN.out]; exact case2), if_neg (by omega), if_neg (by omega)]
                    have HS := Lib.hid hstep
                    by_cases g1 : 1 ≤ x.code
                    · have g7 : 7 ≤ x.code := by omega
                      clear case1 case2 case3 hstep c7 c8 c11 c910
                      have hrel := rel_same hM HC.out HN.out ((Ext.refl wr).alloc (.cells #[.int .i64 x.code, .string x.col, .int .i64 x.v.kind, .int .i64 x.v.num, .string x.v.text] 114)) HST.out HX.out h2 HS.out hsk
                      go_wp2
                      go_roundw
                      case rel => exact hrel
                      case measure => simp [intOf]; omega
                    · clear case1 case2 case3 hstep c7 c8 c11 c910
                      have hrel := rel_same hM HC.out HN.out ((Ext.refl wr).alloc (.cells #[.int .i64 x.code, .string x.col, .int .i64 x.v.kind, .int .i64 x.v.num, .string x.v.text] 114)) HST.out HX.out h2 HS.out hsk
                      go_wp2
                      go_roundw
                      case rel => exact hrel
                      case measure => simp [intOf]; omega
--A>
    · have hfin : st = stackC l := by
        rw [HST.out, stackC]
        congr 1
        have := Hn.out
        by_cases h14 : k < 14
        · have : k = l.length := by omega
          rw [this, List.take_length, List.take_of_length_le (by omega)]
        · rw [show k = 14 by omega]
      have hcT : condT l = foldC st := by rw [condT, ← hfin]
      have HT := Lib.hid hcT
      clear hfin hcT HST
      obtain ⟨N, hN⟩ : ∃ N, N = st.length := ⟨_, rfl⟩
      rw [← hN] at hM hsk ⊢
      have HN := Lib.hid hN; clear hN
      have hE := Lib.hid hM.ext
      obtain ⟨wr0, rfl⟩ : ∃ W : World, W = wr := ⟨_, rfl⟩
      by_cases n0 : N = 0
      · have hst0 : st = [] := List.eq_nil_of_length_eq_zero (by rw [← HN.out]; exact n0)
        have hT0 : condT l = .nil := by rw [HT.out, hst0]; rfl
        have HT0 := Lib.hid hT0
        have b0 : ((N : Int) == 0) = true := by simp [n0]
        clear hst0 hT0 n0
        by_cases hk14' : k < 14
        · have hge : n ≤ k := by omega
          clear hlt
          go_wp2
          go_ret
          exact ⟨⟨_, rfl, by rw [HT0.out]; rfl⟩, hE.out⟩
        · clear hlt
          by_cases hkn : k < n
          · go_wp2
            go_ret
            exact ⟨⟨_, rfl, by rw [HT0.out]; rfl⟩, hE.out⟩
          · go_wp2
            go_ret
            exact ⟨⟨_, rfl, by rw [HT0.out]; rfl⟩, hE.out⟩
      · have b0 : ((N : Int) == 0) = false := by simp [n0]
        obtain ⟨g, cc, hv, _, hgl⟩ := hM.own.form (by omega)
        obtain rfl : A' = some ⟨g, 0, none⟩ := by injection hv
        have hps : ps.length = N := by have := hM.own.1; omega
        obtain ⟨p0, hp0⟩ : ∃ p, ps[0]? = some p := ⟨ps[0]'(by omega), List.getElem?_eq_getElem _⟩
        obtain ⟨t0, ht0⟩ : ∃ t, st[0]? = some t := ⟨st[0]'(by rw [← HN.out]; omega), List.getElem?_eq_getElem _⟩
        have hc0 := HC.out.2 0 p0 t0 hp0 ht0
        obtain ⟨a0, rfl⟩ := hc0.pointer
        have cell0 : wr0.cell? ⟨g, 0, none⟩ = some (.pointer a0) := by rw [hM.own.cellAt 0 (by omega)]; exact hp0
        have hst1 : st = t0 :: st.drop 1 := by
          cases st with
          | nil => simp at ht0
          | cons a b => simp at ht0; rw [ht0]; rfl
        have hT1 : condT l = ((st.drop 1).take (N - 1)).foldl (fun a b => opC 9 a b) t0 := by
          rw [HT.out, hst1, foldC, List.take_of_length_le (by simp; have := HN.out; omega)]
          rfl
        have HT1 := Lib.hid hT1
        have HC0 := Lib.hid hc0
        have HP := Lib.hid hps
        clear hp0 ht0 hst1 hT1 hc0 hv hps
        have pos : (0 : Int) < N := by omega
        have posN : 0 < N := by omega
        clear n0
        by_cases hkn : k < n
        · have hk14' : 14 ≤ k := by omega
          clear hlt
          go_wp2
          go_loopw [7, 8] (fun cv i wr2 => ∃ (j : Nat) (v : Option Addr) (t : CT), i = .int .i64 j ∧ 1 ≤ j ∧ j ≤ N ∧ cv = .pointer v ∧ CondAt wr2 (.pointer v) t ∧ t = ((st.drop 1).take (j - 1)).foldl (fun a b => opC 9 a b) t0 ∧ Ext wr0 wr2) (fun _ i _ => N - (intOf i).toNat)
          case atStart => exact ⟨1, a0, t0, rfl, Nat.le_refl _, posN, rfl, HC0.out, by simp, Ext.refl _⟩
          case round =>
            obtain ⟨j, v, t, rfl, hj1, hjN, rfl, hct, ht, hx2⟩ := hrel
            have HCT := Lib.hid hct
            have HTT := Lib.hid ht
            clear hct ht
            by_cases hjl : j < N
            · obtain ⟨pj, hpj⟩ : ∃ p, ps[j]? = some p := ⟨ps[j]'(by have := HP.out; omega), List.getElem?_eq_getElem _⟩
              obtain ⟨tj, htj⟩ : ∃ t, st[j]? = some t := ⟨st[j]'(by rw [← HN.out]; omega), List.getElem?_eq_getElem _⟩
              have hcj := HC.out.2 j pj tj hpj htj
              obtain ⟨aj, rfl⟩ := hcj.pointer
              have cellj : wr0.cell? ⟨g, j, none⟩ = some (.pointer aj) := by rw [hM.own.cellAt j (by omega)]; exact hpj
              have cellj' := hx2.keeps cellj
              have hnew : CondAt (wr.alloc (.cells #[.int .i64 9, .string ⟨#[]⟩, .int .i64 0, .int .i64 0, .string ⟨#[]⟩, .pointer v, .pointer aj] 116)) (.pointer (some ⟨wr.heap.size, 0, none⟩)) (opC 9 t tj) :=
                ⟨wr.heap.size, .pointer v, .pointer aj, rfl, heap_alloc_new _ _, HCT.out.ext ((Ext.refl _).alloc _), hcj.ext (hx2.alloc _)⟩
              have hfold : opC 9 t tj = ((st.drop 1).take (j + 1 - 1)).foldl (fun a b => opC 9 a b) t0 := by
                rw [show j + 1 - 1 = (j - 1) + 1 by omega, List.take_add_one, List.getElem?_drop, show 1 + (j - 1) = j by omega, htj]
                rw [List.foldl_append, ← HTT.out]
                rfl
              have HNEW := Lib.hid hnew
              have HFOLD := Lib.hid hfold
              clear hnew hfold cellj hcj hpj htj
              go_wp2
              go_roundw
              case rel => exact ⟨j + 1, _, opC 9 t tj, by simp, by omega, by omega, rfl, HNEW.out, HFOLD.out, hx2.alloc _⟩
              case measure => simp [intOf]; omega
            · obtain rfl : j = N := by omega
              go_wp2
              go_ret
              exact ⟨⟨_, rfl, by rw [HT1.out, ← HTT.out]; exact HCT.out⟩, hE.out.trans hx2⟩
        · clear hlt
          go_wp2
          go_loopw [7, 8] (fun cv i wr2 => ∃ (j : Nat) (v : Option Addr) (t : CT), i = .int .i64 j ∧ 1 ≤ j ∧ j ≤ N ∧ cv = .pointer v ∧ CondAt wr2 (.pointer v) t ∧ t = ((st.drop 1).take (j - 1)).foldl (fun a b => opC 9 a b) t0 ∧ Ext wr0 wr2) (fun _ i _ => N - (intOf i).toNat)
          case atStart => exact ⟨1, a0, t0, rfl, Nat.le_refl _, posN, rfl, HC0.out, by simp, Ext.refl _⟩
          case round =>
            obtain ⟨j, v, t, rfl, hj1, hjN, rfl, hct, ht, hx2⟩ := hrel
            have HCT := Lib.hid hct
            have HTT := Lib.hid ht
            clear hct ht
            by_cases hjl : j < N
            · obtain ⟨pj, hpj⟩ : ∃ p, ps[j]? = some p := ⟨ps[j]'(by have := HP.out; omega), List.getElem?_eq_getElem _⟩
              obtain ⟨tj, htj⟩ : ∃ t, st[j]? = some t := ⟨st[j]'(by rw [← HN.out]; omega), List.getElem?_eq_getElem _⟩
              have hcj := HC.out.2 j pj tj hpj htj
              obtain ⟨aj, rfl⟩ := hcj.pointer
              have cellj : wr0.cell? ⟨g, j, none⟩ = some (.pointer aj) := by rw [hM.own.cellAt j (by omega)]; exact hpj
              have cellj' := hx2.keeps cellj
              have hnew : CondAt (wr.alloc (.cells #[.int .i64 9, .string ⟨#[]⟩, .int .i64 0, .int .i64 0, .string ⟨#[]⟩, .pointer v, .pointer aj] 116)) (.pointer (some ⟨wr.heap.size, 0, none⟩)) (opC 9 t tj) :=
                ⟨wr.heap.size, .pointer v, .pointer aj, rfl, heap_alloc_new _ _, HCT.out.ext ((Ext.refl _).alloc _), hcj.ext (hx2.alloc _)⟩
              have hfold : opC 9 t tj = ((st.drop 1).take (j + 1 - 1)).foldl (fun a b => opC 9 a b) t0 := by
                rw [show j + 1 - 1 = (j - 1) + 1 by omega, List.take_add_one, List.getElem?_drop, show 1 + (j - 1) = j by omega, htj]
                rw [List.foldl_append, ← HTT.out]
                rfl
              have HNEW := Lib.hid hnew
              have HFOLD := Lib.hid hfold
              clear hnew hfold cellj hcj hpj htj
              go_wp2
              go_roundw
              case rel => exact ⟨j + 1, _, opC 9 t tj, by simp, by omega, by omega, rfl, HNEW.out, HFOLD.out, hx2.alloc _⟩
              case measure => simp [intOf]; omega
            · obtain rfl : j = N := by omega
              go_wp2
              go_ret
              exact ⟨⟨_, rfl, by rw [HT1.out, ← HTT.out]; exact HCT.out⟩, hE.out.trans hx2⟩
end Go.Proofs.YtcpllhjhnfmepaaGreatDoor
