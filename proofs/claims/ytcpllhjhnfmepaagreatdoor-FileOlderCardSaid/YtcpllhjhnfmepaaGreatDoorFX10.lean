/- Texts joined: An argument that is a slice of changes of columns: what its cells hold. schema.Less. schema.Rename. -/
import Derived.Test.YtcpllhjhnfmepaaGreatDoorFX01
import Derived.Test.YtcpllhjhnfmepaaGreatDoorFX09
import Derived.Lib.SmallJoins
/- An argument that is a slice of changes of columns: what its cells hold. -/
namespace Go.Proofs.YtcpllhjhnfmepaaGreatDoor
set_option linter.unusedSimpArgs false
set_option linter.unusedVariables false
open Go.RowKit
set_option linter.all false
open Go.ChangeShapes Go.WideShapes Go.ChangeAt Go.Joins Go.Deep
theorem Tryz.cellsBool : Tryz.prog.cellsOf 4 = 1 := by kernel_rfl
theorem Tryz.cellsCol : Tryz.prog.cellsOf 47 = 7 := by kernel_rfl
theorem Tryz.cellsCh : Tryz.prog.cellsOf 49 = 10 := by kernel_rfl
theorem trod_struct5 {H : Type} {enc : TypeId × Value → H} {P : Program} {w : World} {base : Nat} {spare : Nat → Bool} {held : Bool} {t : TypeId} {f0 f1 f2 f3 f4 : Field} {fuel : Nat} {cs : List Value} {x : DataW H × List MemPlace} (ht : P.underlying t = some (.struct #[f0, f1, f2, f3, f4])) (h : DataW.trod enc P w base spare held fuel t cs = some x) :
    ∃ y0 y1 y2 y3 y4 n, cs.length = P.cellsOf t ∧ DataW.trod enc P w base spare held n f0.type ((cs.drop f0.offset).take (P.cellsOf f0.type)) = some y0 ∧
      DataW.trod enc P w base spare held n f1.type ((cs.drop f1.offset).take (P.cellsOf f1.type)) = some y1 ∧ DataW.trod enc P w base spare held n f2.type ((cs.drop f2.offset).take (P.cellsOf f2.type)) = some y2 ∧
      DataW.trod enc P w base spare held n f3.type ((cs.drop f3.offset).take (P.cellsOf f3.type)) = some y3 ∧ DataW.trod enc P w base spare held n f4.type ((cs.drop f4.offset).take (P.cellsOf f4.type)) = some y4 := by
  obtain ⟨xs, n, _, rfl, hl, hlen, hf⟩ := DataW.trod_struct ht h
  match xs, hlen with
  | [y0, y1, y2, y3, y4], _ => exact ⟨y0, y1, y2, y3, y4, n, hl, by simpa using hf 0 f0 rfl, by simpa using hf 1 f1 rfl, by simpa using hf 2 f2 rfl, by simpa using hf 3 f3 rfl, by simpa using hf 4 f4 rfl⟩
section
variable {H : Type} {enc : TypeId × Value → H} {w : World} {base fuel : Nat} {spare : Nat → Bool} {held : Bool}
theorem gv_cells3 {c0 c1 c2 : Value} {x : DataW H × List MemPlace} (h : DataW.trod enc Tryz.prog w base spare held fuel 45 [c0, c1, c2] = some x) : ∃ p : GV, c0 = .int .i64 p.kind ∧ c1 = .int .i64 p.num ∧ c2 = .string p.text := by
  obtain ⟨y0, y1, y2, n, _, hl, h0, h1, h2⟩ := trod_struct3 Tryz.underlying45 h
  simp only [Tryz.cellsInt, Tryz.cellsInt64, Tryz.cellsString, List.drop_zero, List.drop_succ_cons, List.take_succ_cons, List.take_zero] at h0 h1 h2
  obtain ⟨kind, e2, _, _⟩ := DataW.trod_int Tryz.underlying3 h0
  obtain ⟨num, e3, _, _⟩ := DataW.trod_int Tryz.underlying2 h1
  obtain ⟨text, e4, _, _⟩ := DataW.trod_string Tryz.underlying9 h2
  simp only [List.cons.injEq, and_true] at e2 e3 e4
  exact ⟨⟨kind, num, text⟩, e2, e3, e4⟩
theorem col_cells {c0 c1 c2 c3 c4 c5 c6 : Value} {x : DataW H × List MemPlace} (h : DataW.trod enc Tryz.prog w base spare held fuel 47 [c0, c1, c2, c3, c4, c5, c6] = some x) : ∃ p : CG, c0 = .int .i64 p.id ∧ c1 = .string p.name ∧ c2 = .int .i64 p.kind ∧ c3 = .bool p.must ∧ c4 = .int .i64 p.d.kind ∧ c5 = .int .i64 p.d.num ∧ c6 = .string p.d.text := by
  obtain ⟨y0, y1, y2, y3, y4, n, hl, h0, h1, h2, h3, h4⟩ := trod_struct5 Tryz.underlying47 h
  simp only [Tryz.cellsInt, Tryz.cellsBool, Tryz.cellsString, Tryz.cellsVal, List.drop_zero, List.drop_succ_cons, List.take_succ_cons, List.take_zero] at h0 h1 h2 h3 h4
  obtain ⟨id, e0, _, _⟩ := DataW.trod_int Tryz.underlying3 h0
  obtain ⟨nm, e1, _, _⟩ := DataW.trod_string Tryz.underlying9 h1
  obtain ⟨kd, e2, _, _⟩ := DataW.trod_int Tryz.underlying3 h2
  obtain ⟨mu, e3, _⟩ := DataW.trod_bool Tryz.underlying4 h3
  obtain ⟨d, e4, e5, e6⟩ := gv_cells3 h4
  simp only [List.cons.injEq, and_true] at e0 e1 e2 e3
  exact ⟨⟨id, nm, kd, mu, d⟩, e0, e1, e2, e3, e4, e5, e6⟩
set_option maxRecDepth 100000 in
theorem ch_cells {cs : List Value} {x : DataW H × List MemPlace} (h : DataW.trod enc Tryz.prog w base spare held fuel 49 cs = some x) :
    ∃ p : HG, cs = [.int .i64 p.what, .int .i64 p.c.id, .string p.c.name, .int .i64 p.c.kind, .bool p.c.must, .int .i64 p.c.d.kind, .int .i64 p.c.d.num, .string p.c.d.text, .string p.name, .string p.tgt] := by
  obtain ⟨y0, y1, y2, y3, n, _, hl, h0, h1, h2, h3⟩ := trod_struct4 Tryz.underlying49 h
  rw [Tryz.cellsCh] at hl
  match cs, hl with
  | [c0, c1, c2, c3, c4, c5, c6, c7, c8, c9], _ =>
    simp only [Tryz.cellsInt, Tryz.cellsCol, Tryz.cellsString, List.drop_zero, List.drop_succ_cons, List.take_succ_cons, List.take_zero] at h0 h1 h2 h3
    obtain ⟨what, e0, _, _⟩ := DataW.trod_int Tryz.underlying3 h0
    obtain ⟨nm, e2, _, _⟩ := DataW.trod_string Tryz.underlying9 h2
    obtain ⟨tg, e3, _, _⟩ := DataW.trod_string Tryz.underlying9 h3
    obtain ⟨c, f0, f1, f2, f3, f4, f5, f6⟩ := col_cells h1
    simp only [List.cons.injEq, and_true] at e0 e2 e3
    subst e0 e2 e3 f0 f1 f2 f3 f4 f5 f6
    exact ⟨⟨what, c, nm, tg⟩, rfl⟩
end
set_option maxRecDepth 100000 in
/-- a slice of changes that comes in -/
theorem open_changes {H : Type} {enc : TypeId × Value → H} {w : World} {base b0 : Nat} {r : Reach} {v : Value} {d : DataW H} {p : List MemPlace}
    (hv : Value.okWide Tryz.prog w r b0 43 v) (h : DataW.Trod enc Tryz.prog w base (fun _ => true) true 43 v d p) :
    ∃ (l : List HG) (A : Option Addr) (c : Nat), v = .slice A l.length c ∧ RH w A l := by
  obtain ⟨a0, len, cap, rfl⟩ := okWide_slice Tryz.underlying43 hv
  obtain ⟨fuel, hf⟩ := h
  rcases open_slice Tryz.underlying43 hf with ⟨hcs, hx⟩ | ⟨a, len', cap', m, n, D, Pl, hcs, hb, hl, hm, hmm, hx, hi⟩
  · simp [Value.cells] at hcs
    obtain ⟨rfl, rfl, rfl⟩ := hcs
    exact ⟨[], none, 0, rfl, fun i x hi => by simp at hi⟩
  · simp [Value.cells] at hcs
    obtain ⟨rfl, rfl, rfl⟩ := hcs
    rw [Tryz.cellsCh] at hi
    have hlm : len ≤ m := by rw [hmm]; split <;> omega
    obtain ⟨l, hll, hq⟩ := list_of (Q := fun i (x : HG) => ∀ j u, [Value.int .i64 x.what, .int .i64 x.c.id, .string x.c.name, .int .i64 x.c.kind, .bool x.c.must, .int .i64 x.c.d.kind, .int .i64 x.c.d.num, .string x.c.d.text, .string x.name, .string x.tgt][j]? = some u → w.cell? (a.add (i * 10 + j)) = some u) len (fun i hil => by
      obtain ⟨cs', hc, ht⟩ := hi i (by omega)
      obtain ⟨x, rfl⟩ := ch_cells ht
      obtain ⟨_, hcl, hat⟩ := World.cells?_some hc
      refine ⟨x, fun j u hu => ?_⟩
      have hj : j < 10 := by
        have := (List.getElem?_eq_some_iff.1 hu).1
        simpa using this
      rw [← Go.Deep.add_add, hat j hj, hu])
    refine ⟨l, some a, cap, by rw [hll], fun i x hx' => ?_⟩
    have q := hq i x hx'
    have hil : i < l.length := (List.getElem?_eq_some_iff.1 hx').1
    have z0 : w.cell? a = some (.int .i64 (l[0]'(by omega)).what) := by
      have := hq 0 (l[0]'(by omega)) (List.getElem?_eq_getElem _) 0 _ rfl
      simpa [Addr.add] using this
    obtain ⟨b, o, spot⟩ := a
    have hspot : spot = none := by
      have := World.cell?_spot z0
      simpa using this
    subst hspot
    have q' : ∀ j u, [Value.int .i64 x.what, .int .i64 x.c.id, .string x.c.name, .int .i64 x.c.kind, .bool x.c.must, .int .i64 x.c.d.kind, .int .i64 x.c.d.num, .string x.c.d.text, .string x.name, .string x.tgt][j]? = some u → w.cell? ⟨b, o + (i * 10 + j), none⟩ = some u := fun j u hu => by rw [← addr_add]; exact q j u hu
    exact ⟨b, o, rfl, q' 0 _ rfl, q' 1 _ rfl, q' 2 _ rfl, q' 3 _ rfl, q' 4 _ rfl, q' 5 _ rfl, q' 6 _ rfl, q' 7 _ rfl, q' 8 _ rfl, q' 9 _ rfl⟩
end Go.Proofs.YtcpllhjhnfmepaaGreatDoor

/- schema.Less. -/
namespace Go.Proofs.YtcpllhjhnfmepaaGreatDoor
set_option linter.all false
set_option linter.unusedSimpArgs false
set_option linter.unusedVariables false
open Go.RowKit
/-- a row of columns that is not empty has an address -/
theorem Hp.addrC {B : Nat} {w0 w : World} {L : List Item} {A : Option Addr} {cap n : Nat} {xs : List Value} {t : TypeId} {size : Nat} (h : Hp B w0 w (.row t size A n cap xs :: L)) (hn : 0 < n) : ∃ g, A = some ⟨g, 0, none⟩ ∧ n ≤ cap ∧ cap ≤ 9223372036854775807 := by
  rcases (h.head : World.ownsRow _ _ _ _ _ _ _).2 with ⟨hv, _⟩ | ⟨g, cp, cur, hv, _, _, hnc, hm, _⟩
  · simp at hv; omega
  · simp at hv
    obtain ⟨rfl, rfl⟩ := hv
    exact ⟨g, rfl, hnc, hm⟩
def lessE (l : List CG) (nm : ByteArray) : Int := if idxC (nmEq nm) 0 l < 0 then 7 else if l.length = 1 then 6 else 0
def lessL (l : List CG) (nm : ByteArray) : List CG := l.eraseIdx (idxC (nmEq nm) 0 l).toNat
theorem idxC_range (p : CG → Bool) : ∀ (l : List CG) (k : Nat), -1 ≤ idxC p k l ∧ idxC p k l < k + l.length
  | [], k => by simp [idxC]; omega
  | x :: l, k => by
    unfold idxC
    have := idxC_range p l (k + 1)
    split <;> simp <;> omega
/-- what changes columns hands back -/
def CRes (w : World) (err : Int) (m : List CG) (e : Ending) (w' : World) : Prop :=
  if err = 0 then ∃ A' cap', e = .returned (.tuple #[.slice A' m.length cap', .nilIface]) ∧ Hp w.heap.size w w' [cRow A' cap' m] else e = .returned (.tuple #[.slice none 0 0, .iface 86 (.int .i64 err)]) ∧ Ext w w'
theorem CRes.bad {w : World} {err : Int} {m : List CG} {e : Ending} {w' : World} (he : err ≠ 0) (h : e = .returned (.tuple #[.slice none 0 0, .iface 86 (.int .i64 err)])) (hx : Ext w w') : CRes w err m e w' := by
  unfold CRes; rw [if_neg he]; exact ⟨h, hx⟩
theorem CRes.good {w : World} {m : List CG} {e : Ending} {w' : World} {A' : Option Addr} {cap' : Nat} (h : e = .returned (.tuple #[.slice A' m.length cap', .nilIface])) (hS : Hp w.heap.size w w' [cRow A' cap' m]) : CRes w 0 m e w' := by
  unfold CRes; rw [if_pos rfl]; exact ⟨A', cap', h, hS⟩
set_option maxRecDepth 100000 in
set_option maxHeartbeats 8000000 in
theorem less_any (l : List CG) (b o cap : Nat) (nm : ByteArray) (w : World) (hr : RC w (some ⟨b, o, none⟩) l) (hl : l.length ≤ 1000) (h0 : 0 < l.length) :
    Calls Tryz.prog 17 #[.slice (some ⟨b, o, none⟩) l.length cap, .string nm] w (CRes w (lessE l nm) (lessL l nm)) := by
  have HF := Lib.hid (fun (W : World) hx => find_any l (some ⟨b, o, none⟩) cap nm W (hr.ext (w' := W) hx) (by omega))
  have HC := Lib.hid (fun (W : World) hx => clone_any l b o cap W (hr.ext (w' := W) hx) hl)
  have hrange := idxC_range (nmEq nm) l 0
  obtain ⟨n, hn⟩ : ∃ n, n = l.length := ⟨_, rfl⟩
  have Hn := Lib.hid hn
  rw [← hn] at HF HC hl h0 ⊢
  obtain ⟨ix, hix⟩ : ∃ ix, ix = idxC (nmEq nm) 0 l := ⟨_, rfl⟩
  rw [← hix] at HF
  unfold lessE lessL
  rw [← hix, ← hn]
  rw [← hix, ← hn] at hrange
  have hi1 := hrange.2
  clear hix hn hr hrange
  have hS := Hp.init w
  have hR := Reads.nil w
  by_cases hneg : ix < 0
  · rw [if_pos hneg]
    go_enter Tryz.func17, Tryz.ntmps17
    go_wp2_with (first | ((with_reducible first | refine nhLa ?_ | refine nhLs ?_ | refine nhLd ?_ | refine nhCa ?_ | refine nhCs ?_ | refine nhCd ?_ | refine nhPa ?_ | refine nhPs ?_ | refine nhPd ?_ | refine nhKa ?_ | refine nhKs ?_ | refine nhKd ?_); ((try clear hF); clear hS; intro wk hS; (try simp only [List.set_cons_zero, List.set_cons_succ, heap_size, heap_set_size] at hS); ((try clear hF); (first | have hF := And.intro hS.facts (hR.at hS.ext) | have hF := hS.facts); simp only [HFacts, cellFacts, RFacts, cellOnly, and_true, true_and, Nat.zero_add, Nat.reduceAdd] at hF))) | (go_at_call 27; (with_reducible refine (HF.out _ hS.ext).mono ?_); rintro e wk ⟨rfl, hX⟩; replace hS := hS.step hX; clear hX; ((try clear hF); (first | have hF := And.intro hS.facts (hR.at hS.ext) | have hF := hS.facts); simp only [HFacts, cellFacts, RFacts, cellOnly, and_true, true_and, Nat.zero_add, Nat.reduceAdd] at hF)))
    go_ret2
    exact CRes.bad (by decide) rfl hS.ext
  · rw [if_neg hneg]
    obtain ⟨k, rfl⟩ := Int.eq_ofNat_of_zero_le (by omega : 0 ≤ ix)
    have hk : k < n := by omega
    clear hi1
    by_cases h1 : n = 1
    · rw [if_pos h1]
      subst h1
      go_enter Tryz.func17, Tryz.ntmps17
      go_wp2_with (first | ((with_reducible first | refine nhLa ?_ | refine nhLs ?_ | refine nhLd ?_ | refine nhCa ?_ | refine nhCs ?_ | refine nhCd ?_ | refine nhPa ?_ | refine nhPs ?_ | refine nhPd ?_ | refine nhKa ?_ | refine nhKs ?_ | refine nhKd ?_); ((try clear hF); clear hS; intro wk hS; (try simp only [List.set_cons_zero, List.set_cons_succ, heap_size, heap_set_size] at hS); ((try clear hF); (first | have hF := And.intro hS.facts (hR.at hS.ext) | have hF := hS.facts); simp only [HFacts, cellFacts, RFacts, cellOnly, and_true, true_and, Nat.zero_add, Nat.reduceAdd] at hF))) | (go_at_call 27; (with_reducible refine (HF.out _ hS.ext).mono ?_); rintro e wk ⟨rfl, hX⟩; replace hS := hS.step hX; clear hX; ((try clear hF); (first | have hF := And.intro hS.facts (hR.at hS.ext) | have hF := hS.facts); simp only [HFacts, cellFacts, RFacts, cellOnly, and_true, true_and, Nat.zero_add, Nat.reduceAdd] at hF)))
      go_ret2
      exact CRes.bad (by decide) rfl hS.ext
    · rw [if_neg h1]
      go_enter Tryz.func17, Tryz.ntmps17
      go_wp2_with (first | ((with_reducible first | refine nhLa ?_ | refine nhLs ?_ | refine nhLd ?_ | refine nhCa ?_ | refine nhCs ?_ | refine nhCd ?_ | refine nhPa ?_ | refine nhPs ?_ | refine nhPd ?_ | refine nhKa ?_ | refine nhKs ?_ | refine nhKd ?_); ((try clear hF); clear hS; intro wk hS; (try simp only [List.set_cons_zero, List.set_cons_succ, heap_size, heap_set_size] at hS); ((try clear hF); (first | have hF := And.intro hS.facts (hR.at hS.ext) | have hF := hS.facts); simp only [HFacts, cellFacts, RFacts, cellOnly, and_true, true_and, Nat.zero_add, Nat.reduceAdd] at hF))) | (go_at_call 27; (with_reducible refine (HF.out _ hS.ext).mono ?_); rintro e wk ⟨rfl, hX⟩; replace hS := hS.step hX; clear hX; ((try clear hF); (first | have hF := And.intro hS.facts (hR.at hS.ext) | have hF := hS.facts); simp only [HFacts, cellFacts, RFacts, cellOnly, and_true, true_and, Nat.zero_add, Nat.reduceAdd] at hF)) | (go_at_call 40; (with_reducible refine Calls.mono (HC.out _ hS.ext) ?_); rintro e wk ⟨A', cap', rfl, hW⟩; replace hS := hS.join hW; clear hW; simp only [List.cons_append, List.nil_append] at hS; (obtain ⟨g, rfl, hnc, hcm⟩ := hS.addrC (by rw [← Hn.out]; exact h0)); ((try clear hF); (first | have hF := And.intro hS.facts (hR.at hS.ext) | have hF := hS.facts); simp only [HFacts, cellFacts, RFacts, cellOnly, and_true, true_and, Nat.zero_add, Nat.reduceAdd] at hF)))
      go_at_call 48; (with_reducible refine Calls.mono (delete_any l g n cap' k Hn.out.symm hk (by rw [Hn.out]; exact hnc) hcm (by have := hS; unfold cRow at this; rw [← Hn.out] at this; exact this)) ?_)
      clear hS; rintro e wk ⟨rfl, hS⟩; ((try clear hF); (first | have hF := And.intro hS.facts (hR.at hS.ext) | have hF := hS.facts); simp only [HFacts, cellFacts, RFacts, cellOnly, and_true, true_and, Nat.zero_add, Nat.reduceAdd] at hF)
      go_wp2_with (first | ((with_reducible first | refine nhLa ?_ | refine nhLs ?_ | refine nhLd ?_ | refine nhCa ?_ | refine nhCs ?_ | refine nhCd ?_ | refine nhPa ?_ | refine nhPs ?_ | refine nhPd ?_ | refine nhKa ?_ | refine nhKs ?_ | refine nhKd ?_); ((try clear hF); clear hS; intro wk hS; (try simp only [List.set_cons_zero, List.set_cons_succ, heap_size, heap_set_size] at hS); ((try clear hF); (first | have hF := And.intro hS.facts (hR.at hS.ext) | have hF := hS.facts); simp only [HFacts, cellFacts, RFacts, cellOnly, and_true, true_and, Nat.zero_add, Nat.reduceAdd] at hF))) | fail)
      go_ret2
      have e : (l.eraseIdx k).length = n - 1 := by rw [List.length_eraseIdx, if_pos (by rw [← Hn.out]; exact hk), ← Hn.out]
      exact CRes.good (by rw [show ((k : Int)).toNat = k from rfl, e]; rfl) (by unfold cRow; rw [show ((k : Int)).toNat = k from rfl, e]; exact hS)
end Go.Proofs.YtcpllhjhnfmepaaGreatDoor

/- schema.Rename. -/
namespace Go.Proofs.YtcpllhjhnfmepaaGreatDoor
set_option linter.all false
set_option linter.unusedSimpArgs false
set_option linter.unusedVariables false
open Go.RowKit
def renE (l : List CG) (nm to : ByteArray) : Int := if idxC (nmEq nm) 0 l < 0 then 7 else if (!nameB to || keptB to) = true then 1 else if 0 ≤ idxC (nmEq to) 0 l then 9 else 0
def renC (c : CG) (to : ByteArray) : CG := { c with name := to }
def renL (l : List CG) (nm to : ByteArray) : List CG := match l[(idxC (nmEq nm) 0 l).toNat]? with
  | some c => l.set (idxC (nmEq nm) 0 l).toNat (renC c to)
  | none => l
theorem cellsC_set : ∀ (l : List CG) (k : Nat) (c : CG) (to : ByteArray), l[k]? = some c → (cellsC l).set (k * 7 + 1) (.string to) = cellsC (l.set k (renC c to))
  | [], k, c, to, h => by cases h
  | x :: l, 0, c, to, h => by
    simp at h; subst h
    simp [cellsC, renC]
  | x :: l, k + 1, c, to, h => by
    have := cellsC_set l k c to (by simpa using h)
    rw [show (k + 1) * 7 + 1 = k * 7 + 1 + 7 by omega]
    simp [cellsC, this]
set_option maxRecDepth 100000 in
set_option maxHeartbeats 8000000 in
theorem rename_any (l : List CG) (b o cap : Nat) (nm to : ByteArray) (w : World) (hr : RC w (some ⟨b, o, none⟩) l) (hl : l.length ≤ 1000) (h0 : 0 < l.length) (hK : KeptAt w) :
    Calls Tryz.prog 18 #[.slice (some ⟨b, o, none⟩) l.length cap, .string nm, .string to] w (CRes w (renE l nm to) (renL l nm to)) := by
  have HF := Lib.hid (fun (W : World) hx => find_any l (some ⟨b, o, none⟩) cap nm W (hr.ext (w' := W) hx) (by omega))
  have HT := Lib.hid (fun (W : World) hx => find_any l (some ⟨b, o, none⟩) cap to W (hr.ext (w' := W) hx) (by omega))
  have HC := Lib.hid (fun (W : World) hx => clone_any l b o cap W (hr.ext (w' := W) hx) hl)
  have HN := Lib.hid (fun W => name_any to W)
  have HKP := Lib.hid (fun W hx => kept_any to W (hK.ext (w' := W) hx))
  have hrange := idxC_range (nmEq nm) l 0
  obtain ⟨n, hn⟩ : ∃ n, n = l.length := ⟨_, rfl⟩
  have Hn := Lib.hid hn
  rw [← hn] at HF HT HC hl h0 ⊢
  obtain ⟨ix, hix⟩ : ∃ ix, ix = idxC (nmEq nm) 0 l := ⟨_, rfl⟩
  obtain ⟨it, hit⟩ : ∃ ix, ix = idxC (nmEq to) 0 l := ⟨_, rfl⟩
  obtain ⟨nb, hnb⟩ : ∃ b, b = nameB to := ⟨_, rfl⟩
  obtain ⟨kb, hkb⟩ : ∃ b, b = keptB to := ⟨_, rfl⟩
  rw [← hix] at HF
  rw [← hit] at HT
  rw [← hnb] at HN
  rw [← hkb] at HKP
  obtain ⟨M, hM⟩ : ∃ M, M = renL l nm to := ⟨_, rfl⟩
  rw [← hM]
  unfold renL at hM
  rw [← hix] at hM
  have HM := Lib.hid hM
  clear hM
  unfold renE
  rw [← hix, ← hit, ← hnb, ← hkb]
  rw [← hix, ← hn] at hrange
  have hi1 := hrange.2
  clear hix hit hnb hkb hn hr hrange hK
  have hS := Hp.init w
  have hR := Reads.nil w
  by_cases hneg : ix < 0
  · rw [if_pos hneg]
    go_enter Tryz.func18, Tryz.ntmps18
    go_wp2_with (first | ((with_reducible first | refine nhLa ?_ | refine nhLs ?_ | refine nhLd ?_ | refine nhCa ?_ | refine nhCs ?_ | refine nhCd ?_ | refine nhPa ?_ | refine nhPs ?_ | refine nhPd ?_ | refine nhKa ?_ | refine nhKs ?_ | refine nhKd ?_); ((try clear hF); clear hS; intro wk hS; (try simp only [List.set_cons_zero, List.set_cons_succ, heap_size, heap_set_size] at hS); ((try clear hF); (first | have hF := And.intro hS.facts (hR.at hS.ext) | have hF := hS.facts); simp only [HFacts, cellFacts, RFacts, cellOnly, and_true, true_and, Nat.zero_add, Nat.reduceAdd] at hF))) | (go_at_call 27; (with_reducible refine (HF.out _ hS.ext).mono ?_); rintro e wk ⟨rfl, hX⟩; replace hS := hS.step hX; clear hX; ((try clear hF); (first | have hF := And.intro hS.facts (hR.at hS.ext) | have hF := hS.facts); simp only [HFacts, cellFacts, RFacts, cellOnly, and_true, true_and, Nat.zero_add, Nat.reduceAdd] at hF)))
    go_ret2
    exact CRes.bad (by decide) rfl hS.ext
  · rw [if_neg hneg]
    obtain ⟨k, rfl⟩ := Int.eq_ofNat_of_zero_le (by omega : 0 ≤ ix)
    have hk : k < n := by omega
    clear hi1
    obtain ⟨c, hc⟩ : ∃ c, l[k]? = some c := ⟨l[k]'(by rw [← Hn.out]; exact hk), List.getElem?_eq_getElem _⟩
    have hM2 : M = l.set k (renC c to) := by rw [HM.out, show ((k : Int)).toNat = k from rfl, hc]
    have HM2 := Lib.hid hM2
    clear hM2 HM
    have HAT := Lib.hid (cellsC_at l k c hc).2.1
    have HSET := Lib.hid (cellsC_set l k c to hc)
    clear hc
    cases nb with
    | false =>
      rw [if_pos (by simp)]
      go_enter Tryz.func18, Tryz.ntmps18
      go_wp2_with (first | ((with_reducible first | refine nhLa ?_ | refine nhLs ?_ | refine nhLd ?_ | refine nhCa ?_ | refine nhCs ?_ | refine nhCd ?_ | refine nhPa ?_ | refine nhPs ?_ | refine nhPd ?_ | refine nhKa ?_ | refine nhKs ?_ | refine nhKd ?_); ((try clear hF); clear hS; intro wk hS; (try simp only [List.set_cons_zero, List.set_cons_succ, heap_size, heap_set_size] at hS); ((try clear hF); (first | have hF := And.intro hS.facts (hR.at hS.ext) | have hF := hS.facts); simp only [HFacts, cellFacts, RFacts, cellOnly, and_true, true_and, Nat.zero_add, Nat.reduceAdd] at hF))) | (go_at_call 27; (with_reducible refine (HF.out _ hS.ext).mono ?_); rintro e wk ⟨rfl, hX⟩; replace hS := hS.step hX; clear hX; ((try clear hF); (first | have hF := And.intro hS.facts (hR.at hS.ext) | have hF := hS.facts); simp only [HFacts, cellFacts, RFacts, cellOnly, and_true, true_and, Nat.zero_add, Nat.reduceAdd] at hF)) | (go_at_call 49; (with_reducible refine (HN.out _).mono ?_); rintro e wk ⟨rfl, hX⟩; replace hS := hS.step hX; clear hX; ((try clear hF); (first | have hF := And.intro hS.facts (hR.at hS.ext) | have hF := hS.facts); simp only [HFacts, cellFacts, RFacts, cellOnly, and_true, true_and, Nat.zero_add, Nat.reduceAdd] at hF)) | (go_at_call 50; (with_reducible refine (HKP.out _ hS.ext).mono ?_); rintro e wk ⟨rfl, hX⟩; replace hS := hS.step hX; clear hX; ((try clear hF); (first | have hF := And.intro hS.facts (hR.at hS.ext) | have hF := hS.facts); simp only [HFacts, cellFacts, RFacts, cellOnly, and_true, true_and, Nat.zero_add, Nat.reduceAdd] at hF)) | (first | (with_reducible refine wp_region_hp (draw := true) (by kernel_rfl) (by kernel_rfl) hS ?_) | ((with_reducible refine Fixed.here ?_); (first | ((with_reducible apply Fixed.skip); (first | rfl | exact wanted_false rfl rfl rfl (by assumption)); try simp only [Act.put, List.setIfInBounds_toArray, List.set_cons_zero, List.set_cons_succ]) | ((with_reducible apply Fixed.val); (first | rfl | exact wanted_true rfl rfl rfl (by assumption)); (rintro w hS; ((try clear hF); (first | have hF := And.intro hS.facts (hR.at hS.ext) | have hF := hS.facts); simp only [HFacts, cellFacts, RFacts, cellOnly, and_true, true_and, Nat.zero_add, Nat.reduceAdd] at hF); go_simp; with_reducible rfl); try simp only [Act.put, List.setIfInBounds_toArray, List.set_cons_zero, List.set_cons_succ]) | ((with_reducible apply Fixed.call); (first | rfl | exact wanted_true rfl rfl rfl (by assumption)); (rintro w hS; ((try clear hF); (first | have hF := And.intro hS.facts (hR.at hS.ext) | have hF := hS.facts); simp only [HFacts, cellFacts, RFacts, cellOnly, and_true, true_and, Nat.zero_add, Nat.reduceAdd] at hF); go_simp; exact ⟨rfl, rfl⟩); (rintro w hS; first | (with_reducible exact HN.out w) | (with_reducible exact HKP.out w hS.ext)); try simp only [Act.put, List.setIfInBounds_toArray, List.set_cons_zero, List.set_cons_succ]) | ((with_reducible apply Fixed.guardT); rfl; rfl; rfl; (all_goals intro hg)) | ((with_reducible apply Fixed.guardF); rfl; rfl; rfl; (all_goals intro hg)) | (with_reducible refine Fixed.done ?_; (try clear hF); clear hS; intro wk hS; ((try clear hF); (first | have hF := And.intro hS.facts (hR.at hS.ext) | have hF := hS.facts); simp only [HFacts, cellFacts, RFacts, cellOnly, and_true, true_and, Nat.zero_add, Nat.reduceAdd] at hF))))))
      go_ret2
      exact CRes.bad (by decide) rfl hS.ext
    | true =>
      cases kb with
      | true =>
        rw [if_pos (by simp)]
        go_enter Tryz.func18, Tryz.ntmps18
        go_wp2_with (first | ((with_reducible first | refine nhLa ?_ | refine nhLs ?_ | refine nhLd ?_ | refine nhCa ?_ | refine nhCs ?_ | refine nhCd ?_ | refine nhPa ?_ | refine nhPs ?_ | refine nhPd ?_ | refine nhKa ?_ | refine nhKs ?_ | refine nhKd ?_); ((try clear hF); clear hS; intro wk hS; (try simp only [List.set_cons_zero, List.set_cons_succ, heap_size, heap_set_size] at hS); ((try clear hF); (first | have hF := And.intro hS.facts (hR.at hS.ext) | have hF := hS.facts); simp only [HFacts, cellFacts, RFacts, cellOnly, and_true, true_and, Nat.zero_add, Nat.reduceAdd] at hF))) | (go_at_call 27; (with_reducible refine (HF.out _ hS.ext).mono ?_); rintro e wk ⟨rfl, hX⟩; replace hS := hS.step hX; clear hX; ((try clear hF); (first | have hF := And.intro hS.facts (hR.at hS.ext) | have hF := hS.facts); simp only [HFacts, cellFacts, RFacts, cellOnly, and_true, true_and, Nat.zero_add, Nat.reduceAdd] at hF)) | (go_at_call 49; (with_reducible refine (HN.out _).mono ?_); rintro e wk ⟨rfl, hX⟩; replace hS := hS.step hX; clear hX; ((try clear hF); (first | have hF := And.intro hS.facts (hR.at hS.ext) | have hF := hS.facts); simp only [HFacts, cellFacts, RFacts, cellOnly, and_true, true_and, Nat.zero_add, Nat.reduceAdd] at hF)) | (go_at_call 50; (with_reducible refine (HKP.out _ hS.ext).mono ?_); rintro e wk ⟨rfl, hX⟩; replace hS := hS.step hX; clear hX; ((try clear hF); (first | have hF := And.intro hS.facts (hR.at hS.ext) | have hF := hS.facts); simp only [HFacts, cellFacts, RFacts, cellOnly, and_true, true_and, Nat.zero_add, Nat.reduceAdd] at hF)) | (first | (with_reducible refine wp_region_hp (draw := true) (by kernel_rfl) (by kernel_rfl) hS ?_) | ((with_reducible refine Fixed.here ?_); (first | ((with_reducible apply Fixed.skip); (first | rfl | exact wanted_false rfl rfl rfl (by assumption)); try simp only [Act.put, List.setIfInBounds_toArray, List.set_cons_zero, List.set_cons_succ]) | ((with_reducible apply Fixed.val); (first | rfl | exact wanted_true rfl rfl rfl (by assumption)); (rintro w hS; ((try clear hF); (first | have hF := And.intro hS.facts (hR.at hS.ext) | have hF := hS.facts); simp only [HFacts, cellFacts, RFacts, cellOnly, and_true, true_and, Nat.zero_add, Nat.reduceAdd] at hF); go_simp; with_reducible rfl); try simp only [Act.put, List.setIfInBounds_toArray, List.set_cons_zero, List.set_cons_succ]) | ((with_reducible apply Fixed.call); (first | rfl | exact wanted_true rfl rfl rfl (by assumption)); (rintro w hS; ((try clear hF); (first | have hF := And.intro hS.facts (hR.at hS.ext) | have hF := hS.facts); simp only [HFacts, cellFacts, RFacts, cellOnly, and_true, true_and, Nat.zero_add, Nat.reduceAdd] at hF); go_simp; exact ⟨rfl, rfl⟩); (rintro w hS; first | (with_reducible exact HN.out w) | (with_reducible exact HKP.out w hS.ext)); try simp only [Act.put, List.setIfInBounds_toArray, List.set_cons_zero, List.set_cons_succ]) | ((with_reducible apply Fixed.guardT); rfl; rfl; rfl; (all_goals intro hg)) | ((with_reducible apply Fixed.guardF); rfl; rfl; rfl; (all_goals intro hg)) | (with_reducible refine Fixed.done ?_; (try clear hF); clear hS; intro wk hS; ((try clear hF); (first | have hF := And.intro hS.facts (hR.at hS.ext) | have hF := hS.facts); simp only [HFacts, cellFacts, RFacts, cellOnly, and_true, true_and, Nat.zero_add, Nat.reduceAdd] at hF))))))
        go_ret2
        exact CRes.bad (by decide) rfl hS.ext
      | false =>
        rw [if_neg (by simp)]
        by_cases ht : 0 ≤ it
        · rw [if_pos ht]
          go_enter Tryz.func18, Tryz.ntmps18
          go_wp2_with (first | ((with_reducible first | refine nhLa ?_ | refine nhLs ?_ | refine nhLd ?_ | refine nhCa ?_ | refine nhCs ?_ | refine nhCd ?_ | refine nhPa ?_ | refine nhPs ?_ | refine nhPd ?_ | refine nhKa ?_ | refine nhKs ?_ | refine nhKd ?_); ((try clear hF); clear hS; intro wk hS; (try simp only [List.set_cons_zero, List.set_cons_succ, heap_size, heap_set_size] at hS); ((try clear hF); (first | have hF := And.intro hS.facts (hR.at hS.ext) | have hF := hS.facts); simp only [HFacts, cellFacts, RFacts, cellOnly, and_true, true_and, Nat.zero_add, Nat.reduceAdd] at hF))) | (go_at_call 27; (with_reducible refine (HF.out _ hS.ext).mono ?_); rintro e wk ⟨rfl, hX⟩; replace hS := hS.step hX; clear hX; ((try clear hF); (first | have hF := And.intro hS.facts (hR.at hS.ext) | have hF := hS.facts); simp only [HFacts, cellFacts, RFacts, cellOnly, and_true, true_and, Nat.zero_add, Nat.reduceAdd] at hF)) | (go_at_call 27; (with_reducible refine (HT.out _ hS.ext).mono ?_); rintro e wk ⟨rfl, hX⟩; replace hS := hS.step hX; clear hX; ((try clear hF); (first | have hF := And.intro hS.facts (hR.at hS.ext) | have hF := hS.facts); simp only [HFacts, cellFacts, RFacts, cellOnly, and_true, true_and, Nat.zero_add, Nat.reduceAdd] at hF)) | (go_at_call 49; (with_reducible refine (HN.out _).mono ?_); rintro e wk ⟨rfl, hX⟩; replace hS := hS.step hX; clear hX; ((try clear hF); (first | have hF := And.intro hS.facts (hR.at hS.ext) | have hF := hS.facts); simp only [HFacts, cellFacts, RFacts, cellOnly, and_true, true_and, Nat.zero_add, Nat.reduceAdd] at hF)) | (go_at_call 50; (with_reducible refine (HKP.out _ hS.ext).mono ?_); rintro e wk ⟨rfl, hX⟩; replace hS := hS.step hX; clear hX; ((try clear hF); (first | have hF := And.intro hS.facts (hR.at hS.ext) | have hF := hS.facts); simp only [HFacts, cellFacts, RFacts, cellOnly, and_true, true_and, Nat.zero_add, Nat.reduceAdd] at hF)) | (first | (with_reducible refine wp_region_hp (draw := true) (by kernel_rfl) (by kernel_rfl) hS ?_) | ((with_reducible refine Fixed.here ?_); (first | ((with_reducible apply Fixed.skip); (first | rfl | exact wanted_false rfl rfl rfl (by assumption)); try simp only [Act.put, List.setIfInBounds_toArray, List.set_cons_zero, List.set_cons_succ]) | ((with_reducible apply Fixed.val); (first | rfl | exact wanted_true rfl rfl rfl (by assumption)); (rintro w hS; ((try clear hF); (first | have hF := And.intro hS.facts (hR.at hS.ext) | have hF := hS.facts); simp only [HFacts, cellFacts, RFacts, cellOnly, and_true, true_and, Nat.zero_add, Nat.reduceAdd] at hF); go_simp; with_reducible rfl); try simp only [Act.put, List.setIfInBounds_toArray, List.set_cons_zero, List.set_cons_succ]) | ((with_reducible apply Fixed.call); (first | rfl | exact wanted_true rfl rfl rfl (by assumption)); (rintro w hS; ((try clear hF); (first | have hF := And.intro hS.facts (hR.at hS.ext) | have hF := hS.facts); simp only [HFacts, cellFacts, RFacts, cellOnly, and_true, true_and, Nat.zero_add, Nat.reduceAdd] at hF); go_simp; exact ⟨rfl, rfl⟩); (rintro w hS; first | (with_reducible exact HN.out w) | (with_reducible exact HKP.out w hS.ext)); try simp only [Act.put, List.setIfInBounds_toArray, List.set_cons_zero, List.set_cons_succ]) | ((with_reducible apply Fixed.guardT); rfl; rfl; rfl; (all_goals intro hg)) | ((with_reducible apply Fixed.guardF); rfl; rfl; rfl; (all_goals intro hg)) | (with_reducible refine Fixed.done ?_; (try clear hF); clear hS; intro wk hS; ((try clear hF); (first | have hF := And.intro hS.facts (hR.at hS.ext) | have hF := hS.facts); simp only [HFacts, cellFacts, RFacts, cellOnly, and_true, true_and, Nat.zero_add, Nat.reduceAdd] at hF))))))
          go_ret2
          exact CRes.bad (by decide) rfl hS.ext
        · rw [if_neg ht]
          go_enter Tryz.func18, Tryz.ntmps18
          go_wp2_with (first | ((with_reducible first | refine nhLa ?_ | refine nhLs ?_ | refine nhLd ?_ | refine nhCa ?_ | refine nhCs ?_ | refine nhCd ?_ | refine nhPa ?_ | refine nhPs ?_ | refine nhPd ?_ | refine nhKa ?_ | refine nhKs ?_ | refine nhKd ?_); ((try clear hF); clear hS; intro wk hS; (try simp only [List.set_cons_zero, List.set_cons_succ, heap_size, heap_set_size] at hS); ((try clear hF); (first | have hF := And.intro hS.facts (hR.at hS.ext) | have hF := hS.facts); simp only [HFacts, cellFacts, RFacts, cellOnly, and_true, true_and, Nat.zero_add, Nat.reduceAdd] at hF))) | (go_at_call 27; (with_reducible refine (HF.out _ hS.ext).mono ?_); rintro e wk ⟨rfl, hX⟩; replace hS := hS.step hX; clear hX; ((try clear hF); (first | have hF := And.intro hS.facts (hR.at hS.ext) | have hF := hS.facts); simp only [HFacts, cellFacts, RFacts, cellOnly, and_true, true_and, Nat.zero_add, Nat.reduceAdd] at hF)) | (go_at_call 27; (with_reducible refine (HT.out _ hS.ext).mono ?_); rintro e wk ⟨rfl, hX⟩; replace hS := hS.step hX; clear hX; ((try clear hF); (first | have hF := And.intro hS.facts (hR.at hS.ext) | have hF := hS.facts); simp only [HFacts, cellFacts, RFacts, cellOnly, and_true, true_and, Nat.zero_add, Nat.reduceAdd] at hF)) | (go_at_call 49; (with_reducible refine (HN.out _).mono ?_); rintro e wk ⟨rfl, hX⟩; replace hS := hS.step hX; clear hX; ((try clear hF); (first | have hF := And.intro hS.facts (hR.at hS.ext) | have hF := hS.facts); simp only [HFacts, cellFacts, RFacts, cellOnly, and_true, true_and, Nat.zero_add, Nat.reduceAdd] at hF)) | (go_at_call 50; (with_reducible refine (HKP.out _ hS.ext).mono ?_); rintro e wk ⟨rfl, hX⟩; replace hS := hS.step hX; clear hX; ((try clear hF); (first | have hF := And.intro hS.facts (hR.at hS.ext) | have hF := hS.facts); simp only [HFacts, cellFacts, RFacts, cellOnly, and_true, true_and, Nat.zero_add, Nat.reduceAdd] at hF)) | (first | (with_reducible refine wp_region_hp (draw := true) (by kernel_rfl) (by kernel_rfl) hS ?_) | ((with_reducible refine Fixed.here ?_); (first | ((with_reducible apply Fixed.skip); (first | rfl | exact wanted_false rfl rfl rfl (by assumption)); try simp only [Act.put, List.setIfInBounds_toArray, List.set_cons_zero, List.set_cons_succ]) | ((with_reducible apply Fixed.val); (first | rfl | exact wanted_true rfl rfl rfl (by assumption)); (rintro w hS; ((try clear hF); (first | have hF := And.intro hS.facts (hR.at hS.ext) | have hF := hS.facts); simp only [HFacts, cellFacts, RFacts, cellOnly, and_true, true_and, Nat.zero_add, Nat.reduceAdd] at hF); go_simp; with_reducible rfl); try simp only [Act.put, List.setIfInBounds_toArray, List.set_cons_zero, List.set_cons_succ]) | ((with_reducible apply Fixed.call); (first | rfl | exact wanted_true rfl rfl rfl (by assumption)); (rintro w hS; ((try clear hF); (first | have hF := And.intro hS.facts (hR.at hS.ext) | have hF := hS.facts); simp only [HFacts, cellFacts, RFacts, cellOnly, and_true, true_and, Nat.zero_add, Nat.reduceAdd] at hF); go_simp; exact ⟨rfl, rfl⟩); (rintro w hS; first | (with_reducible exact HN.out w) | (with_reducible exact HKP.out w hS.ext)); try simp only [Act.put, List.setIfInBounds_toArray, List.set_cons_zero, List.set_cons_succ]) | ((with_reducible apply Fixed.guardT); rfl; rfl; rfl; (all_goals intro hg)) | ((with_reducible apply Fixed.guardF); rfl; rfl; rfl; (all_goals intro hg)) | (with_reducible refine Fixed.done ?_; (try clear hF); clear hS; intro wk hS; ((try clear hF); (first | have hF := And.intro hS.facts (hR.at hS.ext) | have hF := hS.facts); simp only [HFacts, cellFacts, RFacts, cellOnly, and_true, true_and, Nat.zero_add, Nat.reduceAdd] at hF))))))
          go_at_call 40; (with_reducible refine Calls.mono (HC.out _ hS.ext) ?_); rintro e wk ⟨A', cap', rfl, hW⟩; replace hS := hS.join hW; clear hW; simp only [List.cons_append, List.nil_append] at hS; (obtain ⟨g, rfl, hnc, hcm⟩ := hS.addrC (by rw [← Hn.out]; exact h0)); (obtain ⟨g', hg', hcc, hcf⟩ := hS.rowCell 0 rfl HAT.out); (obtain rfl : g = g' := by simpa using hg'); clear hg'; ((try clear hF); (first | have hF := And.intro hS.facts (hR.at hS.ext) | have hF := hS.facts); simp only [HFacts, cellFacts, RFacts, cellOnly, and_true, true_and, Nat.zero_add, Nat.reduceAdd] at hF)
          go_wp2_with fail
          go_ret2
          have hS2 := hS.putRow (k * 7 + 1) (.string to)
          rw [HSET.out, ← HM2.out] at hS2
          have hml : M.length = l.length := by rw [HM2.out, List.length_set]
          exact CRes.good (by rw [hml, ← Hn.out]; rfl) (by unfold cRow; rw [hml]; exact hS2)
end Go.Proofs.YtcpllhjhnfmepaaGreatDoor
