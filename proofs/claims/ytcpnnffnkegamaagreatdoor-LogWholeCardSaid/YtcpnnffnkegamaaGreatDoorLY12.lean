/- Texts joined: millpondkeep.logged: a fact: it is true. commits as they come in; what Apply makes of them, beside whatever is owned. What LogWhole keeps: tables as they were, and their files. Arguments that are commits: what their cells hold. -/
import Derived.Test.YtcpnnffnkegamaaGreatDoorLY11
import Derived.Test.YtcpnnffnkegamaaGreatDoorLY09
import Derived.Test.YtcpnnffnkegamaaGreatDoorLY03
import Derived.Test.YtcpnnffnkegamaaGreatDoorLY01
import Derived.Lib.SmallJoins
/- millpondkeep.logged: a fact: it is true. -/
namespace Go.Proofs.YtcpnnffnkegamaaGreatDoor
set_option linter.unusedSimpArgs false
set_option linter.unusedVariables false
open Go.RowKit
set_option linter.all false
def c1L : CG := ⟨1, ⟨#[97]⟩, 1, false, ⟨0, 0, ⟨#[]⟩⟩⟩
def a1L : AN := ⟨4, ⟨#[]⟩, 0, [], [c1L], 2⟩
def a2L : AN := ⟨1, ⟨#[102]⟩, 3, [], [], 0⟩
def a3L : AN := ⟨3, ⟨#[102]⟩, 0, [1], [], 0⟩
abbrev txL : ByteArray := ⟨#[116]⟩
abbrev saidL : ByteArray := ⟨#[99, 111, 109, 109, 105, 116, 32, 116, 32, 98, 108, 105, 110, 100, 10, 115, 99, 104, 101, 109, 97, 32, 50, 32, 49, 32, 97, 32, 49, 32, 109, 97, 121, 32, 110, 117, 108, 108, 10, 97, 100, 100, 32, 102, 32, 51, 10, 109, 97, 115, 107, 32, 102, 32, 49, 10]⟩
def sL : SN := ⟨1, [c1L], 2, [⟨⟨#[102]⟩, 3, [1]⟩]⟩
theorem sortL : sortI [1] = [1] := by
  unfold sortI
  simp
theorem printL_eq : printC txL false [a1L, a2L, a3L] = some saidL := by decide +kernel
theorem act1L : actE ⟨1, [], 0, []⟩ a1L = 0 := by decide +kernel
theorem act2L : actE ⟨1, [c1L], 2, []⟩ a2L = 0 := by decide +kernel
theorem act3L : actE ⟨1, [c1L], 2, [⟨⟨#[102]⟩, 3, []⟩]⟩ a3L = 0 := by decide +kernel
theorem name1L : nameB txL = true := by decide +kernel
theorem idx3L : idxP (⟨#[102]⟩ : ByteArray) 0 [⟨#[102]⟩] = 0 := by decide +kernel
theorem applyL_eq : applyR ⟨0, [], 0, []⟩ txL [a1L, a2L, a3L] = .ok sL := by
  unfold applyR
  rw [if_pos name1L]
  have h : runA 0 { (⟨0, [], 0, []⟩ : SN) with ver := (⟨0, [], 0, []⟩ : SN).ver + 1 } [a1L, a2L, a3L] = .ok sL := by
    rw [runA_cons, if_pos (show actE { (⟨0, [], 0, []⟩ : SN) with ver := (⟨0, [], 0, []⟩ : SN).ver + 1 } a1L = 0 from act1L)]
    rw [show actS { (⟨0, [], 0, []⟩ : SN) with ver := (⟨0, [], 0, []⟩ : SN).ver + 1 } a1L = ⟨1, [c1L], 2, []⟩ from rfl]
    rw [runA_cons, if_pos act2L]
    rw [show actS ⟨1, [c1L], 2, []⟩ a2L = ⟨1, [c1L], 2, [⟨⟨#[102]⟩, 3, []⟩]⟩ from rfl]
    rw [runA_cons, if_pos act3L]
    rw [show actS ⟨1, [c1L], 2, [⟨⟨#[102]⟩, 3, []⟩]⟩ a3L = sL by
      unfold actS
      simp only [a3L, show ((3 : Int) = 4) = False by simp, show ((3 : Int) = 1) = False by simp, show ((3 : Int) = 2) = False by simp, if_false, List.map_cons, List.map_nil, idx3L, Int.toNat_zero, List.getElem?_cons_zero, List.set_cons_zero, List.nil_append, sortL]
      rfl]
    rfl
  rw [h]
def loggedL (gc gi : Nat) : List (AN × AV) := [(a1L, ⟨none, 0, 0, some ⟨gc, 0, none⟩, 1, 1⟩), (a2L, ⟨none, 0, 0, none, 0, 0⟩), (a3L, ⟨some ⟨gi, 0, none⟩, 1, 1, none, 0, 0⟩)]
theorem rc_nilL (W : World) (A : Option Addr) : RC W A [] := fun i c hi => by simp at hi
theorem ri_nilL (W : World) (A : Option Addr) : RI W A [] := fun i c hi => by simp at hi
theorem rc_oneL {W : World} {g : Nat} {t : TypeId} (h : W.heap[g]? = some (.cells #[.int .i64 1, .string ⟨#[97]⟩, .int .i64 1, .bool false, .int .i64 0, .int .i64 0, .string ⟨#[]⟩] t (0, 0))) : RC W (some ⟨g, 0, none⟩) [c1L] := by
  intro i c hi
  cases i with
  | zero =>
    obtain rfl : c1L = c := by simpa using hi
    refine ⟨g, 0, rfl, ?_⟩
    unfold c1L
    simp [World.cell?, h]
  | succ i => simp at hi
theorem ri_oneL {W : World} {g : Nat} {t : TypeId} (h : W.heap[g]? = some (.cells #[.int .i64 1] t (0, 0))) : RI W (some ⟨g, 0, none⟩) [1] := by
  intro i c hi
  cases i with
  | zero =>
    obtain rfl : 1 = c := by simpa using hi
    exact ⟨g, 0, rfl, by simp [World.cell?, h]⟩
  | succ i => simp at hi
theorem ra_L {W : World} {g gc gi : Nat} {t : TypeId} (h : W.heap[g]? = some (.cells #[.int .i64 4, .string ⟨#[]⟩, .int .i64 0, .slice none 0 0, .slice (some ⟨gc, 0, none⟩) 1 1, .int .i64 2, .int .i64 1, .string ⟨#[102]⟩, .int .i64 3, .slice none 0 0, .slice none 0 0, .int .i64 0,
    .int .i64 3, .string ⟨#[102]⟩, .int .i64 0, .slice (some ⟨gi, 0, none⟩) 1 1, .slice none 0 0, .int .i64 0] t (0, 0))) : RA W (some ⟨g, 0, none⟩) (loggedL gc gi) := by
  intro k a v hk
  match k, hk with
  | 0, hk =>
    obtain ⟨rfl, rfl⟩ : a1L = a ∧ (⟨none, 0, 0, some ⟨gc, 0, none⟩, 1, 1⟩ : AV) = v := by simpa [loggedL] using hk
    refine ⟨g, 0, rfl, ?_⟩
    unfold a1L
    simp [World.cell?, h]
  | 1, hk =>
    obtain ⟨rfl, rfl⟩ : a2L = a ∧ (⟨none, 0, 0, none, 0, 0⟩ : AV) = v := by simpa [loggedL] using hk
    refine ⟨g, 0, rfl, ?_⟩
    unfold a2L
    simp [World.cell?, h]
  | 2, hk =>
    obtain ⟨rfl, rfl⟩ : a3L = a ∧ (⟨some ⟨gi, 0, none⟩, 1, 1, none, 0, 0⟩ : AV) = v := by simpa [loggedL] using hk
    refine ⟨g, 0, rfl, ?_⟩
    unfold a3L
    simp [World.cell?, h]
  | k + 3, hk => simp [loggedL] at hk
/-- the world that logged makes -/
structure LgdW (W : World) (g gc gi : Nat) : Prop where
  a : RA W (some ⟨g, 0, none⟩) (loggedL gc gi)
  c : RC W (some ⟨gc, 0, none⟩) [c1L]
  i : RI W (some ⟨gi, 0, none⟩) [1]
theorem LgdW.all {W : World} {g gc gi : Nat} (h : LgdW W g gc gi) : ∀ a v, (a, v) ∈ loggedL gc gi → RI W v.qa a.mask ∧ RC W v.ra a.cols ∧ a.mask.length = v.qn ∧ v.qn ≤ 100 ∧ (v.qa = none → v.qc = 0) ∧ a.cols.length = v.rn ∧ v.rn ≤ 1000 ∧ v.rn ≤ v.rc := by
  intro a v hm
  unfold loggedL at hm
  simp only [List.mem_cons, Prod.mk.injEq, List.not_mem_nil, or_false] at hm
  rcases hm with ⟨rfl, rfl⟩ | ⟨rfl, rfl⟩ | ⟨rfl, rfl⟩
  · exact ⟨ri_nilL _ _, h.c, rfl, by simp, fun _ => rfl, rfl, by simp, by simp⟩
  · exact ⟨ri_nilL _ _, rc_nilL _ _, rfl, by simp, fun _ => rfl, rfl, by simp, by simp⟩
  · exact ⟨h.i, rc_nilL _ _, rfl, by simp, fun h => (by cases h), rfl, by simp, by simp⟩
theorem sz1L : (joinS ([] : List ByteArray) ⟨#[44]⟩).size ≤ 1000000 := by decide +kernel
theorem sz2L : (joinS ([1].map itoS) ⟨#[44]⟩).size ≤ 1000000 := by decide +kernel
theorem sz3L : (joinS ([c1L].map colS) ⟨#[59]⟩).size ≤ 1000000 := by decide +kernel
theorem sz4L : (joinS ([] : List ByteArray) ⟨#[59]⟩).size ≤ 1000000 := by decide +kernel
theorem prokL (gc gi : Nat) : ∀ a v, (a, v) ∈ loggedL gc gi → PrOk a v := by
  intro a v hm
  unfold loggedL at hm
  simp only [List.mem_cons, Prod.mk.injEq, List.not_mem_nil, or_false] at hm
  rcases hm with ⟨rfl, rfl⟩ | ⟨rfl, rfl⟩ | ⟨rfl, rfl⟩
  · exact ⟨rfl, by simp, rfl, by simp, by simp, by unfold i64 a1L; decide, by unfold i64 a1L; decide, fun x hx => (by cases hx), fun c hc => by obtain rfl := List.mem_singleton.1 hc; unfold COk i64 c1L; decide, by decide, sz1L, sz3L⟩
  · exact ⟨rfl, by simp, rfl, by simp, by simp, by unfold i64 a2L; decide, by unfold i64 a2L; decide, fun x hx => (by cases hx), fun x hx => (by cases hx), by decide, sz1L, sz4L⟩
  · exact ⟨rfl, by simp, rfl, by simp, by simp, by unfold i64 a3L; decide, by unfold i64 a3L; decide, fun x hx => by obtain rfl := List.mem_singleton.1 hx; unfold i64; decide, fun x hx => (by cases hx), by decide, sz2L, sz4L⟩
theorem goodL0 : Good (⟨0, [], 0, []⟩ : SN) := Good.nil 0 0
theorem snok0 (B : Nat) (w0 : World) (K : List Item) (v n : Int) : SnOk B w0 K ⟨v, [], n, []⟩ ⟨none, 0, 0, none, 0, 0, []⟩ :=
  ⟨⟨⟨rfl, fun i a e h => by simp at h⟩, rfl, fun _ => rfl, rfl, Nat.le_refl _, fun W _ => rc_nilL _ _⟩, fun W _ i v h => by simp at h⟩
theorem applyL_any (W : World) (g gc gi : Nat) (h : LgdW W g gc gi) (hk : KeptAt W) :
    Calls Tryz.prog 9 #[.agg #[.int .i64 0, .slice none 0 0, .int .i64 0, .slice none 0 0], coV txL false (some ⟨g, 0, none⟩) 3 3] W fun e w' => ∃ (ca : Option Addr) (cn cc : Nat) (gf of fc : Nat) (ma : Option Addr) (mc : Nat),
      e = .returned (.tuple #[.agg #[.int .i64 1, .slice ca cn cc, .int .i64 2, .slice (some ⟨gf, of, none⟩) 1 fc], .nilIface]) ∧ Ext W w' ∧ w'.cell? ⟨gf, of + 1, none⟩ = some (.int .i64 3) ∧ w'.cell? ⟨gf, of + 2, none⟩ = some (.slice ma 1 mc) := by
  have ha := h.all
  have := apply_any (B := W.heap.size) (w0 := W) (K := []) (J := []) ⟨0, [], 0, []⟩ ⟨none, 0, 0, none, 0, 0, []⟩ txL false (some ⟨g, 0, none⟩) 3 3 (loggedL gc gi) rfl (by decide) (List.Sublist.refl _) (Lib.hid (snok0 _ _ _ _ _)) goodL0 (by decide) (by decide)
    (Lib.hid fun W' hW => by
      intro k a v hv
      obtain ⟨b, o, e, c0, c1, c2, c3, c4, c5⟩ := h.a k a v hv
      exact ⟨b, o, e, hW.ext.keeps c0, hW.ext.keeps c1, hW.ext.keeps c2, hW.ext.keeps c3, hW.ext.keeps c4, hW.ext.keeps c5⟩)
    (Lib.hid fun a v hm => by
      obtain ⟨q1, q2, q3, q4, q5, q6, q7, q8⟩ := ha a v hm
      exact ⟨q3, q4, q5, fun W' hW => q1.ext hW.ext, q6, q7, q8, fun W' hW => q2.ext hW.ext⟩)
    (Lib.hid fun W' hW => hk.ext hW.ext) (Hp.init W)
  rw [show (loggedL gc gi).map (·.1) = [a1L, a2L, a3L] from rfl, applyL_eq] at this
  refine this.mono fun e w' hr => ?_
  obtain ⟨v, M, rfl, hW, hs⟩ := hr
  have hlen : v.evs.length = 1 := hs.k.fs.len
  obtain ⟨ev, hev⟩ : ∃ x, v.evs[0]? = some x := ⟨_, List.getElem?_eq_getElem (by omega)⟩
  have ho := hs.k.fs.one 0 ev ⟨⟨#[102]⟩, 3, [1]⟩ hev rfl
  rw [List.append_nil] at hW
  obtain ⟨b, o, e1, d0, d1, d2⟩ := hs.fr w' (by rw [List.append_nil]; exact hW) 0 ev hev
  have hfn : v.fn = 1 := by rw [← hs.k.fl]; exact hlen
  have hmn : ev.mn = 1 := ho.len.symm
  refine ⟨v.ca, v.cn, v.cc, b, o, v.fc, ev.ma, ev.mc, ?_, hW.ext, ?_, ?_⟩
  · rw [snV, e1, hfn]
    rfl
  · rw [Nat.zero_mul, Nat.add_zero] at d1
    rw [d1, ho.rows]
  · rw [Nat.zero_mul, Nat.add_zero] at d2
    rw [d2, hmn]
theorem printL_any (W : World) (g gc gi : Nat) (h : LgdW W g gc gi) (hk : KeptAt W) (ht : TabAt W) :
    Calls Tryz.prog 16 #[coV txL false (some ⟨g, 0, none⟩) 3 3] W fun e w' => e = .returned (.tuple #[.string saidL, .nilIface]) ∧ Ext W w' := by
  have ha := h.all
  have := lprint_any txL false (loggedL gc gi) (some ⟨g, 0, none⟩) 3 3 W rfl (by decide) (by decide) h.a (fun a v hm => ⟨prokL gc gi a v hm, (ha a v hm).1, (ha a v hm).2.1⟩) ht hk
  rw [show (loggedL gc gi).map (·.1) = [a1L, a2L, a3L] from rfl, printL_eq] at this
  exact this
set_option maxRecDepth 100000 in
set_option maxHeartbeats 8000000 in
theorem logged_any (w : World) (hk : KeptAt w) (ht : TabAt w) : Calls Tryz.prog 6 #[] w fun e w' => e = .returned (.bool true) ∧ Ext w w' := by
  have HP := Lib.hid (fun (W : World) (g gc gi : Nat) (hx : Ext w W) (h : LgdW W g gc gi) => printL_any W g gc gi h (hk.ext hx) (ht.ext hx))
  have HA := Lib.hid (fun (W : World) (g gc gi : Nat) (hx : Ext w W) (h : LgdW W g gc gi) => applyL_any W g gc gi h (hk.ext hx))
  clear hk ht
  have HX := Lib.hid (Ext.refl w)
  have hS := Hp.init w
  have hR := Reads.nil w
  go_enter Tryz.func6, Tryz.ntmps6
  go_wp2_with (first | ((with_reducible first | refine nhLa ?_ | refine nhLs ?_ | refine nhLd ?_ | refine nhCa ?_ | refine nhCs ?_ | refine nhCd ?_ | refine nhPa ?_ | refine nhPs ?_ | refine nhPd ?_ | refine nhKa ?_ | refine nhKs ?_ | refine nhKd ?_); ((try clear hF); clear hS; intro wk hS; (try simp only [List.set_cons_zero, List.set_cons_succ, heap_size, heap_set_size] at hS); ((try clear hF); (first | have hF := And.intro hS.facts (HRD.out _ (hS.sub (by first | simp | ((repeat (first | exact List.nil_sublist _ | exact List.Sublist.refl _ | with_reducible apply List.Sublist.cons₂ | apply List.Sublist.cons)))))) | have hF := And.intro hS.facts (hR.at hS.ext) | have hF := hS.facts); simp only [HFacts, cellFacts, RFacts, cellOnly, and_true, true_and, Nat.zero_add, Nat.reduceAdd] at hF))) | (go_at_call 16; (with_reducible refine (HP.out _ _ _ _ hS.ext ⟨ra_L (hS.blkAt 1 rfl), rc_oneL (hS.blkAt 3 rfl), ri_oneL (hS.blkAt 2 rfl)⟩).mono ?_); rintro e wk ⟨rfl, hX⟩; replace hS := hS.step hX; clear hX; ((try clear hF); (first | have hF := And.intro hS.facts (HRD.out _ (hS.sub (by first | simp | ((repeat (first | exact List.nil_sublist _ | exact List.Sublist.refl _ | with_reducible apply List.Sublist.cons₂ | apply List.Sublist.cons)))))) | have hF := And.intro hS.facts (hR.at hS.ext) | have hF := hS.facts); simp only [HFacts, cellFacts, RFacts, cellOnly, and_true, true_and, Nat.zero_add, Nat.reduceAdd] at hF)) | (go_at_call 9; (with_reducible refine Calls.mono (HA.out _ _ _ _ hS.ext ⟨ra_L (hS.blkAt 1 rfl), rc_oneL (hS.blkAt 3 rfl), ri_oneL (hS.blkAt 2 rfl)⟩) ?_); rintro e wk ⟨ca, cn, cc, gf, of, fc, ma, mc, rfl, hX, k1, k2⟩; have hX2 := hS.ext.trans hX; replace hS := hS.step hX; clear hX; have hRn := Reads.cell k1 (Reads.cell k2 (Reads.nil wk)); replace HX := Lib.hid (HX.out.trans hX2); skip; clear hX2 hS hR; (try clear hF); have hS := Hp.init wk; have hR := hRn; clear hRn; ((try clear hF); (first | have hF := And.intro hS.facts (HRD.out _ (hS.sub (by first | simp | ((repeat (first | exact List.nil_sublist _ | exact List.Sublist.refl _ | with_reducible apply List.Sublist.cons₂ | apply List.Sublist.cons)))))) | have hF := And.intro hS.facts (hR.at hS.ext) | have hF := hS.facts); simp only [HFacts, cellFacts, RFacts, cellOnly, and_true, true_and, Nat.zero_add, Nat.reduceAdd] at hF)))
  all_goals (go_ret; exact ⟨rfl, HX.out.trans hS.ext⟩)
end Go.Proofs.YtcpnnffnkegamaaGreatDoor

/- commits as they come in; what Apply makes of them, beside whatever is owned. -/
namespace Go.Proofs.YtcpnnffnkegamaaGreatDoor
set_option linter.unusedSimpArgs false
set_option linter.unusedVariables false
open Go.RowKit
set_option linter.all false
theorem Hp.nameAt {B : Nat} {w0 w : World} {L : List Item} (_ : Hp B w0 w L) {g : Nat} {cs : List Value} {T : TypeId} (i : Nat) (_ : L[i]? = some (.blk g cs T)) : ∃ g', g' = g := ⟨g, rfl⟩
/-- a commit, and where its actions lie -/
structure CM where
  tx : ByteArray
  rd : Bool
  acts : List (AN × AV)
  a : Option Addr
  n : Nat
  cap : Nat
def CM.l (c : CM) : List AN := c.acts.map (·.1)
abbrev cmV (c : CM) : Value := coV c.tx c.rd c.a c.n c.cap
/-- a commit in memory -/
structure CmAt (w : World) (c : CM) : Prop where
  len : c.acts.length = c.n
  ra : RA w c.a c.acts
  one : ∀ a v, (a, v) ∈ c.acts → a.mask.length = v.qn ∧ (v.qa = none → v.qc = 0) ∧ RI w v.qa a.mask ∧ a.cols.length = v.rn ∧ v.rn ≤ v.rc ∧ RC w v.ra a.cols
theorem RA.ext {w w' : World} {A : Option Addr} {l : List (AN × AV)} (h : RA w A l) (hx : Ext w w') : RA w' A l := by
  intro k a v hv
  obtain ⟨b, o, e, c0, c1, c2, c3, c4, c5⟩ := h k a v hv
  exact ⟨b, o, e, hx.keeps c0, hx.keeps c1, hx.keeps c2, hx.keeps c3, hx.keeps c4, hx.keeps c5⟩
theorem CmAt.ext {w w' : World} {c : CM} (h : CmAt w c) (hx : Ext w w') : CmAt w' c := ⟨h.len, h.ra.ext hx, fun a v hm => by
  obtain ⟨q1, q2, q3, q4, q5, q6⟩ := h.one a v hm
  exact ⟨q1, q2, q3.ext hx, q4, q5, q6.ext hx⟩⟩
/-- the commits that lie at A -/
def RM (w : World) (A : Option Addr) (l : List CM) : Prop := ∀ (k : Nat) (c : CM), l[k]? = some c → ∃ b o : Nat, A = some ⟨b, o, none⟩ ∧ w.cell? ⟨b, o + k * 3, none⟩ = some (.string c.tx) ∧ w.cell? ⟨b, o + k * 3 + 1, none⟩ = some (.bool c.rd) ∧ w.cell? ⟨b, o + k * 3 + 2, none⟩ = some (.slice c.a c.n c.cap) ∧ CmAt w c
theorem cm_short {w : World} {c : CM} (h : CmAt w c) (W : World) (hx : Ext w W) : Calls Tryz.prog 8 #[cmV c] W fun e w' => e = .returned (.bool (shortCo c.tx c.l)) ∧ Ext W w' :=
  short_any c.tx c.rd c.acts c.a c.n c.cap W h.len (h.ra.ext hx) fun a v hm => by
    obtain ⟨q1, q2, q3, q4, q5, q6⟩ := h.one a v hm
    exact ⟨q1, q4, q6.ext hx⟩
theorem shortCo_out {tx : ByteArray} {l : List AN} (h : shortCo tx l = true) : tx.size ≤ 60 ∧ l.length ≤ 12 ∧ ∀ a ∈ l, a.path.size ≤ 60 ∧ a.mask.length ≤ 70 ∧ shortCs a.cols = true := by
  unfold shortCo at h
  simp only [Bool.and_eq_true, decide_eq_true_eq, List.all_eq_true] at h
  refine ⟨h.1.1, h.1.2, fun a ha => ?_⟩
  have := h.2 a ha
  unfold shortAc at this
  simp only [Bool.and_eq_true, decide_eq_true_eq] at this
  exact ⟨this.1.1, this.1.2, this.2⟩
theorem shortCs_len {l : List CG} (h : shortCs l = true) : l.length ≤ 20 := by
  unfold shortCs at h
  simp only [Bool.and_eq_true, decide_eq_true_eq] at h
  exact h.1
/-- files are called as they may be -/
def GoodP (s : SN) : Prop := ∀ e ∈ s.files, nameB e.path = true
theorem nameB_size {p : ByteArray} (h : nameB p = true) : p.size ≤ 16 := by
  unfold nameB at h
  simp only [Bool.and_eq_true, decide_eq_true_eq] at h
  omega
theorem GoodP.act {s : SN} {a : AN} (h : GoodP s) (he : actE s a = 0) : GoodP (actS s a) := by
  unfold actE at he
  unfold actS
  by_cases h4 : a.kind = 4
  · rw [if_pos h4]; exact h
  rw [if_neg h4] at he ⊢
  by_cases h1 : a.kind = 1
  · rw [if_pos h1] at he ⊢
    split at he
    · cases he
    rename_i hb
    simp only [not_or] at hb
    intro e hm
    rcases List.mem_append.1 hm with hm | hm
    · exact h e hm
    · obtain rfl := List.mem_singleton.1 hm
      simpa using hb.1
  rw [if_neg h1] at he ⊢
  by_cases h2 : a.kind = 2
  · rw [if_pos h2]
    exact fun e hm => h e (List.mem_of_mem_eraseIdx hm)
  · rw [if_neg h2]
    cases hx : s.files[(idxP a.path 0 (s.files.map (·.path))).toNat]? with
    | none => exact h
    | some e =>
      intro e' hm
      rcases List.mem_or_eq_of_mem_set hm with hm | rfl
      · exact h e' hm
      · exact h e (List.mem_of_getElem? hx)
theorem GoodP.run : ∀ (l : List AN) (k : Nat) (s s' : SN), GoodP s → runA k s l = .ok s' → GoodP s'
  | [], k, s, s', hg, h => by
    rw [runA] at h
    obtain rfl := Except.ok.inj h
    exact hg
  | a :: l, k, s, s', hg, h => by
    rw [runA_cons] at h
    split at h
    · rename_i he
      exact GoodP.run l (k + 1) (actS s a) s' (hg.act he) h
    · cases h
theorem GoodP.apply {s s' : SN} {tx : ByteArray} {l : List AN} (hg : GoodP s) (h : applyR s tx l = .ok s') : GoodP s' := by
  unfold applyR at h
  split at h
  · revert h
    cases hr : runA 0 { s with ver := s.ver + 1 } l with
    | ok x =>
      intro h
      obtain rfl := Except.ok.inj h
      exact GoodP.run l 0 { s with ver := s.ver + 1 } x hg hr
    | error e => intro h; cases h
  · cases h
/-- a table that stands, in memory as long as the things of K do -/
structure Tb (w : World) (K : List Item) (s : SN) (v : SV) : Prop where
  ok : SnOk w.heap.size w K s v
  good : Good s
  path : GoodP s
theorem Tb.more {w : World} {K K' : List Item} {s : SN} {v : SV} (h : Tb w K s v) (hK : ∀ W, Hp w.heap.size w W K' → Hp w.heap.size w W K) : Tb w K' s v := ⟨h.ok.more hK, h.good, h.path⟩
theorem Tb.size {w : World} {K : List Item} {s : SN} {v : SV} (h : Tb w K s v) : ∀ e ∈ s.files, e.path.size ≤ maxLen := fun e he => by
  have := nameB_size (h.path e he)
  unfold maxLen
  omega
abbrev snC (s : SN) (v : SV) : List Value := [.int .i64 s.ver, .slice v.ca v.cn v.cc, .int .i64 s.next, .slice v.fa v.fn v.fc]
abbrev sn0V : Value := .agg #[.int .i64 0, .slice none 0 0, .int .i64 0, .slice none 0 0]
theorem perm_mid (X M K : List Item) : (X ++ (M ++ K)).Perm (M ++ (X ++ K)) := by
  rw [← List.append_assoc, ← List.append_assoc]
  exact List.Perm.append_right K List.perm_append_comm
section
variable {w : World} {K : List Item}
/-- Apply, where it does it -/
theorem apply_ok {s : SN} {v : SV} {c : CM} (hT : Tb w K s v) (hc : CmAt w c) (hk : KeptAt w) (hsh : shortCo c.tx c.l = true) (hv0 : 0 ≤ s.ver) (hv : s.ver < 1000000000) {s1 : SN} (hD : applyR s c.tx c.l = .ok s1) (W : World) (X : List Item) (hS : Hp w.heap.size w W (X ++ K)) :
    Calls Tryz.prog 9 #[snV s v, cmV c] W fun e w' => ∃ v1 M, e = .returned (.tuple #[snV s1 v1, .nilIface]) ∧ Hp w.heap.size w w' (X ++ (M ++ K)) ∧ Tb w (M ++ K) s1 v1 := by
  obtain ⟨z1, z2, z3⟩ := shortCo_out hsh
  have h12 : c.n ≤ 12 := by rw [← hc.len]; unfold CM.l at z2; rw [List.length_map] at z2; exact z2
  have := apply_any (K := X ++ K) (J := K) s v c.tx c.rd c.a c.n c.cap c.acts hc.len (by omega) (List.sublist_append_right X K) (Lib.hid hT.ok) hT.good hv hv0
    (Lib.hid fun W' hW => hc.ra.ext hW.ext)
    (Lib.hid fun a v hm => by
      obtain ⟨q1, q2, q3, q4, q5, q6⟩ := hc.one a v hm
      obtain ⟨p1, p2, p3⟩ := z3 a (List.mem_map.2 ⟨(a, v), hm, rfl⟩)
      have := shortCs_len p3
      exact ⟨q1, by omega, q2, fun W' hW => q3.ext hW.ext, q4, by omega, q5, fun W' hW => q6.ext hW.ext⟩)
    (Lib.hid fun W' hW => hk.ext hW.ext) hS
  rw [show applyR s c.tx (c.acts.map (·.1)) = .ok s1 from hD] at this
  refine this.mono fun e w' hr => ?_
  obtain ⟨v1, M, rfl, hW, hs⟩ := hr
  exact ⟨v1, M, rfl, hW.perm (perm_mid X M K), hs, (apply_good hT.good hD).1, hT.path.apply hD⟩
/-- .. where it does not -/
theorem apply_no {s : SN} {v : SV} {c : CM} (hT : Tb w K s v) (hc : CmAt w c) (hk : KeptAt w) (hsh : shortCo c.tx c.l = true) (hv0 : 0 ≤ s.ver) (hv : s.ver < 1000000000) {er : Int × Option Nat} (hD : applyR s c.tx c.l = .error er) (W : World) (X : List Item) (hS : Hp w.heap.size w W (X ++ K)) :
    Calls Tryz.prog 9 #[snV s v, cmV c] W fun e w' => ∃ (tp : TypeId) (pv : Value) (M : List Item), e = .returned (.tuple #[sn0V, .iface tp pv]) ∧ Hp w.heap.size w w' (X ++ (M ++ K)) := by
  obtain ⟨z1, z2, z3⟩ := shortCo_out hsh
  have h12 : c.n ≤ 12 := by rw [← hc.len]; unfold CM.l at z2; rw [List.length_map] at z2; exact z2
  have := apply_any (K := X ++ K) (J := K) s v c.tx c.rd c.a c.n c.cap c.acts hc.len (by omega) (List.sublist_append_right X K) (Lib.hid hT.ok) hT.good hv hv0
    (Lib.hid fun W' hW => hc.ra.ext hW.ext)
    (Lib.hid fun a v hm => by
      obtain ⟨q1, q2, q3, q4, q5, q6⟩ := hc.one a v hm
      obtain ⟨p1, p2, p3⟩ := z3 a (List.mem_map.2 ⟨(a, v), hm, rfl⟩)
      have := shortCs_len p3
      exact ⟨q1, by omega, q2, fun W' hW => q3.ext hW.ext, q4, by omega, q5, fun W' hW => q6.ext hW.ext⟩)
    (Lib.hid fun W' hW => hk.ext hW.ext) hS
  rw [show applyR s c.tx (c.acts.map (·.1)) = .error er from hD] at this
  obtain ⟨n, k⟩ := er
  cases k with
  | none =>
    refine this.mono fun e w' hr => ?_
    obtain ⟨rfl, hW⟩ := hr
    exact ⟨_, _, [], rfl, hW⟩
  | some k =>
    refine this.mono fun e w' hr => ?_
    obtain ⟨g, rfl, hW⟩ := hr
    exact ⟨_, _, [.blk g [.int .i64 n, .int .i64 k] 72], rfl, hW.perm (perm_mid X [_] K)⟩
end
end Go.Proofs.YtcpnnffnkegamaaGreatDoor

/- What LogWhole keeps: tables as they were, and their files. -/
namespace Go.Proofs.YtcpnnffnkegamaaGreatDoor
set_option linter.unusedSimpArgs false
set_option linter.unusedVariables false
open Go.RowKit
set_option linter.all false
open Go.Maps (Keyed)
theorem Tryz.elem_snaps : Elem Tryz.prog 28 27 4 64 := by
  obtain ⟨i0, hi0, hz0, hz1, hz2⟩ := info_parts (show (Tryz.prog.info? 27).map (fun i => (i.zero, i.size, i.bytes)) = some (some sn0V, 4, 64) by kernel_rfl)
  exact ⟨Tryz.underlying28, ⟨i0, _, hi0, hz0, hz1, hz2, rfl⟩, by omega⟩
theorem Tryz.elem_maps : Elem Tryz.prog 31 29 1 8 := by
  obtain ⟨i0, hi0, hz0, hz1, hz2⟩ := info_parts (show (Tryz.prog.info? 29).map (fun i => (i.zero, i.size, i.bytes)) = some (some (.map none), 1, 8) by kernel_rfl)
  exact ⟨Tryz.underlying31, ⟨i0, _, hi0, hz0, hz1, hz2, rfl⟩, by omega⟩
/-- the cells of tables -/
def cellsSn : List (SN × SV) → List Value
  | [] => []
  | (s, v) :: l => .int .i64 s.ver :: .slice v.ca v.cn v.cc :: .int .i64 s.next :: .slice v.fa v.fn v.fc :: cellsSn l
theorem cellsSn_append : ∀ l m : List (SN × SV), cellsSn (l ++ m) = cellsSn l ++ cellsSn m
  | [], m => rfl
  | x :: l, m => by simp [cellsSn, cellsSn_append l m]
theorem cellsSn_at : ∀ (l : List (SN × SV)) (i : Nat) (s : SN) (v : SV), l[i]? = some (s, v) → (cellsSn l)[i * 4]? = some (.int .i64 s.ver) ∧ (cellsSn l)[i * 4 + 1]? = some (.slice v.ca v.cn v.cc) ∧ (cellsSn l)[i * 4 + 2]? = some (.int .i64 s.next) ∧ (cellsSn l)[i * 4 + 3]? = some (.slice v.fa v.fn v.fc)
  | [], i, s, v, h => by simp at h
  | y :: l, 0, s, v, h => by simp at h; subst h; simp [cellsSn]
  | y :: l, i + 1, s, v, h => by
    have := cellsSn_at l i s v (by simpa using h)
    rw [show (i + 1) * 4 = i * 4 + 4 by omega]
    simpa [cellsSn] using this
/-- a map that is kept: its block, what lies there, what it reads as -/
structure XM where
  g : Nat
  ob : Obj
  D : DataW Value
  n : Nat
def mapsV (l : List XM) : List Value := l.map fun x => .map (some x.g)
theorem mapsV_append (l : List XM) (x : XM) : mapsV (l ++ [x]) = mapsV l ++ [.map (some x.g)] := by simp [mapsV]
theorem mapsV_at {l : List XM} {i : Nat} {x : XM} (h : l[i]? = some x) : (mapsV l)[i]? = some (.map (some x.g)) := by simp [mapsV, h]
structure XmAt (w : World) (K : List Item) (x : XM) (s : SN) : Prop where
  fit : VFit Tryz.prog 9 x.n x.D x.ob
  at_ : ∀ W, Hp w.heap.size w W K → W.heap[x.g]? = some x.ob
  ok : SetOk w.heap.size w K s x.D
theorem XmAt.more {w : World} {K K' : List Item} {x : XM} {s : SN} (h : XmAt w K x s) (hK : ∀ W, Hp w.heap.size w W K' → Hp w.heap.size w W K) : XmAt w K' x s := ⟨h.fit, fun W hW => h.at_ W (hK W hW), h.ok.more hK⟩
/-- all tables that were, with their files -/
structure Hist (w : World) (K : List Item) (S : List (SN × SV)) (X : List XM) : Prop where
  len : X.length = S.length
  one : ∀ (i : Nat) (s : SN) (v : SV) (x : XM), S[i]? = some (s, v) → X[i]? = some x → Tb w K s v ∧ XmAt w K x s
theorem Hist.more {w : World} {K K' : List Item} {S : List (SN × SV)} {X : List XM} (h : Hist w K S X) (hK : ∀ W, Hp w.heap.size w W K' → Hp w.heap.size w W K) : Hist w K' S X := ⟨h.len, fun i s v x h1 h2 => ⟨(h.one i s v x h1 h2).1.more hK, (h.one i s v x h1 h2).2.more hK⟩⟩
theorem Hist.push {w : World} {K : List Item} {S : List (SN × SV)} {X : List XM} (h : Hist w K S X) {s : SN} {v : SV} {x : XM} (hT : Tb w K s v) (hX : XmAt w K x s) : Hist w K (S ++ [(s, v)]) (X ++ [x]) :=
  ⟨by simp [h.len], fun i s' v' x' h1 h2 => by
    by_cases hi : i < S.length
    · rw [List.getElem?_append_left hi] at h1
      rw [List.getElem?_append_left (by rw [h.len]; exact hi)] at h2
      exact h.one i s' v' x' h1 h2
    · have hlt := (List.getElem?_eq_some_iff.1 h1).1
      obtain rfl : i = S.length := by simp at hlt; omega
      rw [List.getElem?_append_right (by omega), Nat.sub_self] at h1
      rw [List.getElem?_append_right (by rw [h.len]; omega), h.len, Nat.sub_self] at h2
      simp only [List.getElem?_cons_zero, Option.some.injEq, Prod.mk.injEq] at h1 h2
      obtain ⟨rfl, rfl⟩ := h1
      subst h2
      exact ⟨hT, hX⟩⟩
/-- what has been copied of a map, with what is yet to come -/
structure Copied (w : World) (K : List Item) (s : SN) (D : DataW Value) (left : Lit → Bool) (D2 : DataW Value) : Prop where
  keys : ∃ ks, KT D2 ks ∧ ∀ x, x ∈ ks ↔ (vhas D x = true ∧ left (sk x) = false)
  get : ∀ x, vhas D2 x = true → ∃ e ev, lk s.files x = some e ∧ (∀ z, vget D2 x z = evV ev) ∧ EvOk w.heap.size w K ev e
theorem Copied.more {w : World} {K K' : List Item} {s : SN} {D D2 : DataW Value} {left : Lit → Bool} (h : Copied w K s D left D2) (hK : ∀ W, Hp w.heap.size w W K' → Hp w.heap.size w W K) : Copied w K' s D left D2 :=
  ⟨h.keys, fun x hx => by obtain ⟨e, ev, h1, h2, h3⟩ := h.get x hx; exact ⟨e, ev, h1, h2, h3.more hK⟩⟩
theorem Copied.nil {w : World} {K : List Item} {s : SN} {D : DataW Value} : Copied w K s D (Maps.has D) (.map []) :=
  ⟨⟨[], KT.nil, fun x => by
    constructor
    · intro h; cases h
    · rintro ⟨h1, h2⟩
      rw [show Maps.has D (sk x) = true from h1] at h2
      cases h2⟩, fun x hx => by rw [vhas_none] at hx; cases hx⟩
theorem sk_same (x y : ByteArray) : (sk y).sameKey (sk x) = true ↔ y = x := by
  constructor
  · intro h
    exact sk_inj (WideAt.sameKey_eq h)
  · intro h
    rw [h]
    exact WideAt.sameKey_self (show WideAt.IsKeyLit (sk x) from trivial)
theorem Copied.put {w : World} {K : List Item} {s : SN} {D D2 : DataW Value} {left : Lit → Bool} (h : Copied w K s D left D2) {x : ByteArray} {e : EN} {ev : EV} (hl : left (sk x) = true) (hD : vhas D x = true) (he : lk s.files x = some e) (hev : EvOk w.heap.size w K ev e) :
    Copied w K s D (fun z => left z && !z.sameKey (sk x)) (D2.put (sk x) (.held (evV ev))) := by
  obtain ⟨ks, hks, hm⟩ := h.keys
  have hx : x ∉ ks := fun hx => by rw [((hm x).1 hx).2] at hl; cases hl
  refine ⟨⟨ks ++ [x], hks.put x _ hx, fun y => ?_⟩, fun y hy => ?_⟩
  · rw [List.mem_append, hm y, List.mem_singleton]
    by_cases hyx : y = x
    · subst hyx
      simp only [or_true, true_iff]
      refine ⟨hD, ?_⟩
      rw [(sk_same y y).2 rfl]
      simp
    · have : (sk y).sameKey (sk x) = false := by
        cases hb : (sk y).sameKey (sk x) with
        | false => rfl
        | true => exact absurd ((sk_same x y).1 hb) hyx
      rw [this]
      simp [hyx]
  · by_cases hyx : y = x
    · subst hyx
      exact ⟨e, ev, he, fun z => vget_put_same hks.isMap _ _ _, hev⟩
    · rw [vhas_put_other hyx] at hy
      obtain ⟨e', ev', h1, h2, h3⟩ := h.get y hy
      exact ⟨e', ev', h1, fun z => by rw [vget_put_other hyx]; exact h2 z, h3⟩
/-- all is copied -/
theorem Copied.done {w : World} {K : List Item} {s : SN} {D D2 : DataW Value} {left : Lit → Bool} (h : Copied w K s D left D2) (hD : KT D (s.files.map (·.path))) (hl : ∀ kl, left kl = false) : SetOk w.heap.size w K s D2 := by
  obtain ⟨ks, hks, hm⟩ := h.keys
  have hmm : ∀ x, x ∈ ks ↔ x ∈ s.files.map (·.path) := fun x => by
    rw [hm x, ← hD.mem x, hl]
    simp
  refine ⟨⟨hks.tidy, hD.nd, fun x => by rw [hks.mem, hmm], ?_⟩, h.get⟩
  rw [hks.size]
  exact ((List.perm_ext_iff_of_nodup hks.nd hD.nd).2 fun a => hmm a).length_eq
/-- what masks are -/
theorem Good.rise {s : SN} (h : Good s) {e : EN} (he : e ∈ s.files) {j : Nat} {x : Int} (hx : e.mask[j]? = some x) : 0 ≤ x ∧ x < e.rows ∧ ∀ i y, i + 1 = j → e.mask[i]? = some y → y < x := by
  have hm := (maskB_iff e.rows e.mask).1 (h.files e he).1
  have h1 := hm.2 x (List.mem_of_getElem? hx)
  refine ⟨h1.1, h1.2, fun i y hi hy => ?_⟩
  subst hi
  obtain ⟨a1, a2⟩ := List.getElem?_eq_some_iff.1 hx
  obtain ⟨b1, b2⟩ := List.getElem?_eq_some_iff.1 hy
  have := List.pairwise_iff_getElem.1 hm.1 i (i + 1) b1 a1 (by omega)
  rw [a2, b2] at this
  exact this
theorem Hp.rowAt {B : Nat} {w0 w : World} {L : List Item} {e : TypeId} {size n cap g : Nat} {xs : List Value} (h : Hp B w0 w L) (i : Nat) (hi : L[i]? = some (.row e size (some ⟨g, 0, none⟩) n cap xs)) {j : Nat} {u : Value} (hj : xs[j]? = some u) : w.cell? ⟨g, j, none⟩ = some u := by
  obtain ⟨g', hg, hc, _⟩ := h.rowCell i hi hj
  obtain rfl : g = g' := by simpa using hg
  exact hc
theorem Hp.rowSome {B : Nat} {w0 w : World} {L : List Item} {e : TypeId} {size n cap : Nat} {A : Option Addr} {xs : List Value} (h : Hp B w0 w L) (i : Nat) (hi : L[i]? = some (.row e size A n cap xs)) (hx : xs ≠ []) : ∃ g, A = some ⟨g, 0, none⟩ := by
  obtain ⟨u, hu⟩ : ∃ u, xs[0]? = some u := ⟨_, List.getElem?_eq_getElem (List.length_pos_iff.2 hx)⟩
  obtain ⟨g, hg, _⟩ := h.rowCell i hi hu
  exact ⟨g, hg⟩
section
variable {w : World} {K : List Item}
/-- set, beside whatever is owned -/
theorem set_call {s : SN} {v : SV} (hT : Tb w K s v) (W : World) (L : List Item) (hL : ∀ W, Hp w.heap.size w W L → Hp w.heap.size w W K) (hS : Hp w.heap.size w W L) :
    Calls Tryz.prog 7 #[snV s v] W fun e w' => ∃ g ob, e = .returned (.map (some g)) ∧ VFit Tryz.prog 9 v.fn (setD v.evs) ob ∧ Hp w.heap.size w w' (.ob g ob :: L) :=
  set_any v.evs s.ver s.next v.ca v.fa v.cn v.cc v.fn v.fc hT.ok.k.fl (by have := hT.good.fn hT.ok.k; omega) (by
    intro u hu
    have hp := hT.ok.k.fs.paths
    have : u.path ∈ s.files.map (·.path) := by rw [← hp]; exact List.mem_map.2 ⟨u, hu, rfl⟩
    obtain ⟨e, he, he2⟩ := List.mem_map.1 this
    rw [← he2]
    exact hT.size e he) (Lib.hid fun W' h' => hT.ok.fr W' (hL W' h')) hS
theorem Tb.setOk {s : SN} {v : SV} (hT : Tb w K s v) : SetOk w.heap.size w K s (setD v.evs) := setOk_of hT.ok.k.fs hT.good
theorem Tb.fn {s : SN} {v : SV} (hT : Tb w K s v) : v.fn = s.files.length := by rw [← hT.ok.k.fl, hT.ok.k.fs.len]
theorem Tb.setSize {s : SN} {v : SV} (hT : Tb w K s v) : Maps.size (setD v.evs) = v.fn := by rw [hT.setOk.kt.size, List.length_map, hT.fn]
end
section
variable {P : Program} {ops : Array Oper} {F : World → Prop} {B : Nat} {w0 : World} {L : List Item} {o : Oper} {a : Act}
/-- ZStep.val, with its three proofs as they always are -/
theorem zval {zc : Bool} {K : Act → (World → Prop) → Prop} {v : Value} (h : K (a.put o.dst v) (fun W => Hp B w0 W L)) (hw : Region.wanted o (yielded ops a.tmps) = true := by (first | rfl | exact wanted_true rfl rfl rfl (by assumption)))
    (hF : ∀ w, Hp B w0 w L → F w := by exact fun w h => h.sub (by first | simp | ((try simp only [List.eraseIdx_cons_zero, List.eraseIdx_cons_succ]); (repeat (first | exact List.nil_sublist _ | exact List.Sublist.refl _ | with_reducible apply List.Sublist.cons₂ | apply List.Sublist.cons)))))
    (hr : ∀ w, Hp B w0 w L → (execOp a.eval o).run P w = .ok (.value v) w := by (rintro w hS; ((try clear hF); (first | have hF := And.intro hS.facts (HRD.out _ (hS.sub (by first | simp | ((repeat (first | exact List.nil_sublist _ | exact List.Sublist.refl _ | with_reducible apply List.Sublist.cons₂ | apply List.Sublist.cons)))))) | have hF := And.intro hS.facts (hR.at hS.ext) | have hF := hS.facts); simp only [HFacts, cellFacts, RFacts, cellOnly, and_true, true_and, Nat.zero_add, Nat.reduceAdd] at hF); go_simp; with_reducible rfl)) : ZStep P ops F zc K o a (fun W => Hp B w0 W L) := ZStep.val hw hF hr h
/-- ZStep.valz, with its two proofs as they always are -/
theorem zvalz {K : Act → (World → Prop) → Prop} {v : Value} (h : K (a.put o.dst v) (fun W => Hp B w0 W L)) (hw : Region.wanted o (yielded ops a.tmps) = true := by (first | rfl | exact wanted_true rfl rfl rfl (by assumption)))
    (hr : ∀ w, Hp B w0 w L → (execOp a.eval o).run P w = .ok (.value v) w := by (rintro w hS; ((try clear hF); (first | have hF := And.intro hS.facts (HRD.out _ (hS.sub (by first | simp | ((repeat (first | exact List.nil_sublist _ | exact List.Sublist.refl _ | with_reducible apply List.Sublist.cons₂ | apply List.Sublist.cons)))))) | have hF := And.intro hS.facts (hR.at hS.ext) | have hF := hS.facts); simp only [HFacts, cellFacts, RFacts, cellOnly, and_true, true_and, Nat.zero_add, Nat.reduceAdd] at hF); go_simp; with_reducible rfl)) : ZStep P ops F true K o a (fun W => Hp B w0 W L) := ZStep.valz hw hr h
end
end Go.Proofs.YtcpnnffnkegamaaGreatDoor

/- Arguments that are commits: what their cells hold. -/
namespace Go.Proofs.YtcpnnffnkegamaaGreatDoor
set_option linter.unusedSimpArgs false
set_option linter.unusedVariables false
open Go.RowKit
set_option linter.all false
open Go.ChangeShapes Go.WideShapes Go.ChangeAt Go.Joins Go.Deep
theorem Tryz.cellsBool : Tryz.prog.cellsOf 4 = 1 := by kernel_rfl
theorem Tryz.cellsCol : Tryz.prog.cellsOf 61 = 7 := by kernel_rfl
theorem Tryz.cellsInts : Tryz.prog.cellsOf 41 = 1 := by kernel_rfl
theorem Tryz.cellsCols : Tryz.prog.cellsOf 24 = 1 := by kernel_rfl
theorem Tryz.cellsActs : Tryz.prog.cellsOf 33 = 1 := by kernel_rfl
theorem Tryz.cellsAct : Tryz.prog.cellsOf 63 = 6 := by kernel_rfl
theorem Tryz.cellsCm : Tryz.prog.cellsOf 35 = 3 := by kernel_rfl
theorem trod_struct5c {H : Type} {enc : TypeId × Value → H} {P : Program} {w : World} {base : Nat} {spare : Nat → Bool} {held : Bool} {t : TypeId} {f0 f1 f2 f3 f4 : Field} {fuel : Nat} {cs : List Value} {x : DataW H × List MemPlace} (ht : P.underlying t = some (.struct #[f0, f1, f2, f3, f4])) (h : DataW.trod enc P w base spare held fuel t cs = some x) :
    ∃ y0 y1 y2 y3 y4 n, cs.length = P.cellsOf t ∧ DataW.trod enc P w base spare held n f0.type ((cs.drop f0.offset).take (P.cellsOf f0.type)) = some y0 ∧
      DataW.trod enc P w base spare held n f1.type ((cs.drop f1.offset).take (P.cellsOf f1.type)) = some y1 ∧ DataW.trod enc P w base spare held n f2.type ((cs.drop f2.offset).take (P.cellsOf f2.type)) = some y2 ∧
      DataW.trod enc P w base spare held n f3.type ((cs.drop f3.offset).take (P.cellsOf f3.type)) = some y3 ∧ DataW.trod enc P w base spare held n f4.type ((cs.drop f4.offset).take (P.cellsOf f4.type)) = some y4 := by
  obtain ⟨xs, n, _, rfl, hl, hlen, hf⟩ := DataW.trod_struct ht h
  match xs, hlen with
  | [y0, y1, y2, y3, y4], _ => exact ⟨y0, y1, y2, y3, y4, n, hl, by simpa using hf 0 f0 rfl, by simpa using hf 1 f1 rfl, by simpa using hf 2 f2 rfl, by simpa using hf 3 f3 rfl, by simpa using hf 4 f4 rfl⟩
theorem trod_struct6c {H : Type} {enc : TypeId × Value → H} {P : Program} {w : World} {base : Nat} {spare : Nat → Bool} {held : Bool} {t : TypeId} {f0 f1 f2 f3 f4 f5 : Field} {fuel : Nat} {cs : List Value} {x : DataW H × List MemPlace} (ht : P.underlying t = some (.struct #[f0, f1, f2, f3, f4, f5])) (h : DataW.trod enc P w base spare held fuel t cs = some x) :
    ∃ y0 y1 y2 y3 y4 y5 n, cs.length = P.cellsOf t ∧ DataW.trod enc P w base spare held n f0.type ((cs.drop f0.offset).take (P.cellsOf f0.type)) = some y0 ∧
      DataW.trod enc P w base spare held n f1.type ((cs.drop f1.offset).take (P.cellsOf f1.type)) = some y1 ∧ DataW.trod enc P w base spare held n f2.type ((cs.drop f2.offset).take (P.cellsOf f2.type)) = some y2 ∧
      DataW.trod enc P w base spare held n f3.type ((cs.drop f3.offset).take (P.cellsOf f3.type)) = some y3 ∧ DataW.trod enc P w base spare held n f4.type ((cs.drop f4.offset).take (P.cellsOf f4.type)) = some y4 ∧
      DataW.trod enc P w base spare held n f5.type ((cs.drop f5.offset).take (P.cellsOf f5.type)) = some y5 := by
  obtain ⟨xs, n, _, rfl, hl, hlen, hf⟩ := DataW.trod_struct ht h
  match xs, hlen with
  | [y0, y1, y2, y3, y4, y5], _ => exact ⟨y0, y1, y2, y3, y4, y5, n, hl, by simpa using hf 0 f0 rfl, by simpa using hf 1 f1 rfl, by simpa using hf 2 f2 rfl, by simpa using hf 3 f3 rfl, by simpa using hf 4 f4 rfl, by simpa using hf 5 f5 rfl⟩
def ColI (p : CG) : Prop := i64 p.id ∧ i64 p.kind ∧ i64 p.d.num
/-- an action in memory -/
structure ActI (w : World) (a : AN) (v : AV) : Prop where
  q : a.mask.length = v.qn
  qz : v.qa = none → v.qc = 0
  qr : RI w v.qa a.mask
  r : a.cols.length = v.rn
  rc : v.rn ≤ v.rc
  rr : RC w v.ra a.cols
  qi : ∀ x ∈ a.mask, i64 x
  ci : ∀ c ∈ a.cols, ColI c
  ri : i64 a.rows
  ni : i64 a.next
/-- numbers of a commit are numbers of 64 bits -/
def CmI (c : CM) : Prop := ∀ a v, (a, v) ∈ c.acts → (∀ x ∈ a.mask, i64 x) ∧ (∀ c ∈ a.cols, ColI c) ∧ i64 a.rows ∧ i64 a.next
/-- the cells of elements that lie one behind the other at a -/
theorem cells_at {w : World} {a : Addr} {α : Type} {l : List α} {size : Nat} {cells : α → List Value} (h0 : ∀ x, (cells x)[0]? ≠ none) (hq : ∀ i x, l[i]? = some x → ∀ j u, (cells x)[j]? = some u → w.cell? (a.add (i * size + j)) = some u) :
    ∀ i x, l[i]? = some x → ∃ b o : Nat, a = ⟨b, o, none⟩ ∧ ∀ j u, (cells x)[j]? = some u → w.cell? ⟨b, o + i * size + j, none⟩ = some u := by
  intro i x hx
  have hil : i < l.length := (List.getElem?_eq_some_iff.1 hx).1
  obtain ⟨u0, hu0⟩ := Option.ne_none_iff_exists'.1 (h0 (l[0]'(by omega)))
  have z0 : w.cell? a = some u0 := by
    have := hq 0 (l[0]'(by omega)) (List.getElem?_eq_getElem _) 0 u0 hu0
    simpa [Addr.add] using this
  obtain ⟨b, o, spot⟩ := a
  have hspot : spot = none := by
    have := World.cell?_spot z0
    simpa using this
  subst hspot
  refine ⟨b, o, rfl, fun j u hu => ?_⟩
  have := hq i x hx j u hu
  rw [addr_add] at this
  rw [Nat.add_assoc]
  exact this
section
variable {H : Type} {enc : TypeId × Value → H} {w : World} {base fuel : Nat} {spare : Nat → Bool} {held : Bool}
set_option maxRecDepth 100000 in
theorem colI_cells {c0 c1 c2 c3 c4 c5 c6 : Value} {x : DataW H × List MemPlace} (h : DataW.trod enc Tryz.prog w base spare held fuel 61 [c0, c1, c2, c3, c4, c5, c6] = some x) : ∃ p : CG, (c0 = .int .i64 p.id ∧ c1 = .string p.name ∧ c2 = .int .i64 p.kind ∧ c3 = .bool p.must ∧ c4 = .int .i64 p.d.kind ∧ c5 = .int .i64 p.d.num ∧ c6 = .string p.d.text) ∧ ColI p := by
  obtain ⟨y0, y1, y2, y3, y4, n, hl, h0, h1, h2, h3, h4⟩ := trod_struct5c Tryz.underlying61 h
  simp only [Tryz.cellsInt, Tryz.cellsBool, Tryz.cellsString, Tryz.cellsVal, List.drop_zero, List.drop_succ_cons, List.take_succ_cons, List.take_zero] at h0 h1 h2 h3 h4
  obtain ⟨id, e0, _, w0⟩ := DataW.trod_int Tryz.underlying3 h0
  obtain ⟨nm, e1, _, _⟩ := DataW.trod_string Tryz.underlying9 h1
  obtain ⟨kd, e2, _, w2⟩ := DataW.trod_int Tryz.underlying3 h2
  obtain ⟨mu, e3, _⟩ := DataW.trod_bool Tryz.underlying4 h3
  obtain ⟨z0, z1, z2, n2, _, hl2, g0, g1, g2⟩ := trod_struct3 Tryz.underlying59 h4
  simp only [Tryz.cellsInt, Tryz.cellsInt64, Tryz.cellsString, List.drop_zero, List.drop_succ_cons, List.take_succ_cons, List.take_zero] at g0 g1 g2
  obtain ⟨kind, e4, _, _⟩ := DataW.trod_int Tryz.underlying3 g0
  obtain ⟨num, e5, _, w5⟩ := DataW.trod_int Tryz.underlying2 g1
  obtain ⟨text, e6, _, _⟩ := DataW.trod_string Tryz.underlying9 g2
  simp only [List.cons.injEq, and_true] at e0 e1 e2 e3 e4 e5 e6
  exact ⟨⟨id, nm, kd, mu, ⟨kind, num, text⟩⟩, ⟨e0, e1, e2, e3, e4, e5, e6⟩, i64_wf w0, i64_wf w2, i64_wf w5⟩
def colC (c : CG) : List Value := [.int .i64 c.id, .string c.name, .int .i64 c.kind, .bool c.must, .int .i64 c.d.kind, .int .i64 c.d.num, .string c.d.text]
set_option maxRecDepth 100000 in
theorem colsI_cells {cs : List Value} {x : DataW H × List MemPlace} (h : DataW.trod enc Tryz.prog w base spare held fuel 24 cs = some x) :
    ∃ (l : List CG) (A : Option Addr) (c : Nat), cs = [.slice A l.length c] ∧ RC w A l ∧ l.length ≤ c ∧ ∀ x ∈ l, ColI x := by
  rcases open_slice Tryz.underlying24 h with ⟨hcs, hx⟩ | ⟨a, len, cap, m, n, D, Pl, hcs, hb, hl, hm, hmm, hx, hi⟩
  · subst hcs
    exact ⟨[], none, 0, rfl, fun i x hi => by simp at hi, by simp, fun x h => by cases h⟩
  · subst hcs
    rw [Tryz.cellsCol] at hi
    have hlm : len ≤ m := by rw [hmm]; split <;> omega
    obtain ⟨l, hll, hq⟩ := list_of (Q := fun i (x : CG) => ColI x ∧ ∀ j u, (colC x)[j]? = some u → w.cell? (a.add (i * 7 + j)) = some u) len (fun i hil => by
      obtain ⟨cs', hc, ht⟩ := hi i (by omega)
      obtain ⟨_, hcl, hat⟩ := World.cells?_some hc
      match cs', hcl with
      | [c0, c1, c2, c3, c4, c5, c6], _ =>
        obtain ⟨x, ⟨rfl, rfl, rfl, rfl, rfl, rfl, rfl⟩, hxi⟩ := colI_cells ht
        refine ⟨x, hxi, fun j u hu => ?_⟩
        have hj : j < 7 := by
          have := (List.getElem?_eq_some_iff.1 hu).1
          simpa [colC] using this
        rw [← Go.Deep.add_add, hat j hj]
        exact hu)
    refine ⟨l, some a, cap, by rw [hll], fun i x hx' => ?_, by rw [hll]; exact hl, fun x hx' => ?_⟩
    · obtain ⟨b, o, rfl, q⟩ := cells_at (cells := colC) (size := 7) (fun x => by simp [colC]) (fun i x hx => (hq i x hx).2) i x hx'
      exact ⟨b, o, rfl, q 0 _ rfl, q 1 _ rfl, q 2 _ rfl, q 3 _ rfl, q 4 _ rfl, q 5 _ rfl, q 6 _ rfl⟩
    · obtain ⟨i, hi'⟩ := List.getElem?_of_mem hx'
      exact (hq i x hi').1
set_option maxRecDepth 100000 in
theorem intsI_cells {cs : List Value} {x : DataW H × List MemPlace} (h : DataW.trod enc Tryz.prog w base spare held fuel 41 cs = some x) : ∃ (l : List Int) (A : Option Addr) (c : Nat), cs = [.slice A l.length c] ∧ RI w A l ∧ (A = none → c = 0) ∧ ∀ x ∈ l, i64 x := by
  rcases open_slice Tryz.underlying41 h with ⟨rfl, hx⟩ | ⟨a, len, cap, m, n, D, Pl, rfl, hb, hl, hm, hmm, hx, hi⟩
  · exact ⟨[], none, 0, rfl, (fun i x hi => by simp at hi), (fun _ => rfl), fun x h => by cases h⟩
  · rw [Tryz.cellsInt] at hi
    have hlm : len ≤ m := by rw [hmm]; split <;> omega
    obtain ⟨l, hll, hq⟩ := list_of (Q := fun i (x : Int) => i64 x ∧ ∀ j u, [Value.int .i64 x][j]? = some u → w.cell? (a.add (i * 1 + j)) = some u) len (fun i hil => by
      obtain ⟨cs', hc, ht⟩ := hi i (by omega)
      obtain ⟨x, e0, _, wx⟩ := DataW.trod_int Tryz.underlying3 ht
      subst e0
      obtain ⟨_, hcl, hat⟩ := World.cells?_some hc
      refine ⟨x, i64_wf wx, fun j u hu => ?_⟩
      have hj : j < 1 := by
        have := (List.getElem?_eq_some_iff.1 hu).1
        simpa using this
      rw [← Go.Deep.add_add, hat j hj]
      exact hu)
    refine ⟨l, some a, cap, by rw [hll], fun i x hx' => ?_, (fun e => by cases e), fun x hx' => ?_⟩
    · obtain ⟨b, o, rfl, q⟩ := cells_at (cells := fun x => [Value.int .i64 x]) (size := 1) (fun x => by simp) (fun i x hx => (hq i x hx).2) i x hx'
      refine ⟨b, o, rfl, ?_⟩
      have := q 0 _ rfl
      simpa using this
    · obtain ⟨i, hi'⟩ := List.getElem?_of_mem hx'
      exact (hq i x hi').1
def actC (a : AN) (v : AV) : List Value := [.int .i64 a.kind, .string a.path, .int .i64 a.rows, .slice v.qa v.qn v.qc, .slice v.ra v.rn v.rc, .int .i64 a.next]
set_option maxRecDepth 100000 in
theorem act_cells {c0 c1 c2 c3 c4 c5 : Value} {x : DataW H × List MemPlace} (h : DataW.trod enc Tryz.prog w base spare held fuel 63 [c0, c1, c2, c3, c4, c5] = some x) :
    ∃ (a : AN) (v : AV), [c0, c1, c2, c3, c4, c5] = actC a v ∧ ActI w a v := by
  obtain ⟨y0, y1, y2, y3, y4, y5, n, hl, h0, h1, h2, h3, h4, h5⟩ := trod_struct6c Tryz.underlying63 h
  simp only [Tryz.cellsInt, Tryz.cellsString, Tryz.cellsInts, Tryz.cellsCols, List.drop_zero, List.drop_succ_cons, List.take_succ_cons, List.take_zero] at h0 h1 h2 h3 h4 h5
  obtain ⟨kind, e0, _, _⟩ := DataW.trod_int Tryz.underlying3 h0
  obtain ⟨path, e1, _, _⟩ := DataW.trod_string Tryz.underlying9 h1
  obtain ⟨rows, e2, _, w2⟩ := DataW.trod_int Tryz.underlying3 h2
  obtain ⟨lq, Aq, cq, e3, hq, hqz, hqi⟩ := intsI_cells h3
  obtain ⟨lr, Ar, cr, e4, hr, hrc, hri⟩ := colsI_cells h4
  obtain ⟨next, e5, _, w5⟩ := DataW.trod_int Tryz.underlying3 h5
  simp only [List.cons.injEq, and_true] at e0 e1 e2 e3 e4 e5
  subst e0 e1 e2 e3 e4 e5
  exact ⟨⟨kind, path, rows, lq, lr, next⟩, ⟨Aq, lq.length, cq, Ar, lr.length, cr⟩, rfl, rfl, hqz, hq, rfl, hrc, hr, hqi, hri, i64_wf w2, i64_wf w5⟩
set_option maxRecDepth 100000 in
theorem acts_cells {cs : List Value} {x : DataW H × List MemPlace} (h : DataW.trod enc Tryz.prog w base spare held fuel 33 cs = some x) :
    ∃ (l : List (AN × AV)) (A : Option Addr) (c : Nat), cs = [.slice A l.length c] ∧ RA w A l ∧ ∀ a v, (a, v) ∈ l → ActI w a v := by
  rcases open_slice Tryz.underlying33 h with ⟨hcs, hx⟩ | ⟨a, len, cap, m, n, D, Pl, hcs, hb, hl, hm, hmm, hx, hi⟩
  · subst hcs
    exact ⟨[], none, 0, rfl, fun i x v hi => by simp at hi, fun x v h => by cases h⟩
  · subst hcs
    rw [Tryz.cellsAct] at hi
    have hlm : len ≤ m := by rw [hmm]; split <;> omega
    obtain ⟨l, hll, hq⟩ := list_of (Q := fun i (x : AN × AV) => ActI w x.1 x.2 ∧ ∀ j u, (actC x.1 x.2)[j]? = some u → w.cell? (a.add (i * 6 + j)) = some u) len (fun i hil => by
      obtain ⟨cs', hc, ht⟩ := hi i (by omega)
      obtain ⟨_, hcl, hat⟩ := World.cells?_some hc
      match cs', hcl with
      | [c0, c1, c2, c3, c4, c5], _ =>
        obtain ⟨p, v, he, hp⟩ := act_cells ht
        refine ⟨(p, v), hp, fun j u hu => ?_⟩
        have hj : j < 6 := by
          have := (List.getElem?_eq_some_iff.1 hu).1
          simpa [actC] using this
        rw [← Go.Deep.add_add, hat j hj, he]
        exact hu)
    refine ⟨l, some a, cap, by rw [hll], fun i p v hx' => ?_, fun p v hx' => ?_⟩
    · obtain ⟨b, o, rfl, q⟩ := cells_at (cells := fun (x : AN × AV) => actC x.1 x.2) (size := 6) (fun x => by simp [actC]) (fun i x hx => (hq i x hx).2) i (p, v) hx'
      exact ⟨b, o, rfl, q 0 _ rfl, q 1 _ rfl, q 2 _ rfl, q 3 _ rfl, q 4 _ rfl, q 5 _ rfl⟩
    · obtain ⟨i, hi'⟩ := List.getElem?_of_mem hx'
      exact (hq i (p, v) hi').1
theorem cmAt_of {tx : ByteArray} {rd : Bool} {l : List (AN × AV)} {A : Option Addr} {c : Nat} (hr : RA w A l) (hl : ∀ a v, (a, v) ∈ l → ActI w a v) : CmAt w ⟨tx, rd, l, A, l.length, c⟩ ∧ CmI ⟨tx, rd, l, A, l.length, c⟩ :=
  ⟨⟨rfl, hr, fun a v hm => by have h := hl a v hm; exact ⟨h.q, h.qz, h.qr, h.r, h.rc, h.rr⟩⟩, fun a v hm => by have h := hl a v hm; exact ⟨h.qi, h.ci, h.ri, h.ni⟩⟩
set_option maxRecDepth 100000 in
theorem cm_cells {c0 c1 c2 : Value} {x : DataW H × List MemPlace} (h : DataW.trod enc Tryz.prog w base spare held fuel 35 [c0, c1, c2] = some x) :
    ∃ c : CM, [c0, c1, c2] = [.string c.tx, .bool c.rd, .slice c.a c.n c.cap] ∧ CmAt w c ∧ CmI c := by
  obtain ⟨y0, y1, y2, n, _, hl, h0, h1, h2⟩ := trod_struct3 Tryz.underlying35 h
  simp only [Tryz.cellsBool, Tryz.cellsString, Tryz.cellsActs, List.drop_zero, List.drop_succ_cons, List.take_succ_cons, List.take_zero] at h0 h1 h2
  obtain ⟨tx, e0, _, _⟩ := DataW.trod_string Tryz.underlying9 h0
  obtain ⟨rd, e1, _⟩ := DataW.trod_bool Tryz.underlying4 h1
  obtain ⟨l, A, c, e2, hr, hi⟩ := acts_cells h2
  simp only [List.cons.injEq, and_true] at e0 e1 e2
  subst e0 e1 e2
  exact ⟨⟨tx, rd, l, A, l.length, c⟩, rfl, cmAt_of hr hi⟩
end
set_option maxRecDepth 100000 in
/-- commits that come in -/
theorem open_commits {H : Type} {enc : TypeId × Value → H} {w : World} {base b0 : Nat} {r : Reach} {v : Value} {d : DataW H} {p : List MemPlace}
    (hv : Value.okWide Tryz.prog w r b0 22 v) (h : DataW.Trod enc Tryz.prog w base (fun _ => true) true 22 v d p) :
    ∃ (l : List CM) (A : Option Addr) (c : Nat), v = .slice A l.length c ∧ RM w A l ∧ ∀ c ∈ l, CmI c := by
  obtain ⟨a0, len, cap, rfl⟩ := okWide_slice Tryz.underlying22 hv
  obtain ⟨fuel, hf⟩ := h
  rcases open_slice Tryz.underlying22 hf with ⟨hcs, hx⟩ | ⟨a, len', cap', m, n, D, Pl, hcs, hb, hl, hm, hmm, hx, hi⟩
  · simp [Value.cells] at hcs
    obtain ⟨rfl, rfl, rfl⟩ := hcs
    exact ⟨[], none, 0, rfl, fun i x hi => by simp at hi, fun x h => by cases h⟩
  · simp [Value.cells] at hcs
    obtain ⟨rfl, rfl, rfl⟩ := hcs
    rw [Tryz.cellsCm] at hi
    have hlm : len ≤ m := by rw [hmm]; split <;> omega
    obtain ⟨l, hll, hq⟩ := list_of (Q := fun i (x : CM) => (CmAt w x ∧ CmI x) ∧ ∀ j u, [Value.string x.tx, .bool x.rd, .slice x.a x.n x.cap][j]? = some u → w.cell? (a.add (i * 3 + j)) = some u) len (fun i hil => by
      obtain ⟨cs', hc, ht⟩ := hi i (by omega)
      obtain ⟨_, hcl, hat⟩ := World.cells?_some hc
      match cs', hcl with
      | [c0, c1, c2], _ =>
        obtain ⟨x, he, hx1⟩ := cm_cells ht
        refine ⟨x, hx1, fun j u hu => ?_⟩
        have hj : j < 3 := by
          have := (List.getElem?_eq_some_iff.1 hu).1
          simpa using this
        rw [← Go.Deep.add_add, hat j hj, he]
        exact hu)
    refine ⟨l, some a, cap, by rw [hll], fun i x hx' => ?_, fun x hx' => ?_⟩
    · obtain ⟨b, o, rfl, q⟩ := cells_at (cells := fun (x : CM) => [Value.string x.tx, .bool x.rd, .slice x.a x.n x.cap]) (size := 3) (fun x => by simp) (fun i x hx => (hq i x hx).2) i x hx'
      exact ⟨b, o, rfl, q 0 _ rfl, q 1 _ rfl, q 2 _ rfl, (hq i x hx').1.1⟩
    · obtain ⟨i, hi'⟩ := List.getElem?_of_mem hx'
      exact (hq i x hi').1.2
end Go.Proofs.YtcpnnffnkegamaaGreatDoor
