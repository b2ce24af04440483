/- Texts joined: ask.Cond: a condition of a text. ask.whole, ask.Cond: all of it. ask.written, ask.Print: a condition as text. -/
import Derived.Test.YtmfilblbofkmcaaDoorAX09
/- ask.Cond: a condition of a text. -/
namespace Go.Proofs.YtmfilblbofkmcaaDoor
set_option linter.unusedSimpArgs false
set_option linter.unusedVariables false
open Go.RowKit
set_option linter.all false
theorem all_any : ∀ f, OneC f ∧ AndC f ∧ OrC f
  | 0 => ⟨fun d _ _ _ h => by omega, fun d _ _ _ h => by omega, fun d _ _ _ h => by omega⟩
  | f + 1 => by
    have hI : ∀ g, g ≤ f → OneC g ∧ AndC g ∧ OrC g := fun g _ => all_any g
    refine ⟨?_, and_any f fun g hg => (hI g hg).1, or_any f fun g hg => (hI g hg).2.1⟩
    intro B w0 w R gt gp l y M d hE hl hok hf hd hP hS
    by_cases h6 : 6 < d
    · have e : oneP (f + 1) d l = none := by simp only [oneP]; rw [if_pos h6]
      rw [e]
      exact one_deep d hl h6 hd hP hS
    cases hn : seeT l notL with
    | true => exact one_not f (hI f (Nat.le_refl _)).1 d hE hl hok hf h6 hn hP hS
    | false =>
      cases hb : seeT l [40] with
      | true => exact one_par f (hI f (Nat.le_refl _)).2.2 (fun d c r h => ((of_end f d l.tail (hl.tail hb)).2.2.2.1 c r h).1) d hE hl hok hf h6 hn hb hP hS
      | false =>
        have e : oneP (f + 1) d l = leafP l := by simp only [oneP]; rw [if_neg h6, if_neg (by rw [hn]; decide), if_neg (by rw [hb]; decide)]
        rw [e]
        unfold leafP
        cases h1 : nameP l with
        | none => exact leaf_noname d hE hl hok h6 hn hb h1 hP hS
        | some z =>
          obtain ⟨n, r⟩ := z
          cases h2 : seeT r isL with
          | false => exact leaf_cmp d hE hl hok h6 hn hb n r h1 h2 hP hS
          | true =>
            simp only
            unfold restP
            rw [if_pos h2]
            cases h3 : seeT r.tail notL with
            | true =>
              rw [if_pos rfl]
              cases h4 : seeT r.tail.tail nullL with
              | true => rw [if_pos rfl]; exact leaf_isnot d hE hl hok h6 hn hb n r h1 h2 h3 h4 hP hS
              | false => rw [if_neg (by decide)]; exact leaf_isnot_no d hE hl hok h6 hn hb n r h1 h2 h3 h4 hP hS
            | false =>
              rw [if_neg (by decide)]
              cases h4 : seeT r.tail nullL with
              | true => rw [if_pos rfl]; exact leaf_isnull d hE hl hok h6 hn hb n r h1 h2 h3 h4 hP hS
              | false => rw [if_neg (by decide)]; exact leaf_isnull_no d hE hl hok h6 hn hb n r h1 h2 h3 h4 hP hS
set_option maxRecDepth 100000 in
set_option maxHeartbeats 8000000 in
theorem condf_any {B : Nat} {w0 w : World} {R : Item} {gt gp : Nat} {l : List Tk} {y : Item} {M : List Item} (hE : EnvA B w0 R) (hl : EndT l) (hok : ∀ t ∈ l, TkOk 5000 t) (hP : PAt B w0 R gt gp l y) (hS : Hp B w0 w (y :: R :: M)) :
    Calls Tryd.prog 13 #[.pointer (some ⟨gp, 0, none⟩)] w (ParRes B w0 R gt gp M (wholeP l)) := by
  have HO := Lib.hid (fun (W : World) (h : Hp B w0 W (y :: R :: M)) => show Calls Tryd.prog 14 #[.pointer (some ⟨gp, 0, none⟩), .int .i64 0] W _ from (all_any (4 * l.length + 3)).2.2 0 hE hl hok (Nat.le_refl _) (by omega) hP h)
  have HP := Lib.hid hP
  obtain ⟨off, n, cap, q, rfl, hn, hc, hc2, rfl, hT⟩ := hP
  cases q with
  | nil => exact absurd rfl hl.ne
  | cons x q =>
    have HRD := Lib.hid hT.hd
    have hn0 : 0 < n := by rw [← hn]; simp
    obtain ⟨D, hD⟩ : ∃ D, D = wholeP ((x :: q).map (·.1)) := ⟨_, rfl⟩
    rw [← hD]
    unfold wholeP at hD
    have hk : kind1 ((x :: q).map (·.1)) = x.1.kind := rfl
    rw [hk] at hD
    clear hk hT hn hE hok hl
    by_cases h5 : x.1.kind = 5
    · rw [if_pos h5] at hD
      subst hD
      have q5 : (x.1.kind == 5) = true := by simp [h5]
      clear HO h5
      ((try clear hF); (first | have hF := And.intro hS.facts (HRD.out _ (hS.sub (by first | simp | ((repeat (first | exact List.nil_sublist _ | exact List.Sublist.refl _ | with_reducible apply List.Sublist.cons₂ | apply List.Sublist.cons)))))) | have hF := And.intro hS.facts (hR.at hS.ext) | have hF := hS.facts); simp only [HFacts, cellFacts, RFacts, cellOnly, and_true, true_and, Nat.zero_add, Nat.reduceAdd] at hF)
      go_enter Tryd.func13, Tryd.ntmps13
      go_wp2_with (first | ((with_reducible first | refine nhLa ?_ | refine nhLs ?_ | refine nhLd ?_ | refine nhCa ?_ | refine nhCs ?_ | refine nhCd ?_ | refine nhPa ?_ | refine nhPs ?_ | refine nhPd ?_ | refine nhKa ?_ | refine nhKs ?_ | refine nhKd ?_); ((try clear hF); clear hS; intro wk hS; (try simp only [List.set_cons_zero, List.set_cons_succ, heap_size, heap_set_size] at hS); ((try clear hF); (first | have hF := And.intro hS.facts (HRD.out _ (hS.sub (by first | simp | ((repeat (first | exact List.nil_sublist _ | exact List.Sublist.refl _ | with_reducible apply List.Sublist.cons₂ | apply List.Sublist.cons)))))) | have hF := And.intro hS.facts (hR.at hS.ext) | have hF := hS.facts); simp only [HFacts, cellFacts, RFacts, cellOnly, and_true, true_and, Nat.zero_add, Nat.reduceAdd] at hF))) | fail)
      go_ret
      exact ⟨none, [], _, rfl, CondIn.nil, HP.out, hS⟩
    · rw [if_neg h5] at hD
      have q5 : (x.1.kind == 5) = false := by simp [h5]
      clear h5
      cases hr : orP (4 * ((x :: q).map (·.1)).length + 3) 0 ((x :: q).map (·.1)) with
      | none =>
        rw [hr] at hD HO
        subst hD
        clear hr
        ((try clear hF); (first | have hF := And.intro hS.facts (HRD.out _ (hS.sub (by first | simp | ((repeat (first | exact List.nil_sublist _ | exact List.Sublist.refl _ | with_reducible apply List.Sublist.cons₂ | apply List.Sublist.cons)))))) | have hF := And.intro hS.facts (hR.at hS.ext) | have hF := hS.facts); simp only [HFacts, cellFacts, RFacts, cellOnly, and_true, true_and, Nat.zero_add, Nat.reduceAdd] at hF)
        go_enter Tryd.func13, Tryd.ntmps13
        go_wp2_with (first | ((with_reducible first | refine nhLa ?_ | refine nhLs ?_ | refine nhLd ?_ | refine nhCa ?_ | refine nhCs ?_ | refine nhCd ?_ | refine nhPa ?_ | refine nhPs ?_ | refine nhPd ?_ | refine nhKa ?_ | refine nhKs ?_ | refine nhKd ?_); ((try clear hF); clear hS; intro wk hS; (try simp only [List.set_cons_zero, List.set_cons_succ, heap_size, heap_set_size] at hS); ((try clear hF); (first | have hF := And.intro hS.facts (HRD.out _ (hS.sub (by first | simp | ((repeat (first | exact List.nil_sublist _ | exact List.Sublist.refl _ | with_reducible apply List.Sublist.cons₂ | apply List.Sublist.cons)))))) | have hF := And.intro hS.facts (hR.at hS.ext) | have hF := hS.facts); simp only [HFacts, cellFacts, RFacts, cellOnly, and_true, true_and, Nat.zero_add, Nat.reduceAdd] at hF))) | (go_at_call 14; (with_reducible refine Calls.mono (HO.out _ hS) ?_); clear hS; rintro e wk ⟨⟨tp, pv, rfl⟩, hS⟩))
        exact ⟨rfl, ⟨_, _, rfl⟩, hS⟩
      | some z =>
        obtain ⟨c, r⟩ := z
        rw [hr] at hD HO
        subst hD
        clear hr
        ((try clear hF); (first | have hF := And.intro hS.facts (HRD.out _ (hS.sub (by first | simp | ((repeat (first | exact List.nil_sublist _ | exact List.Sublist.refl _ | with_reducible apply List.Sublist.cons₂ | apply List.Sublist.cons)))))) | have hF := And.intro hS.facts (hR.at hS.ext) | have hF := hS.facts); simp only [HFacts, cellFacts, RFacts, cellOnly, and_true, true_and, Nat.zero_add, Nat.reduceAdd] at hF)
        go_enter Tryd.func13, Tryd.ntmps13
        go_wp2_with (first | ((with_reducible first | refine nhLa ?_ | refine nhLs ?_ | refine nhLd ?_ | refine nhCa ?_ | refine nhCs ?_ | refine nhCd ?_ | refine nhPa ?_ | refine nhPs ?_ | refine nhPd ?_ | refine nhKa ?_ | refine nhKs ?_ | refine nhKd ?_); ((try clear hF); clear hS; intro wk hS; (try simp only [List.set_cons_zero, List.set_cons_succ, heap_size, heap_set_size] at hS); ((try clear hF); (first | have hF := And.intro hS.facts (HRD.out _ (hS.sub (by first | simp | ((repeat (first | exact List.nil_sublist _ | exact List.Sublist.refl _ | with_reducible apply List.Sublist.cons₂ | apply List.Sublist.cons)))))) | have hF := And.intro hS.facts (hR.at hS.ext) | have hF := hS.facts); simp only [HFacts, cellFacts, RFacts, cellOnly, and_true, true_and, Nat.zero_add, Nat.reduceAdd] at hF))) | (go_at_call 14; (with_reducible refine Calls.mono (HO.out _ hS) ?_); clear hS; rintro e wk ⟨v, K, y2, rfl, HC, HY2, hS⟩))
        go_ret
        exact ⟨v, K, y2, rfl, HC, HY2, hS⟩
end Go.Proofs.YtmfilblbofkmcaaDoor

/- ask.whole, ask.Cond: all of it. -/
namespace Go.Proofs.YtmfilblbofkmcaaDoor
set_option linter.unusedSimpArgs false
set_option linter.unusedVariables false
open Go.RowKit
set_option linter.all false
theorem tkV_get : ∀ (q : List (Tk × Nat)) (i : Nat) (x : Tk × Nat), q[i]? = some x → (tkV q)[i * 3]? = some (.int .i64 x.1.kind) ∧ (tkV q)[i * 3 + 1]? = some (.string x.1.text) ∧ (tkV q)[i * 3 + 2]? = some (.int .i64 x.2)
  | [], i, x, h => by simp at h
  | y :: q, 0, x, h => by
    simp at h
    subst h
    exact ⟨rfl, rfl, rfl⟩
  | y :: q, i + 1, x, h => by
    have := tkV_get q i x (by simpa using h)
    rw [show (i + 1) * 3 = i * 3 + 3 by omega, show i * 3 + 3 + 1 = (i * 3 + 1) + 3 by omega, show i * 3 + 3 + 2 = (i * 3 + 2) + 3 by omega]
    exact this
theorem tkIn_row {B : Nat} {w0 : World} {gt n cap : Nat} {q : List (Tk × Nat)} : TkIn B w0 (.row 41 3 (some ⟨gt, 0, none⟩) n cap (tkV q)) gt 0 q := fun W hW i x hi => by
  obtain ⟨h1, h2, h3⟩ := tkV_get q i x hi
  obtain ⟨g1, e1, c1, _⟩ := hW.rowCell 0 rfl h1
  obtain ⟨g2, e2, c2, _⟩ := hW.rowCell 0 rfl h2
  obtain ⟨g3, e3, c3, _⟩ := hW.rowCell 0 rfl h3
  simp only [Option.some.injEq, Addr.mk.injEq, and_true] at e1 e2 e3
  subst e1 e2 e3
  simp only [Nat.zero_add]
  exact ⟨c1, c2, c3⟩
theorem swing {B : Nat} {w0 W : World} {y R a b : Item} {K : List Item} (h : Hp B w0 W (y :: R :: (K ++ [a, b]))) : Hp B w0 W (a :: b :: y :: R :: K) := by
  refine h.perm ?_
  have p : (K ++ [a, b]).Perm (a :: b :: K) := by
    have := List.perm_append_comm (l₁ := K) (l₂ := [a, b])
    exact this
  have p1 : (y :: R :: a :: b :: K).Perm (a :: b :: y :: R :: K) := by
    have e1 : (y :: R :: a :: b :: K).Perm (a :: y :: R :: b :: K) := (List.Perm.cons y (List.Perm.swap a R (b :: K))).trans (List.Perm.swap a y (R :: b :: K))
    have e2 : (y :: R :: b :: K).Perm (b :: y :: R :: K) := (List.Perm.cons y (List.Perm.swap b R K)).trans (List.Perm.swap b y (R :: K))
    exact e1.trans (List.Perm.cons a e2)
  exact ((List.Perm.cons y (List.Perm.cons R p)).trans p1).symm
theorem Hp.ne {B : Nat} {w0 W : World} {a b : Nat} {x y : List Value} {t u : TypeId} {L : List Item} (h : Hp B w0 W (.blk a x t :: .blk b y u :: L)) : a ≠ b := by
  intro e
  have := List.pairwise_cons.1 h.apart
  rcases this.1 (.blk b y u) (by simp) with h | h
  · cases h
  · exact h (by simp [Item.block, e])
/-- how a text is read -/
def CondRes (w : World) (r : Option CT) (e : Ending) (w' : World) : Prop := match r with
  | some c => ∃ v, e = .returned (.tuple #[.pointer v, .nilIface]) ∧ CondAt w' (.pointer v) c ∧ Ext w w'
  | none => (∃ tp pv, e = .returned (.tuple #[.pointer none, .iface tp pv])) ∧ Ext w w'
set_option maxRecDepth 100000 in
set_option maxHeartbeats 8000000 in
theorem whole_bad (s : ByteArray) (w : World) (m : Nat) (hm : s.size = m) (hm2 : m ≤ 5000) (hM : MarksAt w) (ht : tokL (m + 1) s.data.toList 0 = none) :
    Calls Tryd.prog 12 #[.string s, .func (.func 13) #[] #[]] w (CondRes w none) := by
  have HT := Lib.hid (fun (W : World) (hx : Ext w W) => tokens_any s W m hm (by omega) (hM.ext hx))
  rw [ht] at HT
  have hmf : ∀ (fn : Fn) (first cap : Array Value) (w : World), (Instr.makeFunc fn first cap).run Tryd.prog w = .ok (.func fn first cap) w := fun _ _ _ _ => rfl
  have hS := Hp.init w
  have hR := Reads.nil w
  clear ht
  go_enter_defers Tryd.func12, Tryd.ntmps12
  go_wp2_with (first | ((with_reducible first | refine nhLa ?_ | refine nhLs ?_ | refine nhLd ?_ | refine nhCa ?_ | refine nhCs ?_ | refine nhCd ?_ | refine nhPa ?_ | refine nhPs ?_ | refine nhPd ?_ | refine nhKa ?_ | refine nhKs ?_ | refine nhKd ?_); ((try clear hF); clear hS; intro wk hS; (try simp only [List.set_cons_zero, List.set_cons_succ, heap_size, heap_set_size] at hS); ((try clear hF); (first | have hF := And.intro hS.facts (HRD.out _ (hS.sub (by first | simp | ((repeat (first | exact List.nil_sublist _ | exact List.Sublist.refl _ | with_reducible apply List.Sublist.cons₂ | apply List.Sublist.cons)))))) | have hF := And.intro hS.facts (hR.at hS.ext) | have hF := hS.facts); simp only [HFacts, cellFacts, RFacts, cellOnly, and_true, true_and, Nat.zero_add, Nat.reduceAdd] at hF))) | (go_at_call 27; (with_reducible refine Calls.mono (HT.out _ hS.ext) ?_); rintro e wk ⟨⟨tp, pv, rfl⟩, hX⟩; replace hS := hS.step hX; clear hX; ((try clear hF); (first | have hF := And.intro hS.facts (HRD.out _ (hS.sub (by first | simp | ((repeat (first | exact List.nil_sublist _ | exact List.Sublist.refl _ | with_reducible apply List.Sublist.cons₂ | apply List.Sublist.cons)))))) | have hF := And.intro hS.facts (hR.at hS.ext) | have hF := hS.facts); simp only [HFacts, cellFacts, RFacts, cellOnly, and_true, true_and, Nat.zero_add, Nat.reduceAdd] at hF)))
  have n1 := hS.ne
  have n2 := n1.symm
  go_region
  go_wp2_with (first | ((with_reducible first | refine nhLa ?_ | refine nhLs ?_ | refine nhLd ?_ | refine nhCa ?_ | refine nhCs ?_ | refine nhCd ?_ | refine nhPa ?_ | refine nhPs ?_ | refine nhPd ?_ | refine nhKa ?_ | refine nhKs ?_ | refine nhKd ?_); ((try clear hF); clear hS; intro wk hS; (try simp only [List.set_cons_zero, List.set_cons_succ, heap_size, heap_set_size] at hS); ((try clear hF); (first | have hF := And.intro hS.facts (HRD.out _ (hS.sub (by first | simp | ((repeat (first | exact List.nil_sublist _ | exact List.Sublist.refl _ | with_reducible apply List.Sublist.cons₂ | apply List.Sublist.cons)))))) | have hF := And.intro hS.facts (hR.at hS.ext) | have hF := hS.facts); simp only [HFacts, cellFacts, RFacts, cellOnly, and_true, true_and, Nat.zero_add, Nat.reduceAdd] at hF))) | fail)
  replace hS := (((hS.put (i := 1) (j := 0) (u := .pointer none) rfl).put (i := 0) (j := 0) (u := .iface tp pv) rfl).drew)
  revert hS
  generalize (((wk.setCell _ (.pointer none)).setCell _ (.iface tp pv)).drew : World) = W2
  intro hS
  replace hS : Hp _ _ W2 [.blk _ [.iface tp pv] 28, .blk _ [.pointer none] 26] := hS
  have hx := hS.ext
  ((try clear hF); (first | have hF := And.intro hS.facts (HRD.out _ (hS.sub (by first | simp | ((repeat (first | exact List.nil_sublist _ | exact List.Sublist.refl _ | with_reducible apply List.Sublist.cons₂ | apply List.Sublist.cons)))))) | have hF := And.intro hS.facts (hR.at hS.ext) | have hF := hS.facts); simp only [HFacts, cellFacts, RFacts, cellOnly, and_true, true_and, Nat.zero_add, Nat.reduceAdd] at hF)
  refine leaves_cons (f := 26) (by simp) (by simp [go_sem]; rfl) ?_
  refine (catch_idle _ _ _).mono ?_
  rintro e u' w'' ⟨rfl, rfl, rfl⟩
  refine ⟨.tuple #[.pointer none, .iface tp pv], ?_, ⟨⟨_, _, rfl⟩, hx⟩⟩
  simp [results, Tryd.results12, go_sem, hF]
theorem toks_ok {bs : List UInt8} {l : List Tk} {f : Nat} (h : tokL f bs 0 = some l) (hb : bs.length ≤ 5000) : EndT l ∧ (∀ t ∈ l, TkOk 5000 t) ∧ l.length ≤ 81 := by
  obtain ⟨ts, rfl, hx, hk⟩ := of_tokL f bs 0 l h
  refine ⟨⟨ts, rfl⟩, fun t ht => ?_, ?_⟩
  · rcases List.mem_append.1 ht with h | h
    · exact (lx_ok hx 5000 hb t h).1
    · simp at h
      subst h
      exact ⟨by decide, by decide, by decide, fun h => by cases h⟩
  · have := hk (by omega)
    simp only [List.length_append, List.length_cons, List.length_nil]
    omega
theorem whole_end {l r : List Tk} {c : CT} (hl : EndT l) (h : wholeP l = some (c, r)) : EndT r := by
  unfold wholeP at h
  split at h
  · obtain ⟨_, rfl⟩ := Prod.mk.inj (Option.some.inj h)
    exact hl
  · exact ((of_end _ 0 l hl).2.2.2.1 c r h).1
set_option maxRecDepth 100000 in
set_option maxHeartbeats 8000000 in
theorem whole_toks (s : ByteArray) (w : World) (m : Nat) (hm : s.size = m) (hm2 : m ≤ 5000) (hM : MarksAt w) (hK : KeptA w) (hy : SynAt w) (hr : RngAt w) (l : List Tk) (ht : tokL (m + 1) s.data.toList 0 = some l) :
    Calls Tryd.prog 12 #[.string s, .func (.func 13) #[] #[]] w (CondRes w (match wholeP l with | some (c, r) => if kind1 r = 5 then some c else none | none => none)) := by
  have HT := Lib.hid (fun (W : World) (hx : Ext w W) => tokens_any s W m hm (by omega) (hM.ext hx))
  rw [ht] at HT
  obtain ⟨hl, hok, hlen⟩ := toks_ok ht (by rw [← Lib.size_eq]; omega)
  have HK := Lib.hid (fun (W : World) (hx : Ext w W) => show KeptA W ∧ SynAt W ∧ RngAt W from ⟨hK.ext hx, hy.ext hx, hr.ext hx⟩)
  have HE := Lib.hid (show ∀ R, EnvA w.heap.size w R from fun R W hW => HK.out W hW.ext)
  have hmf : ∀ (fn : Fn) (first cap : Array Value) (w : World), (Instr.makeFunc fn first cap).run Tryd.prog w = .ok (.func fn first cap) w := fun _ _ _ _ => rfl
  have HL := Lib.hid hl
  have HOK := Lib.hid hok
  obtain ⟨D, hD⟩ : ∃ D, D = (match wholeP l with | some (c, r) => if kind1 r = 5 then some c else none | none => none) := ⟨_, rfl⟩
  rw [← hD]
  have hS := Hp.init w
  have hR := Reads.nil w
  clear ht hM hK hy hr hl hok HK
  go_enter_defers Tryd.func12, Tryd.ntmps12
  go_upto_region 5 with (first | ((with_reducible first | refine nhLa ?_ | refine nhLs ?_ | refine nhLd ?_ | refine nhCa ?_ | refine nhCs ?_ | refine nhCd ?_ | refine nhPa ?_ | refine nhPs ?_ | refine nhPd ?_ | refine nhKa ?_ | refine nhKs ?_ | refine nhKd ?_); ((try clear hF); clear hS; intro wk hS; (try simp only [List.set_cons_zero, List.set_cons_succ, heap_size, heap_set_size] at hS); ((try clear hF); (first | have hF := And.intro hS.facts (HRD.out _ (hS.sub (by first | simp | ((repeat (first | exact List.nil_sublist _ | exact List.Sublist.refl _ | with_reducible apply List.Sublist.cons₂ | apply List.Sublist.cons)))))) | have hF := And.intro hS.facts (hR.at hS.ext) | have hF := hS.facts); simp only [HFacts, cellFacts, RFacts, cellOnly, and_true, true_and, Nat.zero_add, Nat.reduceAdd] at hF))) | (go_at_call 27; (with_reducible refine Calls.mono (HT.out _ hS.ext) ?_); rintro e wk ⟨A, n, cap, q, hq, hqn, rfl, hX⟩; replace hS := hS.join hX; clear hX; simp only [List.cons_append, List.nil_append] at hS; ((try clear hF); (first | have hF := And.intro hS.facts (HRD.out _ (hS.sub (by first | simp | ((repeat (first | exact List.nil_sublist _ | exact List.Sublist.refl _ | with_reducible apply List.Sublist.cons₂ | apply List.Sublist.cons)))))) | have hF := And.intro hS.facts (hR.at hS.ext) | have hF := hS.facts); simp only [HFacts, cellFacts, RFacts, cellOnly, and_true, true_and, Nat.zero_add, Nat.reduceAdd] at hF)))
  have hn0 : 0 < n := by
    have := HL.out.ne
    rw [← hqn]
    cases q with
    | nil => simp at hq; exact (this (by first | exact hq | exact hq.symm)).elim
    | cons _ _ => simp
  obtain ⟨gt, hgt, hnc, hcm⟩ : ∃ gt, A = some ⟨gt, 0, none⟩ ∧ n ≤ cap ∧ cap ≤ 9223372036854775807 := by
    have ho : wk.ownsRow w.heap.size 41 3 (.slice A n cap) n (tkV q) := hS.head
    rcases ho.2 with ⟨_, h0⟩ | ⟨g, cp, cur, hv, _, _, h1, h2, _⟩
    · omega
    · simp only [Value.slice.injEq, Int.natCast_inj] at hv
      obtain ⟨rfl, _, rfl⟩ := hv
      refine ⟨g, rfl, h1, ?_⟩
      unfold maxLen at h2
      omega
  subst hgt
  have HCF := Lib.hid (fun (gp : Nat) (M : List Item) (W : World) (h : Hp w.heap.size w W (.blk gp [.slice (some ⟨gt, 0, none⟩) n cap] 44 :: .row 41 3 (some ⟨gt, 0, none⟩) n cap (tkV q) :: M)) => condf_any (HE.out _) HL.out HOK.out ⟨0, n, cap, q, hq, hqn, hnc, hcm, rfl, tkIn_row⟩ h)
  cases hw : wholeP l with
  | none =>
    rw [hw] at hD HCF
    simp only at hD
    subst hD
    clear hw
    go_wp2_with (first | ((with_reducible first | refine nhLa ?_ | refine nhLs ?_ | refine nhLd ?_ | refine nhCa ?_ | refine nhCs ?_ | refine nhCd ?_ | refine nhPa ?_ | refine nhPs ?_ | refine nhPd ?_ | refine nhKa ?_ | refine nhKs ?_ | refine nhKd ?_); ((try clear hF); clear hS; intro wk hS; (try simp only [List.set_cons_zero, List.set_cons_succ, heap_size, heap_set_size] at hS); ((try clear hF); (first | have hF := And.intro hS.facts (HRD.out _ (hS.sub (by first | simp | ((repeat (first | exact List.nil_sublist _ | exact List.Sublist.refl _ | with_reducible apply List.Sublist.cons₂ | apply List.Sublist.cons)))))) | have hF := And.intro hS.facts (hR.at hS.ext) | have hF := hS.facts); simp only [HFacts, cellFacts, RFacts, cellOnly, and_true, true_and, Nat.zero_add, Nat.reduceAdd] at hF))) | (go_at_call 13; (with_reducible refine Calls.mono (HCF.out _ _ _ hS) ?_); clear hS; rintro e wk ⟨⟨tp, pv, rfl⟩, hS⟩))
    refine leaves_cons (f := 26) (by simp) (by simp [go_sem]; rfl) ?_
    refine (catch_pan _ _ _ _ tp pv hS).mono ?_
    clear hS
    rintro e u' w'' ⟨rfl, rfl, hS⟩
    have hx := hS.ext
    ((try clear hF); (first | have hF := And.intro hS.facts (HRD.out _ (hS.sub (by first | simp | ((repeat (first | exact List.nil_sublist _ | exact List.Sublist.refl _ | with_reducible apply List.Sublist.cons₂ | apply List.Sublist.cons)))))) | have hF := And.intro hS.facts (hR.at hS.ext) | have hF := hS.facts); simp only [HFacts, cellFacts, RFacts, cellOnly, and_true, true_and, Nat.zero_add, Nat.reduceAdd] at hF)
    refine ⟨.tuple #[.pointer none, .iface tp pv], ?_, ⟨⟨_, _, rfl⟩, hx⟩⟩
    simp [results, Tryd.results12, go_sem, hF]
  | some z =>
    obtain ⟨c, r⟩ := z
    have hEr := whole_end HL.out hw
    rw [hw] at hD HCF
    simp only at hD
    clear hw
    go_upto_region 7 with (first | ((with_reducible first | refine nhLa ?_ | refine nhLs ?_ | refine nhLd ?_ | refine nhCa ?_ | refine nhCs ?_ | refine nhCd ?_ | refine nhPa ?_ | refine nhPs ?_ | refine nhPd ?_ | refine nhKa ?_ | refine nhKs ?_ | refine nhKd ?_); ((try clear hF); clear hS; intro wk hS; (try simp only [List.set_cons_zero, List.set_cons_succ, heap_size, heap_set_size] at hS); ((try clear hF); (first | have hF := And.intro hS.facts (HRD.out _ (hS.sub (by first | simp | ((repeat (first | exact List.nil_sublist _ | exact List.Sublist.refl _ | with_reducible apply List.Sublist.cons₂ | apply List.Sublist.cons)))))) | have hF := And.intro hS.facts (hR.at hS.ext) | have hF := hS.facts); simp only [HFacts, cellFacts, RFacts, cellOnly, and_true, true_and, Nat.zero_add, Nat.reduceAdd] at hF))) | (go_at_call 13; (with_reducible refine Calls.mono (HCF.out _ _ _ hS) ?_); clear hS; rintro e wk ⟨v, K, y2, rfl, HC, HY2, hS⟩; replace hS := swing hS; ((try clear hF); (first | have hF := And.intro hS.facts (HRD.out _ (hS.sub (by first | simp | ((repeat (first | exact List.nil_sublist _ | exact List.Sublist.refl _ | with_reducible apply List.Sublist.cons₂ | apply List.Sublist.cons)))))) | have hF := And.intro hS.facts (hR.at hS.ext) | have hF := hS.facts); simp only [HFacts, cellFacts, RFacts, cellOnly, and_true, true_and, Nat.zero_add, Nat.reduceAdd] at hF)))
    have HFL := Lib.hid (fun (a b : Item) (W : World) (h : Hp w.heap.size w W (a :: b :: y2 :: .row 41 3 (some ⟨gt, 0, none⟩) n cap (tkV q) :: K)) => fail_any 3 hEr.ne HY2 h.tail.tail)
    obtain ⟨off, n2, cap2, q2, rfl, hn2, hc2, hc3, rfl, hT⟩ := HY2
    cases q2 with
    | nil => exact absurd rfl hEr.ne
    | cons x q2 =>
      have HRD := Lib.hid hT.hd
      have hn20 : 0 < n2 := by rw [← hn2]; simp
      have hk : kind1 ((x :: q2).map (·.1)) = x.1.kind := rfl
      rw [hk] at hD
      clear hk hT hn2 HCF HE HL HOK hEr
      by_cases h5 : x.1.kind = 5
      · rw [if_pos h5] at hD
        have q5 : (x.1.kind != 5) = false := by simp [h5]
        subst hD
        clear h5 HFL
        ((try clear hF); (first | have hF := And.intro hS.facts (HRD.out _ (hS.sub (by first | simp | ((repeat (first | exact List.nil_sublist _ | exact List.Sublist.refl _ | with_reducible apply List.Sublist.cons₂ | apply List.Sublist.cons)))))) | have hF := And.intro hS.facts (hR.at hS.ext) | have hF := hS.facts); simp only [HFacts, cellFacts, RFacts, cellOnly, and_true, true_and, Nat.zero_add, Nat.reduceAdd] at hF)
        go_wp2_with (first | ((with_reducible first | refine nhLa ?_ | refine nhLs ?_ | refine nhLd ?_ | refine nhCa ?_ | refine nhCs ?_ | refine nhCd ?_ | refine nhPa ?_ | refine nhPs ?_ | refine nhPd ?_ | refine nhKa ?_ | refine nhKs ?_ | refine nhKd ?_); ((try clear hF); clear hS; intro wk hS; (try simp only [List.set_cons_zero, List.set_cons_succ, heap_size, heap_set_size] at hS); ((try clear hF); (first | have hF := And.intro hS.facts (HRD.out _ (hS.sub (by first | simp | ((repeat (first | exact List.nil_sublist _ | exact List.Sublist.refl _ | with_reducible apply List.Sublist.cons₂ | apply List.Sublist.cons)))))) | have hF := And.intro hS.facts (hR.at hS.ext) | have hF := hS.facts); simp only [HFacts, cellFacts, RFacts, cellOnly, and_true, true_and, Nat.zero_add, Nat.reduceAdd] at hF))) | fail)
        replace hS := hS.put (i := 0) (j := 0) (u := .nilIface) rfl
        revert hS
        generalize (wk.setCell _ .nilIface : World) = W2
        intro hS
        replace hS : Hp _ _ W2 (.blk _ [.nilIface] 28 :: .blk _ [.pointer v] 26 :: _ :: _ :: K) := hS
        have hx := hS.ext
        have hcd := HC W2 hS.tail.tail.tail.tail
        ((try clear hF); (first | have hF := And.intro hS.facts (HRD.out _ (hS.sub (by first | simp | ((repeat (first | exact List.nil_sublist _ | exact List.Sublist.refl _ | with_reducible apply List.Sublist.cons₂ | apply List.Sublist.cons)))))) | have hF := And.intro hS.facts (hR.at hS.ext) | have hF := hS.facts); simp only [HFacts, cellFacts, RFacts, cellOnly, and_true, true_and, Nat.zero_add, Nat.reduceAdd] at hF)
        refine leaves_cons (f := 26) (by simp) (by simp [go_sem]; rfl) ?_
        refine (catch_idle _ _ _).mono ?_
        rintro e u' w'' ⟨rfl, rfl, rfl⟩
        refine ⟨.tuple #[.pointer v, .nilIface], ?_, ⟨v, rfl, hcd, hx⟩⟩
        simp [results, Tryd.results12, go_sem, hF]
      · rw [if_neg h5] at hD
        have q5 : (x.1.kind != 5) = true := by simp [h5]
        subst hD
        clear h5
        ((try clear hF); (first | have hF := And.intro hS.facts (HRD.out _ (hS.sub (by first | simp | ((repeat (first | exact List.nil_sublist _ | exact List.Sublist.refl _ | with_reducible apply List.Sublist.cons₂ | apply List.Sublist.cons)))))) | have hF := And.intro hS.facts (hR.at hS.ext) | have hF := hS.facts); simp only [HFacts, cellFacts, RFacts, cellOnly, and_true, true_and, Nat.zero_add, Nat.reduceAdd] at hF)
        go_wp2_with (first | ((with_reducible first | refine nhLa ?_ | refine nhLs ?_ | refine nhLd ?_ | refine nhCa ?_ | refine nhCs ?_ | refine nhCd ?_ | refine nhPa ?_ | refine nhPs ?_ | refine nhPd ?_ | refine nhKa ?_ | refine nhKs ?_ | refine nhKd ?_); ((try clear hF); clear hS; intro wk hS; (try simp only [List.set_cons_zero, List.set_cons_succ, heap_size, heap_set_size] at hS); ((try clear hF); (first | have hF := And.intro hS.facts (HRD.out _ (hS.sub (by first | simp | ((repeat (first | exact List.nil_sublist _ | exact List.Sublist.refl _ | with_reducible apply List.Sublist.cons₂ | apply List.Sublist.cons)))))) | have hF := And.intro hS.facts (hR.at hS.ext) | have hF := hS.facts); simp only [HFacts, cellFacts, RFacts, cellOnly, and_true, true_and, Nat.zero_add, Nat.reduceAdd] at hF))) | (go_at_call 28; (with_reducible refine (HFL.out _ _ _ hS).mono ?_); rintro e wk ⟨⟨tp, pv, rfl⟩, hX⟩; replace hS := hS.step hX; clear hX))
        refine leaves_cons (f := 26) (by simp) (by simp [go_sem]; rfl) ?_
        refine (catch_pan _ _ _ _ tp pv hS).mono ?_
        clear hS
        rintro e u' w'' ⟨rfl, rfl, hS⟩
        have hx := hS.ext
        ((try clear hF); (first | have hF := And.intro hS.facts (HRD.out _ (hS.sub (by first | simp | ((repeat (first | exact List.nil_sublist _ | exact List.Sublist.refl _ | with_reducible apply List.Sublist.cons₂ | apply List.Sublist.cons)))))) | have hF := And.intro hS.facts (hR.at hS.ext) | have hF := hS.facts); simp only [HFacts, cellFacts, RFacts, cellOnly, and_true, true_and, Nat.zero_add, Nat.reduceAdd] at hF)
        refine ⟨.tuple #[.pointer none, .iface tp pv], ?_, ⟨⟨_, _, rfl⟩, hx⟩⟩
        simp [results, Tryd.results12, go_sem, hF]
theorem whole_any (s : ByteArray) (w : World) (m : Nat) (hm : s.size = m) (hm2 : m ≤ 5000) (hM : MarksAt w) (hK : KeptA w) (hy : SynAt w) (hr : RngAt w) :
    Calls Tryd.prog 12 #[.string s, .func (.func 13) #[] #[]] w (CondRes w (condP s.data.toList)) := by
  unfold condP
  rw [← Lib.size_eq, hm]
  cases ht : tokL (m + 1) s.data.toList 0 with
  | none => exact whole_bad s w m hm hm2 hM ht
  | some l =>
    have := whole_toks s w m hm hm2 hM hK hy hr l ht
    exact this
set_option maxRecDepth 100000 in
set_option maxHeartbeats 8000000 in
theorem acond_any (s : ByteArray) (w : World) (m : Nat) (hm : s.size = m) (hm2 : m ≤ 5000) (hM : MarksAt w) (hK : KeptA w) (hy : SynAt w) (hr : RngAt w) :
    Calls Tryd.prog 6 #[.string s] w (CondRes w (condP s.data.toList)) := by
  have HW := Lib.hid (fun (W : World) (hx : Ext w W) => whole_any s W m hm hm2 (hM.ext hx) (hK.ext hx) (hy.ext hx) (hr.ext hx))
  obtain ⟨D, hD⟩ : ∃ D, D = condP s.data.toList := ⟨_, rfl⟩
  rw [← hD] at HW ⊢
  clear hD hM hK hy hr
  have hS := Hp.init w
  have hR := Reads.nil w
  cases D with
  | none =>
    go_enter Tryd.func6, Tryd.ntmps6
    go_wp2_with (first | ((with_reducible first | refine nhLa ?_ | refine nhLs ?_ | refine nhLd ?_ | refine nhCa ?_ | refine nhCs ?_ | refine nhCd ?_ | refine nhPa ?_ | refine nhPs ?_ | refine nhPd ?_ | refine nhKa ?_ | refine nhKs ?_ | refine nhKd ?_); ((try clear hF); clear hS; intro wk hS; (try simp only [List.set_cons_zero, List.set_cons_succ, heap_size, heap_set_size] at hS); ((try clear hF); (first | have hF := And.intro hS.facts (HRD.out _ (hS.sub (by first | simp | ((repeat (first | exact List.nil_sublist _ | exact List.Sublist.refl _ | with_reducible apply List.Sublist.cons₂ | apply List.Sublist.cons)))))) | have hF := And.intro hS.facts (hR.at hS.ext) | have hF := hS.facts); simp only [HFacts, cellFacts, RFacts, cellOnly, and_true, true_and, Nat.zero_add, Nat.reduceAdd] at hF))) | (go_at_call 12; (with_reducible refine Calls.mono (HW.out _ hS.ext) ?_); rintro e wk ⟨⟨tp, pv, rfl⟩, hX⟩; replace hS := hS.step hX; clear hX))
    go_ret2
    exact ⟨⟨_, _, rfl⟩, hS.ext⟩
  | some c =>
    go_enter Tryd.func6, Tryd.ntmps6
    go_wp2_with (first | ((with_reducible first | refine nhLa ?_ | refine nhLs ?_ | refine nhLd ?_ | refine nhCa ?_ | refine nhCs ?_ | refine nhCd ?_ | refine nhPa ?_ | refine nhPs ?_ | refine nhPd ?_ | refine nhKa ?_ | refine nhKs ?_ | refine nhKd ?_); ((try clear hF); clear hS; intro wk hS; (try simp only [List.set_cons_zero, List.set_cons_succ, heap_size, heap_set_size] at hS); ((try clear hF); (first | have hF := And.intro hS.facts (HRD.out _ (hS.sub (by first | simp | ((repeat (first | exact List.nil_sublist _ | exact List.Sublist.refl _ | with_reducible apply List.Sublist.cons₂ | apply List.Sublist.cons)))))) | have hF := And.intro hS.facts (hR.at hS.ext) | have hF := hS.facts); simp only [HFacts, cellFacts, RFacts, cellOnly, and_true, true_and, Nat.zero_add, Nat.reduceAdd] at hF))) | (go_at_call 12; (with_reducible refine Calls.mono (HW.out _ hS.ext) ?_); rintro e wk ⟨v, rfl, hc, hX⟩; replace hS := hS.step hX; clear hX))
    go_ret2
    exact ⟨v, rfl, hc, hS.ext⟩
end Go.Proofs.YtmfilblbofkmcaaDoor

/- ask.written, ask.Print: a condition as text. -/
namespace Go.Proofs.YtmfilblbofkmcaaDoor
set_option linter.unusedSimpArgs false
set_option linter.unusedVariables false
open Go.RowKit
set_option linter.all false
@[go_sem] theorem run_idx_ops0 (w : World) : (Instr.index 68 (.agg #[.string ⟨#[61]⟩, .string ⟨#[60, 62]⟩, .string ⟨#[60]⟩, .string ⟨#[60, 61]⟩, .string ⟨#[62]⟩, .string ⟨#[62, 61]⟩]) (.int .i64 0)).run Tryd.prog w = .ok (.string ⟨#[61]⟩) w := by kernel_rfl
@[go_sem] theorem run_idx_ops1 (w : World) : (Instr.index 68 (.agg #[.string ⟨#[61]⟩, .string ⟨#[60, 62]⟩, .string ⟨#[60]⟩, .string ⟨#[60, 61]⟩, .string ⟨#[62]⟩, .string ⟨#[62, 61]⟩]) (.int .i64 1)).run Tryd.prog w = .ok (.string ⟨#[60, 62]⟩) w := by kernel_rfl
@[go_sem] theorem run_idx_ops2 (w : World) : (Instr.index 68 (.agg #[.string ⟨#[61]⟩, .string ⟨#[60, 62]⟩, .string ⟨#[60]⟩, .string ⟨#[60, 61]⟩, .string ⟨#[62]⟩, .string ⟨#[62, 61]⟩]) (.int .i64 2)).run Tryd.prog w = .ok (.string ⟨#[60]⟩) w := by kernel_rfl
@[go_sem] theorem run_idx_ops3 (w : World) : (Instr.index 68 (.agg #[.string ⟨#[61]⟩, .string ⟨#[60, 62]⟩, .string ⟨#[60]⟩, .string ⟨#[60, 61]⟩, .string ⟨#[62]⟩, .string ⟨#[62, 61]⟩]) (.int .i64 3)).run Tryd.prog w = .ok (.string ⟨#[60, 61]⟩) w := by kernel_rfl
@[go_sem] theorem run_idx_ops4 (w : World) : (Instr.index 68 (.agg #[.string ⟨#[61]⟩, .string ⟨#[60, 62]⟩, .string ⟨#[60]⟩, .string ⟨#[60, 61]⟩, .string ⟨#[62]⟩, .string ⟨#[62, 61]⟩]) (.int .i64 4)).run Tryd.prog w = .ok (.string ⟨#[62]⟩) w := by kernel_rfl
@[go_sem] theorem run_idx_ops5 (w : World) : (Instr.index 68 (.agg #[.string ⟨#[61]⟩, .string ⟨#[60, 62]⟩, .string ⟨#[60]⟩, .string ⟨#[60, 61]⟩, .string ⟨#[62]⟩, .string ⟨#[62, 61]⟩]) (.int .i64 5)).run Tryd.prog w = .ok (.string ⟨#[62, 61]⟩) w := by kernel_rfl
def parS (n least : Nat) (s : ByteArray) : ByteArray := if n < least then ⟨#[40]⟩ ++ s ++ ⟨#[41]⟩ else s
theorem parS_list (n least : Nat) (s : ByteArray) (l : List UInt8) (h : s.data.toList = l) : parS n least s = ⟨(parL n least l).toArray⟩ := by
  refine ba_ext ?_
  unfold parS parL
  split
  · simp [ByteArray.data_append, h]
  · simp [h]
theorem WR_res (B : ByteArray) (D : ByteArray) (h : D = B) {P : Prop} (hp : P) : (Ending.returned (.string B) = Ending.returned (.string D)) ∧ P := ⟨by rw [h], hp⟩
def WrC (w : World) (v : Value) (t : CT) : Prop := ∀ (least : Nat) (W : World), Ext w W → least ≤ 2 → (writL t least).length ≤ 100000 → Calls Tryd.prog 15 #[v, .int .i64 least] W fun e w' => e = .returned (.string ⟨(writL t least).toArray⟩) ∧ Ext W w'
set_option maxRecDepth 100000 in
set_option maxHeartbeats 8000000 in
theorem wr_and (x : GV) (col : ByteArray) (l r : CT) (b : Nat) (lv rv : Option Addr) (w : World) (C0 : w.cell? ⟨b, 0, none⟩ = some (.int .i64 9)) (C5 : w.cell? ⟨b, 5, none⟩ = some (.pointer lv)) (C6 : w.cell? ⟨b, 6, none⟩ = some (.pointer rv)) (hl : WrC w (.pointer lv) l) (hr : WrC w (.pointer rv) r)
    (least : Nat) (h2 : least ≤ 2) (hlen : (writL (.node 9 col x l r) least).length ≤ 100000) :
    Calls Tryd.prog 15 #[.pointer (some ⟨b, 0, none⟩), .int .i64 least] w fun e w' => e = .returned (.string ⟨(writL (.node 9 col x l r) least).toArray⟩) ∧ Ext w w' := by
  have e0 : writL (.node 9 col x l r) least = parL 1 least (writL l 1 ++ [32, 97, 110, 100, 32] ++ writL r 2) := by
    conv => lhs; unfold writL
    rw [if_neg (by decide), if_pos rfl]
  rw [e0] at hlen ⊢
  have hsum : (writL l 1).length + (writL r 2).length ≤ 100000 := by
    unfold parL at hlen
    split at hlen <;> simp only [List.length_append, List.length_cons, List.length_nil] at hlen <;> omega
  have HL := Lib.hid (fun (W : World) (hx : Ext w W) => show Calls Tryd.prog 15 #[.pointer lv, .int .i64 1] W _ from hl 1 W hx (by omega) (by omega))
  have HR := Lib.hid (fun (W : World) (hx : Ext w W) => show Calls Tryd.prog 15 #[.pointer rv, .int .i64 2] W _ from hr 2 W hx (by omega) (by omega))
  obtain ⟨sl, hsl⟩ : ∃ sl : ByteArray, sl = ⟨(writL l 1).toArray⟩ := ⟨_, rfl⟩
  obtain ⟨sr, hsr⟩ : ∃ sr : ByteArray, sr = ⟨(writL r 2).toArray⟩ := ⟨_, rfl⟩
  have zl : sl.size ≤ 100000 := by rw [Lib.size_eq, hsl]; simp only; omega
  have zr : sr.size ≤ 100000 := by rw [Lib.size_eq, hsr]; simp only; omega
  rw [← hsl] at HL
  rw [← hsr] at HR
  have e1 : (⟨(parL 1 least (writL l 1 ++ [32, 97, 110, 100, 32] ++ writL r 2)).toArray⟩ : ByteArray) = parS 1 least (sl ++ ⟨#[32, 97, 110, 100, 32]⟩ ++ sr) := (parS_list _ _ _ _ (by rw [hsl, hsr]; simp [ByteArray.data_append])).symm
  rw [e1]
  have zw : (⟨#[32, 97, 110, 100, 32]⟩ : ByteArray).size = 5 := rfl
  have z1 : (sl ++ ⟨#[32, 97, 110, 100, 32]⟩).size ≤ 100010 := by rw [ByteArray.size_append]; omega
  have z2 : (sl ++ ⟨#[32, 97, 110, 100, 32]⟩ ++ sr).size ≤ 200010 := by rw [ByteArray.size_append]; omega
  have z3 : ((⟨#[40]⟩ : ByteArray) ++ (sl ++ ⟨#[32, 97, 110, 100, 32]⟩ ++ sr)).size ≤ 200011 := by rw [ByteArray.size_append]; show 1 + _ ≤ _; omega
  obtain ⟨D, hD⟩ : ∃ D, D = parS 1 least (sl ++ ⟨#[32, 97, 110, 100, 32]⟩ ++ sr) := ⟨_, rfl⟩
  rw [← hD]
  have hS := Hp.init w
  have hR := Reads.cell C0 (Reads.cell C5 (Reads.cell C6 (Reads.nil w)))
  clear C0 C5 C6 hl hr hlen e0 e1 hsum hsl hsr
  ((try clear hF); (first | have hF := And.intro hS.facts (HRD.out _ (hS.sub (by first | simp | ((repeat (first | exact List.nil_sublist _ | exact List.Sublist.refl _ | with_reducible apply List.Sublist.cons₂ | apply List.Sublist.cons)))))) | have hF := And.intro hS.facts (hR.at hS.ext) | have hF := hS.facts); simp only [HFacts, cellFacts, RFacts, cellOnly, and_true, true_and, Nat.zero_add, Nat.reduceAdd] at hF)
  go_enter Tryd.func15, Tryd.ntmps15
  go_wp2_with (first | ((with_reducible first | refine nhLa ?_ | refine nhLs ?_ | refine nhLd ?_ | refine nhCa ?_ | refine nhCs ?_ | refine nhCd ?_ | refine nhPa ?_ | refine nhPs ?_ | refine nhPd ?_ | refine nhKa ?_ | refine nhKs ?_ | refine nhKd ?_); ((try clear hF); clear hS; intro wk hS; (try simp only [List.set_cons_zero, List.set_cons_succ, heap_size, heap_set_size] at hS); ((try clear hF); (first | have hF := And.intro hS.facts (HRD.out _ (hS.sub (by first | simp | ((repeat (first | exact List.nil_sublist _ | exact List.Sublist.refl _ | with_reducible apply List.Sublist.cons₂ | apply List.Sublist.cons)))))) | have hF := And.intro hS.facts (hR.at hS.ext) | have hF := hS.facts); simp only [HFacts, cellFacts, RFacts, cellOnly, and_true, true_and, Nat.zero_add, Nat.reduceAdd] at hF))) | fail)
  ((with_reducible refine wp_region_chain_hp [.q, .q, .q, .q, .q, .q, .q, .q, .q, .q, .q, .q, .q, .t] [] (by kernel_rfl) rfl (by kernel_rfl) hS (fun w h => h.sub (by simp)) ?_); clear hS; (repeat ((with_reducible refine Walk.here ?_); (first | ((with_reducible apply Walk.skipQ); (first | rfl | exact wanted_false rfl rfl rfl (by assumption)); (try simp only [Mark.isQ, if_true, Bool.false_eq_true, if_false, Act.put, List.setIfInBounds_toArray, List.set_cons_zero, List.set_cons_succ])) | ((with_reducible apply Walk.val); (first | rfl | exact wanted_true rfl rfl rfl (by assumption)); (rintro w hS; ((try clear hF); (first | have hF := And.intro hS.facts (HRD.out _ (hS.sub (by first | simp | ((repeat (first | exact List.nil_sublist _ | exact List.Sublist.refl _ | with_reducible apply List.Sublist.cons₂ | apply List.Sublist.cons)))))) | have hF := And.intro hS.facts (hR.at hS.ext) | have hF := hS.facts); simp only [HFacts, cellFacts, RFacts, cellOnly, and_true, true_and, Nat.zero_add, Nat.reduceAdd] at hF); go_simp; first | with_reducible rfl | (rw [if_neg (by first | omega | (simp only [ByteArray.size_append]; omega) | (simp [ByteArray.size_append]; omega))]; try with_reducible rfl)); (try simp only [Mark.isQ, if_true, Bool.false_eq_true, if_false, Act.put, List.setIfInBounds_toArray, List.set_cons_zero, List.set_cons_succ])) | ((with_reducible apply Walk.call); (first | rfl | exact wanted_true rfl rfl rfl (by assumption)); (rintro w hS; ((try clear hF); (first | have hF := And.intro hS.facts (HRD.out _ (hS.sub (by first | simp | ((repeat (first | exact List.nil_sublist _ | exact List.Sublist.refl _ | with_reducible apply List.Sublist.cons₂ | apply List.Sublist.cons)))))) | have hF := And.intro hS.facts (hR.at hS.ext) | have hF := hS.facts); simp only [HFacts, cellFacts, RFacts, cellOnly, and_true, true_and, Nat.zero_add, Nat.reduceAdd] at hF); go_simp; exact ⟨rfl, rfl⟩); (rintro w hS; first | (with_reducible exact HL.out w hS.ext) | (with_reducible exact HR.out w hS.ext)); (try simp only [Mark.isQ, if_true, Bool.false_eq_true, if_false, Act.put, List.setIfInBounds_toArray, List.set_cons_zero, List.set_cons_succ])) | ((with_reducible apply Walk.tail); (try simp only [Mark.isQ, if_true, Bool.false_eq_true, if_false, Act.put, List.setIfInBounds_toArray, List.set_cons_zero, List.set_cons_succ])) | ((with_reducible apply Walk.guardT); rfl; rfl; rfl; (all_goals intro hg)) | ((with_reducible apply Walk.guardF); rfl; rfl; rfl; (all_goals intro hg))))); refine Walk.done ?_; simp only [chainOf, Mark.isT, if_true, Bool.false_eq_true, if_false])
  (refine Chain.val (by (first | rfl | exact wanted_true rfl rfl rfl (by assumption))) (fun w h => h.sub (by simp)) (by rintro w hS; ((try clear hF); (first | have hF := And.intro hS.facts (HRD.out _ (hS.sub (by first | simp | ((repeat (first | exact List.nil_sublist _ | exact List.Sublist.refl _ | with_reducible apply List.Sublist.cons₂ | apply List.Sublist.cons)))))) | have hF := And.intro hS.facts (hR.at hS.ext) | have hF := hS.facts); simp only [HFacts, cellFacts, RFacts, cellOnly, and_true, true_and, Nat.zero_add, Nat.reduceAdd] at hF); go_simp; with_reducible rfl) ?_; try simp only [Act.put, List.setIfInBounds_toArray, List.set_cons_zero, List.set_cons_succ])
  (refine Chain.done ?_; (try clear hF); intro wk hS; ((try clear hF); (first | have hF := And.intro hS.facts (HRD.out _ (hS.sub (by first | simp | ((repeat (first | exact List.nil_sublist _ | exact List.Sublist.refl _ | with_reducible apply List.Sublist.cons₂ | apply List.Sublist.cons)))))) | have hF := And.intro hS.facts (hR.at hS.ext) | have hF := hS.facts); simp only [HFacts, cellFacts, RFacts, cellOnly, and_true, true_and, Nat.zero_add, Nat.reduceAdd] at hF))
  by_cases hle : 1 < least
  · have q1 : decide ((1 : Int) < (least : Int)) = true := by simp; omega
    have HD := Lib.hid (show D = ⟨#[40]⟩ ++ (sl ++ ⟨#[32, 97, 110, 100, 32]⟩ ++ sr) ++ ⟨#[41]⟩ by rw [hD]; unfold parS; rw [if_pos hle])
    clear hD hle
    go_wp2_with (first | ((with_reducible first | refine nhLa ?_ | refine nhLs ?_ | refine nhLd ?_ | refine nhCa ?_ | refine nhCs ?_ | refine nhCd ?_ | refine nhPa ?_ | refine nhPs ?_ | refine nhPd ?_ | refine nhKa ?_ | refine nhKs ?_ | refine nhKd ?_); ((try clear hF); clear hS; intro wk hS; (try simp only [List.set_cons_zero, List.set_cons_succ, heap_size, heap_set_size] at hS); ((try clear hF); (first | have hF := And.intro hS.facts (HRD.out _ (hS.sub (by first | simp | ((repeat (first | exact List.nil_sublist _ | exact List.Sublist.refl _ | with_reducible apply List.Sublist.cons₂ | apply List.Sublist.cons)))))) | have hF := And.intro hS.facts (hR.at hS.ext) | have hF := hS.facts); simp only [HFacts, cellFacts, RFacts, cellOnly, and_true, true_and, Nat.zero_add, Nat.reduceAdd] at hF))) | fail)
    go_ret
    exact WR_res _ _ HD.out hS.ext
  · have q1 : decide ((1 : Int) < (least : Int)) = false := by simp; omega
    have HD := Lib.hid (show D = sl ++ ⟨#[32, 97, 110, 100, 32]⟩ ++ sr by rw [hD]; unfold parS; rw [if_neg hle])
    clear hD hle
    go_wp2_with (first | ((with_reducible first | refine nhLa ?_ | refine nhLs ?_ | refine nhLd ?_ | refine nhCa ?_ | refine nhCs ?_ | refine nhCd ?_ | refine nhPa ?_ | refine nhPs ?_ | refine nhPd ?_ | refine nhKa ?_ | refine nhKs ?_ | refine nhKd ?_); ((try clear hF); clear hS; intro wk hS; (try simp only [List.set_cons_zero, List.set_cons_succ, heap_size, heap_set_size] at hS); ((try clear hF); (first | have hF := And.intro hS.facts (HRD.out _ (hS.sub (by first | simp | ((repeat (first | exact List.nil_sublist _ | exact List.Sublist.refl _ | with_reducible apply List.Sublist.cons₂ | apply List.Sublist.cons)))))) | have hF := And.intro hS.facts (hR.at hS.ext) | have hF := hS.facts); simp only [HFacts, cellFacts, RFacts, cellOnly, and_true, true_and, Nat.zero_add, Nat.reduceAdd] at hF))) | fail)
    go_ret
    exact WR_res _ _ HD.out hS.ext
end Go.Proofs.YtmfilblbofkmcaaDoor
