/- Texts joined: log.action: a file that goes, rows that are masked; all kinds. log.action: rows that are masked; all kinds. log.action: of any kind. log.Apply. millpondkeep.short: a commit is short. log.Fights: two commits fight. numbers in letters: strconv.Itoa; log.ints. The tables that a row of the log laws lists: what they tell of the world; a world that has them. what Apply leaves of a table: it stands, one version on. who does not fight may go first: the plain law. millpondkeep.sameSet: true of two tables that have the same. -/
import Derived.Test.YtcpnnffnkegamaaGreatDoorLY07
import Derived.Test.YtcpnnffnkegamaaGreatDoorLY08
import Derived.Test.YtcpnnffnkegamaaGreatDoorLY06
import Derived.Test.YtcpnnffnkegamaaGreatDoorLY01
import Derived.Test.YtcpnnffnkegamaaGreatDoorCards
import Derived.Test.YtcpnnffnkegamaaGreatDoorTie
import Derived.LaidMore
import Derived.LaidHandle
import Derived.Lay
import Derived.OpenShut
import Derived.Stop.Joined
import Derived.SevenTiedAt
import Derived.Lib.LaidTab
/- log.action: a file that goes, rows that are masked; all kinds. -/
namespace Go.Proofs.YtcpnnffnkegamaaGreatDoor
set_option linter.unusedSimpArgs false
set_option linter.unusedVariables false
open Go.RowKit
set_option linter.all false
theorem Hp.addrR {B : Nat} {w0 w : World} {L : List Item} {e : TypeId} {size n cap : Nat} {A : Option Addr} {xs : List Value} (h : Hp B w0 w L) (i : Nat) (hi : L[i]? = some (.row e size A n cap xs)) (hn : 0 < n) : ∃ g, A = some ⟨g, 0, none⟩ ∧ n ≤ cap ∧ cap ≤ 9223372036854775807 := by
  have ho : w.ownsRow B e size (.slice A n cap) n xs := h.own _ (List.mem_of_getElem? hi)
  rcases ho.2 with ⟨hv, h0⟩ | ⟨g, cp, cur, hv, _, _, h1, h2, _⟩
  · omega
  · obtain ⟨rfl, _, rfl⟩ : A = some ⟨g, 0, none⟩ ∧ n = n ∧ cap = cp := by simpa using hv
    exact ⟨g, rfl, h1, by unfold maxLen at h2; omega⟩
section
variable {B : Nat} {w0 w : World} {K J : List Item}
set_option maxRecDepth 100000 in
set_option maxHeartbeats 8000000 in
theorem act_remove (s : SN) (a : AN) (gs : Nat) (Ac Af Aq Ar : Option Addr) (nc cc nf cf nq cq nr cr : Nat) (evs : List EV) (hnf : evs.length = nf) (hnf2 : nf ≤ 1000) (HFS : Hid (FsOk B w0 J evs s.files)) (hAf : Af = none → cf = 0)
    (hnc : s.cols.length = nc) (hncc : nc ≤ cc) (HCO : Hid (∀ W, Hp B w0 W J → RC W Ac s.cols))
    (h2 : a.kind = 2) (hS : Hp B w0 w (snB gs s.ver Ac nc cc s.next Af nf cf :: eRow Af nf cf evs :: K)) :
    Calls Tryz.prog 23 #[.pointer (some ⟨gs, 0, none⟩), actV a Aq nq cq Ar nr cr] w fun e w' => e = .returned (.int .i64 (actE s a)) ∧ ActRes B w0 w' gs K J s a := by
  unfold snB eRow at hS
  have HIX := Lib.hid (fun (W : World) (g : Nat) (hr : RE W Af evs) h => aindex_any (cf := cf) s a hnf hnf2 HFS.out g hr h)
  have hrg := idxE_range (fun v => pathEq a.path v.path) evs 0
  rw [idxE_P, HFS.out.paths] at hrg
  have HE := Lib.hid (show actE s a = if idxP a.path 0 (s.files.map (·.path)) < 0 then 7 else 0 by unfold actE; rw [if_neg (by omega), if_neg (by omega), if_pos (.inl h2), if_pos h2])
  have HS1 := Lib.hid (show actS s a = { s with files := s.files.eraseIdx (idxP a.path 0 (s.files.map (·.path))).toNat } by unfold actS; rw [if_neg (by omega), if_neg (by omega), if_pos h2])
  obtain ⟨ix, hix⟩ : ∃ x, x = idxP a.path 0 (s.files.map (·.path)) := ⟨_, rfl⟩
  rw [← hix] at HIX HE HS1 hrg
  clear hix
  have b4 : (a.kind == 4) = false := by simp [h2]
  have b1 : (a.kind == 1) = false := by simp [h2]
  have b2 : (a.kind == 2) = true := by simp [h2]
  by_cases i0 : ix < 0
  · have HE1 := Lib.hid (show actE s a = 7 by rw [HE.out, if_pos i0])
    rw [HE1.out]
    clear HE
    ((try clear hF); (first | have hF := And.intro hS.facts (HRD.out _ (hS.sub (by first | simp | ((repeat (first | exact List.nil_sublist _ | exact List.Sublist.refl _ | with_reducible apply List.Sublist.cons₂ | apply List.Sublist.cons)))))) | have hF := And.intro hS.facts (hR.at hS.ext) | have hF := hS.facts); simp only [HFacts, cellFacts, RFacts, cellOnly, and_true, true_and, Nat.zero_add, Nat.reduceAdd] at hF)
    go_enter Tryz.func23, Tryz.ntmps23
    go_wp2_with (first | ((with_reducible first | refine nhLa ?_ | refine nhLs ?_ | refine nhLd ?_ | refine nhCa ?_ | refine nhCs ?_ | refine nhCd ?_ | refine nhPa ?_ | refine nhPs ?_ | refine nhPd ?_ | refine nhKa ?_ | refine nhKs ?_ | refine nhKd ?_); ((try clear hF); clear hS; intro wk hS; (try simp only [List.set_cons_zero, List.set_cons_succ, heap_size, heap_set_size] at hS); ((try clear hF); (first | have hF := And.intro hS.facts (HRD.out _ (hS.sub (by first | simp | ((repeat (first | exact List.nil_sublist _ | exact List.Sublist.refl _ | with_reducible apply List.Sublist.cons₂ | apply List.Sublist.cons)))))) | have hF := And.intro hS.facts (hR.at hS.ext) | have hF := hS.facts); simp only [HFacts, cellFacts, RFacts, cellOnly, and_true, true_and, Nat.zero_add, Nat.reduceAdd] at hF))) | (go_at_call 39; (with_reducible refine (HIX.out _ _ (hS.re 2 rfl) hF.1.2.1.1).mono ?_); rintro e wk ⟨rfl, hX⟩; replace hS := hS.step hX; clear hX; ((try clear hF); (first | have hF := And.intro hS.facts (HRD.out _ (hS.sub (by first | simp | ((repeat (first | exact List.nil_sublist _ | exact List.Sublist.refl _ | with_reducible apply List.Sublist.cons₂ | apply List.Sublist.cons)))))) | have hF := And.intro hS.facts (hR.at hS.ext) | have hF := hS.facts); simp only [HFacts, cellFacts, RFacts, cellOnly, and_true, true_and, Nat.zero_add, Nat.reduceAdd] at hF)))
    go_ret
    exact ⟨rfl, ActRes.bad HE1.out (by decide) (hS.sub (by first | simp | ((try simp only [List.eraseIdx_cons_zero, List.eraseIdx_cons_succ]); (repeat (first | exact List.nil_sublist _ | exact List.Sublist.refl _ | with_reducible apply List.Sublist.cons₂ | apply List.Sublist.cons)))))⟩
  · have HE1 := Lib.hid (show actE s a = 0 by rw [HE.out, if_neg i0])
    rw [HE1.out]
    obtain ⟨k, rfl⟩ := Int.eq_ofNat_of_zero_le (show 0 ≤ ix by omega)
    have hkn : k < nf := by omega
    obtain ⟨g, rfl, hc1, hc2⟩ := hS.addrR 1 rfl (by omega)
    have HDL := Lib.hid (fun (W : World) (L : List Item) (hW : Hp B w0 W (.row 43 3 (some ⟨g, 0, none⟩) nf cf (cellsE evs) :: L)) => edelete_any evs g nf cf k hnf hkn hc1 hc2 hW)
    have fin : ∀ (W : World), Hp B w0 W (.blk gs [.int .i64 s.ver, .slice Ac nc cc, .int .i64 s.next, .slice (some ⟨g, 0, none⟩) (nf - 1 : Nat) cf] 27 :: .row 43 3 (some ⟨g, 0, none⟩) (nf - 1) cf (cellsE (evs.eraseIdx k)) :: K) → ActRes B w0 W gs K J s a := fun W hW => ActRes.good HE1.out (by
      rw [HS1.out, Int.toNat_natCast]
      exact ⟨Ac, nc, cc, some ⟨g, 0, none⟩, nf - 1, cf, evs.eraseIdx k, [], hW, HFS.out.erase k, hnc, hncc, by rw [List.length_eraseIdx, if_pos (by omega), hnf], (by intro h; cases h), HCO.out⟩)
    have FIN := Lib.hid fin
    clear fin HE hrg i0
    have e1 : IntKind.i64.wrap ((k : Int) + 1) = (k : Int) + 1 := IntWalk.i64_in _ (by omega)
    have i0 : ¬ ((k : Int) < 0) := by omega
    ((try clear hF); (first | have hF := And.intro hS.facts (HRD.out _ (hS.sub (by first | simp | ((repeat (first | exact List.nil_sublist _ | exact List.Sublist.refl _ | with_reducible apply List.Sublist.cons₂ | apply List.Sublist.cons)))))) | have hF := And.intro hS.facts (hR.at hS.ext) | have hF := hS.facts); simp only [HFacts, cellFacts, RFacts, cellOnly, and_true, true_and, Nat.zero_add, Nat.reduceAdd] at hF)
    go_enter Tryz.func23, Tryz.ntmps23
    go_wp2_with (first | ((with_reducible first | refine nhLa ?_ | refine nhLs ?_ | refine nhLd ?_ | refine nhCa ?_ | refine nhCs ?_ | refine nhCd ?_ | refine nhPa ?_ | refine nhPs ?_ | refine nhPd ?_ | refine nhKa ?_ | refine nhKs ?_ | refine nhKd ?_); ((try clear hF); clear hS; intro wk hS; (try simp only [List.set_cons_zero, List.set_cons_succ, heap_size, heap_set_size] at hS); ((try clear hF); (first | have hF := And.intro hS.facts (HRD.out _ (hS.sub (by first | simp | ((repeat (first | exact List.nil_sublist _ | exact List.Sublist.refl _ | with_reducible apply List.Sublist.cons₂ | apply List.Sublist.cons)))))) | have hF := And.intro hS.facts (hR.at hS.ext) | have hF := hS.facts); simp only [HFacts, cellFacts, RFacts, cellOnly, and_true, true_and, Nat.zero_add, Nat.reduceAdd] at hF))) | (go_at_call 39; (with_reducible refine (HIX.out _ _ (hS.re 2 rfl) hF.1.2.1.1).mono ?_); rintro e wk ⟨rfl, hX⟩; replace hS := hS.step hX; clear hX; ((try clear hF); (first | have hF := And.intro hS.facts (HRD.out _ (hS.sub (by first | simp | ((repeat (first | exact List.nil_sublist _ | exact List.Sublist.refl _ | with_reducible apply List.Sublist.cons₂ | apply List.Sublist.cons)))))) | have hF := And.intro hS.facts (hR.at hS.ext) | have hF := hS.facts); simp only [HFacts, cellFacts, RFacts, cellOnly, and_true, true_and, Nat.zero_add, Nat.reduceAdd] at hF)) | (go_at_call 42; (with_reducible refine Calls.mono (HDL.out _ _ (hS.front 2 rfl)) ?_); clear hS; rintro e wk ⟨rfl, hS⟩; (try simp only [List.eraseIdx_cons_zero, List.eraseIdx_cons_succ, List.set_cons_zero, List.set_cons_succ] at hS); ((try clear hF); (first | have hF := And.intro hS.facts (HRD.out _ (hS.sub (by first | simp | ((repeat (first | exact List.nil_sublist _ | exact List.Sublist.refl _ | with_reducible apply List.Sublist.cons₂ | apply List.Sublist.cons)))))) | have hF := And.intro hS.facts (hR.at hS.ext) | have hF := hS.facts); simp only [HFacts, cellFacts, RFacts, cellOnly, and_true, true_and, Nat.zero_add, Nat.reduceAdd] at hF)))
    go_ret
    exact ⟨rfl, FIN.out _ (((hS.drop 1).front 1 rfl))⟩
end
end Go.Proofs.YtcpnnffnkegamaaGreatDoor

/- log.action: rows that are masked; all kinds. -/
namespace Go.Proofs.YtcpnnffnkegamaaGreatDoor
set_option linter.unusedSimpArgs false
set_option linter.unusedVariables false
open Go.RowKit
set_option linter.all false
section
variable {B : Nat} {w0 w : World} {K J : List Item}
theorem Hp.ri {B : Nat} {w0 w : World} {L : List Item} {A : Option Addr} {cap n : Nat} {l : List Int} (h : Hp B w0 w L) (i : Nat) (hi : L[i]? = some (.row 3 1 A n cap (intsV l))) : RI w A l := fun j x hj => by
  obtain ⟨g, hg, c0, _⟩ := h.rowCell (j := j) (u := .int .i64 x) i hi (by rw [intsV_get, hj]; rfl)
  exact ⟨g, 0, hg, by rw [Nat.zero_add]; exact c0⟩
theorem FsOk.at {B : Nat} {w0 : World} {K : List Item} {evs : List EV} {ens : List EN} (h : FsOk B w0 K evs ens) {k : Nat} (hk : k < evs.length) : ∃ v e, evs[k]? = some v ∧ ens[k]? = some e ∧ EvOk B w0 K v e := by
  have h2 : k < ens.length := by rw [← h.len]; exact hk
  exact ⟨_, _, List.getElem?_eq_getElem hk, List.getElem?_eq_getElem h2, h.one k _ _ (List.getElem?_eq_getElem hk) (List.getElem?_eq_getElem h2)⟩
set_option maxRecDepth 100000 in
set_option maxHeartbeats 8000000 in
theorem act_mask (s : SN) (a : AN) (gs : Nat) (Ac Af Aq Ar : Option Addr) (nc cc nf cf nq cq nr cr : Nat) (evs : List EV) (hnf : evs.length = nf) (hnf2 : nf ≤ 1000) (HFS : Hid (FsOk B w0 J evs s.files)) (hAf : Af = none → cf = 0)
    (hnc : s.cols.length = nc) (hncc : nc ≤ cc) (HCO : Hid (∀ W, Hp B w0 W J → RC W Ac s.cols))
    (hq : a.mask.length = nq) (hq2 : nq ≤ 100) (hAq : Aq = none → cq = 0) (HQ : Hid (∀ W, Hp B w0 W K → RI W Aq a.mask)) (HJ : Hid (∀ W, Hp B w0 W K → Hp B w0 W J)) (hms : ∀ e ∈ s.files, e.mask.length ≤ 100)
    (h3 : a.kind = 3) (hS : Hp B w0 w (snB gs s.ver Ac nc cc s.next Af nf cf :: eRow Af nf cf evs :: K)) :
    Calls Tryz.prog 23 #[.pointer (some ⟨gs, 0, none⟩), actV a Aq nq cq Ar nr cr] w fun e w' => e = .returned (.int .i64 (actE s a)) ∧ ActRes B w0 w' gs K J s a := by
  unfold snB eRow at hS
  have HIX := Lib.hid (fun (W : World) (g : Nat) (hr : RE W Af evs) h => aindex_any (cf := cf) s a hnf hnf2 HFS.out g hr h)
  have hrg := idxE_range (fun v => pathEq a.path v.path) evs 0
  rw [idxE_P, HFS.out.paths] at hrg
  have HE := Lib.hid (show actE s a = if idxP a.path 0 (s.files.map (·.path)) < 0 then 7 else match s.files[(idxP a.path 0 (s.files.map (·.path))).toNat]? with | some e => masksE e.rows e.mask a.mask | none => 1 by unfold actE; rw [if_neg (by omega), if_neg (by omega), if_pos (.inr h3), if_neg (by omega : ¬ a.kind = 2)]; rfl)
  have HS1 := Lib.hid (show actS s a = match s.files[(idxP a.path 0 (s.files.map (·.path))).toNat]? with | some e => { s with files := s.files.set (idxP a.path 0 (s.files.map (·.path))).toNat ⟨e.path, e.rows, sortI (e.mask ++ a.mask)⟩ } | none => s by unfold actS; rw [if_neg (by omega), if_neg (by omega), if_neg (by omega)]; rfl)
  obtain ⟨ix, hix⟩ : ∃ x, x = idxP a.path 0 (s.files.map (·.path)) := ⟨_, rfl⟩
  rw [← hix] at HIX HE HS1 hrg
  clear hix
  have b4 : (a.kind == 4) = false := by simp [h3]
  have b1 : (a.kind == 1) = false := by simp [h3]
  have b2 : (a.kind == 2) = false := by simp [h3]
  have b3 : (a.kind == 3) = true := by simp [h3]
  by_cases i0 : ix < 0
  · have HE1 := Lib.hid (show actE s a = 7 by rw [HE.out, if_pos i0])
    rw [HE1.out]
    clear HE hms
    ((try clear hF); (first | have hF := And.intro hS.facts (HRD.out _ (hS.sub (by first | simp | ((repeat (first | exact List.nil_sublist _ | exact List.Sublist.refl _ | with_reducible apply List.Sublist.cons₂ | apply List.Sublist.cons)))))) | have hF := And.intro hS.facts (hR.at hS.ext) | have hF := hS.facts); simp only [HFacts, cellFacts, RFacts, cellOnly, and_true, true_and, Nat.zero_add, Nat.reduceAdd] at hF)
    go_enter Tryz.func23, Tryz.ntmps23
    go_wp2_with (first | ((with_reducible first | refine nhLa ?_ | refine nhLs ?_ | refine nhLd ?_ | refine nhCa ?_ | refine nhCs ?_ | refine nhCd ?_ | refine nhPa ?_ | refine nhPs ?_ | refine nhPd ?_ | refine nhKa ?_ | refine nhKs ?_ | refine nhKd ?_); ((try clear hF); clear hS; intro wk hS; (try simp only [List.set_cons_zero, List.set_cons_succ, heap_size, heap_set_size] at hS); ((try clear hF); (first | have hF := And.intro hS.facts (HRD.out _ (hS.sub (by first | simp | ((repeat (first | exact List.nil_sublist _ | exact List.Sublist.refl _ | with_reducible apply List.Sublist.cons₂ | apply List.Sublist.cons)))))) | have hF := And.intro hS.facts (hR.at hS.ext) | have hF := hS.facts); simp only [HFacts, cellFacts, RFacts, cellOnly, and_true, true_and, Nat.zero_add, Nat.reduceAdd] at hF))) | (go_at_call 39; (with_reducible refine (HIX.out _ _ (hS.re 2 rfl) hF.1.2.1.1).mono ?_); rintro e wk ⟨rfl, hX⟩; replace hS := hS.step hX; clear hX; ((try clear hF); (first | have hF := And.intro hS.facts (HRD.out _ (hS.sub (by first | simp | ((repeat (first | exact List.nil_sublist _ | exact List.Sublist.refl _ | with_reducible apply List.Sublist.cons₂ | apply List.Sublist.cons)))))) | have hF := And.intro hS.facts (hR.at hS.ext) | have hF := hS.facts); simp only [HFacts, cellFacts, RFacts, cellOnly, and_true, true_and, Nat.zero_add, Nat.reduceAdd] at hF)))
    go_ret
    exact ⟨rfl, ActRes.bad HE1.out (by decide) (hS.sub (by first | simp | ((try simp only [List.eraseIdx_cons_zero, List.eraseIdx_cons_succ]); (repeat (first | exact List.nil_sublist _ | exact List.Sublist.refl _ | with_reducible apply List.Sublist.cons₂ | apply List.Sublist.cons)))))⟩
  · obtain ⟨k, rfl⟩ := Int.eq_ofNat_of_zero_le (show 0 ≤ ix by omega)
    have hkn : k < nf := by omega
    obtain ⟨g, rfl, hc1, hc2⟩ := hS.addrR 1 rfl (by omega)
    obtain ⟨v, e, hv, he, hve⟩ := HFS.out.at (k := k) (by omega)
    have HE2 := Lib.hid (show actE s a = masksE e.rows e.mask a.mask by rw [HE.out, if_neg i0, Int.toNat_natCast, he])
    have HS2 := Lib.hid (show actS s a = { s with files := s.files.set k ⟨e.path, e.rows, sortI (e.mask ++ a.mask)⟩ } by rw [HS1.out, Int.toNat_natCast, he])
    clear HE HS1
    have hem := hms e (List.mem_of_getElem? he)
    have HMA := Lib.hid (fun (W : World) (hW : Hp B w0 W (.blk gs [.int .i64 s.ver, .slice Ac nc cc, .int .i64 s.next, .slice (some ⟨g, 0, none⟩) nf cf] 27 :: .row 43 3 (some ⟨g, 0, none⟩) nf cf (cellsE evs) :: K)) =>
      (show Calls Tryz.prog 43 #[.pointer (some ⟨gs, 0, none⟩), .int .i64 k, .slice Aq nq cq] W fun e w' => e = .returned (.int .i64 (actE s a)) ∧ ActRes B w0 w' gs K J s a from
        (masks_any gs g k s.ver s.next Ac Aq nc cc nf cf nq cq evs v e.mask a.mask hnf hv hq hq2 hve.len (by rw [← hve.len]; exact hem) hve.nil hAq (Lib.hid fun W h => hve.mask W (HJ.out W h)) HQ (by unfold snB eRow; exact hW)).mono fun x W' ⟨hx, hp⟩ => by
          rw [hve.rows] at hx hp
          rw [← HE2.out] at hx hp
          refine ⟨hx, ?_⟩
          by_cases hz : actE s a = 0
          · rw [if_pos hz] at hp
            obtain ⟨Am, cm, hm, hH⟩ := hp
            refine ActRes.good hz ?_
            rw [HS2.out]
            refine ⟨Ac, nc, cc, some ⟨g, 0, none⟩, nf, cf, _, [_], hH, ((HFS.out.more fun W' h => h.tail).set k ⟨hve.path, rfl, ?_, hm, fun W' h => h.ri 0 rfl⟩), hnc, hncc, by rw [List.length_set]; exact hnf, (by intro h; cases h), fun W' h => HCO.out W' h.tail⟩
            show (sortI (e.mask ++ a.mask)).length = v.mn + nq
            rw [sortI_len, List.length_append, hve.len, hq]
          · rw [if_neg hz] at hp
            exact ActRes.bad rfl hz hp.tail.tail))
    clear HE2 HS2 hms hem hve hrg hv he
    have i0 : ¬ ((k : Int) < 0) := by omega
    ((try clear hF); (first | have hF := And.intro hS.facts (HRD.out _ (hS.sub (by first | simp | ((repeat (first | exact List.nil_sublist _ | exact List.Sublist.refl _ | with_reducible apply List.Sublist.cons₂ | apply List.Sublist.cons)))))) | have hF := And.intro hS.facts (hR.at hS.ext) | have hF := hS.facts); simp only [HFacts, cellFacts, RFacts, cellOnly, and_true, true_and, Nat.zero_add, Nat.reduceAdd] at hF)
    go_enter Tryz.func23, Tryz.ntmps23
    go_wp2_with (first | ((with_reducible first | refine nhLa ?_ | refine nhLs ?_ | refine nhLd ?_ | refine nhCa ?_ | refine nhCs ?_ | refine nhCd ?_ | refine nhPa ?_ | refine nhPs ?_ | refine nhPd ?_ | refine nhKa ?_ | refine nhKs ?_ | refine nhKd ?_); ((try clear hF); clear hS; intro wk hS; (try simp only [List.set_cons_zero, List.set_cons_succ, heap_size, heap_set_size] at hS); ((try clear hF); (first | have hF := And.intro hS.facts (HRD.out _ (hS.sub (by first | simp | ((repeat (first | exact List.nil_sublist _ | exact List.Sublist.refl _ | with_reducible apply List.Sublist.cons₂ | apply List.Sublist.cons)))))) | have hF := And.intro hS.facts (hR.at hS.ext) | have hF := hS.facts); simp only [HFacts, cellFacts, RFacts, cellOnly, and_true, true_and, Nat.zero_add, Nat.reduceAdd] at hF))) | (go_at_call 39; (with_reducible refine (HIX.out _ _ (hS.re 2 rfl) hF.1.2.1.1).mono ?_); rintro e wk ⟨rfl, hX⟩; replace hS := hS.step hX; clear hX; ((try clear hF); (first | have hF := And.intro hS.facts (HRD.out _ (hS.sub (by first | simp | ((repeat (first | exact List.nil_sublist _ | exact List.Sublist.refl _ | with_reducible apply List.Sublist.cons₂ | apply List.Sublist.cons)))))) | have hF := And.intro hS.facts (hR.at hS.ext) | have hF := hS.facts); simp only [HFacts, cellFacts, RFacts, cellOnly, and_true, true_and, Nat.zero_add, Nat.reduceAdd] at hF)) | (go_at_call 43; (with_reducible refine Calls.mono (HMA.out _ hS.tail) ?_); rintro e wk ⟨rfl, hW⟩))
    go_ret
    exact ⟨rfl, hW⟩
end
end Go.Proofs.YtcpnnffnkegamaaGreatDoor

/- log.action: of any kind. -/
namespace Go.Proofs.YtcpnnffnkegamaaGreatDoor
set_option linter.unusedSimpArgs false
set_option linter.unusedVariables false
open Go.RowKit
set_option linter.all false
/-- where an action's parts lie -/
structure AV where
  qa : Option Addr
  qn : Nat
  qc : Nat
  ra : Option Addr
  rn : Nat
  rc : Nat
structure AcOk (B : Nat) (w0 : World) (K : List Item) (a : AN) (v : AV) : Prop where
  q : a.mask.length = v.qn
  q2 : v.qn ≤ 100
  qz : v.qa = none → v.qc = 0
  qm : ∀ W, Hp B w0 W K → RI W v.qa a.mask
  r : a.cols.length = v.rn
  r2 : v.rn ≤ 1000
  r3 : v.rn ≤ v.rc
  rr : ∀ W, Hp B w0 W K → RC W v.ra a.cols
theorem AcOk.more {B : Nat} {w0 : World} {K K' : List Item} {a : AN} {v : AV} (h : AcOk B w0 K a v) (hK : ∀ W, Hp B w0 W K' → Hp B w0 W K) : AcOk B w0 K' a v := ⟨h.q, h.q2, h.qz, fun W hW => h.qm W (hK W hW), h.r, h.r2, h.r3, fun W hW => h.rr W (hK W hW)⟩
abbrev acV (a : AN) (v : AV) : Value := actV a v.qa v.qn v.qc v.ra v.rn v.rc
section
variable {B : Nat} {w0 w : World} {K J : List Item}
theorem action_any (s : SN) (a : AN) (v : AV) (gs : Nat) (Ac Af : Option Addr) (nc cc nf cf : Nat) (evs : List EV) (hnf : evs.length = nf) (hnf2 : nf ≤ 1000) (HFS : FsOk B w0 J evs s.files) (hAf : Af = none → cf = 0)
    (hnc : s.cols.length = nc) (hncc : nc ≤ cc) (HCO : ∀ W, Hp B w0 W J → RC W Ac s.cols) (HKP : ∀ W, Hp B w0 W K → KeptAt W) (HJ : ∀ W, Hp B w0 W K → Hp B w0 W J)
    (hv : AcOk B w0 K a v) (hms : ∀ e ∈ s.files, e.mask.length ≤ 100)
    (hS : Hp B w0 w (snB gs s.ver Ac nc cc s.next Af nf cf :: eRow Af nf cf evs :: K)) :
    Calls Tryz.prog 23 #[.pointer (some ⟨gs, 0, none⟩), acV a v] w fun e w' => e = .returned (.int .i64 (actE s a)) ∧ ActRes B w0 w' gs K J s a := by
  by_cases h4 : a.kind = 4
  · exact act_schema s a gs Ac Af v.qa v.ra nc cc nf cf v.qn v.qc v.rn v.rc evs hnf hnf2 (Lib.hid HFS) hAf hv.r hv.r2 hv.r3 (Lib.hid hv.rr) (Lib.hid HKP) h4 hS
  by_cases h1 : a.kind = 1
  · exact act_add s a gs Ac Af v.qa v.ra nc cc nf cf v.qn v.qc v.rn v.rc evs hnf hnf2 (Lib.hid HFS) hAf hnc hncc (Lib.hid HCO) h1 hS
  by_cases h2 : a.kind = 2
  · exact act_remove s a gs Ac Af v.qa v.ra nc cc nf cf v.qn v.qc v.rn v.rc evs hnf hnf2 (Lib.hid HFS) hAf hnc hncc (Lib.hid HCO) h2 hS
  by_cases h3 : a.kind = 3
  · exact act_mask s a gs Ac Af v.qa v.ra nc cc nf cf v.qn v.qc v.rn v.rc evs hnf hnf2 (Lib.hid HFS) hAf hnc hncc (Lib.hid HCO) hv.q hv.q2 hv.qz (Lib.hid hv.qm) (Lib.hid HJ) hms h3 hS
  exact act_other s a gs Ac Af v.qa v.ra nc cc nf cf v.qn v.qc v.rn v.rc evs hnf hnf2 (Lib.hid HFS) h4 h1 h2 h3 hS
end
end Go.Proofs.YtcpnnffnkegamaaGreatDoor

/- log.Apply. -/
namespace Go.Proofs.YtcpnnffnkegamaaGreatDoor
set_option linter.unusedSimpArgs false
set_option linter.unusedVariables false
open Go.RowKit
set_option linter.all false
/-- where a table's parts lie -/
structure SV where
  ca : Option Addr
  cn : Nat
  cc : Nat
  fa : Option Addr
  fn : Nat
  fc : Nat
  evs : List EV
structure SnK (B : Nat) (w0 : World) (K : List Item) (s : SN) (v : SV) : Prop where
  fs : FsOk B w0 K v.evs s.files
  fl : v.evs.length = v.fn
  fz : v.fa = none → v.fc = 0
  cl : s.cols.length = v.cn
  cg : v.cn ≤ v.cc
  cr : ∀ W, Hp B w0 W K → RC W v.ca s.cols
theorem SnK.more {B : Nat} {w0 : World} {K K' : List Item} {s : SN} {v : SV} (h : SnK B w0 K s v) (hK : ∀ W, Hp B w0 W K' → Hp B w0 W K) : SnK B w0 K' s v := ⟨h.fs.more hK, h.fl, h.fz, h.cl, h.cg, fun W hW => h.cr W (hK W hW)⟩
structure SnOk (B : Nat) (w0 : World) (K : List Item) (s : SN) (v : SV) : Prop where
  k : SnK B w0 K s v
  fr : ∀ W, Hp B w0 W K → RE W v.fa v.evs
theorem SnOk.more {B : Nat} {w0 : World} {K K' : List Item} {s : SN} {v : SV} (h : SnOk B w0 K s v) (hK : ∀ W, Hp B w0 W K' → Hp B w0 W K) : SnOk B w0 K' s v := ⟨h.k.more hK, fun W hW => h.fr W (hK W hW)⟩
theorem Good.fn {B : Nat} {w0 : World} {K : List Item} {s : SN} {v : SV} (hg : Good s) (h : SnK B w0 K s v) : v.fn ≤ 40 := by
  have := h.fl; have := h.fs.len; have := hg.few; omega
abbrev snV (s : SN) (v : SV) : Value := .agg #[.int .i64 s.ver, .slice v.ca v.cn v.cc, .int .i64 s.next, .slice v.fa v.fn v.fc]
abbrev coV (tx : ByteArray) (rd : Bool) (A : Option Addr) (n cap : Nat) : Value := .agg #[.string tx, .bool rd, .slice A n cap]
/-- the actions that lie at A -/
def RA (w : World) (A : Option Addr) (l : List (AN × AV)) : Prop := ∀ (k : Nat) (a : AN) (v : AV), l[k]? = some (a, v) → ∃ b o : Nat, A = some ⟨b, o, none⟩ ∧ w.cell? ⟨b, o + k * 6, none⟩ = some (.int .i64 a.kind) ∧ w.cell? ⟨b, o + k * 6 + 1, none⟩ = some (.string a.path) ∧ w.cell? ⟨b, o + k * 6 + 2, none⟩ = some (.int .i64 a.rows) ∧
  w.cell? ⟨b, o + k * 6 + 3, none⟩ = some (.slice v.qa v.qn v.qc) ∧ w.cell? ⟨b, o + k * 6 + 4, none⟩ = some (.slice v.ra v.rn v.rc) ∧ w.cell? ⟨b, o + k * 6 + 5, none⟩ = some (.int .i64 a.next)
/-- a commit's actions, one by one; or where it stops -/
def runA : Nat → SN → List AN → Except (Int × Nat) SN
  | _, s, [] => .ok s
  | k, s, a :: l => if actE s a = 0 then runA (k + 1) (actS s a) l else .error (actE s a, k)
def applyR (s : SN) (tx : ByteArray) (l : List AN) : Except (Int × Option Nat) SN :=
  if nameB tx = true then (match runA 0 { s with ver := s.ver + 1 } l with | .ok s' => .ok s' | .error (e, k) => .error (e, some k)) else .error (1, none)
theorem runA_cons {k : Nat} {s : SN} {a : AN} {l : List AN} : runA k s (a :: l) = if actE s a = 0 then runA (k + 1) (actS s a) l else .error (actE s a, k) := rfl
/-- what Apply answers -/
def ApRes (B : Nat) (w0 : World) (K J : List Item) (D : Except (Int × Option Nat) SN) (e : Ending) (w' : World) : Prop :=
  match D with
  | .error (n, none) => e = .returned (.tuple #[.agg #[.int .i64 0, .slice none 0 0, .int .i64 0, .slice none 0 0], .iface 66 (.int .i64 n)]) ∧ Hp B w0 w' K
  | .error (n, some k) => ∃ g, e = .returned (.tuple #[.agg #[.int .i64 0, .slice none 0 0, .int .i64 0, .slice none 0 0], .iface 70 (.pointer (some ⟨g, 0, none⟩))]) ∧ Hp B w0 w' (.blk g [.int .i64 n, .int .i64 k] 72 :: K)
  | .ok s => ∃ v M, e = .returned (.tuple #[snV s v, .nilIface]) ∧ Hp B w0 w' (M ++ K) ∧ SnOk B w0 (M ++ J) s v
section
variable {B : Nat} {w0 w : World} {K J : List Item}
theorem ApRes.atE {n : Int} {k g : Nat} (h : Hp B w0 w (.blk g [.int .i64 n, .int .i64 k] 72 :: K)) : ApRes B w0 K J (.error (n, some k)) (.returned (.tuple #[.agg #[.int .i64 0, .slice none 0 0, .int .i64 0, .slice none 0 0], .iface 70 (.pointer (some ⟨g, 0, none⟩))])) w := ⟨g, rfl, h⟩
theorem ApRes.good {s : SN} {v : SV} {M : List Item} (h : Hp B w0 w (M ++ K)) (hs : SnOk B w0 (M ++ J) s v) : ApRes B w0 K J (.ok s) (.returned (.tuple #[snV s v, .nilIface])) w := ⟨v, M, rfl, h, hs⟩
set_option maxRecDepth 100000 in
set_option maxHeartbeats 8000000 in
theorem apply_any (s : SN) (v : SV) (tx : ByteArray) (rd : Bool) (A : Option Addr) (n cap : Nat) (l : List (AN × AV)) (hn : l.length = n) (hn2 : n ≤ 1000) (hJ : J.Sublist K) (HSN : Hid (SnOk B w0 J s v)) (hg : Good s) (hv : s.ver < 1000000000) (hv0 : 0 ≤ s.ver)
    (HRA : Hid (∀ W, Hp B w0 W J → RA W A l)) (HAV : Hid (∀ a v, (a, v) ∈ l → AcOk B w0 J a v)) (HKP : Hid (∀ W, Hp B w0 W J → KeptAt W)) (hS : Hp B w0 w K) :
    Calls Tryz.prog 9 #[snV s v, coV tx rd A n cap] w fun e w' => ApRes B w0 K J (applyR s tx (l.map (·.1))) e w' := by
  have HN := Lib.hid (fun W => name_any tx W)
  obtain ⟨D, hD⟩ : ∃ D, D = applyR s tx (l.map (·.1)) := ⟨_, rfl⟩
  rw [← hD]
  have HD := Lib.hid hD
  clear hD
  unfold applyR at HD
  obtain ⟨nb, hnb⟩ : ∃ b, b = nameB tx := ⟨_, rfl⟩
  rw [← hnb] at HN HD
  clear hnb
  have hR := Reads.nil w
  cases nb with
  | false =>
    have HD1 := Lib.hid (show D = .error (1, none) by rw [HD.out]; rfl)
    rw [HD1.out]
    clear HD HD1
    have hF : True := trivial
    go_enter Tryz.func9, Tryz.ntmps9
    go_wp2_with (first | ((with_reducible first | refine nhLa ?_ | refine nhLs ?_ | refine nhLd ?_ | refine nhCa ?_ | refine nhCs ?_ | refine nhCd ?_ | refine nhPa ?_ | refine nhPs ?_ | refine nhPd ?_ | refine nhKa ?_ | refine nhKs ?_ | refine nhKd ?_); ((try clear hF); clear hS; intro wk hS; (try simp only [List.set_cons_zero, List.set_cons_succ, heap_size, heap_set_size] at hS); ((try clear hF); (first | have hF := And.intro hS.facts (HRD.out _ (hS.sub (by first | simp | ((repeat (first | exact List.nil_sublist _ | exact List.Sublist.refl _ | with_reducible apply List.Sublist.cons₂ | apply List.Sublist.cons)))))) | have hF := And.intro hS.facts (hR.at hS.ext) | have hF := hS.facts); simp only [HFacts, cellFacts, RFacts, cellOnly, and_true, true_and, Nat.zero_add, Nat.reduceAdd] at hF))) | (go_at_call 21; (with_reducible refine (HN.out _).mono ?_); rintro e wk ⟨rfl, hX⟩; replace hS := hS.step hX; clear hX; ((try clear hF); (first | have hF := And.intro hS.facts (HRD.out _ (hS.sub (by first | simp | ((repeat (first | exact List.nil_sublist _ | exact List.Sublist.refl _ | with_reducible apply List.Sublist.cons₂ | apply List.Sublist.cons)))))) | have hF := And.intro hS.facts (hR.at hS.ext) | have hF := hS.facts); simp only [HFacts, cellFacts, RFacts, cellOnly, and_true, true_and, Nat.zero_add, Nat.reduceAdd] at hF)))
    exact ⟨rfl, .tuple #[.agg #[.int .i64 0, .slice none 0 0, .int .i64 0, .slice none 0 0], .iface 66 (.int .i64 1)], by simp [results, Tryz.results9, go_sem, hF], by unfold ApRes; exact ⟨rfl, hS.sub (by first | simp | ((repeat (first | exact List.nil_sublist _ | exact List.Sublist.refl _ | with_reducible apply List.Sublist.cons₂ | apply List.Sublist.cons))))⟩⟩
  | true =>
    have HD1 := Lib.hid (show D = (match runA 0 { s with ver := s.ver + 1 } (l.map (·.1)) with | .ok s' => .ok s' | .error (e, k) => .error (e, some k)) by rw [HD.out]; rfl)
    have e1 : IntKind.i64.wrap (s.ver + 1) = s.ver + 1 := IntWalk.i64_in _ (by omega)
    have HCL := Lib.hid (fun W (h : Hp B w0 W K) => eclone_any v.evs v.fa v.fn v.fc W HSN.out.k.fl (HSN.out.fr W (h.sub hJ)) HSN.out.k.fz (by have := hg.fn HSN.out.k; omega))
    clear HD
    have hF : True := trivial
    go_enter Tryz.func9, Tryz.ntmps9
    go_wp2_with (first | ((with_reducible first | refine nhLa ?_ | refine nhLs ?_ | refine nhLd ?_ | refine nhCa ?_ | refine nhCs ?_ | refine nhCd ?_ | refine nhPa ?_ | refine nhPs ?_ | refine nhPd ?_ | refine nhKa ?_ | refine nhKs ?_ | refine nhKd ?_); ((try clear hF); clear hS; intro wk hS; (try simp only [List.set_cons_zero, List.set_cons_succ, heap_size, heap_set_size] at hS); ((try clear hF); (first | have hF := And.intro hS.facts (HRD.out _ (hS.sub (by first | simp | ((repeat (first | exact List.nil_sublist _ | exact List.Sublist.refl _ | with_reducible apply List.Sublist.cons₂ | apply List.Sublist.cons)))))) | have hF := And.intro hS.facts (hR.at hS.ext) | have hF := hS.facts); simp only [HFacts, cellFacts, RFacts, cellOnly, and_true, true_and, Nat.zero_add, Nat.reduceAdd] at hF))) | (go_at_call 21; (with_reducible refine (HN.out _).mono ?_); rintro e wk ⟨rfl, hX⟩; replace hS := hS.step hX; clear hX; ((try clear hF); (first | have hF := And.intro hS.facts (HRD.out _ (hS.sub (by first | simp | ((repeat (first | exact List.nil_sublist _ | exact List.Sublist.refl _ | with_reducible apply List.Sublist.cons₂ | apply List.Sublist.cons)))))) | have hF := And.intro hS.facts (hR.at hS.ext) | have hF := hS.facts); simp only [HFacts, cellFacts, RFacts, cellOnly, and_true, true_and, Nat.zero_add, Nat.reduceAdd] at hF)) | (go_at_call 22; (with_reducible refine Calls.mono (HCL.out _ (hS.sub (by first | simp | ((repeat (first | exact List.nil_sublist _ | exact List.Sublist.refl _ | with_reducible apply List.Sublist.cons₂ | apply List.Sublist.cons)))))) ?_); rintro e wk ⟨Af, cf, rfl, hz, hW⟩; replace hS := hS.join hW; clear hW; simp only [List.cons_append, List.nil_append] at hS; ((try clear hF); (first | have hF := And.intro hS.facts (HRD.out _ (hS.sub (by first | simp | ((repeat (first | exact List.nil_sublist _ | exact List.Sublist.refl _ | with_reducible apply List.Sublist.cons₂ | apply List.Sublist.cons)))))) | have hF := And.intro hS.facts (hR.at hS.ext) | have hF := hS.facts); simp only [HFacts, cellFacts, RFacts, cellOnly, and_true, true_and, Nat.zero_add, Nat.reduceAdd] at hF)))
    rename_i w7 w6 w5 w4 w3 w2 w1 w8 Kc ac
    clear hF hR
    replace hS := hS.front 1 rfl
    simp only [List.eraseIdx_cons_zero, List.eraseIdx_cons_succ] at hS
    generalize w7.heap.size = g3 at *
    generalize w6.heap.size = g4 at *
    generalize w4.heap.size = g6 at *
    obtain ⟨K2, hK2⟩ : ∃ L : List Item, L = [.blk g4 [.int .i64 0, .slice none 0 0, .int .i64 0, .slice none 0 0] 27, .blk g3 [.string tx, .bool rd, .slice A n cap] 35, .blk w.heap.size [.int .i64 s.ver, .slice v.ca v.cn v.cc, .int .i64 s.next, .slice v.fa v.fn v.fc] 27] ++ K := ⟨_, rfl⟩
    have HK2 := Lib.hid (show ∀ M W, Hp B w0 W (M ++ K2) → Hp B w0 W (M ++ J) by rw [hK2]; exact fun M W h => h.sub ((List.Sublist.refl M).append (hJ.trans (List.sublist_append_right _ K))))
    have hg1 := hg.ver (s.ver + 1)
    obtain ⟨s1, hs1⟩ : ∃ x, x = ({ s with ver := s.ver + 1 } : SN) := ⟨_, rfl⟩
    rw [← hs1] at hg1 HD1
    have ini : Hp B w0 wk (.blk g6 [.int .i64 s1.ver, .slice v.ca v.cn v.cc, .int .i64 s1.next, .slice Af v.fn cf] 27 :: .row 43 3 Af v.fn cf (cellsE v.evs) :: K2) := by rw [hs1, hK2]; exact hS
    have hk1 : SnK B w0 J s1 { v with fa := Af, fc := cf } := by
      have := HSN.out.k
      rw [hs1]
      exact ⟨this.fs, this.fl, hz, this.cl, this.cg, this.cr⟩
    clear hS hg hz HCL HN hs1
    go_loopw [28] (fun i wr => ∃ (k : Nat) (s' : SN) (v' : SV) (M : List Item), i = .int .i64 k ∧ k ≤ n ∧ Hid (runA 0 s1 (l.map (·.1)) = runA k s' ((l.map (·.1)).drop k)) ∧ Hid (Good s') ∧ Hid (SnK B w0 (M ++ J) s' v') ∧ Hp B w0 wr (.blk g6 [.int .i64 s'.ver, .slice v'.ca v'.cn v'.cc, .int .i64 s'.next, .slice v'.fa v'.fn v'.fc] 27 :: .row 43 3 v'.fa v'.fn v'.fc (cellsE v'.evs) :: (M ++ K2))) (fun i _ => n - (intOf i).toNat)
    case atStart => exact ⟨0, s1, { v with fa := Af, fc := cf }, [], rfl, Nat.zero_le _, Lib.hid rfl, Lib.hid hg1, Lib.hid hk1, ini⟩
    case round =>
      clear ini hk1 hg1
      obtain ⟨k, s', v', M, rfl, hk, HRN, HG, HSK, hS⟩ := hrel
      by_cases hlt : k < n
      · obtain ⟨⟨a, va⟩, ha⟩ : ∃ x, l[k]? = some x := ⟨_, List.getElem?_eq_getElem (by omega)⟩
        obtain ⟨b, o, hA, _⟩ := HRA.out _ ((HK2.out M _ hS.tail.tail).sub (List.sublist_append_right M J)) k a va ha
        have HRD := Lib.hid (fun (W : World) (h : Hp B w0 W (M ++ K2)) => show W.cell? ⟨b, o + k * 6, none⟩ = some (.int .i64 a.kind) ∧ W.cell? ⟨b, o + k * 6 + 1, none⟩ = some (.string a.path) ∧ W.cell? ⟨b, o + k * 6 + 2, none⟩ = some (.int .i64 a.rows) ∧
            W.cell? ⟨b, o + k * 6 + 3, none⟩ = some (.slice va.qa va.qn va.qc) ∧ W.cell? ⟨b, o + k * 6 + 4, none⟩ = some (.slice va.ra va.rn va.rc) ∧ W.cell? ⟨b, o + k * 6 + 5, none⟩ = some (.int .i64 a.next) from by
          obtain ⟨b', o', hA', c⟩ := HRA.out _ ((HK2.out M _ h).sub (List.sublist_append_right M J)) k a va ha
          obtain ⟨rfl, rfl⟩ : b = b' ∧ o = o' := by rw [hA] at hA'; simpa using hA'
          exact c)
        subst hA
        have hdr : (l.map (·.1)).drop k = a :: (l.map (·.1)).drop (k + 1) := by
          have h1 : (l.map (·.1))[k]? = some a := by rw [List.getElem?_map, ha]; rfl
          obtain ⟨h2, h3⟩ := List.getElem?_eq_some_iff.1 h1
          rw [List.drop_eq_getElem_cons h2, h3]
        have HRN2 := Lib.hid (show runA 0 s1 (l.map (·.1)) = if actE s' a = 0 then runA (k + 1) (actS s' a) ((l.map (·.1)).drop (k + 1)) else .error (actE s' a, k) by rw [HRN.out, hdr]; rfl)
        have hav := (HAV.out a va (List.mem_of_getElem? ha)).more fun W (h : Hp B w0 W (M ++ K2)) => (HK2.out M W h).sub (List.sublist_append_right M J)
        have hf40 := HG.out.fn HSK.out
        have HAC := Lib.hid (fun (W : World) (hW : Hp B w0 W (.blk g6 [.int .i64 s'.ver, .slice v'.ca v'.cn v'.cc, .int .i64 s'.next, .slice v'.fa v'.fn v'.fc] 27 :: .row 43 3 v'.fa v'.fn v'.fc (cellsE v'.evs) :: (M ++ K2))) =>
          action_any s' a va g6 v'.ca v'.fa v'.cn v'.cc v'.fn v'.fc v'.evs HSK.out.fl (by omega) HSK.out.fs HSK.out.fz HSK.out.cl HSK.out.cg HSK.out.cr (fun W h => HKP.out W ((HK2.out M W h).sub (List.sublist_append_right M J))) (fun W h => HK2.out M W h) hav (fun e he => by have := HG.out.mask he; omega) (w := W) (by unfold snB; exact hW))
        clear HRN hdr hav hf40 ha
        by_cases he : actE s' a = 0
        · have be : (actE s' a == 0) = true := by simp [he]
          ((try clear hF); (first | have hF := And.intro hS.facts (HRD.out _ (hS.sub (by first | simp | ((repeat (first | exact List.nil_sublist _ | exact List.Sublist.refl _ | with_reducible apply List.Sublist.cons₂ | apply List.Sublist.cons)))))) | have hF := And.intro hS.facts (hR.at hS.ext) | have hF := hS.facts); simp only [HFacts, cellFacts, RFacts, cellOnly, and_true, true_and, Nat.zero_add, Nat.reduceAdd] at hF)
          go_wp2_with (first | ((with_reducible first | refine nhLa ?_ | refine nhLs ?_ | refine nhLd ?_ | refine nhCa ?_ | refine nhCs ?_ | refine nhCd ?_ | refine nhPa ?_ | refine nhPs ?_ | refine nhPd ?_ | refine nhKa ?_ | refine nhKs ?_ | refine nhKd ?_); ((try clear hF); clear hS; intro wk hS; (try simp only [List.set_cons_zero, List.set_cons_succ, heap_size, heap_set_size] at hS); ((try clear hF); (first | have hF := And.intro hS.facts (HRD.out _ (hS.sub (by first | simp | ((repeat (first | exact List.nil_sublist _ | exact List.Sublist.refl _ | with_reducible apply List.Sublist.cons₂ | apply List.Sublist.cons)))))) | have hF := And.intro hS.facts (hR.at hS.ext) | have hF := hS.facts); simp only [HFacts, cellFacts, RFacts, cellOnly, and_true, true_and, Nat.zero_add, Nat.reduceAdd] at hF))) | (go_at_call 23; (with_reducible refine Calls.mono (HAC.out _ hS.tail) ?_); clear hS; rintro e wk ⟨he1, hW⟩; rw [he] at he1; subst he1; unfold ActRes at hW; rw [if_pos he] at hW; obtain ⟨Ac2, nc2, cc2, Af2, nf2, cf2, ev2, M2, hS, hfs2, hcl2, hcg2, hfl2, hfz2, hcr2⟩ := hW; rw [← List.append_assoc] at hS hfs2 hcr2; clear HRD; unfold snB eRow at hS; ((try clear hF); (first | have hF := And.intro hS.facts (HRD.out _ (hS.sub (by first | simp | ((repeat (first | exact List.nil_sublist _ | exact List.Sublist.refl _ | with_reducible apply List.Sublist.cons₂ | apply List.Sublist.cons)))))) | have hF := And.intro hS.facts (hR.at hS.ext) | have hF := hS.facts); simp only [HFacts, cellFacts, RFacts, cellOnly, and_true, true_and, Nat.zero_add, Nat.reduceAdd] at hF)))
          go_roundw
          case rel => exact ⟨k + 1, actS s' a, ⟨Ac2, nc2, cc2, Af2, nf2, cf2, ev2⟩, M2 ++ M, by go_num, by omega, Lib.hid (by rw [HRN2.out, if_pos he]), Lib.hid (HG.out.act he), Lib.hid ⟨hfs2, hfl2, hfz2, hcl2, hcg2, hcr2⟩, hS⟩
          case measure => simp [intOf]; omega
        · have hDe : D = .error (actE s' a, some k) := by rw [HD1.out, HRN2.out, if_neg he]
          clear HD1
          subst hDe
          have be : (actE s' a == 0) = false := by simp [he]
          ((try clear hF); (first | have hF := And.intro hS.facts (HRD.out _ (hS.sub (by first | simp | ((repeat (first | exact List.nil_sublist _ | exact List.Sublist.refl _ | with_reducible apply List.Sublist.cons₂ | apply List.Sublist.cons)))))) | have hF := And.intro hS.facts (hR.at hS.ext) | have hF := hS.facts); simp only [HFacts, cellFacts, RFacts, cellOnly, and_true, true_and, Nat.zero_add, Nat.reduceAdd] at hF)
          go_wp2_with (first | ((with_reducible first | refine nhLa ?_ | refine nhLs ?_ | refine nhLd ?_ | refine nhCa ?_ | refine nhCs ?_ | refine nhCd ?_ | refine nhPa ?_ | refine nhPs ?_ | refine nhPd ?_ | refine nhKa ?_ | refine nhKs ?_ | refine nhKd ?_); ((try clear hF); clear hS; intro wk hS; (try simp only [List.set_cons_zero, List.set_cons_succ, heap_size, heap_set_size] at hS); ((try clear hF); (first | have hF := And.intro hS.facts (HRD.out _ (hS.sub (by first | simp | ((repeat (first | exact List.nil_sublist _ | exact List.Sublist.refl _ | with_reducible apply List.Sublist.cons₂ | apply List.Sublist.cons)))))) | have hF := And.intro hS.facts (hR.at hS.ext) | have hF := hS.facts); simp only [HFacts, cellFacts, RFacts, cellOnly, and_true, true_and, Nat.zero_add, Nat.reduceAdd] at hF))) | (go_at_call 23; (with_reducible refine Calls.mono (HAC.out _ hS.tail) ?_); clear hS; rintro e wk ⟨rfl, hW⟩; unfold ActRes at hW; rw [if_neg he] at hW; have hS := hW.sub (List.sublist_append_right M K2); clear hW HRD; rw [hK2] at hS; simp only [List.cons_append, List.nil_append] at hS; ((try clear hF); (first | have hF := And.intro hS.facts (HRD.out _ (hS.sub (by first | simp | ((repeat (first | exact List.nil_sublist _ | exact List.Sublist.refl _ | with_reducible apply List.Sublist.cons₂ | apply List.Sublist.cons)))))) | have hF := And.intro hS.facts (hR.at hS.ext) | have hF := hS.facts); simp only [HFacts, cellFacts, RFacts, cellOnly, and_true, true_and, Nat.zero_add, Nat.reduceAdd] at hF)))
          have hT := ((hS.drop 1).drop 1).drop 1
          refine ⟨rfl, .tuple #[.agg #[.int .i64 0, .slice none 0 0, .int .i64 0, .slice none 0 0], .iface 70 (.pointer (some ⟨_, 0, none⟩))], ?_, ApRes.atE hT⟩
          simp [results, Tryz.results9, go_sem, hF]
      · obtain rfl : n = k := by omega
        have hDe : D = .ok s' := by rw [HD1.out, HRN.out, List.drop_eq_nil_of_le (by rw [List.length_map]; omega)]; rfl
        clear HD1
        subst hDe
        rw [hK2] at hS
        replace hS : Hp B w0 wr (.blk g4 [.int .i64 0, .slice none 0 0, .int .i64 0, .slice none 0 0] 27 :: .blk g6 [.int .i64 s'.ver, .slice v'.ca v'.cn v'.cc, .int .i64 s'.next, .slice v'.fa v'.fn v'.fc] 27 :: .row 43 3 v'.fa v'.fn v'.fc (cellsE v'.evs) :: (M ++ (.blk g3 [.string tx, .bool rd, .slice A n cap] 35 :: .blk w.heap.size [.int .i64 s.ver, .slice v.ca v.cn v.cc, .int .i64 s.next, .slice v.fa v.fn v.fc] 27 :: K))) := hS.perm (List.perm_middle (l₁ := _ :: _ :: M)).symm
        ((try clear hF); (first | have hF := And.intro hS.facts (HRD.out _ (hS.sub (by first | simp | ((repeat (first | exact List.nil_sublist _ | exact List.Sublist.refl _ | with_reducible apply List.Sublist.cons₂ | apply List.Sublist.cons)))))) | have hF := And.intro hS.facts (hR.at hS.ext) | have hF := hS.facts); simp only [HFacts, cellFacts, RFacts, cellOnly, and_true, true_and, Nat.zero_add, Nat.reduceAdd] at hF)
        go_wp2_with (first | ((with_reducible first | refine nhLa ?_ | refine nhLs ?_ | refine nhLd ?_ | refine nhCa ?_ | refine nhCs ?_ | refine nhCd ?_ | refine nhPa ?_ | refine nhPs ?_ | refine nhPd ?_ | refine nhKa ?_ | refine nhKs ?_ | refine nhKd ?_); ((try clear hF); clear hS; intro wk hS; (try simp only [List.set_cons_zero, List.set_cons_succ, heap_size, heap_set_size] at hS); ((try clear hF); (first | have hF := And.intro hS.facts (HRD.out _ (hS.sub (by first | simp | ((repeat (first | exact List.nil_sublist _ | exact List.Sublist.refl _ | with_reducible apply List.Sublist.cons₂ | apply List.Sublist.cons)))))) | have hF := And.intro hS.facts (hR.at hS.ext) | have hF := hS.facts); simp only [HFacts, cellFacts, RFacts, cellOnly, and_true, true_and, Nat.zero_add, Nat.reduceAdd] at hF))) | fail)
        have hT : Hp B w0 _ ((.row 43 3 v'.fa v'.fn v'.fc (cellsE v'.evs) :: M) ++ K) := (hS.tail.tail).sub (List.Sublist.cons_cons _ ((List.Sublist.refl M).append (List.sublist_append_right [_, _] K)))
        refine ⟨rfl, .tuple #[snV s' v', .nilIface], ?_, ApRes.good (M := .row 43 3 v'.fa v'.fn v'.fc (cellsE v'.evs) :: M) hT ⟨HSK.out.more fun W h => h.tail, fun W h => h.re 0 rfl⟩⟩
        simp [results, Tryz.results9, go_sem, hF]
end
end Go.Proofs.YtcpnnffnkegamaaGreatDoor

/- millpondkeep.short: a commit is short. -/
namespace Go.Proofs.YtcpnnffnkegamaaGreatDoor
set_option linter.unusedSimpArgs false
set_option linter.unusedVariables false
open Go.RowKit
set_option linter.all false
def shortAc (a : AN) : Bool := decide (a.path.size ≤ 60) && decide (a.mask.length ≤ 70) && shortCs a.cols
def shortCo (tx : ByteArray) (l : List AN) : Bool := decide (tx.size ≤ 60) && decide (l.length ≤ 12) && l.all shortAc
set_option maxRecDepth 100000 in
set_option maxHeartbeats 8000000 in
theorem short_any (tx : ByteArray) (rd : Bool) (l : List (AN × AV)) (A : Option Addr) (n cap : Nat) (w : World) (hn : l.length = n) (hr : RA w A l)
    (hl : ∀ a v, (a, v) ∈ l → a.mask.length = v.qn ∧ a.cols.length = v.rn ∧ RC w v.ra a.cols) :
    Calls Tryz.prog 8 #[coV tx rd A n cap] w fun e w' => e = .returned (.bool (shortCo tx (l.map (·.1)))) ∧ Ext w w' := by
  have Hn := Lib.hid hn
  have HL := Lib.hid hl
  unfold shortCo
  rw [List.length_map, hn]
  clear hn hl
  have hS := Hp.init w
  have hR := Reads.nil w
  by_cases h60 : 60 < tx.size
  · rw [show decide (tx.size ≤ 60) = false by simp; omega]
    go_enter Tryz.func8, Tryz.ntmps8
    go_wp2_with (first | ((with_reducible first | refine nhLa ?_ | refine nhLs ?_ | refine nhLd ?_ | refine nhCa ?_ | refine nhCs ?_ | refine nhCd ?_ | refine nhPa ?_ | refine nhPs ?_ | refine nhPd ?_ | refine nhKa ?_ | refine nhKs ?_ | refine nhKd ?_); ((try clear hF); clear hS; intro wk hS; (try simp only [List.set_cons_zero, List.set_cons_succ, heap_size, heap_set_size] at hS); ((try clear hF); (first | have hF := And.intro hS.facts (HRD.out _ (hS.sub (by first | simp | ((repeat (first | exact List.nil_sublist _ | exact List.Sublist.refl _ | with_reducible apply List.Sublist.cons₂ | apply List.Sublist.cons)))))) | have hF := And.intro hS.facts (hR.at hS.ext) | have hF := hS.facts); simp only [HFacts, cellFacts, RFacts, cellOnly, and_true, true_and, Nat.zero_add, Nat.reduceAdd] at hF))) | fail)
    go_ret
    exact ⟨rfl, hS.ext⟩
  by_cases h12 : 12 < n
  · rw [show decide (n ≤ 12) = false by simp; omega, Bool.and_false]
    go_enter Tryz.func8, Tryz.ntmps8
    go_wp2_with (first | ((with_reducible first | refine nhLa ?_ | refine nhLs ?_ | refine nhLd ?_ | refine nhCa ?_ | refine nhCs ?_ | refine nhCd ?_ | refine nhPa ?_ | refine nhPs ?_ | refine nhPd ?_ | refine nhKa ?_ | refine nhKs ?_ | refine nhKd ?_); ((try clear hF); clear hS; intro wk hS; (try simp only [List.set_cons_zero, List.set_cons_succ, heap_size, heap_set_size] at hS); ((try clear hF); (first | have hF := And.intro hS.facts (HRD.out _ (hS.sub (by first | simp | ((repeat (first | exact List.nil_sublist _ | exact List.Sublist.refl _ | with_reducible apply List.Sublist.cons₂ | apply List.Sublist.cons)))))) | have hF := And.intro hS.facts (hR.at hS.ext) | have hF := hS.facts); simp only [HFacts, cellFacts, RFacts, cellOnly, and_true, true_and, Nat.zero_add, Nat.reduceAdd] at hF))) | fail)
    go_ret
    exact ⟨rfl, hS.ext⟩
  · rw [show decide (n ≤ 12) = true by simp; omega, show decide (tx.size ≤ 60) = true by simp; omega, Bool.true_and, Bool.true_and]
    obtain ⟨D, hD⟩ : ∃ D, D = (l.map (·.1)).all shortAc := ⟨_, rfl⟩
    rw [← hD]
    have HD := Lib.hid hD
    clear hD
    go_enter Tryz.func8, Tryz.ntmps8
    go_wp2_with (first | ((with_reducible first | refine nhLa ?_ | refine nhLs ?_ | refine nhLd ?_ | refine nhCa ?_ | refine nhCs ?_ | refine nhCd ?_ | refine nhPa ?_ | refine nhPs ?_ | refine nhPd ?_ | refine nhKa ?_ | refine nhKs ?_ | refine nhKd ?_); ((try clear hF); clear hS; intro wk hS; (try simp only [List.set_cons_zero, List.set_cons_succ, heap_size, heap_set_size] at hS); ((try clear hF); (first | have hF := And.intro hS.facts (HRD.out _ (hS.sub (by first | simp | ((repeat (first | exact List.nil_sublist _ | exact List.Sublist.refl _ | with_reducible apply List.Sublist.cons₂ | apply List.Sublist.cons)))))) | have hF := And.intro hS.facts (hR.at hS.ext) | have hF := hS.facts); simp only [HFacts, cellFacts, RFacts, cellOnly, and_true, true_and, Nat.zero_add, Nat.reduceAdd] at hF))) | fail)
    go_loopw [3] (fun i wr => ∃ k : Nat, i = .int .i64 k ∧ k ≤ n ∧ Hid (((l.map (·.1)).take k).all shortAc = true) ∧ Hp w.heap.size w wr [.blk w.heap.size [.string tx, .bool rd, .slice A n cap] 35]) (fun i _ => n - (intOf i).toNat)
    case atStart => exact ⟨0, rfl, Nat.zero_le _, Lib.hid rfl, hS⟩
    case round =>
      clear hS
      obtain ⟨k, rfl, hk, hf, hS⟩ := hrel
      by_cases hlt : k < n
      · obtain ⟨⟨a, v⟩, ha⟩ : ∃ x, l[k]? = some x := ⟨l[k]'(by rw [Hn.out]; exact hlt), List.getElem?_eq_getElem _⟩
        obtain ⟨b, o, rfl, c0, c1, c2, c3, c4, c5⟩ := hr k a v ha
        have hR := Reads.cell c0 (Reads.cell c1 (Reads.cell c2 (Reads.cell c3 (Reads.cell c4 (Reads.cell c5 (Reads.nil w))))))
        have HX := Lib.hid (show (l.map (·.1))[k]? = some a by rw [List.getElem?_map, ha]; rfl)
        obtain ⟨q1, q2, q3⟩ := HL.out a v (List.mem_of_getElem? ha)
        have HCO := Lib.hid (fun (W : World) (hx : Ext w W) => columns_any a.cols v.ra v.rn v.rc W q2 (q3.ext hx))
        clear c0 c1 c2 c3 c4 c5 hr ha q3
        by_cases e1 : 60 < a.path.size
        · have hDe : D = false := HD.out.trans (all_not HX.out (show shortAc a = false by unfold shortAc; rw [decide_eq_false (p := a.path.size ≤ 60) (by omega)]; rfl))
          clear HD
          subst hDe
          ((try clear hF); (first | have hF := And.intro hS.facts (HRD.out _ (hS.sub (by first | simp | ((repeat (first | exact List.nil_sublist _ | exact List.Sublist.refl _ | with_reducible apply List.Sublist.cons₂ | apply List.Sublist.cons)))))) | have hF := And.intro hS.facts (hR.at hS.ext) | have hF := hS.facts); simp only [HFacts, cellFacts, RFacts, cellOnly, and_true, true_and, Nat.zero_add, Nat.reduceAdd] at hF)
          go_wp2_with (first | ((with_reducible first | refine nhLa ?_ | refine nhLs ?_ | refine nhLd ?_ | refine nhCa ?_ | refine nhCs ?_ | refine nhCd ?_ | refine nhPa ?_ | refine nhPs ?_ | refine nhPd ?_ | refine nhKa ?_ | refine nhKs ?_ | refine nhKd ?_); ((try clear hF); clear hS; intro wk hS; (try simp only [List.set_cons_zero, List.set_cons_succ, heap_size, heap_set_size] at hS); ((try clear hF); (first | have hF := And.intro hS.facts (HRD.out _ (hS.sub (by first | simp | ((repeat (first | exact List.nil_sublist _ | exact List.Sublist.refl _ | with_reducible apply List.Sublist.cons₂ | apply List.Sublist.cons)))))) | have hF := And.intro hS.facts (hR.at hS.ext) | have hF := hS.facts); simp only [HFacts, cellFacts, RFacts, cellOnly, and_true, true_and, Nat.zero_add, Nat.reduceAdd] at hF))) | fail)
          go_ret
          exact ⟨rfl, hS.ext⟩
        by_cases e2 : 70 < v.qn
        · have hDe : D = false := HD.out.trans (all_not HX.out (show shortAc a = false by unfold shortAc; rw [decide_eq_false (p := a.mask.length ≤ 70) (by omega), Bool.and_false]; rfl))
          clear HD
          subst hDe
          ((try clear hF); (first | have hF := And.intro hS.facts (HRD.out _ (hS.sub (by first | simp | ((repeat (first | exact List.nil_sublist _ | exact List.Sublist.refl _ | with_reducible apply List.Sublist.cons₂ | apply List.Sublist.cons)))))) | have hF := And.intro hS.facts (hR.at hS.ext) | have hF := hS.facts); simp only [HFacts, cellFacts, RFacts, cellOnly, and_true, true_and, Nat.zero_add, Nat.reduceAdd] at hF)
          go_wp2_with (first | ((with_reducible first | refine nhLa ?_ | refine nhLs ?_ | refine nhLd ?_ | refine nhCa ?_ | refine nhCs ?_ | refine nhCd ?_ | refine nhPa ?_ | refine nhPs ?_ | refine nhPd ?_ | refine nhKa ?_ | refine nhKs ?_ | refine nhKd ?_); ((try clear hF); clear hS; intro wk hS; (try simp only [List.set_cons_zero, List.set_cons_succ, heap_size, heap_set_size] at hS); ((try clear hF); (first | have hF := And.intro hS.facts (HRD.out _ (hS.sub (by first | simp | ((repeat (first | exact List.nil_sublist _ | exact List.Sublist.refl _ | with_reducible apply List.Sublist.cons₂ | apply List.Sublist.cons)))))) | have hF := And.intro hS.facts (hR.at hS.ext) | have hF := hS.facts); simp only [HFacts, cellFacts, RFacts, cellOnly, and_true, true_and, Nat.zero_add, Nat.reduceAdd] at hF))) | fail)
          go_ret
          exact ⟨rfl, hS.ext⟩
        have HSA := Lib.hid (show shortAc a = shortCs a.cols by unfold shortAc; rw [decide_eq_true (by omega), decide_eq_true (by omega)]; rfl)
        obtain ⟨bc, hbc⟩ : ∃ x, x = shortCs a.cols := ⟨_, rfl⟩
        rw [← hbc] at HSA HCO
        clear hbc q1 q2
        cases bc with
        | false =>
          have hDe : D = false := HD.out.trans (all_not HX.out HSA.out)
          clear HD
          subst hDe
          ((try clear hF); (first | have hF := And.intro hS.facts (HRD.out _ (hS.sub (by first | simp | ((repeat (first | exact List.nil_sublist _ | exact List.Sublist.refl _ | with_reducible apply List.Sublist.cons₂ | apply List.Sublist.cons)))))) | have hF := And.intro hS.facts (hR.at hS.ext) | have hF := hS.facts); simp only [HFacts, cellFacts, RFacts, cellOnly, and_true, true_and, Nat.zero_add, Nat.reduceAdd] at hF)
          go_wp2_with (first | ((with_reducible first | refine nhLa ?_ | refine nhLs ?_ | refine nhLd ?_ | refine nhCa ?_ | refine nhCs ?_ | refine nhCd ?_ | refine nhPa ?_ | refine nhPs ?_ | refine nhPd ?_ | refine nhKa ?_ | refine nhKs ?_ | refine nhKd ?_); ((try clear hF); clear hS; intro wk hS; (try simp only [List.set_cons_zero, List.set_cons_succ, heap_size, heap_set_size] at hS); ((try clear hF); (first | have hF := And.intro hS.facts (HRD.out _ (hS.sub (by first | simp | ((repeat (first | exact List.nil_sublist _ | exact List.Sublist.refl _ | with_reducible apply List.Sublist.cons₂ | apply List.Sublist.cons)))))) | have hF := And.intro hS.facts (hR.at hS.ext) | have hF := hS.facts); simp only [HFacts, cellFacts, RFacts, cellOnly, and_true, true_and, Nat.zero_add, Nat.reduceAdd] at hF))) | (go_at_call 20; (with_reducible refine (HCO.out _ hS.ext).mono ?_); rintro e wk ⟨rfl, hX⟩; replace hS := hS.step hX; clear hX; ((try clear hF); (first | have hF := And.intro hS.facts (HRD.out _ (hS.sub (by first | simp | ((repeat (first | exact List.nil_sublist _ | exact List.Sublist.refl _ | with_reducible apply List.Sublist.cons₂ | apply List.Sublist.cons)))))) | have hF := And.intro hS.facts (hR.at hS.ext) | have hF := hS.facts); simp only [HFacts, cellFacts, RFacts, cellOnly, and_true, true_and, Nat.zero_add, Nat.reduceAdd] at hF)))
          go_ret
          exact ⟨rfl, hS.ext⟩
        | true =>
          have HT := Lib.hid (all_upto hf.out HX.out HSA.out)
          ((try clear hF); (first | have hF := And.intro hS.facts (HRD.out _ (hS.sub (by first | simp | ((repeat (first | exact List.nil_sublist _ | exact List.Sublist.refl _ | with_reducible apply List.Sublist.cons₂ | apply List.Sublist.cons)))))) | have hF := And.intro hS.facts (hR.at hS.ext) | have hF := hS.facts); simp only [HFacts, cellFacts, RFacts, cellOnly, and_true, true_and, Nat.zero_add, Nat.reduceAdd] at hF)
          go_wp2_with (first | ((with_reducible first | refine nhLa ?_ | refine nhLs ?_ | refine nhLd ?_ | refine nhCa ?_ | refine nhCs ?_ | refine nhCd ?_ | refine nhPa ?_ | refine nhPs ?_ | refine nhPd ?_ | refine nhKa ?_ | refine nhKs ?_ | refine nhKd ?_); ((try clear hF); clear hS; intro wk hS; (try simp only [List.set_cons_zero, List.set_cons_succ, heap_size, heap_set_size] at hS); ((try clear hF); (first | have hF := And.intro hS.facts (HRD.out _ (hS.sub (by first | simp | ((repeat (first | exact List.nil_sublist _ | exact List.Sublist.refl _ | with_reducible apply List.Sublist.cons₂ | apply List.Sublist.cons)))))) | have hF := And.intro hS.facts (hR.at hS.ext) | have hF := hS.facts); simp only [HFacts, cellFacts, RFacts, cellOnly, and_true, true_and, Nat.zero_add, Nat.reduceAdd] at hF))) | (go_at_call 20; (with_reducible refine (HCO.out _ hS.ext).mono ?_); rintro e wk ⟨rfl, hX⟩; replace hS := hS.step hX; clear hX; ((try clear hF); (first | have hF := And.intro hS.facts (HRD.out _ (hS.sub (by first | simp | ((repeat (first | exact List.nil_sublist _ | exact List.Sublist.refl _ | with_reducible apply List.Sublist.cons₂ | apply List.Sublist.cons)))))) | have hF := And.intro hS.facts (hR.at hS.ext) | have hF := hS.facts); simp only [HFacts, cellFacts, RFacts, cellOnly, and_true, true_and, Nat.zero_add, Nat.reduceAdd] at hF)))
          go_roundw
          case rel => exact ⟨k + 1, by go_num, by omega, HT, hS.tail⟩
          case measure => simp [intOf]; omega
      · obtain rfl : k = n := by omega
        have := hf.out
        rw [List.take_of_length_le (by rw [List.length_map, Hn.out]; omega), ← HD.out] at this
        clear HD
        subst this
        ((try clear hF); (first | have hF := And.intro hS.facts (HRD.out _ (hS.sub (by first | simp | ((repeat (first | exact List.nil_sublist _ | exact List.Sublist.refl _ | with_reducible apply List.Sublist.cons₂ | apply List.Sublist.cons)))))) | have hF := And.intro hS.facts (hR.at hS.ext) | have hF := hS.facts); simp only [HFacts, cellFacts, RFacts, cellOnly, and_true, true_and, Nat.zero_add, Nat.reduceAdd] at hF)
        go_wp2_with (first | ((with_reducible first | refine nhLa ?_ | refine nhLs ?_ | refine nhLd ?_ | refine nhCa ?_ | refine nhCs ?_ | refine nhCd ?_ | refine nhPa ?_ | refine nhPs ?_ | refine nhPd ?_ | refine nhKa ?_ | refine nhKs ?_ | refine nhKd ?_); ((try clear hF); clear hS; intro wk hS; (try simp only [List.set_cons_zero, List.set_cons_succ, heap_size, heap_set_size] at hS); ((try clear hF); (first | have hF := And.intro hS.facts (HRD.out _ (hS.sub (by first | simp | ((repeat (first | exact List.nil_sublist _ | exact List.Sublist.refl _ | with_reducible apply List.Sublist.cons₂ | apply List.Sublist.cons)))))) | have hF := And.intro hS.facts (hR.at hS.ext) | have hF := hS.facts); simp only [HFacts, cellFacts, RFacts, cellOnly, and_true, true_and, Nat.zero_add, Nat.reduceAdd] at hF))) | fail)
        go_ret
        exact ⟨rfl, hS.ext⟩
end Go.Proofs.YtcpnnffnkegamaaGreatDoor

/- log.Fights: two commits fight. -/
namespace Go.Proofs.YtcpnnffnkegamaaGreatDoor
set_option linter.unusedSimpArgs false
set_option linter.unusedVariables false
open Go.RowKit
set_option linter.all false
end Go.Proofs.YtcpnnffnkegamaaGreatDoor

/- numbers in letters: strconv.Itoa; log.ints. -/
namespace Go.Proofs.YtcpnnffnkegamaaGreatDoor
set_option linter.unusedSimpArgs false
set_option linter.unusedVariables false
open Go.RowKit
set_option linter.all false
def TabAt (w : World) : Prop := Lib.TabIs Tryz.prog w "internal/strconv.uint64pow10" .u64 Lib.pow10Tab
theorem TabAt.ext {w w' : World} (h : TabAt w) (hx : Ext w w') : TabAt w' := by
  obtain ⟨g, hg⟩ : ∃ g, Tryz.prog.globalNamed "internal/strconv.uint64pow10" = some g := ⟨2, by kernel_rfl⟩
  unfold TabAt Lib.TabIs World.var? at *
  rw [hg] at h ⊢
  simp only [Option.bind_some] at h ⊢
  have hlt : g < w.heap.size := by
    by_cases hc : g < w.heap.size
    · exact hc
    · rw [Array.getElem?_eq_none (by omega)] at h
      cases h
  rw [hx.block g hlt]
  exact h
theorem Ext.grow' {a w : World} (h : Ext a w) (os : Array Obj) : Ext a (Sort.grow w os) :=
  Below.trans h ⟨rfl, rfl, rfl, by simp [Sort.grow], fun k hk => by
    have : k < w.heap.size := Nat.lt_of_lt_of_le hk h.size
    simp [Sort.grow, Array.getElem?_append_left this]⟩
theorem stritoa_any (n : Int) (h0 : -9223372036854775808 ≤ n) (h1 : n ≤ 9223372036854775807) (w : World) (ht : TabAt w) :
    Calls Tryz.prog 32 #[.int .i64 n] w fun e w' => e = .returned (.string ⟨(Lib.itoa n).toArray⟩) ∧ Ext w w' :=
  (Tryz.strconv_Itoa n h0 h1 w ht).mono fun e w' ⟨h1, k, os, h2⟩ => ⟨h1, by rw [h2]; exact ((Ext.refl w).drewN k).grow' os⟩
theorem Tryz.elem_strs : Elem Tryz.prog 78 9 1 16 := by
  obtain ⟨i0, hi0, hz0, hz1, hz2⟩ := info_parts (show (Tryz.prog.info? 9).map (fun i => (i.zero, i.size, i.bytes)) = some (some (.string ⟨#[]⟩), 1, 16) by kernel_rfl)
  exact ⟨Tryz.underlying78, ⟨i0, _, hi0, hz0, hz1, hz2, rfl⟩, by omega⟩
abbrev strV (l : List ByteArray) : List Value := l.map Value.string
theorem strV_get (l : List ByteArray) (k : Nat) : (strV l)[k]? = l[k]?.map Value.string := by simp [strV]
/-- texts with a mark between them -/
def joinS (l : List ByteArray) (sep : ByteArray) : ByteArray := ⟨(Lib.join (l.map (·.data.toList)) sep.data.toList).toArray⟩
def itoS (n : Int) : ByteArray := ⟨(Lib.itoa n).toArray⟩
theorem join_any {B : Nat} {w0 w : World} {L : List Item} {A : Option Addr} {n cap : Nat} (xs : List ByteArray) (sep : ByteArray) (i : Nat) (hn : xs.length = n) (hn2 : n ≤ 100000) (hl : (joinS xs sep).size ≤ 1000000) (hS : Hp B w0 w L) (hi : L[i]? = some (.row 9 1 A n cap (strV xs))) :
    Calls Tryz.prog 54 #[.slice A n cap, .string sep] w fun e w' => e = .returned (.string (joinS xs sep)) ∧ Ext w w' := by
  cases xs with
  | nil =>
    obtain rfl : 0 = n := by simpa using hn
    exact (Tryz.strings_Join_none A cap sep w).mono fun e w' ⟨h1, h2⟩ => ⟨by rw [h1]; rfl, by rw [h2]; exact Ext.refl w⟩
  | cons x l =>
    obtain ⟨g, rfl, c0, _⟩ := hS.rowCell (j := 0) (u := .string x) i hi rfl
    subst hn
    have hlj : (Lib.join ((x :: l).map (·.data.toList)) sep.data.toList).length ≤ 140737488355328 := by
      have h2 : (Lib.join ((x :: l).map (·.data.toList)) sep.data.toList).toArray.size ≤ 1000000 := hl
      rw [List.size_toArray] at h2
      omega
    refine (Tryz.strings_Join g 0 cap (x :: l) sep w (fun j y hj => ?_) (lt_of_cell c0) (by omega) (hS.rowLen i hi).2 hlj).mono fun e w' h => h
    obtain ⟨g', hg, c, _⟩ := hS.rowCell (j := j) (u := .string y) i hi (by rw [strV_get, hj]; rfl)
    obtain rfl : g = g' := by simpa using hg
    rw [Nat.zero_add]
    exact c
set_option maxRecDepth 100000 in
set_option maxHeartbeats 8000000 in
theorem ints_any (l : List Int) (A : Option Addr) (n cap : Nat) (w : World) (hn : l.length = n) (hl : n ≤ 1000) (h64 : ∀ x ∈ l, i64 x) (hr : RI w A l) (ht : TabAt w) (hj : (joinS (l.map itoS) ⟨#[44]⟩).size ≤ 1000000) :
    Calls Tryz.prog 34 #[.slice A n cap] w fun e w' => e = .returned (.string (joinS (l.map itoS) ⟨#[44]⟩)) ∧ Ext w w' := by
  have Hn := Lib.hid hn
  have HT := Lib.hid ht
  have H6 := Lib.hid h64
  have HJ := Lib.hid hj
  clear hn ht h64 hj
  have hS := Hp.init w
  have hR := Reads.nil w
  go_enter Tryz.func34, Tryz.ntmps34
  go_wp2_with (first | ((with_reducible first | refine nhLa ?_ | refine nhLs ?_ | refine nhLd ?_ | refine nhCa ?_ | refine nhCs ?_ | refine nhCd ?_ | refine nhPa ?_ | refine nhPs ?_ | refine nhPd ?_ | refine nhKa ?_ | refine nhKs ?_ | refine nhKd ?_); ((try clear hF); clear hS; intro wk hS; (try simp only [List.set_cons_zero, List.set_cons_succ, heap_size, heap_set_size] at hS); ((try clear hF); (first | have hF := And.intro hS.facts (HRD.out _ (hS.sub (by first | simp | ((repeat (first | exact List.nil_sublist _ | exact List.Sublist.refl _ | with_reducible apply List.Sublist.cons₂ | apply List.Sublist.cons)))))) | have hF := And.intro hS.facts (hR.at hS.ext) | have hF := hS.facts); simp only [HFacts, cellFacts, RFacts, cellOnly, and_true, true_and, Nat.zero_add, Nat.reduceAdd] at hF))) | fail)
  replace hS := hS.nilRow 9 1
  go_loopw [8, 3] (fun i sl wr => ∃ (k : Nat) (A' : Option Addr) (c' : Nat), i = .int .i64 k ∧ k ≤ n ∧ sl = .slice A' k c' ∧ Hp w.heap.size w wr [.row 9 1 A' k c' (strV ((l.take k).map itoS))]) (fun i _ _ => n - (intOf i).toNat)
  case atStart => exact ⟨0, none, 0, rfl, Nat.zero_le _, rfl, hS⟩
  case round =>
    clear hS
    obtain ⟨k, A', c', rfl, hk, rfl, hS⟩ := hrel
    by_cases hlt : k < n
    · obtain ⟨x, hx⟩ : ∃ x, l[k]? = some x := ⟨l[k]'(by rw [Hn.out]; exact hlt), List.getElem?_eq_getElem _⟩
      obtain ⟨b, o, rfl, c0⟩ := hr k x hx
      have hR := Reads.cell c0 (Reads.nil w)
      have HX := Lib.hid (fun (W : World) (hW : Ext w W) => stritoa_any x (H6.out x (List.mem_of_getElem? hx)).1 (H6.out x (List.mem_of_getElem? hx)).2 W (HT.out.ext hW))
      have HTK := Lib.hid (show (l.take (k + 1)).map itoS = (l.take k).map itoS ++ [itoS x] by
        rw [List.take_add_one, hx, List.map_append]; rfl)
      clear c0 hx hr
      unfold itoS at HX
      ((try clear hF); (first | have hF := And.intro hS.facts (HRD.out _ (hS.sub (by first | simp | ((repeat (first | exact List.nil_sublist _ | exact List.Sublist.refl _ | with_reducible apply List.Sublist.cons₂ | apply List.Sublist.cons)))))) | have hF := And.intro hS.facts (hR.at hS.ext) | have hF := hS.facts); simp only [HFacts, cellFacts, RFacts, cellOnly, and_true, true_and, Nat.zero_add, Nat.reduceAdd] at hF)
      go_wp2_with (first | ((with_reducible first | refine nhLa ?_ | refine nhLs ?_ | refine nhLd ?_ | refine nhCa ?_ | refine nhCs ?_ | refine nhCd ?_ | refine nhPa ?_ | refine nhPs ?_ | refine nhPd ?_ | refine nhKa ?_ | refine nhKs ?_ | refine nhKd ?_); ((try clear hF); clear hS; intro wk hS; (try simp only [List.set_cons_zero, List.set_cons_succ, heap_size, heap_set_size] at hS); ((try clear hF); (first | have hF := And.intro hS.facts (HRD.out _ (hS.sub (by first | simp | ((repeat (first | exact List.nil_sublist _ | exact List.Sublist.refl _ | with_reducible apply List.Sublist.cons₂ | apply List.Sublist.cons)))))) | have hF := And.intro hS.facts (hR.at hS.ext) | have hF := hS.facts); simp only [HFacts, cellFacts, RFacts, cellOnly, and_true, true_and, Nat.zero_add, Nat.reduceAdd] at hF))) | (go_at_call 32; (with_reducible refine (HX.out _ hS.ext).mono ?_); rintro e wk ⟨rfl, hX⟩; replace hS := hS.step hX; clear hX; ((try clear hF); (first | have hF := And.intro hS.facts (HRD.out _ (hS.sub (by first | simp | ((repeat (first | exact List.nil_sublist _ | exact List.Sublist.refl _ | with_reducible apply List.Sublist.cons₂ | apply List.Sublist.cons)))))) | have hF := And.intro hS.facts (hR.at hS.ext) | have hF := hS.facts); simp only [HFacts, cellFacts, RFacts, cellOnly, and_true, true_and, Nat.zero_add, Nat.reduceAdd] at hF)) | (at_builtin; refine wpList_push_hp Tryz.elem_strs rfl (.tmp 12) (.tmp 15) rfl (hS.second 0 rfl) rfl rfl rfl (by simp [Value.oneCell']) (by omega) (by omega) ?_; clear hS; intro Ak capk wk hS; (try simp only [List.eraseIdx_cons_zero, List.eraseIdx_cons_succ, List.set_cons_zero, List.set_cons_succ] at hS); ((try clear hF); (first | have hF := And.intro hS.facts (HRD.out _ (hS.sub (by first | simp | ((repeat (first | exact List.nil_sublist _ | exact List.Sublist.refl _ | with_reducible apply List.Sublist.cons₂ | apply List.Sublist.cons)))))) | have hF := And.intro hS.facts (hR.at hS.ext) | have hF := hS.facts); simp only [HFacts, cellFacts, RFacts, cellOnly, and_true, true_and, Nat.zero_add, Nat.reduceAdd] at hF)))
      go_roundw
      case rel =>
        refine ⟨k + 1, _, _, by go_num, by omega, rfl, ?_⟩
        rw [HTK.out, strV, List.map_append]
        exact hS
      case measure => simp [intOf]; omega
    · obtain rfl : k = n := by omega
      rw [List.take_of_length_le (by rw [Hn.out]; omega)] at hS
      ((try clear hF); (first | have hF := And.intro hS.facts (HRD.out _ (hS.sub (by first | simp | ((repeat (first | exact List.nil_sublist _ | exact List.Sublist.refl _ | with_reducible apply List.Sublist.cons₂ | apply List.Sublist.cons)))))) | have hF := And.intro hS.facts (hR.at hS.ext) | have hF := hS.facts); simp only [HFacts, cellFacts, RFacts, cellOnly, and_true, true_and, Nat.zero_add, Nat.reduceAdd] at hF)
      go_wp2_with (first | ((with_reducible first | refine nhLa ?_ | refine nhLs ?_ | refine nhLd ?_ | refine nhCa ?_ | refine nhCs ?_ | refine nhCd ?_ | refine nhPa ?_ | refine nhPs ?_ | refine nhPd ?_ | refine nhKa ?_ | refine nhKs ?_ | refine nhKd ?_); ((try clear hF); clear hS; intro wk hS; (try simp only [List.set_cons_zero, List.set_cons_succ, heap_size, heap_set_size] at hS); ((try clear hF); (first | have hF := And.intro hS.facts (HRD.out _ (hS.sub (by first | simp | ((repeat (first | exact List.nil_sublist _ | exact List.Sublist.refl _ | with_reducible apply List.Sublist.cons₂ | apply List.Sublist.cons)))))) | have hF := And.intro hS.facts (hR.at hS.ext) | have hF := hS.facts); simp only [HFacts, cellFacts, RFacts, cellOnly, and_true, true_and, Nat.zero_add, Nat.reduceAdd] at hF))) | (go_at_call 54; (with_reducible refine (join_any (l.map itoS) ⟨#[44]⟩ 0 (by rw [List.length_map, Hn.out]) (by omega) HJ.out hS rfl).mono ?_); rintro e wk ⟨rfl, hX⟩; replace hS := hS.step hX; clear hX; ((try clear hF); (first | have hF := And.intro hS.facts (HRD.out _ (hS.sub (by first | simp | ((repeat (first | exact List.nil_sublist _ | exact List.Sublist.refl _ | with_reducible apply List.Sublist.cons₂ | apply List.Sublist.cons)))))) | have hF := And.intro hS.facts (hR.at hS.ext) | have hF := hS.facts); simp only [HFacts, cellFacts, RFacts, cellOnly, and_true, true_and, Nat.zero_add, Nat.reduceAdd] at hF)))
      go_ret
      exact ⟨rfl, hS.ext⟩
end Go.Proofs.YtcpnnffnkegamaaGreatDoor

/- The tables that a row of the log laws lists: what they tell of the world; a world that has them. -/
namespace Go.Proofs.YtcpnnffnkegamaaGreatDoor
set_option linter.unusedSimpArgs false
set_option linter.unusedVariables false
open Go.RowKit
set_option linter.all false
open Go.ChangeShapes Go.WideShapes Go.ChangeAt Go.Joins
theorem gKept : Tryz.prog.globalNamed "millpond/schema.kept" = some 0 := by kernel_rfl
theorem tKept : (Tryz.prog.globals[0]?).map (·.type) = some 95 := by kernel_rfl
theorem gPow : Tryz.prog.globalNamed "internal/strconv.uint64pow10" = some 2 := by kernel_rfl
theorem tPow : (Tryz.prog.globals[2]?).map (·.type) = some 177 := by kernel_rfl
theorem cPow : Tryz.prog.cellsOf 177 = 20 := by kernel_rfl
theorem cU64 : Tryz.prog.cellsOf 152 = 1 := by kernel_rfl
def laidL : List (String × DataW Unit) := [("math/bits.deBruijn32tab", Rows.laid_math_bits_deBruijn32tab), ("math/bits.deBruijn64tab", Rows.laid_math_bits_deBruijn64tab), ("internal/strconv.uint64pow10", Rows.laid_internal_strconv_uint64pow10), ("unicode/utf8.acceptRanges", Rows.laid_unicode_utf8_acceptRanges), ("millpond/schema.kept", Rows.laid_millpond_schema_kept), ("unicode/utf8.first", Rows.laid_unicode_utf8_first)]
theorem of_laid {W : World} (h : laidMetH Tryz.prog laidL W) : KeptAt W ∧ TabAt W := by
  rw [MakeChecks.laidMetH_plain _ _ _ (by kernel_rfl)] at h
  have h1 := h
  clear h
  obtain ⟨ps, ⟨_, _, _, _, _, _, _, _, _, _, ⟨_, _, _, _, _, _, _, _, _, _, ⟨g2, t2, cs2, f2, p2, q2, hg2, ht2, hv2, hd2, ⟨_, _, _, _, _, _, _, _, _, _, ⟨g0, t0, cs0, f0, p0, q0, hg0, ht0, hv0, hd0, _, _⟩, _⟩, _⟩, _⟩, _⟩, _, _⟩ := h1
  constructor
  · obtain rfl := Option.some.inj (gKept.symm.trans hg0)
    obtain rfl := Option.some.inj (tKept.symm.trans ht0)
    obtain ⟨xs, m1, rfl, hx1, hlen, hn3, hel⟩ := DataW.trod_array Tryz.underlying95 hd0
    have hx : xs.map (·.1) = [.lit (.string [97, 110, 100]), .lit (.string [105, 115]), .lit (.string [110, 111, 116]), .lit (.string [110, 117, 108, 108]), .lit (.string [111, 114])] := by
      have := (Prod.mk.inj hx1).1
      simpa [Rows.laid_millpond_schema_kept, eq_comm] using this
    intro j hj
    have hj' := hel j hj
    rw [Tryz.cellsString] at hj'
    obtain ⟨xj, hxj⟩ : ∃ x, xs[j]? = some x := ⟨_, List.getElem?_eq_getElem (by omega)⟩
    rw [hxj] at hj'
    obtain ⟨k, e1, e2, _⟩ := DataW.trod_string Tryz.underlying9 hj'
    have hc := World.var?_cell hg0 hv0 j
    have hk : (xs.map (·.1))[j]? = some (.lit (.string k.data.toList)) := by rw [List.getElem?_map, hxj, e2]; rfl
    rw [hx] at hk
    have e3 := congrArg List.head? e1
    simp [List.head?_take, List.head?_drop] at e3
    rw [hc, e3]
    have : k = keptL.getD j ByteArray.empty := by
      have hkd : ∀ l, k.data.toList = l → k = ⟨⟨l⟩⟩ := fun l hl => by
        obtain ⟨⟨d⟩⟩ := k
        simp at hl
        subst hl
        rfl
      rcases (by omega : j = 0 ∨ j = 1 ∨ j = 2 ∨ j = 3 ∨ j = 4) with rfl | rfl | rfl | rfl | rfl <;> simp at hk <;> exact hkd _ hk.symm
    rw [this]
  · obtain rfl := Option.some.inj (gPow.symm.trans hg2)
    obtain rfl := Option.some.inj (tPow.symm.trans ht2)
    have e := Lib.cells_of_tab (k := .u64) (zs := Lib.pow10Tab) Tryz.underlying177 Tryz.underlying152 cU64 cPow (show _ = some (Lib.tabData .u64 Lib.pow10Tab, p2) from hd2)
    unfold TabAt Lib.TabIs
    rw [hv2, ← e]
/-- a start: the settled world, the tables laid -/
noncomputable def baseW (os : Os) : World := World.holding Tryz.prog os ⟨#[], #[], []⟩
noncomputable def startW (os : Os) : World := (baseW os).layVars Tryz.prog laidL
theorem startW_os (os : Os) : (startW os).os = os := World.layVars_os _ _ _
theorem startW_data (os : Os) (args : Array Value) : laidMet Tryz.prog laidL ((startW os).forCall (fun _ _ => 0) ⟨#[], args, []⟩).memory := by
  have e1 : (laidL.filter fun x => (laidL.map (·.1)).contains x.1) = laidL := List.filter_eq_self.2 fun x hx => List.contains_iff_mem.2 (List.mem_map.2 ⟨x, hx, rfl⟩)
  have e2 : (laidL.filter fun x => !(laidL.map (·.1)).contains x.1) = [] := List.filter_eq_nil_iff.2 fun x hx => by rw [List.contains_iff_mem.2 (List.mem_map.2 ⟨x, hx, rfl⟩)]; simp
  have hf : (baseW os).layFits Tryz.prog laidL [] = true := by kernel_rfl
  have hi : (baseW os).layIfaces Tryz.prog laidL (startW os) = true := by kernel_rfl
  have h : laidMet Tryz.prog laidL (startW os) := laidMet_layVars (w0 := baseW os) (laidL.map (·.1)) [] (by rw [e1]; rfl) (by rw [e1]; exact hf) (by rw [e1]; exact hi) (by rw [e2]; exact LaidIn.none)
  exact h.of_heap (by simp [World.memory, World.forCall, Input.heap])
theorem startW_met (os : Os) (args : Array Value) : laidMetH Tryz.prog laidL ((startW os).forCall (fun _ _ => 0) ⟨#[], args, []⟩).memory :=
  laidMetH_of_parts3 (fuel := 8) (startW_data os args) (by kernel_rfl) (by kernel_rfl)
end Go.Proofs.YtcpnnffnkegamaaGreatDoor

/- what Apply leaves of a table: it stands, one version on. -/
namespace Go.Proofs.YtcpnnffnkegamaaGreatDoor
set_option linter.unusedSimpArgs false
set_option linter.unusedVariables false
open Go.RowKit
set_option linter.all false
theorem actS_ver (s : SN) (a : AN) : (actS s a).ver = s.ver := by
  unfold actS
  split
  · rfl
  split
  · rfl
  split
  · rfl
  split <;> rfl
theorem runA_good : ∀ (l : List AN) (k : Nat) (s s' : SN), Good s → runA k s l = .ok s' → Good s' ∧ s'.ver = s.ver
  | [], k, s, s', hg, h => by
    rw [runA] at h
    obtain rfl := Except.ok.inj h
    exact ⟨hg, rfl⟩
  | a :: l, k, s, s', hg, h => by
    rw [runA_cons] at h
    split at h
    · rename_i he
      have := runA_good l (k + 1) (actS s a) s' (hg.act he) h
      exact ⟨this.1, this.2.trans (actS_ver s a)⟩
    · cases h
theorem apply_good {s s' : SN} {tx : ByteArray} {l : List AN} (hg : Good s) (h : applyR s tx l = .ok s') : Good s' ∧ s'.ver = s.ver + 1 := by
  unfold applyR at h
  split at h
  · revert h
    cases hr : runA 0 { s with ver := s.ver + 1 } l with
    | ok x =>
      intro h
      obtain rfl := Except.ok.inj h
      exact runA_good l 0 _ _ (hg.ver _) hr
    | error e => intro h; cases h
  · cases h
end Go.Proofs.YtcpnnffnkegamaaGreatDoor

/- who does not fight may go first: the plain law. -/
namespace Go.Proofs.YtcpnnffnkegamaaGreatDoor
set_option linter.unusedSimpArgs false
set_option linter.unusedVariables false
open Go.RowKit
set_option linter.all false
theorem ba_toList_loop (bs : ByteArray) (i : Nat) (r : List UInt8) : ByteArray.toList.loop bs i r = r.reverse ++ bs.data.toList.drop i := by
  rw [ByteArray.toList.loop]
  split
  · rename_i h
    rw [ba_toList_loop]
    have h2 : i < bs.data.toList.length := by simpa using h
    rw [List.drop_eq_getElem_cons h2]
    simp only [List.reverse_cons, List.append_assoc, List.cons_append, List.nil_append]
    congr 2
    simp only [ByteArray.get!, Array.getElem!_eq_getD, Array.getD]
    rw [dif_pos (show i < bs.data.size from h)]
    rfl
  · rename_i h
    rw [List.drop_eq_nil_of_le (by have : bs.data.toList.length = bs.size := by rw [Array.length_toList]; rfl
                                   omega)]
    simp
termination_by bs.size - i
theorem ba_toList (bs : ByteArray) : bs.toList = bs.data.toList := by
  unfold ByteArray.toList
  rw [ba_toList_loop]
  simp
theorem pathEq_iff {p q : ByteArray} : pathEq p q = true ↔ q = p := by
  unfold pathEq
  rw [beq_iff_eq, ba_toList, ba_toList]
  exact ⟨fun h => ByteArray.ext (Array.toList_inj.1 h), fun h => by rw [h]⟩
def lk (l : List EN) (p : ByteArray) : Option EN := l.find? (fun e => pathEq p e.path)
theorem lk_cons (x : EN) (l : List EN) (p : ByteArray) : lk (x :: l) p = if x.path = p then some x else lk l p := by
  unfold lk
  rw [List.find?_cons]
  by_cases h : x.path = p
  · rw [if_pos h, pathEq_iff.2 h]
  · rw [if_neg h]
    cases hb : pathEq p x.path with
    | true => exact absurd (pathEq_iff.1 hb) h
    | false => rfl
theorem lk_path {l : List EN} {p : ByteArray} {e : EN} (h : lk l p = some e) : e.path = p ∧ e ∈ l := by
  unfold lk at h
  have := List.find?_some h
  exact ⟨pathEq_iff.1 this, List.mem_of_find?_eq_some h⟩
theorem lk_mem {l : List EN} (hn : (l.map (·.path)).Nodup) {e : EN} (he : e ∈ l) : lk l e.path = some e := by
  induction l with
  | nil => cases he
  | cons x l ih =>
    rw [lk_cons]
    rw [List.map_cons, List.nodup_cons] at hn
    rcases List.mem_cons.1 he with rfl | he
    · rw [if_pos rfl]
    · rw [if_neg (fun e' => hn.1 (by rw [e']; exact List.mem_map.2 ⟨e, he, rfl⟩))]
      exact ih hn.2 he
end Go.Proofs.YtcpnnffnkegamaaGreatDoor

/- millpondkeep.sameSet: true of two tables that have the same. -/
namespace Go.Proofs.YtcpnnffnkegamaaGreatDoor
set_option linter.unusedSimpArgs false
set_option linter.unusedVariables false
open Go.RowKit
set_option linter.all false
open Go.Maps (Keyed)
theorem zeroE (w : World) : (zeroValue 43).run Tryz.prog w = .ok (.agg #[.string ⟨#[]⟩, .int .i64 0, .slice none 0 0]) w := by kernel_rfl
theorem rightC_len {l : List CG} {n : Int} (h : rightC l n = true) : l.length ≤ 8 := by
  unfold rightC at h
  simp only [Bool.and_eq_true, decide_eq_true_eq] at h
  exact h.2.2
/-- what the map of a table's files tells -/
structure SetOk (B : Nat) (w0 : World) (K : List Item) (s : SN) (D : DataW Value) : Prop where
  kt : KT D (s.files.map (·.path))
  get : ∀ x, vhas D x = true → ∃ e ev, lk s.files x = some e ∧ (∀ z, vget D x z = evV ev) ∧ EvOk B w0 K ev e
theorem SetOk.more {B : Nat} {w0 : World} {K K' : List Item} {s : SN} {D : DataW Value} (h : SetOk B w0 K s D) (hK : ∀ W, Hp B w0 W K' → Hp B w0 W K) : SetOk B w0 K' s D :=
  ⟨h.kt, fun x hx => by obtain ⟨e, ev, h1, h2, h3⟩ := h.get x hx; exact ⟨e, ev, h1, h2, h3.more hK⟩⟩
theorem SetOk.has {B : Nat} {w0 : World} {K : List Item} {s : SN} {D : DataW Value} (h : SetOk B w0 K s D) {x : ByteArray} {e : EN} (he : lk s.files x = some e) : vhas D x = true := by
  rw [h.kt.mem]
  obtain ⟨h1, h2⟩ := lk_path he
  rw [← h1]
  exact List.mem_map.2 ⟨e, h2, rfl⟩
theorem setOk_of {B : Nat} {w0 : World} {K : List Item} {s : SN} {evs : List EV} (h : FsOk B w0 K evs s.files) (hg : Good s) : SetOk B w0 K s (setD evs) := by
  have hp := h.paths
  have hn : (evs.map (·.path)).Nodup := by rw [hp]; exact hg.once
  refine ⟨by rw [← hp]; exact setD_kt hn, fun x hx => ?_⟩
  have hm := ((setD_kt hn).mem x).1 hx
  obtain ⟨ev, hev, rfl⟩ := List.mem_map.1 hm
  obtain ⟨i, hi⟩ := List.getElem?_of_mem hev
  have hlt := (List.getElem?_eq_some_iff.1 hi).1
  obtain ⟨e, he⟩ : ∃ e, s.files[i]? = some e := ⟨_, List.getElem?_eq_getElem (by rw [← h.len]; exact hlt)⟩
  have ho := h.one i ev e hi he
  refine ⟨e, ev, ?_, fun z => setD_get hn hev z, ho⟩
  rw [ho.path]
  exact lk_mem hg.once (List.mem_of_getElem? he)
section
variable {B : Nat} {w0 w : World} {K : List Item}
end
end Go.Proofs.YtcpnnffnkegamaaGreatDoor
