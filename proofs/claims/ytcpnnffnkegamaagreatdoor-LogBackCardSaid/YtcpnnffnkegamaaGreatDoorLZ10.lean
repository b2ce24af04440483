/- Texts joined: log.Apply. millpondkeep.short: a commit is short. numbers in letters: strconv.Itoa; log.ints. The tables that a row of the log laws lists: what they tell of the world; a world that has them. log.number: a number in letters. log.quoted: a text, cut at a mark, but not between two '. what Apply leaves of a table: it stands, one version on. -/
import Derived.Test.YtcpnnffnkegamaaGreatDoorLZ09
import Derived.Test.YtcpnnffnkegamaaGreatDoorLZ08
import Derived.Test.YtcpnnffnkegamaaGreatDoorLZ05
import Derived.Test.YtcpnnffnkegamaaGreatDoorLZ01
import Derived.Test.YtcpnnffnkegamaaGreatDoorCards
import Derived.Test.YtcpnnffnkegamaaGreatDoorTie
import Derived.LaidMore
import Derived.LaidHandle
import Derived.Lay
import Derived.OpenShut
import Derived.Stop.Joined
import Derived.SevenTiedAt
import Derived.Lib.LaidTab
/- log.Apply. -/
namespace Go.Proofs.YtcpnnffnkegamaaGreatDoor
set_option linter.unusedSimpArgs false
set_option linter.unusedVariables false
open Go.RowKit
set_option linter.all false
/-- where a table's parts lie -/
structure SV where
  ca : Option Addr
  cn : Nat
  cc : Nat
  fa : Option Addr
  fn : Nat
  fc : Nat
  evs : List EV
structure SnK (B : Nat) (w0 : World) (K : List Item) (s : SN) (v : SV) : Prop where
  fs : FsOk B w0 K v.evs s.files
  fl : v.evs.length = v.fn
  fz : v.fa = none → v.fc = 0
  cl : s.cols.length = v.cn
  cg : v.cn ≤ v.cc
  cr : ∀ W, Hp B w0 W K → RC W v.ca s.cols
theorem SnK.more {B : Nat} {w0 : World} {K K' : List Item} {s : SN} {v : SV} (h : SnK B w0 K s v) (hK : ∀ W, Hp B w0 W K' → Hp B w0 W K) : SnK B w0 K' s v := ⟨h.fs.more hK, h.fl, h.fz, h.cl, h.cg, fun W hW => h.cr W (hK W hW)⟩
structure SnOk (B : Nat) (w0 : World) (K : List Item) (s : SN) (v : SV) : Prop where
  k : SnK B w0 K s v
  fr : ∀ W, Hp B w0 W K → RE W v.fa v.evs
theorem SnOk.more {B : Nat} {w0 : World} {K K' : List Item} {s : SN} {v : SV} (h : SnOk B w0 K s v) (hK : ∀ W, Hp B w0 W K' → Hp B w0 W K) : SnOk B w0 K' s v := ⟨h.k.more hK, fun W hW => h.fr W (hK W hW)⟩
theorem Good.fn {B : Nat} {w0 : World} {K : List Item} {s : SN} {v : SV} (hg : Good s) (h : SnK B w0 K s v) : v.fn ≤ 40 := by
  have := h.fl; have := h.fs.len; have := hg.few; omega
abbrev snV (s : SN) (v : SV) : Value := .agg #[.int .i64 s.ver, .slice v.ca v.cn v.cc, .int .i64 s.next, .slice v.fa v.fn v.fc]
abbrev coV (tx : ByteArray) (rd : Bool) (A : Option Addr) (n cap : Nat) : Value := .agg #[.string tx, .bool rd, .slice A n cap]
/-- the actions that lie at A -/
def RA (w : World) (A : Option Addr) (l : List (AN × AV)) : Prop := ∀ (k : Nat) (a : AN) (v : AV), l[k]? = some (a, v) → ∃ b o : Nat, A = some ⟨b, o, none⟩ ∧ w.cell? ⟨b, o + k * 6, none⟩ = some (.int .i64 a.kind) ∧ w.cell? ⟨b, o + k * 6 + 1, none⟩ = some (.string a.path) ∧ w.cell? ⟨b, o + k * 6 + 2, none⟩ = some (.int .i64 a.rows) ∧
  w.cell? ⟨b, o + k * 6 + 3, none⟩ = some (.slice v.qa v.qn v.qc) ∧ w.cell? ⟨b, o + k * 6 + 4, none⟩ = some (.slice v.ra v.rn v.rc) ∧ w.cell? ⟨b, o + k * 6 + 5, none⟩ = some (.int .i64 a.next)
/-- a commit's actions, one by one; or where it stops -/
def runA : Nat → SN → List AN → Except (Int × Nat) SN
  | _, s, [] => .ok s
  | k, s, a :: l => if actE s a = 0 then runA (k + 1) (actS s a) l else .error (actE s a, k)
def applyR (s : SN) (tx : ByteArray) (l : List AN) : Except (Int × Option Nat) SN :=
  if nameB tx = true then (match runA 0 { s with ver := s.ver + 1 } l with | .ok s' => .ok s' | .error (e, k) => .error (e, some k)) else .error (1, none)
theorem runA_cons {k : Nat} {s : SN} {a : AN} {l : List AN} : runA k s (a :: l) = if actE s a = 0 then runA (k + 1) (actS s a) l else .error (actE s a, k) := rfl
/-- what Apply answers -/
def ApRes (B : Nat) (w0 : World) (K J : List Item) (D : Except (Int × Option Nat) SN) (e : Ending) (w' : World) : Prop :=
  match D with
  | .error (n, none) => e = .returned (.tuple #[.agg #[.int .i64 0, .slice none 0 0, .int .i64 0, .slice none 0 0], .iface 66 (.int .i64 n)]) ∧ Hp B w0 w' K
  | .error (n, some k) => ∃ g, e = .returned (.tuple #[.agg #[.int .i64 0, .slice none 0 0, .int .i64 0, .slice none 0 0], .iface 70 (.pointer (some ⟨g, 0, none⟩))]) ∧ Hp B w0 w' (.blk g [.int .i64 n, .int .i64 k] 72 :: K)
  | .ok s => ∃ v M, e = .returned (.tuple #[snV s v, .nilIface]) ∧ Hp B w0 w' (M ++ K) ∧ SnOk B w0 (M ++ J) s v
section
variable {B : Nat} {w0 w : World} {K J : List Item}
theorem ApRes.atE {n : Int} {k g : Nat} (h : Hp B w0 w (.blk g [.int .i64 n, .int .i64 k] 72 :: K)) : ApRes B w0 K J (.error (n, some k)) (.returned (.tuple #[.agg #[.int .i64 0, .slice none 0 0, .int .i64 0, .slice none 0 0], .iface 70 (.pointer (some ⟨g, 0, none⟩))])) w := ⟨g, rfl, h⟩
theorem ApRes.good {s : SN} {v : SV} {M : List Item} (h : Hp B w0 w (M ++ K)) (hs : SnOk B w0 (M ++ J) s v) : ApRes B w0 K J (.ok s) (.returned (.tuple #[snV s v, .nilIface])) w := ⟨v, M, rfl, h, hs⟩
set_option maxRecDepth 100000 in
set_option maxHeartbeats 8000000 in
theorem apply_any (s : SN) (v : SV) (tx : ByteArray) (rd : Bool) (A : Option Addr) (n cap : Nat) (l : List (AN × AV)) (hn : l.length = n) (hn2 : n ≤ 1000) (hJ : J.Sublist K) (HSN : Hid (SnOk B w0 J s v)) (hg : Good s) (hv : s.ver < 1000000000) (hv0 : 0 ≤ s.ver)
    (HRA : Hid (∀ W, Hp B w0 W J → RA W A l)) (HAV : Hid (∀ a v, (a, v) ∈ l → AcOk B w0 J a v)) (HKP : Hid (∀ W, Hp B w0 W J → KeptAt W)) (hS : Hp B w0 w K) :
    Calls Tryz.prog 9 #[snV s v, coV tx rd A n cap] w fun e w' => ApRes B w0 K J (applyR s tx (l.map (·.1))) e w' := by
  have HN := Lib.hid (fun W => name_any tx W)
  obtain ⟨D, hD⟩ : ∃ D, D = applyR s tx (l.map (·.1)) := ⟨_, rfl⟩
  rw [← hD]
  have HD := Lib.hid hD
  clear hD
  unfold applyR at HD
  obtain ⟨nb, hnb⟩ : ∃ b, b = nameB tx := ⟨_, rfl⟩
  rw [← hnb] at HN HD
  clear hnb
  have hR := Reads.nil w
  cases nb with
  | false =>
    have HD1 := Lib.hid (show D = .error (1, none) by rw [HD.out]; rfl)
    rw [HD1.out]
    clear HD HD1
    have hF : True := trivial
    go_enter Tryz.func9, Tryz.ntmps9
    go_wp2_with (first | ((with_reducible first | refine nhLa ?_ | refine nhLs ?_ | refine nhLd ?_ | refine nhCa ?_ | refine nhCs ?_ | refine nhCd ?_ | refine nhPa ?_ | refine nhPs ?_ | refine nhPd ?_ | refine nhKa ?_ | refine nhKs ?_ | refine nhKd ?_); ((try clear hF); clear hS; intro wk hS; (try simp only [List.set_cons_zero, List.set_cons_succ, heap_size, heap_set_size] at hS); ((try clear hF); (first | have hF := And.intro hS.facts (HRD.out _ (hS.sub (by first | simp | ((repeat (first | exact List.nil_sublist _ | exact List.Sublist.refl _ | with_reducible apply List.Sublist.cons₂ | apply List.Sublist.cons)))))) | have hF := And.intro hS.facts (hR.at hS.ext) | have hF := hS.facts); simp only [HFacts, cellFacts, RFacts, cellOnly, and_true, true_and, Nat.zero_add, Nat.reduceAdd] at hF))) | (go_at_call 21; (with_reducible refine (HN.out _).mono ?_); rintro e wk ⟨rfl, hX⟩; replace hS := hS.step hX; clear hX; ((try clear hF); (first | have hF := And.intro hS.facts (HRD.out _ (hS.sub (by first | simp | ((repeat (first | exact List.nil_sublist _ | exact List.Sublist.refl _ | with_reducible apply List.Sublist.cons₂ | apply List.Sublist.cons)))))) | have hF := And.intro hS.facts (hR.at hS.ext) | have hF := hS.facts); simp only [HFacts, cellFacts, RFacts, cellOnly, and_true, true_and, Nat.zero_add, Nat.reduceAdd] at hF)))
    exact ⟨rfl, .tuple #[.agg #[.int .i64 0, .slice none 0 0, .int .i64 0, .slice none 0 0], .iface 66 (.int .i64 1)], by simp [results, Tryz.results9, go_sem, hF], by unfold ApRes; exact ⟨rfl, hS.sub (by first | simp | ((repeat (first | exact List.nil_sublist _ | exact List.Sublist.refl _ | with_reducible apply List.Sublist.cons₂ | apply List.Sublist.cons))))⟩⟩
  | true =>
    have HD1 := Lib.hid (show D = (match runA 0 { s with ver := s.ver + 1 } (l.map (·.1)) with | .ok s' => .ok s' | .error (e, k) => .error (e, some k)) by rw [HD.out]; rfl)
    have e1 : IntKind.i64.wrap (s.ver + 1) = s.ver + 1 := IntWalk.i64_in _ (by omega)
    have HCL := Lib.hid (fun W (h : Hp B w0 W K) => eclone_any v.evs v.fa v.fn v.fc W HSN.out.k.fl (HSN.out.fr W (h.sub hJ)) HSN.out.k.fz (by have := hg.fn HSN.out.k; omega))
    clear HD
    have hF : True := trivial
    go_enter Tryz.func9, Tryz.ntmps9
    go_wp2_with (first | ((with_reducible first | refine nhLa ?_ | refine nhLs ?_ | refine nhLd ?_ | refine nhCa ?_ | refine nhCs ?_ | refine nhCd ?_ | refine nhPa ?_ | refine nhPs ?_ | refine nhPd ?_ | refine nhKa ?_ | refine nhKs ?_ | refine nhKd ?_); ((try clear hF); clear hS; intro wk hS; (try simp only [List.set_cons_zero, List.set_cons_succ, heap_size, heap_set_size] at hS); ((try clear hF); (first | have hF := And.intro hS.facts (HRD.out _ (hS.sub (by first | simp | ((repeat (first | exact List.nil_sublist _ | exact List.Sublist.refl _ | with_reducible apply List.Sublist.cons₂ | apply List.Sublist.cons)))))) | have hF := And.intro hS.facts (hR.at hS.ext) | have hF := hS.facts); simp only [HFacts, cellFacts, RFacts, cellOnly, and_true, true_and, Nat.zero_add, Nat.reduceAdd] at hF))) | (go_at_call 21; (with_reducible refine (HN.out _).mono ?_); rintro e wk ⟨rfl, hX⟩; replace hS := hS.step hX; clear hX; ((try clear hF); (first | have hF := And.intro hS.facts (HRD.out _ (hS.sub (by first | simp | ((repeat (first | exact List.nil_sublist _ | exact List.Sublist.refl _ | with_reducible apply List.Sublist.cons₂ | apply List.Sublist.cons)))))) | have hF := And.intro hS.facts (hR.at hS.ext) | have hF := hS.facts); simp only [HFacts, cellFacts, RFacts, cellOnly, and_true, true_and, Nat.zero_add, Nat.reduceAdd] at hF)) | (go_at_call 22; (with_reducible refine Calls.mono (HCL.out _ (hS.sub (by first | simp | ((repeat (first | exact List.nil_sublist _ | exact List.Sublist.refl _ | with_reducible apply List.Sublist.cons₂ | apply List.Sublist.cons)))))) ?_); rintro e wk ⟨Af, cf, rfl, hz, hW⟩; replace hS := hS.join hW; clear hW; simp only [List.cons_append, List.nil_append] at hS; ((try clear hF); (first | have hF := And.intro hS.facts (HRD.out _ (hS.sub (by first | simp | ((repeat (first | exact List.nil_sublist _ | exact List.Sublist.refl _ | with_reducible apply List.Sublist.cons₂ | apply List.Sublist.cons)))))) | have hF := And.intro hS.facts (hR.at hS.ext) | have hF := hS.facts); simp only [HFacts, cellFacts, RFacts, cellOnly, and_true, true_and, Nat.zero_add, Nat.reduceAdd] at hF)))
    rename_i w7 w6 w5 w4 w3 w2 w1 w8 Kc ac
    clear hF hR
    replace hS := hS.front 1 rfl
    simp only [List.eraseIdx_cons_zero, List.eraseIdx_cons_succ] at hS
    generalize w7.heap.size = g3 at *
    generalize w6.heap.size = g4 at *
    generalize w4.heap.size = g6 at *
    obtain ⟨K2, hK2⟩ : ∃ L : List Item, L = [.blk g4 [.int .i64 0, .slice none 0 0, .int .i64 0, .slice none 0 0] 27, .blk g3 [.string tx, .bool rd, .slice A n cap] 35, .blk w.heap.size [.int .i64 s.ver, .slice v.ca v.cn v.cc, .int .i64 s.next, .slice v.fa v.fn v.fc] 27] ++ K := ⟨_, rfl⟩
    have HK2 := Lib.hid (show ∀ M W, Hp B w0 W (M ++ K2) → Hp B w0 W (M ++ J) by rw [hK2]; exact fun M W h => h.sub ((List.Sublist.refl M).append (hJ.trans (List.sublist_append_right _ K))))
    have hg1 := hg.ver (s.ver + 1)
    obtain ⟨s1, hs1⟩ : ∃ x, x = ({ s with ver := s.ver + 1 } : SN) := ⟨_, rfl⟩
    rw [← hs1] at hg1 HD1
    have ini : Hp B w0 wk (.blk g6 [.int .i64 s1.ver, .slice v.ca v.cn v.cc, .int .i64 s1.next, .slice Af v.fn cf] 27 :: .row 43 3 Af v.fn cf (cellsE v.evs) :: K2) := by rw [hs1, hK2]; exact hS
    have hk1 : SnK B w0 J s1 { v with fa := Af, fc := cf } := by
      have := HSN.out.k
      rw [hs1]
      exact ⟨this.fs, this.fl, hz, this.cl, this.cg, this.cr⟩
    clear hS hg hz HCL HN hs1
    go_loopw [28] (fun i wr => ∃ (k : Nat) (s' : SN) (v' : SV) (M : List Item), i = .int .i64 k ∧ k ≤ n ∧ Hid (runA 0 s1 (l.map (·.1)) = runA k s' ((l.map (·.1)).drop k)) ∧ Hid (Good s') ∧ Hid (SnK B w0 (M ++ J) s' v') ∧ Hp B w0 wr (.blk g6 [.int .i64 s'.ver, .slice v'.ca v'.cn v'.cc, .int .i64 s'.next, .slice v'.fa v'.fn v'.fc] 27 :: .row 43 3 v'.fa v'.fn v'.fc (cellsE v'.evs) :: (M ++ K2))) (fun i _ => n - (intOf i).toNat)
    case atStart => exact ⟨0, s1, { v with fa := Af, fc := cf }, [], rfl, Nat.zero_le _, Lib.hid rfl, Lib.hid hg1, Lib.hid hk1, ini⟩
    case round =>
      clear ini hk1 hg1
      obtain ⟨k, s', v', M, rfl, hk, HRN, HG, HSK, hS⟩ := hrel
      by_cases hlt : k < n
      · obtain ⟨⟨a, va⟩, ha⟩ : ∃ x, l[k]? = some x := ⟨_, List.getElem?_eq_getElem (by omega)⟩
        obtain ⟨b, o, hA, _⟩ := HRA.out _ ((HK2.out M _ hS.tail.tail).sub (List.sublist_append_right M J)) k a va ha
        have HRD := Lib.hid (fun (W : World) (h : Hp B w0 W (M ++ K2)) => show W.cell? ⟨b, o + k * 6, none⟩ = some (.int .i64 a.kind) ∧ W.cell? ⟨b, o + k * 6 + 1, none⟩ = some (.string a.path) ∧ W.cell? ⟨b, o + k * 6 + 2, none⟩ = some (.int .i64 a.rows) ∧
            W.cell? ⟨b, o + k * 6 + 3, none⟩ = some (.slice va.qa va.qn va.qc) ∧ W.cell? ⟨b, o + k * 6 + 4, none⟩ = some (.slice va.ra va.rn va.rc) ∧ W.cell? ⟨b, o + k * 6 + 5, none⟩ = some (.int .i64 a.next) from by
          obtain ⟨b', o', hA', c⟩ := HRA.out _ ((HK2.out M _ h).sub (List.sublist_append_right M J)) k a va ha
          obtain ⟨rfl, rfl⟩ : b = b' ∧ o = o' := by rw [hA] at hA'; simpa using hA'
          exact c)
        subst hA
        have hdr : (l.map (·.1)).drop k = a :: (l.map (·.1)).drop (k + 1) := by
          have h1 : (l.map (·.1))[k]? = some a := by rw [List.getElem?_map, ha]; rfl
          obtain ⟨h2, h3⟩ := List.getElem?_eq_some_iff.1 h1
          rw [List.drop_eq_getElem_cons h2, h3]
        have HRN2 := Lib.hid (show runA 0 s1 (l.map (·.1)) = if actE s' a = 0 then runA (k + 1) (actS s' a) ((l.map (·.1)).drop (k + 1)) else .error (actE s' a, k) by rw [HRN.out, hdr]; rfl)
        have hav := (HAV.out a va (List.mem_of_getElem? ha)).more fun W (h : Hp B w0 W (M ++ K2)) => (HK2.out M W h).sub (List.sublist_append_right M J)
        have hf40 := HG.out.fn HSK.out
        have HAC := Lib.hid (fun (W : World) (hW : Hp B w0 W (.blk g6 [.int .i64 s'.ver, .slice v'.ca v'.cn v'.cc, .int .i64 s'.next, .slice v'.fa v'.fn v'.fc] 27 :: .row 43 3 v'.fa v'.fn v'.fc (cellsE v'.evs) :: (M ++ K2))) =>
          action_any s' a va g6 v'.ca v'.fa v'.cn v'.cc v'.fn v'.fc v'.evs HSK.out.fl (by omega) HSK.out.fs HSK.out.fz HSK.out.cl HSK.out.cg HSK.out.cr (fun W h => HKP.out W ((HK2.out M W h).sub (List.sublist_append_right M J))) (fun W h => HK2.out M W h) hav (fun e he => by have := HG.out.mask he; omega) (w := W) (by unfold snB; exact hW))
        clear HRN hdr hav hf40 ha
        by_cases he : actE s' a = 0
        · have be : (actE s' a == 0) = true := by simp [he]
          ((try clear hF); (first | have hF := And.intro hS.facts (HRD.out _ (hS.sub (by first | simp | ((repeat (first | exact List.nil_sublist _ | exact List.Sublist.refl _ | with_reducible apply List.Sublist.cons₂ | apply List.Sublist.cons)))))) | have hF := And.intro hS.facts (hR.at hS.ext) | have hF := hS.facts); simp only [HFacts, cellFacts, RFacts, cellOnly, and_true, true_and, Nat.zero_add, Nat.reduceAdd] at hF)
          go_wp2_with (first | ((with_reducible first | refine nhLa ?_ | refine nhLs ?_ | refine nhLd ?_ | refine nhCa ?_ | refine nhCs ?_ | refine nhCd ?_ | refine nhPa ?_ | refine nhPs ?_ | refine nhPd ?_ | refine nhKa ?_ | refine nhKs ?_ | refine nhKd ?_); ((try clear hF); clear hS; intro wk hS; (try simp only [List.set_cons_zero, List.set_cons_succ, heap_size, heap_set_size] at hS); ((try clear hF); (first | have hF := And.intro hS.facts (HRD.out _ (hS.sub (by first | simp | ((repeat (first | exact List.nil_sublist _ | exact List.Sublist.refl _ | with_reducible apply List.Sublist.cons₂ | apply List.Sublist.cons)))))) | have hF := And.intro hS.facts (hR.at hS.ext) | have hF := hS.facts); simp only [HFacts, cellFacts, RFacts, cellOnly, and_true, true_and, Nat.zero_add, Nat.reduceAdd] at hF))) | (go_at_call 23; (with_reducible refine Calls.mono (HAC.out _ hS.tail) ?_); clear hS; rintro e wk ⟨he1, hW⟩; rw [he] at he1; subst he1; unfold ActRes at hW; rw [if_pos he] at hW; obtain ⟨Ac2, nc2, cc2, Af2, nf2, cf2, ev2, M2, hS, hfs2, hcl2, hcg2, hfl2, hfz2, hcr2⟩ := hW; rw [← List.append_assoc] at hS hfs2 hcr2; clear HRD; unfold snB eRow at hS; ((try clear hF); (first | have hF := And.intro hS.facts (HRD.out _ (hS.sub (by first | simp | ((repeat (first | exact List.nil_sublist _ | exact List.Sublist.refl _ | with_reducible apply List.Sublist.cons₂ | apply List.Sublist.cons)))))) | have hF := And.intro hS.facts (hR.at hS.ext) | have hF := hS.facts); simp only [HFacts, cellFacts, RFacts, cellOnly, and_true, true_and, Nat.zero_add, Nat.reduceAdd] at hF)))
          go_roundw
          case rel => exact ⟨k + 1, actS s' a, ⟨Ac2, nc2, cc2, Af2, nf2, cf2, ev2⟩, M2 ++ M, by go_num, by omega, Lib.hid (by rw [HRN2.out, if_pos he]), Lib.hid (HG.out.act he), Lib.hid ⟨hfs2, hfl2, hfz2, hcl2, hcg2, hcr2⟩, hS⟩
          case measure => simp [intOf]; omega
        · have hDe : D = .error (actE s' a, some k) := by rw [HD1.out, HRN2.out, if_neg he]
          clear HD1
          subst hDe
          have be : (actE s' a == 0) = false := by simp [he]
          ((try clear hF); (first | have hF := And.intro hS.facts (HRD.out _ (hS.sub (by first | simp | ((repeat (first | exact List.nil_sublist _ | exact List.Sublist.refl _ | with_reducible apply List.Sublist.cons₂ | apply List.Sublist.cons)))))) | have hF := And.intro hS.facts (hR.at hS.ext) | have hF := hS.facts); simp only [HFacts, cellFacts, RFacts, cellOnly, and_true, true_and, Nat.zero_add, Nat.reduceAdd] at hF)
          go_wp2_with (first | ((with_reducible first | refine nhLa ?_ | refine nhLs ?_ | refine nhLd ?_ | refine nhCa ?_ | refine nhCs ?_ | refine nhCd ?_ | refine nhPa ?_ | refine nhPs ?_ | refine nhPd ?_ | refine nhKa ?_ | refine nhKs ?_ | refine nhKd ?_); ((try clear hF); clear hS; intro wk hS; (try simp only [List.set_cons_zero, List.set_cons_succ, heap_size, heap_set_size] at hS); ((try clear hF); (first | have hF := And.intro hS.facts (HRD.out _ (hS.sub (by first | simp | ((repeat (first | exact List.nil_sublist _ | exact List.Sublist.refl _ | with_reducible apply List.Sublist.cons₂ | apply List.Sublist.cons)))))) | have hF := And.intro hS.facts (hR.at hS.ext) | have hF := hS.facts); simp only [HFacts, cellFacts, RFacts, cellOnly, and_true, true_and, Nat.zero_add, Nat.reduceAdd] at hF))) | (go_at_call 23; (with_reducible refine Calls.mono (HAC.out _ hS.tail) ?_); clear hS; rintro e wk ⟨rfl, hW⟩; unfold ActRes at hW; rw [if_neg he] at hW; have hS := hW.sub (List.sublist_append_right M K2); clear hW HRD; rw [hK2] at hS; simp only [List.cons_append, List.nil_append] at hS; ((try clear hF); (first | have hF := And.intro hS.facts (HRD.out _ (hS.sub (by first | simp | ((repeat (first | exact List.nil_sublist _ | exact List.Sublist.refl _ | with_reducible apply List.Sublist.cons₂ | apply List.Sublist.cons)))))) | have hF := And.intro hS.facts (hR.at hS.ext) | have hF := hS.facts); simp only [HFacts, cellFacts, RFacts, cellOnly, and_true, true_and, Nat.zero_add, Nat.reduceAdd] at hF)))
          have hT := ((hS.drop 1).drop 1).drop 1
          refine ⟨rfl, .tuple #[.agg #[.int .i64 0, .slice none 0 0, .int .i64 0, .slice none 0 0], .iface 70 (.pointer (some ⟨_, 0, none⟩))], ?_, ApRes.atE hT⟩
          simp [results, Tryz.results9, go_sem, hF]
      · obtain rfl : n = k := by omega
        have hDe : D = .ok s' := by rw [HD1.out, HRN.out, List.drop_eq_nil_of_le (by rw [List.length_map]; omega)]; rfl
        clear HD1
        subst hDe
        rw [hK2] at hS
        replace hS : Hp B w0 wr (.blk g4 [.int .i64 0, .slice none 0 0, .int .i64 0, .slice none 0 0] 27 :: .blk g6 [.int .i64 s'.ver, .slice v'.ca v'.cn v'.cc, .int .i64 s'.next, .slice v'.fa v'.fn v'.fc] 27 :: .row 43 3 v'.fa v'.fn v'.fc (cellsE v'.evs) :: (M ++ (.blk g3 [.string tx, .bool rd, .slice A n cap] 35 :: .blk w.heap.size [.int .i64 s.ver, .slice v.ca v.cn v.cc, .int .i64 s.next, .slice v.fa v.fn v.fc] 27 :: K))) := hS.perm (List.perm_middle (l₁ := _ :: _ :: M)).symm
        ((try clear hF); (first | have hF := And.intro hS.facts (HRD.out _ (hS.sub (by first | simp | ((repeat (first | exact List.nil_sublist _ | exact List.Sublist.refl _ | with_reducible apply List.Sublist.cons₂ | apply List.Sublist.cons)))))) | have hF := And.intro hS.facts (hR.at hS.ext) | have hF := hS.facts); simp only [HFacts, cellFacts, RFacts, cellOnly, and_true, true_and, Nat.zero_add, Nat.reduceAdd] at hF)
        go_wp2_with (first | ((with_reducible first | refine nhLa ?_ | refine nhLs ?_ | refine nhLd ?_ | refine nhCa ?_ | refine nhCs ?_ | refine nhCd ?_ | refine nhPa ?_ | refine nhPs ?_ | refine nhPd ?_ | refine nhKa ?_ | refine nhKs ?_ | refine nhKd ?_); ((try clear hF); clear hS; intro wk hS; (try simp only [List.set_cons_zero, List.set_cons_succ, heap_size, heap_set_size] at hS); ((try clear hF); (first | have hF := And.intro hS.facts (HRD.out _ (hS.sub (by first | simp | ((repeat (first | exact List.nil_sublist _ | exact List.Sublist.refl _ | with_reducible apply List.Sublist.cons₂ | apply List.Sublist.cons)))))) | have hF := And.intro hS.facts (hR.at hS.ext) | have hF := hS.facts); simp only [HFacts, cellFacts, RFacts, cellOnly, and_true, true_and, Nat.zero_add, Nat.reduceAdd] at hF))) | fail)
        have hT : Hp B w0 _ ((.row 43 3 v'.fa v'.fn v'.fc (cellsE v'.evs) :: M) ++ K) := (hS.tail.tail).sub (List.Sublist.cons_cons _ ((List.Sublist.refl M).append (List.sublist_append_right [_, _] K)))
        refine ⟨rfl, .tuple #[snV s' v', .nilIface], ?_, ApRes.good (M := .row 43 3 v'.fa v'.fn v'.fc (cellsE v'.evs) :: M) hT ⟨HSK.out.more fun W h => h.tail, fun W h => h.re 0 rfl⟩⟩
        simp [results, Tryz.results9, go_sem, hF]
end
end Go.Proofs.YtcpnnffnkegamaaGreatDoor

/- millpondkeep.short: a commit is short. -/
namespace Go.Proofs.YtcpnnffnkegamaaGreatDoor
set_option linter.unusedSimpArgs false
set_option linter.unusedVariables false
open Go.RowKit
set_option linter.all false
def shortAc (a : AN) : Bool := decide (a.path.size ≤ 60) && decide (a.mask.length ≤ 70) && shortCs a.cols
def shortCo (tx : ByteArray) (l : List AN) : Bool := decide (tx.size ≤ 60) && decide (l.length ≤ 12) && l.all shortAc
set_option maxRecDepth 100000 in
set_option maxHeartbeats 8000000 in
theorem short_any (tx : ByteArray) (rd : Bool) (l : List (AN × AV)) (A : Option Addr) (n cap : Nat) (w : World) (hn : l.length = n) (hr : RA w A l)
    (hl : ∀ a v, (a, v) ∈ l → a.mask.length = v.qn ∧ a.cols.length = v.rn ∧ RC w v.ra a.cols) :
    Calls Tryz.prog 8 #[coV tx rd A n cap] w fun e w' => e = .returned (.bool (shortCo tx (l.map (·.1)))) ∧ Ext w w' := by
  have Hn := Lib.hid hn
  have HL := Lib.hid hl
  unfold shortCo
  rw [List.length_map, hn]
  clear hn hl
  have hS := Hp.init w
  have hR := Reads.nil w
  by_cases h60 : 60 < tx.size
  · rw [show decide (tx.size ≤ 60) = false by simp; omega]
    go_enter Tryz.func8, Tryz.ntmps8
    go_wp2_with (first | ((with_reducible first | refine nhLa ?_ | refine nhLs ?_ | refine nhLd ?_ | refine nhCa ?_ | refine nhCs ?_ | refine nhCd ?_ | refine nhPa ?_ | refine nhPs ?_ | refine nhPd ?_ | refine nhKa ?_ | refine nhKs ?_ | refine nhKd ?_); ((try clear hF); clear hS; intro wk hS; (try simp only [List.set_cons_zero, List.set_cons_succ, heap_size, heap_set_size] at hS); ((try clear hF); (first | have hF := And.intro hS.facts (HRD.out _ (hS.sub (by first | simp | ((repeat (first | exact List.nil_sublist _ | exact List.Sublist.refl _ | with_reducible apply List.Sublist.cons₂ | apply List.Sublist.cons)))))) | have hF := And.intro hS.facts (hR.at hS.ext) | have hF := hS.facts); simp only [HFacts, cellFacts, RFacts, cellOnly, and_true, true_and, Nat.zero_add, Nat.reduceAdd] at hF))) | fail)
    go_ret
    exact ⟨rfl, hS.ext⟩
  by_cases h12 : 12 < n
  · rw [show decide (n ≤ 12) = false by simp; omega, Bool.and_false]
    go_enter Tryz.func8, Tryz.ntmps8
    go_wp2_with (first | ((with_reducible first | refine nhLa ?_ | refine nhLs ?_ | refine nhLd ?_ | refine nhCa ?_ | refine nhCs ?_ | refine nhCd ?_ | refine nhPa ?_ | refine nhPs ?_ | refine nhPd ?_ | refine nhKa ?_ | refine nhKs ?_ | refine nhKd ?_); ((try clear hF); clear hS; intro wk hS; (try simp only [List.set_cons_zero, List.set_cons_succ, heap_size, heap_set_size] at hS); ((try clear hF); (first | have hF := And.intro hS.facts (HRD.out _ (hS.sub (by first | simp | ((repeat (first | exact List.nil_sublist _ | exact List.Sublist.refl _ | with_reducible apply List.Sublist.cons₂ | apply List.Sublist.cons)))))) | have hF := And.intro hS.facts (hR.at hS.ext) | have hF := hS.facts); simp only [HFacts, cellFacts, RFacts, cellOnly, and_true, true_and, Nat.zero_add, Nat.reduceAdd] at hF))) | fail)
    go_ret
    exact ⟨rfl, hS.ext⟩
  · rw [show decide (n ≤ 12) = true by simp; omega, show decide (tx.size ≤ 60) = true by simp; omega, Bool.true_and, Bool.true_and]
    obtain ⟨D, hD⟩ : ∃ D, D = (l.map (·.1)).all shortAc := ⟨_, rfl⟩
    rw [← hD]
    have HD := Lib.hid hD
    clear hD
    go_enter Tryz.func8, Tryz.ntmps8
    go_wp2_with (first | ((with_reducible first | refine nhLa ?_ | refine nhLs ?_ | refine nhLd ?_ | refine nhCa ?_ | refine nhCs ?_ | refine nhCd ?_ | refine nhPa ?_ | refine nhPs ?_ | refine nhPd ?_ | refine nhKa ?_ | refine nhKs ?_ | refine nhKd ?_); ((try clear hF); clear hS; intro wk hS; (try simp only [List.set_cons_zero, List.set_cons_succ, heap_size, heap_set_size] at hS); ((try clear hF); (first | have hF := And.intro hS.facts (HRD.out _ (hS.sub (by first | simp | ((repeat (first | exact List.nil_sublist _ | exact List.Sublist.refl _ | with_reducible apply List.Sublist.cons₂ | apply List.Sublist.cons)))))) | have hF := And.intro hS.facts (hR.at hS.ext) | have hF := hS.facts); simp only [HFacts, cellFacts, RFacts, cellOnly, and_true, true_and, Nat.zero_add, Nat.reduceAdd] at hF))) | fail)
    go_loopw [3] (fun i wr => ∃ k : Nat, i = .int .i64 k ∧ k ≤ n ∧ Hid (((l.map (·.1)).take k).all shortAc = true) ∧ Hp w.heap.size w wr [.blk w.heap.size [.string tx, .bool rd, .slice A n cap] 35]) (fun i _ => n - (intOf i).toNat)
    case atStart => exact ⟨0, rfl, Nat.zero_le _, Lib.hid rfl, hS⟩
    case round =>
      clear hS
      obtain ⟨k, rfl, hk, hf, hS⟩ := hrel
      by_cases hlt : k < n
      · obtain ⟨⟨a, v⟩, ha⟩ : ∃ x, l[k]? = some x := ⟨l[k]'(by rw [Hn.out]; exact hlt), List.getElem?_eq_getElem _⟩
        obtain ⟨b, o, rfl, c0, c1, c2, c3, c4, c5⟩ := hr k a v ha
        have hR := Reads.cell c0 (Reads.cell c1 (Reads.cell c2 (Reads.cell c3 (Reads.cell c4 (Reads.cell c5 (Reads.nil w))))))
        have HX := Lib.hid (show (l.map (·.1))[k]? = some a by rw [List.getElem?_map, ha]; rfl)
        obtain ⟨q1, q2, q3⟩ := HL.out a v (List.mem_of_getElem? ha)
        have HCO := Lib.hid (fun (W : World) (hx : Ext w W) => columns_any a.cols v.ra v.rn v.rc W q2 (q3.ext hx))
        clear c0 c1 c2 c3 c4 c5 hr ha q3
        by_cases e1 : 60 < a.path.size
        · have hDe : D = false := HD.out.trans (all_not HX.out (show shortAc a = false by unfold shortAc; rw [decide_eq_false (p := a.path.size ≤ 60) (by omega)]; rfl))
          clear HD
          subst hDe
          ((try clear hF); (first | have hF := And.intro hS.facts (HRD.out _ (hS.sub (by first | simp | ((repeat (first | exact List.nil_sublist _ | exact List.Sublist.refl _ | with_reducible apply List.Sublist.cons₂ | apply List.Sublist.cons)))))) | have hF := And.intro hS.facts (hR.at hS.ext) | have hF := hS.facts); simp only [HFacts, cellFacts, RFacts, cellOnly, and_true, true_and, Nat.zero_add, Nat.reduceAdd] at hF)
          go_wp2_with (first | ((with_reducible first | refine nhLa ?_ | refine nhLs ?_ | refine nhLd ?_ | refine nhCa ?_ | refine nhCs ?_ | refine nhCd ?_ | refine nhPa ?_ | refine nhPs ?_ | refine nhPd ?_ | refine nhKa ?_ | refine nhKs ?_ | refine nhKd ?_); ((try clear hF); clear hS; intro wk hS; (try simp only [List.set_cons_zero, List.set_cons_succ, heap_size, heap_set_size] at hS); ((try clear hF); (first | have hF := And.intro hS.facts (HRD.out _ (hS.sub (by first | simp | ((repeat (first | exact List.nil_sublist _ | exact List.Sublist.refl _ | with_reducible apply List.Sublist.cons₂ | apply List.Sublist.cons)))))) | have hF := And.intro hS.facts (hR.at hS.ext) | have hF := hS.facts); simp only [HFacts, cellFacts, RFacts, cellOnly, and_true, true_and, Nat.zero_add, Nat.reduceAdd] at hF))) | fail)
          go_ret
          exact ⟨rfl, hS.ext⟩
        by_cases e2 : 70 < v.qn
        · have hDe : D = false := HD.out.trans (all_not HX.out (show shortAc a = false by unfold shortAc; rw [decide_eq_false (p := a.mask.length ≤ 70) (by omega), Bool.and_false]; rfl))
          clear HD
          subst hDe
          ((try clear hF); (first | have hF := And.intro hS.facts (HRD.out _ (hS.sub (by first | simp | ((repeat (first | exact List.nil_sublist _ | exact List.Sublist.refl _ | with_reducible apply List.Sublist.cons₂ | apply List.Sublist.cons)))))) | have hF := And.intro hS.facts (hR.at hS.ext) | have hF := hS.facts); simp only [HFacts, cellFacts, RFacts, cellOnly, and_true, true_and, Nat.zero_add, Nat.reduceAdd] at hF)
          go_wp2_with (first | ((with_reducible first | refine nhLa ?_ | refine nhLs ?_ | refine nhLd ?_ | refine nhCa ?_ | refine nhCs ?_ | refine nhCd ?_ | refine nhPa ?_ | refine nhPs ?_ | refine nhPd ?_ | refine nhKa ?_ | refine nhKs ?_ | refine nhKd ?_); ((try clear hF); clear hS; intro wk hS; (try simp only [List.set_cons_zero, List.set_cons_succ, heap_size, heap_set_size] at hS); ((try clear hF); (first | have hF := And.intro hS.facts (HRD.out _ (hS.sub (by first | simp | ((repeat (first | exact List.nil_sublist _ | exact List.Sublist.refl _ | with_reducible apply List.Sublist.cons₂ | apply List.Sublist.cons)))))) | have hF := And.intro hS.facts (hR.at hS.ext) | have hF := hS.facts); simp only [HFacts, cellFacts, RFacts, cellOnly, and_true, true_and, Nat.zero_add, Nat.reduceAdd] at hF))) | fail)
          go_ret
          exact ⟨rfl, hS.ext⟩
        have HSA := Lib.hid (show shortAc a = shortCs a.cols by unfold shortAc; rw [decide_eq_true (by omega), decide_eq_true (by omega)]; rfl)
        obtain ⟨bc, hbc⟩ : ∃ x, x = shortCs a.cols := ⟨_, rfl⟩
        rw [← hbc] at HSA HCO
        clear hbc q1 q2
        cases bc with
        | false =>
          have hDe : D = false := HD.out.trans (all_not HX.out HSA.out)
          clear HD
          subst hDe
          ((try clear hF); (first | have hF := And.intro hS.facts (HRD.out _ (hS.sub (by first | simp | ((repeat (first | exact List.nil_sublist _ | exact List.Sublist.refl _ | with_reducible apply List.Sublist.cons₂ | apply List.Sublist.cons)))))) | have hF := And.intro hS.facts (hR.at hS.ext) | have hF := hS.facts); simp only [HFacts, cellFacts, RFacts, cellOnly, and_true, true_and, Nat.zero_add, Nat.reduceAdd] at hF)
          go_wp2_with (first | ((with_reducible first | refine nhLa ?_ | refine nhLs ?_ | refine nhLd ?_ | refine nhCa ?_ | refine nhCs ?_ | refine nhCd ?_ | refine nhPa ?_ | refine nhPs ?_ | refine nhPd ?_ | refine nhKa ?_ | refine nhKs ?_ | refine nhKd ?_); ((try clear hF); clear hS; intro wk hS; (try simp only [List.set_cons_zero, List.set_cons_succ, heap_size, heap_set_size] at hS); ((try clear hF); (first | have hF := And.intro hS.facts (HRD.out _ (hS.sub (by first | simp | ((repeat (first | exact List.nil_sublist _ | exact List.Sublist.refl _ | with_reducible apply List.Sublist.cons₂ | apply List.Sublist.cons)))))) | have hF := And.intro hS.facts (hR.at hS.ext) | have hF := hS.facts); simp only [HFacts, cellFacts, RFacts, cellOnly, and_true, true_and, Nat.zero_add, Nat.reduceAdd] at hF))) | (go_at_call 20; (with_reducible refine (HCO.out _ hS.ext).mono ?_); rintro e wk ⟨rfl, hX⟩; replace hS := hS.step hX; clear hX; ((try clear hF); (first | have hF := And.intro hS.facts (HRD.out _ (hS.sub (by first | simp | ((repeat (first | exact List.nil_sublist _ | exact List.Sublist.refl _ | with_reducible apply List.Sublist.cons₂ | apply List.Sublist.cons)))))) | have hF := And.intro hS.facts (hR.at hS.ext) | have hF := hS.facts); simp only [HFacts, cellFacts, RFacts, cellOnly, and_true, true_and, Nat.zero_add, Nat.reduceAdd] at hF)))
          go_ret
          exact ⟨rfl, hS.ext⟩
        | true =>
          have HT := Lib.hid (all_upto hf.out HX.out HSA.out)
          ((try clear hF); (first | have hF := And.intro hS.facts (HRD.out _ (hS.sub (by first | simp | ((repeat (first | exact List.nil_sublist _ | exact List.Sublist.refl _ | with_reducible apply List.Sublist.cons₂ | apply List.Sublist.cons)))))) | have hF := And.intro hS.facts (hR.at hS.ext) | have hF := hS.facts); simp only [HFacts, cellFacts, RFacts, cellOnly, and_true, true_and, Nat.zero_add, Nat.reduceAdd] at hF)
          go_wp2_with (first | ((with_reducible first | refine nhLa ?_ | refine nhLs ?_ | refine nhLd ?_ | refine nhCa ?_ | refine nhCs ?_ | refine nhCd ?_ | refine nhPa ?_ | refine nhPs ?_ | refine nhPd ?_ | refine nhKa ?_ | refine nhKs ?_ | refine nhKd ?_); ((try clear hF); clear hS; intro wk hS; (try simp only [List.set_cons_zero, List.set_cons_succ, heap_size, heap_set_size] at hS); ((try clear hF); (first | have hF := And.intro hS.facts (HRD.out _ (hS.sub (by first | simp | ((repeat (first | exact List.nil_sublist _ | exact List.Sublist.refl _ | with_reducible apply List.Sublist.cons₂ | apply List.Sublist.cons)))))) | have hF := And.intro hS.facts (hR.at hS.ext) | have hF := hS.facts); simp only [HFacts, cellFacts, RFacts, cellOnly, and_true, true_and, Nat.zero_add, Nat.reduceAdd] at hF))) | (go_at_call 20; (with_reducible refine (HCO.out _ hS.ext).mono ?_); rintro e wk ⟨rfl, hX⟩; replace hS := hS.step hX; clear hX; ((try clear hF); (first | have hF := And.intro hS.facts (HRD.out _ (hS.sub (by first | simp | ((repeat (first | exact List.nil_sublist _ | exact List.Sublist.refl _ | with_reducible apply List.Sublist.cons₂ | apply List.Sublist.cons)))))) | have hF := And.intro hS.facts (hR.at hS.ext) | have hF := hS.facts); simp only [HFacts, cellFacts, RFacts, cellOnly, and_true, true_and, Nat.zero_add, Nat.reduceAdd] at hF)))
          go_roundw
          case rel => exact ⟨k + 1, by go_num, by omega, HT, hS.tail⟩
          case measure => simp [intOf]; omega
      · obtain rfl : k = n := by omega
        have := hf.out
        rw [List.take_of_length_le (by rw [List.length_map, Hn.out]; omega), ← HD.out] at this
        clear HD
        subst this
        ((try clear hF); (first | have hF := And.intro hS.facts (HRD.out _ (hS.sub (by first | simp | ((repeat (first | exact List.nil_sublist _ | exact List.Sublist.refl _ | with_reducible apply List.Sublist.cons₂ | apply List.Sublist.cons)))))) | have hF := And.intro hS.facts (hR.at hS.ext) | have hF := hS.facts); simp only [HFacts, cellFacts, RFacts, cellOnly, and_true, true_and, Nat.zero_add, Nat.reduceAdd] at hF)
        go_wp2_with (first | ((with_reducible first | refine nhLa ?_ | refine nhLs ?_ | refine nhLd ?_ | refine nhCa ?_ | refine nhCs ?_ | refine nhCd ?_ | refine nhPa ?_ | refine nhPs ?_ | refine nhPd ?_ | refine nhKa ?_ | refine nhKs ?_ | refine nhKd ?_); ((try clear hF); clear hS; intro wk hS; (try simp only [List.set_cons_zero, List.set_cons_succ, heap_size, heap_set_size] at hS); ((try clear hF); (first | have hF := And.intro hS.facts (HRD.out _ (hS.sub (by first | simp | ((repeat (first | exact List.nil_sublist _ | exact List.Sublist.refl _ | with_reducible apply List.Sublist.cons₂ | apply List.Sublist.cons)))))) | have hF := And.intro hS.facts (hR.at hS.ext) | have hF := hS.facts); simp only [HFacts, cellFacts, RFacts, cellOnly, and_true, true_and, Nat.zero_add, Nat.reduceAdd] at hF))) | fail)
        go_ret
        exact ⟨rfl, hS.ext⟩
end Go.Proofs.YtcpnnffnkegamaaGreatDoor

/- numbers in letters: strconv.Itoa; log.ints. -/
namespace Go.Proofs.YtcpnnffnkegamaaGreatDoor
set_option linter.unusedSimpArgs false
set_option linter.unusedVariables false
open Go.RowKit
set_option linter.all false
def TabAt (w : World) : Prop := Lib.TabIs Tryz.prog w "internal/strconv.uint64pow10" .u64 Lib.pow10Tab
theorem TabAt.ext {w w' : World} (h : TabAt w) (hx : Ext w w') : TabAt w' := by
  obtain ⟨g, hg⟩ : ∃ g, Tryz.prog.globalNamed "internal/strconv.uint64pow10" = some g := ⟨2, by kernel_rfl⟩
  unfold TabAt Lib.TabIs World.var? at *
  rw [hg] at h ⊢
  simp only [Option.bind_some] at h ⊢
  have hlt : g < w.heap.size := by
    by_cases hc : g < w.heap.size
    · exact hc
    · rw [Array.getElem?_eq_none (by omega)] at h
      cases h
  rw [hx.block g hlt]
  exact h
theorem Ext.grow' {a w : World} (h : Ext a w) (os : Array Obj) : Ext a (Sort.grow w os) :=
  Below.trans h ⟨rfl, rfl, rfl, by simp [Sort.grow], fun k hk => by
    have : k < w.heap.size := Nat.lt_of_lt_of_le hk h.size
    simp [Sort.grow, Array.getElem?_append_left this]⟩
theorem stritoa_any (n : Int) (h0 : -9223372036854775808 ≤ n) (h1 : n ≤ 9223372036854775807) (w : World) (ht : TabAt w) :
    Calls Tryz.prog 32 #[.int .i64 n] w fun e w' => e = .returned (.string ⟨(Lib.itoa n).toArray⟩) ∧ Ext w w' :=
  (Tryz.strconv_Itoa n h0 h1 w ht).mono fun e w' ⟨h1, k, os, h2⟩ => ⟨h1, by rw [h2]; exact ((Ext.refl w).drewN k).grow' os⟩
theorem Tryz.elem_strs : Elem Tryz.prog 78 9 1 16 := by
  obtain ⟨i0, hi0, hz0, hz1, hz2⟩ := info_parts (show (Tryz.prog.info? 9).map (fun i => (i.zero, i.size, i.bytes)) = some (some (.string ⟨#[]⟩), 1, 16) by kernel_rfl)
  exact ⟨Tryz.underlying78, ⟨i0, _, hi0, hz0, hz1, hz2, rfl⟩, by omega⟩
abbrev strV (l : List ByteArray) : List Value := l.map Value.string
theorem strV_get (l : List ByteArray) (k : Nat) : (strV l)[k]? = l[k]?.map Value.string := by simp [strV]
/-- texts with a mark between them -/
def joinS (l : List ByteArray) (sep : ByteArray) : ByteArray := ⟨(Lib.join (l.map (·.data.toList)) sep.data.toList).toArray⟩
theorem join_any {B : Nat} {w0 w : World} {L : List Item} {A : Option Addr} {n cap : Nat} (xs : List ByteArray) (sep : ByteArray) (i : Nat) (hn : xs.length = n) (hn2 : n ≤ 100000) (hl : (joinS xs sep).size ≤ 1000000) (hS : Hp B w0 w L) (hi : L[i]? = some (.row 9 1 A n cap (strV xs))) :
    Calls Tryz.prog 54 #[.slice A n cap, .string sep] w fun e w' => e = .returned (.string (joinS xs sep)) ∧ Ext w w' := by
  cases xs with
  | nil =>
    obtain rfl : 0 = n := by simpa using hn
    exact (Tryz.strings_Join_none A cap sep w).mono fun e w' ⟨h1, h2⟩ => ⟨by rw [h1]; rfl, by rw [h2]; exact Ext.refl w⟩
  | cons x l =>
    obtain ⟨g, rfl, c0, _⟩ := hS.rowCell (j := 0) (u := .string x) i hi rfl
    subst hn
    have hlj : (Lib.join ((x :: l).map (·.data.toList)) sep.data.toList).length ≤ 140737488355328 := by
      have h2 : (Lib.join ((x :: l).map (·.data.toList)) sep.data.toList).toArray.size ≤ 1000000 := hl
      rw [List.size_toArray] at h2
      omega
    refine (Tryz.strings_Join g 0 cap (x :: l) sep w (fun j y hj => ?_) (lt_of_cell c0) (by omega) (hS.rowLen i hi).2 hlj).mono fun e w' h => h
    obtain ⟨g', hg, c, _⟩ := hS.rowCell (j := j) (u := .string y) i hi (by rw [strV_get, hj]; rfl)
    obtain rfl : g = g' := by simpa using hg
    rw [Nat.zero_add]
    exact c
set_option maxRecDepth 100000 in
set_option maxHeartbeats 8000000 in
theorem ints_any (l : List Int) (A : Option Addr) (n cap : Nat) (w : World) (hn : l.length = n) (hl : n ≤ 100000) (h64 : ∀ x ∈ l, i64 x) (hr : RI w A l) (ht : TabAt w) (hj : (joinS (l.map itoS) ⟨#[44]⟩).size ≤ 1000000) :
    Calls Tryz.prog 34 #[.slice A n cap] w fun e w' => e = .returned (.string (joinS (l.map itoS) ⟨#[44]⟩)) ∧ Ext w w' := by
  have Hn := Lib.hid hn
  have HT := Lib.hid ht
  have H6 := Lib.hid h64
  have HJ := Lib.hid hj
  clear hn ht h64 hj
  have hS := Hp.init w
  have hR := Reads.nil w
  go_enter Tryz.func34, Tryz.ntmps34
  go_wp2_with (first | ((with_reducible first | refine nhLa ?_ | refine nhLs ?_ | refine nhLd ?_ | refine nhCa ?_ | refine nhCs ?_ | refine nhCd ?_ | refine nhPa ?_ | refine nhPs ?_ | refine nhPd ?_ | refine nhKa ?_ | refine nhKs ?_ | refine nhKd ?_); ((try clear hF); clear hS; intro wk hS; (try simp only [List.set_cons_zero, List.set_cons_succ, heap_size, heap_set_size] at hS); ((try clear hF); (first | have hF := And.intro hS.facts (HRD.out _ (hS.sub (by first | simp | ((repeat (first | exact List.nil_sublist _ | exact List.Sublist.refl _ | with_reducible apply List.Sublist.cons₂ | apply List.Sublist.cons)))))) | have hF := And.intro hS.facts (hR.at hS.ext) | have hF := hS.facts); simp only [HFacts, cellFacts, RFacts, cellOnly, and_true, true_and, Nat.zero_add, Nat.reduceAdd] at hF))) | fail)
  replace hS := hS.nilRow 9 1
  go_loopw [8, 3] (fun i sl wr => ∃ (k : Nat) (A' : Option Addr) (c' : Nat), i = .int .i64 k ∧ k ≤ n ∧ sl = .slice A' k c' ∧ Hp w.heap.size w wr [.row 9 1 A' k c' (strV ((l.take k).map itoS))]) (fun i _ _ => n - (intOf i).toNat)
  case atStart => exact ⟨0, none, 0, rfl, Nat.zero_le _, rfl, hS⟩
  case round =>
    clear hS
    obtain ⟨k, A', c', rfl, hk, rfl, hS⟩ := hrel
    by_cases hlt : k < n
    · obtain ⟨x, hx⟩ : ∃ x, l[k]? = some x := ⟨l[k]'(by rw [Hn.out]; exact hlt), List.getElem?_eq_getElem _⟩
      obtain ⟨b, o, rfl, c0⟩ := hr k x hx
      have hR := Reads.cell c0 (Reads.nil w)
      have HX := Lib.hid (fun (W : World) (hW : Ext w W) => stritoa_any x (H6.out x (List.mem_of_getElem? hx)).1 (H6.out x (List.mem_of_getElem? hx)).2 W (HT.out.ext hW))
      have HTK := Lib.hid (show (l.take (k + 1)).map itoS = (l.take k).map itoS ++ [itoS x] by
        rw [List.take_add_one, hx, List.map_append]; rfl)
      clear c0 hx hr
      unfold itoS at HX
      ((try clear hF); (first | have hF := And.intro hS.facts (HRD.out _ (hS.sub (by first | simp | ((repeat (first | exact List.nil_sublist _ | exact List.Sublist.refl _ | with_reducible apply List.Sublist.cons₂ | apply List.Sublist.cons)))))) | have hF := And.intro hS.facts (hR.at hS.ext) | have hF := hS.facts); simp only [HFacts, cellFacts, RFacts, cellOnly, and_true, true_and, Nat.zero_add, Nat.reduceAdd] at hF)
      go_wp2_with (first | ((with_reducible first | refine nhLa ?_ | refine nhLs ?_ | refine nhLd ?_ | refine nhCa ?_ | refine nhCs ?_ | refine nhCd ?_ | refine nhPa ?_ | refine nhPs ?_ | refine nhPd ?_ | refine nhKa ?_ | refine nhKs ?_ | refine nhKd ?_); ((try clear hF); clear hS; intro wk hS; (try simp only [List.set_cons_zero, List.set_cons_succ, heap_size, heap_set_size] at hS); ((try clear hF); (first | have hF := And.intro hS.facts (HRD.out _ (hS.sub (by first | simp | ((repeat (first | exact List.nil_sublist _ | exact List.Sublist.refl _ | with_reducible apply List.Sublist.cons₂ | apply List.Sublist.cons)))))) | have hF := And.intro hS.facts (hR.at hS.ext) | have hF := hS.facts); simp only [HFacts, cellFacts, RFacts, cellOnly, and_true, true_and, Nat.zero_add, Nat.reduceAdd] at hF))) | (go_at_call 32; (with_reducible refine (HX.out _ hS.ext).mono ?_); rintro e wk ⟨rfl, hX⟩; replace hS := hS.step hX; clear hX; ((try clear hF); (first | have hF := And.intro hS.facts (HRD.out _ (hS.sub (by first | simp | ((repeat (first | exact List.nil_sublist _ | exact List.Sublist.refl _ | with_reducible apply List.Sublist.cons₂ | apply List.Sublist.cons)))))) | have hF := And.intro hS.facts (hR.at hS.ext) | have hF := hS.facts); simp only [HFacts, cellFacts, RFacts, cellOnly, and_true, true_and, Nat.zero_add, Nat.reduceAdd] at hF)) | (at_builtin; refine wpList_push_hp Tryz.elem_strs rfl (.tmp 12) (.tmp 15) rfl (hS.second 0 rfl) rfl rfl rfl (by simp [Value.oneCell']) (by omega) (by omega) ?_; clear hS; intro Ak capk wk hS; (try simp only [List.eraseIdx_cons_zero, List.eraseIdx_cons_succ, List.set_cons_zero, List.set_cons_succ] at hS); ((try clear hF); (first | have hF := And.intro hS.facts (HRD.out _ (hS.sub (by first | simp | ((repeat (first | exact List.nil_sublist _ | exact List.Sublist.refl _ | with_reducible apply List.Sublist.cons₂ | apply List.Sublist.cons)))))) | have hF := And.intro hS.facts (hR.at hS.ext) | have hF := hS.facts); simp only [HFacts, cellFacts, RFacts, cellOnly, and_true, true_and, Nat.zero_add, Nat.reduceAdd] at hF)))
      go_roundw
      case rel =>
        refine ⟨k + 1, _, _, by go_num, by omega, rfl, ?_⟩
        rw [HTK.out, strV, List.map_append]
        exact hS
      case measure => simp [intOf]; omega
    · obtain rfl : k = n := by omega
      rw [List.take_of_length_le (by rw [Hn.out]; omega)] at hS
      ((try clear hF); (first | have hF := And.intro hS.facts (HRD.out _ (hS.sub (by first | simp | ((repeat (first | exact List.nil_sublist _ | exact List.Sublist.refl _ | with_reducible apply List.Sublist.cons₂ | apply List.Sublist.cons)))))) | have hF := And.intro hS.facts (hR.at hS.ext) | have hF := hS.facts); simp only [HFacts, cellFacts, RFacts, cellOnly, and_true, true_and, Nat.zero_add, Nat.reduceAdd] at hF)
      go_wp2_with (first | ((with_reducible first | refine nhLa ?_ | refine nhLs ?_ | refine nhLd ?_ | refine nhCa ?_ | refine nhCs ?_ | refine nhCd ?_ | refine nhPa ?_ | refine nhPs ?_ | refine nhPd ?_ | refine nhKa ?_ | refine nhKs ?_ | refine nhKd ?_); ((try clear hF); clear hS; intro wk hS; (try simp only [List.set_cons_zero, List.set_cons_succ, heap_size, heap_set_size] at hS); ((try clear hF); (first | have hF := And.intro hS.facts (HRD.out _ (hS.sub (by first | simp | ((repeat (first | exact List.nil_sublist _ | exact List.Sublist.refl _ | with_reducible apply List.Sublist.cons₂ | apply List.Sublist.cons)))))) | have hF := And.intro hS.facts (hR.at hS.ext) | have hF := hS.facts); simp only [HFacts, cellFacts, RFacts, cellOnly, and_true, true_and, Nat.zero_add, Nat.reduceAdd] at hF))) | (go_at_call 54; (with_reducible refine (join_any (l.map itoS) ⟨#[44]⟩ 0 (by rw [List.length_map, Hn.out]) (by omega) HJ.out hS rfl).mono ?_); rintro e wk ⟨rfl, hX⟩; replace hS := hS.step hX; clear hX; ((try clear hF); (first | have hF := And.intro hS.facts (HRD.out _ (hS.sub (by first | simp | ((repeat (first | exact List.nil_sublist _ | exact List.Sublist.refl _ | with_reducible apply List.Sublist.cons₂ | apply List.Sublist.cons)))))) | have hF := And.intro hS.facts (hR.at hS.ext) | have hF := hS.facts); simp only [HFacts, cellFacts, RFacts, cellOnly, and_true, true_and, Nat.zero_add, Nat.reduceAdd] at hF)))
      go_ret
      exact ⟨rfl, hS.ext⟩
end Go.Proofs.YtcpnnffnkegamaaGreatDoor

/- The tables that a row of the log laws lists: what they tell of the world; a world that has them. -/
namespace Go.Proofs.YtcpnnffnkegamaaGreatDoor
set_option linter.unusedSimpArgs false
set_option linter.unusedVariables false
open Go.RowKit
set_option linter.all false
open Go.ChangeShapes Go.WideShapes Go.ChangeAt Go.Joins
theorem gKept : Tryz.prog.globalNamed "millpond/schema.kept" = some 0 := by kernel_rfl
theorem tKept : (Tryz.prog.globals[0]?).map (·.type) = some 95 := by kernel_rfl
theorem gPow : Tryz.prog.globalNamed "internal/strconv.uint64pow10" = some 2 := by kernel_rfl
theorem tPow : (Tryz.prog.globals[2]?).map (·.type) = some 177 := by kernel_rfl
theorem cPow : Tryz.prog.cellsOf 177 = 20 := by kernel_rfl
theorem cU64 : Tryz.prog.cellsOf 152 = 1 := by kernel_rfl
/-- a start: the settled world, the tables laid -/
noncomputable def baseW (os : Os) : World := World.holding Tryz.prog os ⟨#[], #[], []⟩
end Go.Proofs.YtcpnnffnkegamaaGreatDoor

/- log.number: a number in letters. -/
namespace Go.Proofs.YtcpnnffnkegamaaGreatDoor
set_option linter.unusedSimpArgs false
set_option linter.unusedVariables false
open Go.RowKit
set_option linter.all false
-- what is written is read
theorem p10_app : ∀ (l : List UInt8) (acc : Nat) (m : List UInt8), Lib.parseUint10 acc (l ++ m) = (match Lib.parseUint10 acc l with | .ok a => Lib.parseUint10 a m | e => e)
  | [], acc, m => rfl
  | c :: l, acc, m => by
    rw [List.cons_append]
    simp only [Lib.parseUint10]
    split
    · split
      · rfl
      · split
        · rfl
        · exact p10_app l _ m
    · rfl
theorem p10_dec (u : Nat) (hu : u < 18446744073709551616) : Lib.parseUint10 0 (Lib.decDigits u) = .ok u := by
  rw [Lib.decDigits]
  split
  · rename_i h
    simp only [Lib.parseUint10]
    rw [dig_nat h, if_pos (by omega), if_neg (by omega), if_neg (by omega)]
    congr 1
    omega
  · rename_i h
    rw [p10_app, p10_dec (u / 10) (by omega)]
    simp only [Lib.parseUint10]
    rw [dig_nat (Nat.mod_lt u (by omega)), if_pos (by omega), if_neg (by omega), if_neg (by omega)]
    congr 1
    omega
termination_by u
theorem atoi_itoa (n : Int) (hn : i64 n) : Lib.atoiAll (Lib.itoa n) = .ok n := by
  unfold i64 at hn
  unfold Lib.itoa
  split
  · rename_i h
    obtain ⟨c, r, h1, h2, h3⟩ := dec_cons n.natAbs
    have hp : Lib.parseMag (Lib.decDigits n.natAbs) = .ok n.natAbs := by
      unfold Lib.parseMag
      rw [if_neg (by rw [h1]; simp), p10_dec _ (by omega)]
    simp only [Lib.atoiAll, show (45 : UInt8).toNat = 45 from rfl, or_true, if_true]
    rw [hp]
    simp only [not_true_eq_false, false_and, if_false, true_and, if_true]
    rw [if_neg (by omega)]
    congr 1
    omega
  · rename_i h
    obtain ⟨c, r, h1, h2, h3⟩ := dec_cons n.toNat
    have hp : Lib.parseMag (c :: r) = .ok n.toNat := by
      unfold Lib.parseMag
      rw [if_neg (by simp), ← h1, p10_dec _ (by omega)]
    rw [h1]
    simp only [Lib.atoiAll]
    rw [if_neg (by omega), hp]
    simp only
    rw [if_neg (by omega), if_neg (by omega), if_neg (by omega)]
    congr 1
    omega
theorem atoi_i64 {l : List UInt8} {v : Int} (h : Lib.atoiAll l = .ok v) : i64 v := by
  unfold Lib.atoiAll at h
  unfold i64
  split at h
  · cases h
  · simp only at h
    split at h
    · cases h
    · cases h
    · rename_i u hu
      split at h
      · cases h
      · split at h
        · cases h
        · rename_i h1 h2
          injection h with h
          subst h
          split <;> omega
/-- the number that a text is, as it is written -/
def numOf (s : ByteArray) : Option Int := match Lib.atoiAll s.data.toList with
  | .ok v => if (itoS v).toList == s.toList then some v else none
  | _ => none
theorem numOf_iff {s : ByteArray} {v : Int} : numOf s = some v ↔ i64 v ∧ itoS v = s := by
  unfold numOf
  constructor
  · intro h
    split at h
    · rename_i u hu
      split at h
      · rename_i hb
        obtain rfl := Option.some.inj h
        exact ⟨atoi_i64 hu, ba_beq.1 hb⟩
      · cases h
    · cases h
  · rintro ⟨h1, rfl⟩
    rw [show (itoS v).data.toList = Lib.itoa v from rfl, atoi_itoa v h1]
    simp
theorem numOf64_eq (s : ByteArray) : numOf64 s = numOf s := by
  have h : ∀ v, numOf64 s = some v ↔ i64 v ∧ itoS v = s := fun v => by
    unfold numOf64
    constructor
    · intro h
      split at h
      · rename_i u hu
        split at h
        · rename_i hb
          obtain rfl := Option.some.inj h
          exact ⟨parse_i64 hu, ba_beq.1 hb⟩
        · cases h
      · cases h
    · rintro ⟨h1, rfl⟩
      rw [show (itoS v).data.toList = Lib.itoa v from rfl, parse_itoa v h1]
      simp
  refine Option.ext fun v => ?_
  rw [h v, numOf_iff]
/-- how Atoi ends -/
theorem atoi_any (s : ByteArray) (hs : s.size ≤ 1000000) (w : World) (hy : SynAt w) (hr : RngAt w) :
    Calls Tryz.prog 75 #[.string s] w fun e w' => (∃ (n : Int) (er : Value), e = .returned (.tuple #[.int .i64 n, er]) ∧ i64 n ∧ ((er = .nilIface ∧ Lib.atoiAll s.data.toList = .ok n) ∨ (∃ tp pv, er = .iface tp pv) ∧ numOf s = none)) ∧ Ext w w' := by
  match h : Lib.atoiAll s.data.toList with
  | .ok v => exact (Tryz.strconv_Atoi_ok s (by omega) v h w).mono fun e w' ⟨h1, h2⟩ => ⟨⟨v, .nilIface, h1, atoi_i64 h, .inl ⟨rfl, rfl⟩⟩, ext_bytes h2⟩
  | Lib.NumEnd.syntax =>
    obtain ⟨tp, p, hy⟩ := hy
    exact (Tryz.strconv_Atoi_syntax_var s (by omega) h tp p w hy).mono fun e w' ⟨N, h1, _, _, h2⟩ => ⟨⟨0, _, h1, by unfold i64; omega, .inr ⟨⟨_, _, rfl⟩, by unfold numOf; rw [h]⟩⟩, h2⟩
  | .range =>
    obtain ⟨tp, p, hr⟩ := hr
    exact (Tryz.strconv_Atoi_range_var s (by omega) h tp p w hr).mono fun e w' ⟨N, h1, _, _, h2⟩ => ⟨⟨_, _, h1, by unfold i64 Lib.atoiSat; split <;> omega, .inr ⟨⟨_, _, rfl⟩, by unfold numOf; rw [h]⟩⟩, h2⟩
theorem format_any (n : Int) (hn : i64 n) (w : World) (ht : TabAt w) :
    Calls Tryz.prog 78 #[.int .i64 n, .int .i64 10] w fun e w' => e = .returned (.string (itoS n)) ∧ Ext w w' :=
  (Tryz.strconv_FormatInt_10 n hn.1 hn.2 w ht).mono fun e w' ⟨h1, k, os, h2⟩ => ⟨h1, by rw [h2]; exact ((Ext.refl w).drewN k).grow' os⟩
set_option maxRecDepth 100000 in
set_option maxHeartbeats 8000000 in
theorem number_any (s : ByteArray) (hs : s.size ≤ 1000000) (w : World) (ht : TabAt w) (hy : SynAt w) (hr : RngAt w) :
    Calls Tryz.prog 50 #[.string s] w fun e w' => (∃ (n : Int) (b : Bool), e = .returned (.tuple #[.int .i64 n, .bool b]) ∧ i64 n ∧ numOf s = if b then some n else none) ∧ Ext w w' := by
  have HA := Lib.hid (fun (W : World) (hx : Ext w W) => atoi_any s hs W (hy.ext hx) (hr.ext hx))
  have HI := Lib.hid (fun (n : Int) (hn : i64 n) (W : World) (hx : Ext w W) => show Calls Tryz.prog 32 #[.int .i64 n] W fun e w' => e = .returned (.string (itoS n)) ∧ Ext W w' from stritoa_any n hn.1 hn.2 W (ht.ext hx))
  clear hs ht hy hr
  have hS := Hp.init w
  have hR := Reads.nil w
  go_enter Tryz.func50, Tryz.ntmps50
  go_upto_region 2 with (first | ((with_reducible first | refine nhLa ?_ | refine nhLs ?_ | refine nhLd ?_ | refine nhCa ?_ | refine nhCs ?_ | refine nhCd ?_ | refine nhPa ?_ | refine nhPs ?_ | refine nhPd ?_ | refine nhKa ?_ | refine nhKs ?_ | refine nhKd ?_); ((try clear hF); clear hS; intro wk hS; (try simp only [List.set_cons_zero, List.set_cons_succ, heap_size, heap_set_size] at hS); ((try clear hF); (first | have hF := And.intro hS.facts (HRD.out _ (hS.sub (by first | simp | ((repeat (first | exact List.nil_sublist _ | exact List.Sublist.refl _ | with_reducible apply List.Sublist.cons₂ | apply List.Sublist.cons)))))) | have hF := And.intro hS.facts (hR.at hS.ext) | have hF := hS.facts); simp only [HFacts, cellFacts, RFacts, cellOnly, and_true, true_and, Nat.zero_add, Nat.reduceAdd] at hF))) | (go_at_call 75; (with_reducible refine Calls.mono (HA.out _ hS.ext) ?_); rintro e wk ⟨⟨n, er, rfl, hn, hend⟩, hX⟩; replace hS := hS.step hX; clear hX; ((try clear hF); (first | have hF := And.intro hS.facts (HRD.out _ (hS.sub (by first | simp | ((repeat (first | exact List.nil_sublist _ | exact List.Sublist.refl _ | with_reducible apply List.Sublist.cons₂ | apply List.Sublist.cons)))))) | have hF := And.intro hS.facts (hR.at hS.ext) | have hF := hS.facts); simp only [HFacts, cellFacts, RFacts, cellOnly, and_true, true_and, Nat.zero_add, Nat.reduceAdd] at hF)))
  have HN := Lib.hid hn
  have HE := Lib.hid hend
  clear hn hend
  rcases HE.out with ⟨rfl, h1⟩ | ⟨⟨tp, pv, rfl⟩, h1⟩
  · have HO := Lib.hid (show numOf s = if ((itoS n).toList == s.toList) = true then some n else none by unfold numOf; rw [h1])
    clear h1 HE
    have HI2 := Lib.hid (HI.out n HN.out)
    clear HI
    ((try clear hF); (first | have hF := And.intro hS.facts (HRD.out _ (hS.sub (by first | simp | ((repeat (first | exact List.nil_sublist _ | exact List.Sublist.refl _ | with_reducible apply List.Sublist.cons₂ | apply List.Sublist.cons)))))) | have hF := And.intro hS.facts (hR.at hS.ext) | have hF := hS.facts); simp only [HFacts, cellFacts, RFacts, cellOnly, and_true, true_and, Nat.zero_add, Nat.reduceAdd] at hF)
    go_wp2_with (first | ((with_reducible first | refine nhLa ?_ | refine nhLs ?_ | refine nhLd ?_ | refine nhCa ?_ | refine nhCs ?_ | refine nhCd ?_ | refine nhPa ?_ | refine nhPs ?_ | refine nhPd ?_ | refine nhKa ?_ | refine nhKs ?_ | refine nhKd ?_); ((try clear hF); clear hS; intro wk hS; (try simp only [List.set_cons_zero, List.set_cons_succ, heap_size, heap_set_size] at hS); ((try clear hF); (first | have hF := And.intro hS.facts (HRD.out _ (hS.sub (by first | simp | ((repeat (first | exact List.nil_sublist _ | exact List.Sublist.refl _ | with_reducible apply List.Sublist.cons₂ | apply List.Sublist.cons)))))) | have hF := And.intro hS.facts (hR.at hS.ext) | have hF := hS.facts); simp only [HFacts, cellFacts, RFacts, cellOnly, and_true, true_and, Nat.zero_add, Nat.reduceAdd] at hF))) | (go_at_call 32; (with_reducible refine (HI2.out _ hS.ext).mono ?_); rintro e wk ⟨rfl, hX⟩; replace hS := hS.step hX; clear hX; ((try clear hF); (first | have hF := And.intro hS.facts (HRD.out _ (hS.sub (by first | simp | ((repeat (first | exact List.nil_sublist _ | exact List.Sublist.refl _ | with_reducible apply List.Sublist.cons₂ | apply List.Sublist.cons)))))) | have hF := And.intro hS.facts (hR.at hS.ext) | have hF := hS.facts); simp only [HFacts, cellFacts, RFacts, cellOnly, and_true, true_and, Nat.zero_add, Nat.reduceAdd] at hF)))
    go_ret2
    exact ⟨⟨n, _, rfl, HN.out, HO.out⟩, hS.ext⟩
  · have HO := Lib.hid h1
    clear h1 HE
    ((try clear hF); (first | have hF := And.intro hS.facts (HRD.out _ (hS.sub (by first | simp | ((repeat (first | exact List.nil_sublist _ | exact List.Sublist.refl _ | with_reducible apply List.Sublist.cons₂ | apply List.Sublist.cons)))))) | have hF := And.intro hS.facts (hR.at hS.ext) | have hF := hS.facts); simp only [HFacts, cellFacts, RFacts, cellOnly, and_true, true_and, Nat.zero_add, Nat.reduceAdd] at hF)
    go_wp2_with (first | ((with_reducible first | refine nhLa ?_ | refine nhLs ?_ | refine nhLd ?_ | refine nhCa ?_ | refine nhCs ?_ | refine nhCd ?_ | refine nhPa ?_ | refine nhPs ?_ | refine nhPd ?_ | refine nhKa ?_ | refine nhKs ?_ | refine nhKd ?_); ((try clear hF); clear hS; intro wk hS; (try simp only [List.set_cons_zero, List.set_cons_succ, heap_size, heap_set_size] at hS); ((try clear hF); (first | have hF := And.intro hS.facts (HRD.out _ (hS.sub (by first | simp | ((repeat (first | exact List.nil_sublist _ | exact List.Sublist.refl _ | with_reducible apply List.Sublist.cons₂ | apply List.Sublist.cons)))))) | have hF := And.intro hS.facts (hR.at hS.ext) | have hF := hS.facts); simp only [HFacts, cellFacts, RFacts, cellOnly, and_true, true_and, Nat.zero_add, Nat.reduceAdd] at hF))) | fail)
    go_ret2
    exact ⟨⟨n, false, rfl, HN.out, HO.out⟩, hS.ext⟩
end Go.Proofs.YtcpnnffnkegamaaGreatDoor

/- log.quoted: a text, cut at a mark, but not between two '. -/
namespace Go.Proofs.YtcpnnffnkegamaaGreatDoor
set_option linter.unusedSimpArgs false
set_option linter.unusedVariables false
open Go.RowKit
set_option linter.all false
def qGo (s : ByteArray) (mk : UInt8) : Nat → Nat → Bool → Nat → List ByteArray
  | 0, _, _, f => [s.extract f s.size]
  | n + 1, k, i, f => if s.data.toList.getD k 0 = 39 then qGo s mk n (k + 1) (!i) f
    else if s.data.toList.getD k 0 = mk ∧ i = false then s.extract f k :: qGo s mk n (k + 1) i (k + 1)
    else qGo s mk n (k + 1) i f
def quotedS (s : ByteArray) (mk : UInt8) : List ByteArray := qGo s mk s.size 0 false 0
theorem qGo_step (s : ByteArray) (mk : UInt8) (m k : Nat) (i : Bool) (f : Nat) (hm : s.size = m) (hk : k < m) (h : k < s.size) : qGo s mk (m - k) k i f = if s[k] = 39 then qGo s mk (m - (k + 1)) (k + 1) (!i) f
    else if s[k] = mk ∧ i = false then s.extract f k :: qGo s mk (m - (k + 1)) (k + 1) i (k + 1) else qGo s mk (m - (k + 1)) (k + 1) i f := by
  have e : s.data.toList.getD k 0 = s[k] := by
    rw [List.getD_eq_getElem?_getD, List.getElem?_eq_getElem (by rw [Array.length_toList]; exact h)]
    rfl
  rw [show m - k = (m - (k + 1)) + 1 by omega, qGo, e]
theorem u8_ne {a b : UInt8} (h : a ≠ b) : ((a.toNat : Int) == (b.toNat : Int)) = false := by
  rw [beq_eq_false_iff_ne]
  intro e
  exact h (UInt8.toNat_inj.1 (by omega))
theorem u8_ne39 {a : UInt8} (h : a ≠ 39) : ((a.toNat : Int) == 39) = false := u8_ne (b := 39) h
set_option maxRecDepth 100000 in
set_option maxHeartbeats 8000000 in
theorem quoted_any (s : ByteArray) (mk : UInt8) (w : World) (m : Nat) (hm : s.size = m) (hm2 : m ≤ 1000000) :
    Calls Tryz.prog 49 #[.string s, .int .u8 mk.toNat] w fun e w' => ∃ A n c, (quotedS s mk).length = n ∧ e = .returned (.slice A n c) ∧ Hp w.heap.size w w' [.row 9 1 A n c (strV (quotedS s mk))] := by
  obtain ⟨D, hD⟩ : ∃ D, D = quotedS s mk := ⟨_, rfl⟩
  rw [← hD]
  have HD := Lib.hid (show D = [] ++ qGo s mk (m - 0) 0 false 0 by rw [hD]; unfold quotedS; rw [hm]; rfl)
  clear hD
  have hS := Hp.init w
  have hR := Reads.nil w
  go_enter Tryz.func49, Tryz.ntmps49
  go_wp2_with (first | ((with_reducible first | refine nhLa ?_ | refine nhLs ?_ | refine nhLd ?_ | refine nhCa ?_ | refine nhCs ?_ | refine nhCd ?_ | refine nhPa ?_ | refine nhPs ?_ | refine nhPd ?_ | refine nhKa ?_ | refine nhKs ?_ | refine nhKd ?_); ((try clear hF); clear hS; intro wk hS; (try simp only [List.set_cons_zero, List.set_cons_succ, heap_size, heap_set_size] at hS); ((try clear hF); (first | have hF := And.intro hS.facts (HRD.out _ (hS.sub (by first | simp | ((repeat (first | exact List.nil_sublist _ | exact List.Sublist.refl _ | with_reducible apply List.Sublist.cons₂ | apply List.Sublist.cons)))))) | have hF := And.intro hS.facts (hR.at hS.ext) | have hF := hS.facts); simp only [HFacts, cellFacts, RFacts, cellOnly, and_true, true_and, Nat.zero_add, Nat.reduceAdd] at hF))) | fail)
  replace hS := hS.nilRow 9 1
  go_loopw [11, 5, 6, 7] (fun i sl iv fv wr => ∃ (k f nn : Nat) (inn : Bool) (A' : Option Addr) (c' : Nat) (out : List ByteArray), i = .int .i64 k ∧ k ≤ m ∧ f ≤ k ∧ nn ≤ k ∧ sl = .slice A' nn c' ∧ iv = .bool inn ∧ fv = .int .i64 f ∧ Hid (out.length = nn) ∧ Hid (D = out ++ qGo s mk (m - k) k inn f) ∧ Hp w.heap.size w wr [.row 9 1 A' nn c' (strV out)]) (fun i _ _ _ _ => m - (intOf i).toNat)
  case atStart => exact ⟨0, 0, 0, false, none, 0, [], rfl, Nat.zero_le _, Nat.le_refl _, Nat.le_refl _, rfl, rfl, rfl, Lib.hid rfl, HD, hS⟩
  case round =>
    clear hS HD
    obtain ⟨k, f, nn, inn, A', c', out, rfl, hk, hfk, hnk, rfl, rfl, rfl, HO, HD, hS⟩ := hrel
    by_cases hlt : k < m
    · have hks : k < s.size := by omega
      have HD2 := Lib.hid (HD.out.trans (congrArg (out ++ ·) (qGo_step s mk m k inn f hm hlt hks)))
      clear HD
      by_cases q : s[k] = 39
      · have HD3 := Lib.hid (show D = out ++ qGo s mk (m - (k + 1)) (k + 1) (!inn) f by have := HD2.out; simp only [if_pos q] at this; exact this)
        have q1 : ((s[k].toNat : Int) == 39) = true := by rw [q]; rfl
        clear HD2 q
        ((try clear hF); (first | have hF := And.intro hS.facts (HRD.out _ (hS.sub (by first | simp | ((repeat (first | exact List.nil_sublist _ | exact List.Sublist.refl _ | with_reducible apply List.Sublist.cons₂ | apply List.Sublist.cons)))))) | have hF := And.intro hS.facts (hR.at hS.ext) | have hF := hS.facts); simp only [HFacts, cellFacts, RFacts, cellOnly, and_true, true_and, Nat.zero_add, Nat.reduceAdd] at hF)
        go_wp2_with (first | ((with_reducible first | refine nhLa ?_ | refine nhLs ?_ | refine nhLd ?_ | refine nhCa ?_ | refine nhCs ?_ | refine nhCd ?_ | refine nhPa ?_ | refine nhPs ?_ | refine nhPd ?_ | refine nhKa ?_ | refine nhKs ?_ | refine nhKd ?_); ((try clear hF); clear hS; intro wk hS; (try simp only [List.set_cons_zero, List.set_cons_succ, heap_size, heap_set_size] at hS); ((try clear hF); (first | have hF := And.intro hS.facts (HRD.out _ (hS.sub (by first | simp | ((repeat (first | exact List.nil_sublist _ | exact List.Sublist.refl _ | with_reducible apply List.Sublist.cons₂ | apply List.Sublist.cons)))))) | have hF := And.intro hS.facts (hR.at hS.ext) | have hF := hS.facts); simp only [HFacts, cellFacts, RFacts, cellOnly, and_true, true_and, Nat.zero_add, Nat.reduceAdd] at hF))) | fail)
        go_roundw
        case rel => exact ⟨k + 1, f, nn, !inn, A', c', out, by go_num, by omega, by omega, by omega, rfl, rfl, rfl, HO, HD3, hS⟩
        case measure => simp [intOf]; omega
      have q1 := u8_ne39 q
      by_cases q2 : s[k] = mk
      · have q3 : ((s[k].toNat : Int) == (mk.toNat : Int)) = true := by rw [q2]; simp
        cases inn with
        | false =>
          have HD3 := Lib.hid (show D = (out ++ [s.extract f k]) ++ qGo s mk (m - (k + 1)) (k + 1) false (k + 1) by have this : D = out ++ _ := HD2.out; rw [if_neg q, if_pos ⟨q2, rfl⟩] at this; rw [List.append_assoc]; exact this)
          clear HD2 q q2
          ((try clear hF); (first | have hF := And.intro hS.facts (HRD.out _ (hS.sub (by first | simp | ((repeat (first | exact List.nil_sublist _ | exact List.Sublist.refl _ | with_reducible apply List.Sublist.cons₂ | apply List.Sublist.cons)))))) | have hF := And.intro hS.facts (hR.at hS.ext) | have hF := hS.facts); simp only [HFacts, cellFacts, RFacts, cellOnly, and_true, true_and, Nat.zero_add, Nat.reduceAdd] at hF)
          go_wp2_with (first | ((with_reducible first | refine nhLa ?_ | refine nhLs ?_ | refine nhLd ?_ | refine nhCa ?_ | refine nhCs ?_ | refine nhCd ?_ | refine nhPa ?_ | refine nhPs ?_ | refine nhPd ?_ | refine nhKa ?_ | refine nhKs ?_ | refine nhKd ?_); ((try clear hF); clear hS; intro wk hS; (try simp only [List.set_cons_zero, List.set_cons_succ, heap_size, heap_set_size] at hS); ((try clear hF); (first | have hF := And.intro hS.facts (HRD.out _ (hS.sub (by first | simp | ((repeat (first | exact List.nil_sublist _ | exact List.Sublist.refl _ | with_reducible apply List.Sublist.cons₂ | apply List.Sublist.cons)))))) | have hF := And.intro hS.facts (hR.at hS.ext) | have hF := hS.facts); simp only [HFacts, cellFacts, RFacts, cellOnly, and_true, true_and, Nat.zero_add, Nat.reduceAdd] at hF))) | (at_builtin; refine wpList_push_hp Tryz.elem_strs rfl (.tmp 31) (.tmp 36) rfl (hS.second 0 rfl) rfl rfl rfl (by simp [Value.oneCell']) (by omega) (by omega) ?_; clear hS; intro Ak capk wk hS; (try simp only [List.eraseIdx_cons_zero, List.eraseIdx_cons_succ, List.set_cons_zero, List.set_cons_succ] at hS); ((try clear hF); (first | have hF := And.intro hS.facts (HRD.out _ (hS.sub (by first | simp | ((repeat (first | exact List.nil_sublist _ | exact List.Sublist.refl _ | with_reducible apply List.Sublist.cons₂ | apply List.Sublist.cons)))))) | have hF := And.intro hS.facts (hR.at hS.ext) | have hF := hS.facts); simp only [HFacts, cellFacts, RFacts, cellOnly, and_true, true_and, Nat.zero_add, Nat.reduceAdd] at hF)))
          go_roundw
          case rel =>
            refine ⟨k + 1, k + 1, nn + 1, false, _, _, out ++ [s.extract f k], by go_num, by omega, by omega, by omega, rfl, rfl, by go_num, Lib.hid (by rw [List.length_append, HO.out]; rfl), HD3, ?_⟩
            rw [strV, List.map_append]
            exact hS
          case measure => simp [intOf]; omega
        | true =>
          have HD3 := Lib.hid (show D = out ++ qGo s mk (m - (k + 1)) (k + 1) true f by have := HD2.out; simpa [q] using this)
          clear HD2 q q2
          ((try clear hF); (first | have hF := And.intro hS.facts (HRD.out _ (hS.sub (by first | simp | ((repeat (first | exact List.nil_sublist _ | exact List.Sublist.refl _ | with_reducible apply List.Sublist.cons₂ | apply List.Sublist.cons)))))) | have hF := And.intro hS.facts (hR.at hS.ext) | have hF := hS.facts); simp only [HFacts, cellFacts, RFacts, cellOnly, and_true, true_and, Nat.zero_add, Nat.reduceAdd] at hF)
          go_wp2_with (first | ((with_reducible first | refine nhLa ?_ | refine nhLs ?_ | refine nhLd ?_ | refine nhCa ?_ | refine nhCs ?_ | refine nhCd ?_ | refine nhPa ?_ | refine nhPs ?_ | refine nhPd ?_ | refine nhKa ?_ | refine nhKs ?_ | refine nhKd ?_); ((try clear hF); clear hS; intro wk hS; (try simp only [List.set_cons_zero, List.set_cons_succ, heap_size, heap_set_size] at hS); ((try clear hF); (first | have hF := And.intro hS.facts (HRD.out _ (hS.sub (by first | simp | ((repeat (first | exact List.nil_sublist _ | exact List.Sublist.refl _ | with_reducible apply List.Sublist.cons₂ | apply List.Sublist.cons)))))) | have hF := And.intro hS.facts (hR.at hS.ext) | have hF := hS.facts); simp only [HFacts, cellFacts, RFacts, cellOnly, and_true, true_and, Nat.zero_add, Nat.reduceAdd] at hF))) | fail)
          go_roundw
          case rel => exact ⟨k + 1, f, nn, true, A', c', out, by go_num, by omega, by omega, by omega, rfl, rfl, rfl, HO, HD3, hS⟩
          case measure => simp [intOf]; omega
      · have q3 := u8_ne q2
        have HD3 := Lib.hid (show D = out ++ qGo s mk (m - (k + 1)) (k + 1) inn f by have := HD2.out; simp only [if_neg q, q2, false_and, if_false] at this; exact this)
        clear HD2 q q2
        ((try clear hF); (first | have hF := And.intro hS.facts (HRD.out _ (hS.sub (by first | simp | ((repeat (first | exact List.nil_sublist _ | exact List.Sublist.refl _ | with_reducible apply List.Sublist.cons₂ | apply List.Sublist.cons)))))) | have hF := And.intro hS.facts (hR.at hS.ext) | have hF := hS.facts); simp only [HFacts, cellFacts, RFacts, cellOnly, and_true, true_and, Nat.zero_add, Nat.reduceAdd] at hF)
        go_wp2_with (first | ((with_reducible first | refine nhLa ?_ | refine nhLs ?_ | refine nhLd ?_ | refine nhCa ?_ | refine nhCs ?_ | refine nhCd ?_ | refine nhPa ?_ | refine nhPs ?_ | refine nhPd ?_ | refine nhKa ?_ | refine nhKs ?_ | refine nhKd ?_); ((try clear hF); clear hS; intro wk hS; (try simp only [List.set_cons_zero, List.set_cons_succ, heap_size, heap_set_size] at hS); ((try clear hF); (first | have hF := And.intro hS.facts (HRD.out _ (hS.sub (by first | simp | ((repeat (first | exact List.nil_sublist _ | exact List.Sublist.refl _ | with_reducible apply List.Sublist.cons₂ | apply List.Sublist.cons)))))) | have hF := And.intro hS.facts (hR.at hS.ext) | have hF := hS.facts); simp only [HFacts, cellFacts, RFacts, cellOnly, and_true, true_and, Nat.zero_add, Nat.reduceAdd] at hF))) | fail)
        go_roundw
        case rel => exact ⟨k + 1, f, nn, inn, A', c', out, by go_num, by omega, by omega, by omega, rfl, rfl, rfl, HO, HD3, hS⟩
        case measure => simp [intOf]; omega
    · obtain rfl : k = m := by omega
      have HD2 := Lib.hid (show D = out ++ [s.extract f k] by rw [HD.out, Nat.sub_self]; show out ++ [s.extract f s.size] = _; rw [hm])
      clear HD
      have hfs : f ≤ s.size := by omega
      ((try clear hF); (first | have hF := And.intro hS.facts (HRD.out _ (hS.sub (by first | simp | ((repeat (first | exact List.nil_sublist _ | exact List.Sublist.refl _ | with_reducible apply List.Sublist.cons₂ | apply List.Sublist.cons)))))) | have hF := And.intro hS.facts (hR.at hS.ext) | have hF := hS.facts); simp only [HFacts, cellFacts, RFacts, cellOnly, and_true, true_and, Nat.zero_add, Nat.reduceAdd] at hF)
      go_wp2_with (first | ((with_reducible first | refine nhLa ?_ | refine nhLs ?_ | refine nhLd ?_ | refine nhCa ?_ | refine nhCs ?_ | refine nhCd ?_ | refine nhPa ?_ | refine nhPs ?_ | refine nhPd ?_ | refine nhKa ?_ | refine nhKs ?_ | refine nhKd ?_); ((try clear hF); clear hS; intro wk hS; (try simp only [List.set_cons_zero, List.set_cons_succ, heap_size, heap_set_size] at hS); ((try clear hF); (first | have hF := And.intro hS.facts (HRD.out _ (hS.sub (by first | simp | ((repeat (first | exact List.nil_sublist _ | exact List.Sublist.refl _ | with_reducible apply List.Sublist.cons₂ | apply List.Sublist.cons)))))) | have hF := And.intro hS.facts (hR.at hS.ext) | have hF := hS.facts); simp only [HFacts, cellFacts, RFacts, cellOnly, and_true, true_and, Nat.zero_add, Nat.reduceAdd] at hF))) | (at_builtin; refine wpList_push_hp Tryz.elem_strs rfl (.tmp 41) (.tmp 45) rfl (hS.second 0 rfl) rfl rfl rfl (by simp [Value.oneCell']) (by omega) (by omega) ?_; clear hS; intro Ak capk wk hS; (try simp only [List.eraseIdx_cons_zero, List.eraseIdx_cons_succ, List.set_cons_zero, List.set_cons_succ] at hS); ((try clear hF); (first | have hF := And.intro hS.facts (HRD.out _ (hS.sub (by first | simp | ((repeat (first | exact List.nil_sublist _ | exact List.Sublist.refl _ | with_reducible apply List.Sublist.cons₂ | apply List.Sublist.cons)))))) | have hF := And.intro hS.facts (hR.at hS.ext) | have hF := hS.facts); simp only [HFacts, cellFacts, RFacts, cellOnly, and_true, true_and, Nat.zero_add, Nat.reduceAdd] at hF)))
      go_ret
      refine ⟨_, nn + 1, _, by rw [HD2.out, List.length_append, HO.out]; rfl, rfl, ?_⟩
      rw [HD2.out, strV, List.map_append]
      exact hS
end Go.Proofs.YtcpnnffnkegamaaGreatDoor

/- what Apply leaves of a table: it stands, one version on. -/
namespace Go.Proofs.YtcpnnffnkegamaaGreatDoor
set_option linter.unusedSimpArgs false
set_option linter.unusedVariables false
open Go.RowKit
set_option linter.all false
end Go.Proofs.YtcpnnffnkegamaaGreatDoor
