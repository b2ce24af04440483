/- Texts joined: what file.Make makes: in plain words. millpondkeep.same: of lists that are the same. Arguments that are columns, and rows of values: what their cells hold. -/
import Derived.Test.YtcpllhjhnfmepaaGreatDoorFX21
import Derived.Test.YtcpllhjhnfmepaaGreatDoorFX09
import Derived.Test.YtcpllhjhnfmepaaGreatDoorFX12
import Derived.Test.YtcpllhjhnfmepaaGreatDoorFX05
import Derived.Test.YtcpllhjhnfmepaaGreatDoorFX02
import Derived.Test.YtcpllhjhnfmepaaGreatDoorFX10
/- what file.Make makes: in plain words. -/
namespace Go.Proofs.YtcpllhjhnfmepaaGreatDoor
set_option linter.all false
set_option linter.unusedSimpArgs false
set_option linter.unusedVariables false
open Go.RowKit
def nextM (l : List CG) : Int := l.foldl (fun n c => max n (min c.id 1099511627776 + 1)) 1
def statsM (part : List (List GV)) : Nat → List CG → List ST
  | _, [] => []
  | j, _ :: cs => ofS (colL part j) :: statsM part (j + 1) cs
def bytesM (part : List (List GV)) : Nat → List CG → List ByteArray
  | _, [] => []
  | j, c :: cs => ⟨(encOut c.kind (colL part j)).toArray⟩ :: bytesM part (j + 1) cs
def grpM (cs : List CG) (part : List (List GV)) : GG := ⟨part.length, statsM part 0 cs, bytesM part 0 cs⟩
def partM (rs : List (List GV)) (k : Nat) : List (List GV) := (rs.drop (6 * k)).take 6
def makeF (cs : List CG) (rs : List (List GV)) : FG := ⟨cs, (List.range ((rs.length + 5) / 6)).map fun k => grpM cs (partM rs k)⟩
def rowsE (cs : List CG) : List (List GV) → Int
  | [] => 0
  | r :: t => if rowE cs r = 0 then rowsE cs t else rowE cs r
def mkE (cs : List CG) (rs : List (List GV)) : Int := if rightC cs (nextM cs) = false then 1 else if rs.length < 1 ∨ 60 < rs.length then 4 else rowsE cs rs
theorem statsM_len (part : List (List GV)) : ∀ (cs : List CG) (j : Nat), (statsM part j cs).length = cs.length
  | [], _ => rfl
  | _ :: cs, j => by rw [statsM, List.length_cons, statsM_len part cs (j + 1), List.length_cons]
theorem bytesM_len (part : List (List GV)) : ∀ (cs : List CG) (j : Nat), (bytesM part j cs).length = cs.length
  | [], _ => rfl
  | _ :: cs, j => by rw [bytesM, List.length_cons, bytesM_len part cs (j + 1), List.length_cons]
theorem statsM_snoc (part : List (List GV)) : ∀ (cs : List CG) (j : Nat) (c : CG), statsM part j (cs ++ [c]) = statsM part j cs ++ [ofS (colL part (j + cs.length))]
  | [], j, c => rfl
  | d :: cs, j, c => by
    rw [List.cons_append, statsM, statsM, statsM_snoc part cs (j + 1) c, List.length_cons, show j + 1 + cs.length = j + (cs.length + 1) by omega]
    rfl
theorem bytesM_snoc (part : List (List GV)) : ∀ (cs : List CG) (j : Nat) (c : CG), bytesM part j (cs ++ [c]) = bytesM part j cs ++ [⟨(encOut c.kind (colL part (j + cs.length))).toArray⟩]
  | [], j, c => rfl
  | d :: cs, j, c => by
    rw [List.cons_append, bytesM, bytesM, bytesM_snoc part cs (j + 1) c, List.length_cons, show j + 1 + cs.length = j + (cs.length + 1) by omega]
    rfl
theorem takeC_succ {cs : List CG} {k : Nat} {c : CG} (h : cs[k]? = some c) : cs.take (k + 1) = cs.take k ++ [c] := by rw [List.take_add_one, h]; rfl
theorem nextM_take {cs : List CG} {k : Nat} {c : CG} (h : cs[k]? = some c) : (cs.take (k + 1)).foldl (fun n c => max n (min c.id 1099511627776 + 1)) 1 = max ((cs.take k).foldl (fun n c => max n (min c.id 1099511627776 + 1)) 1) (min c.id 1099511627776 + 1) := by
  rw [takeC_succ h, List.foldl_append]
  rfl
theorem nextM_bound : ∀ (cs : List CG) (n : Int), 1 ≤ n → n ≤ 1099511627777 → 1 ≤ cs.foldl (fun n c => max n (min c.id 1099511627776 + 1)) n ∧ cs.foldl (fun n c => max n (min c.id 1099511627776 + 1)) n ≤ 1099511627777
  | [], n, h1, h2 => ⟨h1, h2⟩
  | c :: cs, n, h1, h2 => nextM_bound cs (max n (min c.id 1099511627776 + 1)) (by omega) (by omega)
theorem mk_rows {cs : List CG} : ∀ {rs : List (List GV)}, rowsE cs rs = 0 → ∀ r ∈ rs, rowE cs r = 0
  | [], _ => fun _ h => by cases h
  | r :: t, h => by
    unfold rowsE at h
    split at h
    · rename_i h0
      intro x hx
      rcases List.mem_cons.1 hx with rfl | hx
      · exact h0
      · exact mk_rows h x hx
    · rename_i h0; exact absurd h h0
theorem row_len {cs : List CG} {r : List GV} (h : rowE cs r = 0) : r.length = cs.length := by
  unfold rowE at h
  split at h
  · rename_i e; exact e
  · cases h
theorem rowF_cell : ∀ {cs : List CG} {r : List GV} {j : Nat} {c : CG} {v : GV}, rowF cs r = 0 → cs[j]? = some c → r[j]? = some v → cellE c v = 0
  | [], _, j, c, v, _, h, _ => by simp at h
  | _ :: _, [], j, c, v, _, _, h => by simp at h
  | d :: cs, y :: r, 0, c, v, h, h1, h2 => by
    simp at h1 h2
    subst h1 h2
    unfold rowF at h
    split at h
    · rename_i e; exact e
    · rename_i e; exact absurd h e
  | d :: cs, y :: r, j + 1, c, v, h, h1, h2 => by
    unfold rowF at h
    split at h
    · exact rowF_cell (j := j) h (by simpa using h1) (by simpa using h2)
    · rename_i e; exact absurd h e
theorem row_cell {cs : List CG} {r : List GV} {j : Nat} {c : CG} {v : GV} (h : rowE cs r = 0) (h1 : cs[j]? = some c) (h2 : r[j]? = some v) : cellE c v = 0 := by
  unfold rowE at h
  split at h
  · exact rowF_cell h h1 h2
  · cases h
theorem cellE_bad {c : CG} {v : GV} (h : cellE c v = 0) : badIn c.kind v = false := by
  unfold cellE at h
  unfold badIn
  split at h
  · cases h
  · rename_i h1
    have h1 : rightB v.kind v.num v.text = true := by simpa using h1
    rw [h1]
    split at h
    · rename_i h2
      simp [h2]
    · split at h
      · rename_i h3
        simp [h3]
      · cases h
theorem colL_mem {part : List (List GV)} {j : Nat} {x : GV} (hx : x ∈ colL part j) : ∃ r ∈ part, x = r.getD j gv00 := by
  unfold colL at hx
  obtain ⟨r, h1, h2⟩ := List.mem_map.1 hx
  exact ⟨r, h1, h2.symm⟩
theorem col_enc {cs : List CG} {part : List (List GV)} {j : Nat} {c : CG} (h : ∀ r ∈ part, rowE cs r = 0) (h1 : cs[j]? = some c) (hk : c.kind = 1 ∨ c.kind = 2) (hl : part.length ≤ 60) : encErr c.kind (colL part j) = 0 := by
  have hjl := (List.getElem?_eq_some_iff.1 h1).1
  have hb : (colL part j).any (badIn c.kind) = false := by
    rw [List.any_eq_false]
    intro x hx
    obtain ⟨r, hr, rfl⟩ := colL_mem hx
    have hlen := row_len (h r hr)
    have hg : r[j]? = some (r.getD j gv00) := by rw [List.getD_eq_getElem?_getD, List.getElem?_eq_getElem (by omega)]; rfl
    rw [cellE_bad (row_cell (h r hr) h1 hg)]
    simp
  unfold encErr
  rw [if_neg, if_neg]
  · unfold colL; simpa using hl
  · rw [hb]
    simp
    omega
theorem partM_mem {rs : List (List GV)} {k : Nat} {r : List GV} (h : r ∈ partM rs k) : r ∈ rs := by
  unfold partM at h
  exact List.mem_of_mem_drop (List.mem_of_mem_take h)
theorem partM_len (rs : List (List GV)) (k : Nat) : (partM rs k).length = min 6 (rs.length - 6 * k) := by unfold partM; rw [List.length_take, List.length_drop]
theorem RR.part {w : World} {b o : Nat} {rs : List (List GV)} (h : RR w (some ⟨b, o, none⟩) rs) (k : Nat) : RR w (some ⟨b, o + 6 * k, none⟩) (partM rs k) := fun i r hi => by
  unfold partM at hi
  have h6 : i < 6 := by
    have := (List.getElem?_eq_some_iff.1 hi).1
    rw [List.length_take] at this
    omega
  rw [List.getElem?_take_of_lt h6, List.getElem?_drop] at hi
  obtain ⟨b', o', A1, c1, e, h0, h1⟩ := h _ r hi
  obtain ⟨rfl, rfl⟩ : b = b' ∧ o = o' := by simpa using e
  exact ⟨b, o + 6 * k, A1, c1, rfl, by rw [Nat.add_assoc]; exact h0, h1⟩
end Go.Proofs.YtcpllhjhnfmepaaGreatDoor

/- millpondkeep.same: of lists that are the same. -/
namespace Go.Proofs.YtcpllhjhnfmepaaGreatDoor
set_option linter.unusedSimpArgs false
set_option linter.unusedVariables false
open Go.RowKit
set_option linter.all false
set_option maxRecDepth 100000 in
set_option maxHeartbeats 8000000 in
theorem ksame1_any (l m : List GV) (A A2 : Option Addr) (cap cap2 : Nat) (w : World) (hr : RV w A l) (hr2 : RV w A2 m) (hl : l.length ≤ 140737488355328) (hl2 : m.length ≤ 140737488355328) :
    Calls Tryz.prog 45 #[.slice A l.length cap, .slice A2 m.length cap2] w fun e w' => e = .returned (.bool (eqL l m)) ∧ Ext w w' := by
  have HE := Lib.hid (fun (W : World) (hx : Ext w W) => equal_any l m A A2 cap cap2 W (hr.ext hx) (hr2.ext hx) hl hl2)
  generalize eqL l m = b at *
  generalize l.length = n at *
  generalize m.length = k at *
  have hS := Hp.init w
  have hR := Reads.nil w
  go_enter Tryz.func45, Tryz.ntmps45
  go_wp2_with (first | ((with_reducible first | refine nhLa ?_ | refine nhLs ?_ | refine nhLd ?_ | refine nhCa ?_ | refine nhCs ?_ | refine nhCd ?_ | refine nhPa ?_ | refine nhPs ?_ | refine nhPd ?_ | refine nhKa ?_ | refine nhKs ?_ | refine nhKd ?_); ((try clear hF); clear hS; intro wk hS; (try simp only [List.set_cons_zero, List.set_cons_succ, heap_size, heap_set_size] at hS); ((try clear hF); (first | have hF := And.intro hS.facts (hR.at hS.ext) | have hF := hS.facts); simp only [HFacts, cellFacts, RFacts, cellOnly, and_true, true_and, Nat.zero_add, Nat.reduceAdd] at hF))) | (go_at_call 46; (with_reducible refine (HE.out _ hS.ext).mono ?_); rintro e wk ⟨rfl, hX⟩; replace hS := hS.step hX; clear hX; ((try clear hF); (first | have hF := And.intro hS.facts (hR.at hS.ext) | have hF := hS.facts); simp only [HFacts, cellFacts, RFacts, cellOnly, and_true, true_and, Nat.zero_add, Nat.reduceAdd] at hF)))
  go_ret
  exact ⟨rfl, hS.ext⟩
set_option maxRecDepth 100000 in
set_option maxHeartbeats 8000000 in
theorem reqf_any (rs : List (List GV)) (A A2 : Option Addr) (cap cap2 : Nat) (w : World) (hr : RR w A rs) (hr2 : RR w A2 rs) (hl : rs.length ≤ 100000) (hl2 : ∀ r ∈ rs, r.length ≤ 100000) :
    Calls Tryz.prog 44 #[.slice A rs.length cap, .slice A2 rs.length cap2, .func (.func 45) #[] #[]] w fun e w' => e = .returned (.bool true) ∧ Ext w w' := by
  obtain ⟨n, hn⟩ : ∃ n, n = rs.length := ⟨_, rfl⟩
  rw [← hn] at hl ⊢
  have Hn := Lib.hid hn
  have HL2 := Lib.hid hl2
  clear hn hl2
  have hS := Hp.init w
  have hR := Reads.nil w
  go_enter Tryz.func44, Tryz.ntmps44
  go_wp2_with (first | ((with_reducible first | refine nhLa ?_ | refine nhLs ?_ | refine nhLd ?_ | refine nhCa ?_ | refine nhCs ?_ | refine nhCd ?_ | refine nhPa ?_ | refine nhPs ?_ | refine nhPd ?_ | refine nhKa ?_ | refine nhKs ?_ | refine nhKd ?_); ((try clear hF); clear hS; intro wk hS; (try simp only [List.set_cons_zero, List.set_cons_succ, heap_size, heap_set_size] at hS); ((try clear hF); (first | have hF := And.intro hS.facts (hR.at hS.ext) | have hF := hS.facts); simp only [HFacts, cellFacts, RFacts, cellOnly, and_true, true_and, Nat.zero_add, Nat.reduceAdd] at hF))) | fail)
  go_loopw [17] (fun i wr => ∃ k : Nat, i = .int .i64 k ∧ k ≤ n ∧ Hp w.heap.size w wr []) (fun i _ => n - (intOf i).toNat)
  case atStart => exact ⟨0, rfl, Nat.zero_le _, hS⟩
  case round =>
    clear hS
    obtain ⟨k, rfl, hk, hS⟩ := hrel
    by_cases hlt : k < n
    · obtain ⟨r, hr'⟩ : ∃ x, rs[k]? = some x := ⟨rs[k]'(by rw [← Hn.out]; exact hlt), List.getElem?_eq_getElem _⟩
      obtain ⟨b, o, A1, c1, rfl, h0, h1⟩ := hr k r hr'
      obtain ⟨b2, o2, A3, c3, rfl, h2, h3⟩ := hr2 k r hr'
      have hrl := HL2.out r (List.mem_of_getElem? hr')
      have HE := Lib.hid (fun (W : World) (hx : Ext w W) => show Calls Tryz.prog 45 #[.slice A1 r.length c1, .slice A3 r.length c3] W fun e w' => e = .returned (.bool true) ∧ Ext W w' from by
        have := ksame1_any r r A1 A3 c1 c3 W (h1.ext hx) (h3.ext hx) (by omega) (by omega)
        rw [(eqL_iff r r).2 rfl] at this
        exact this)
      obtain ⟨q, hq⟩ : ∃ q, q = r.length := ⟨_, rfl⟩
      rw [← hq] at h0 h2 HE hrl
      clear hR hq hr'
      have hR := Reads.cell h0 (Reads.cell h2 (Reads.nil w))
      clear h0 h1 h2 h3 hr hr2
      ((try clear hF); (first | have hF := And.intro hS.facts (hR.at hS.ext) | have hF := hS.facts); simp only [HFacts, cellFacts, RFacts, cellOnly, and_true, true_and, Nat.zero_add, Nat.reduceAdd] at hF)
      go_wp2_with (first | ((with_reducible first | refine nhLa ?_ | refine nhLs ?_ | refine nhLd ?_ | refine nhCa ?_ | refine nhCs ?_ | refine nhCd ?_ | refine nhPa ?_ | refine nhPs ?_ | refine nhPd ?_ | refine nhKa ?_ | refine nhKs ?_ | refine nhKd ?_); ((try clear hF); clear hS; intro wk hS; (try simp only [List.set_cons_zero, List.set_cons_succ, heap_size, heap_set_size] at hS); ((try clear hF); (first | have hF := And.intro hS.facts (hR.at hS.ext) | have hF := hS.facts); simp only [HFacts, cellFacts, RFacts, cellOnly, and_true, true_and, Nat.zero_add, Nat.reduceAdd] at hF))) | (go_at_call 45; (with_reducible refine (HE.out _ hS.ext).mono ?_); rintro e wk ⟨rfl, hX⟩; replace hS := hS.step hX; clear hX; ((try clear hF); (first | have hF := And.intro hS.facts (hR.at hS.ext) | have hF := hS.facts); simp only [HFacts, cellFacts, RFacts, cellOnly, and_true, true_and, Nat.zero_add, Nat.reduceAdd] at hF)))
      go_roundw
      case rel => exact ⟨k + 1, by go_num, by omega, hS⟩
      case measure => simp [intOf]; omega
    · obtain rfl : k = n := by omega
      ((try clear hF); (first | have hF := And.intro hS.facts (hR.at hS.ext) | have hF := hS.facts); simp only [HFacts, cellFacts, RFacts, cellOnly, and_true, true_and, Nat.zero_add, Nat.reduceAdd] at hF)
      go_wp2_with (first | ((with_reducible first | refine nhLa ?_ | refine nhLs ?_ | refine nhLd ?_ | refine nhCa ?_ | refine nhCs ?_ | refine nhCd ?_ | refine nhPa ?_ | refine nhPs ?_ | refine nhPd ?_ | refine nhKa ?_ | refine nhKs ?_ | refine nhKd ?_); ((try clear hF); clear hS; intro wk hS; (try simp only [List.set_cons_zero, List.set_cons_succ, heap_size, heap_set_size] at hS); ((try clear hF); (first | have hF := And.intro hS.facts (hR.at hS.ext) | have hF := hS.facts); simp only [HFacts, cellFacts, RFacts, cellOnly, and_true, true_and, Nat.zero_add, Nat.reduceAdd] at hF))) | fail)
      go_ret
      exact ⟨rfl, hS.ext⟩
set_option maxRecDepth 100000 in
set_option maxHeartbeats 8000000 in
theorem ksame_any (rs : List (List GV)) (A A2 : Option Addr) (cap cap2 : Nat) (w : World) (hr : RR w A rs) (hr2 : RR w A2 rs) (hl : rs.length ≤ 100000) (hl2 : ∀ r ∈ rs, r.length ≤ 100000) :
    Calls Tryz.prog 14 #[.slice A rs.length cap, .slice A2 rs.length cap2] w fun e w' => e = .returned (.bool true) ∧ Ext w w' := by
  have HE := Lib.hid (fun (W : World) (hx : Ext w W) => reqf_any rs A A2 cap cap2 W (hr.ext hx) (hr2.ext hx) hl hl2)
  generalize rs.length = n at *
  have hS := Hp.init w
  have hR := Reads.nil w
  go_enter Tryz.func14, Tryz.ntmps14
  go_wp2_with (first | ((with_reducible first | refine nhLa ?_ | refine nhLs ?_ | refine nhLd ?_ | refine nhCa ?_ | refine nhCs ?_ | refine nhCd ?_ | refine nhPa ?_ | refine nhPs ?_ | refine nhPd ?_ | refine nhKa ?_ | refine nhKs ?_ | refine nhKd ?_); ((try clear hF); clear hS; intro wk hS; (try simp only [List.set_cons_zero, List.set_cons_succ, heap_size, heap_set_size] at hS); ((try clear hF); (first | have hF := And.intro hS.facts (hR.at hS.ext) | have hF := hS.facts); simp only [HFacts, cellFacts, RFacts, cellOnly, and_true, true_and, Nat.zero_add, Nat.reduceAdd] at hF))) | (go_at_call 44; (with_reducible refine (HE.out _ hS.ext).mono ?_); rintro e wk ⟨rfl, hX⟩; replace hS := hS.step hX; clear hX; ((try clear hF); (first | have hF := And.intro hS.facts (hR.at hS.ext) | have hF := hS.facts); simp only [HFacts, cellFacts, RFacts, cellOnly, and_true, true_and, Nat.zero_add, Nat.reduceAdd] at hF)))
  go_ret
  exact ⟨rfl, hS.ext⟩
end Go.Proofs.YtcpllhjhnfmepaaGreatDoor

/- Arguments that are columns, and rows of values: what their cells hold. -/
namespace Go.Proofs.YtcpllhjhnfmepaaGreatDoor
set_option linter.unusedSimpArgs false
set_option linter.unusedVariables false
open Go.RowKit
set_option linter.all false
open Go.ChangeShapes Go.WideShapes Go.ChangeAt Go.Joins Go.Deep
theorem Tryz.cellsVals : Tryz.prog.cellsOf 57 = 1 := by kernel_rfl
section
variable {H : Type} {enc : TypeId × Value → H} {w : World} {base fuel : Nat} {spare : Nat → Bool} {held : Bool}
set_option maxRecDepth 100000 in
theorem col_cells64 {c0 c1 c2 c3 c4 c5 c6 : Value} {x : DataW H × List MemPlace} (h : DataW.trod enc Tryz.prog w base spare held fuel 47 [c0, c1, c2, c3, c4, c5, c6] = some x) : ∃ p : CG, (c0 = .int .i64 p.id ∧ c1 = .string p.name ∧ c2 = .int .i64 p.kind ∧ c3 = .bool p.must ∧ c4 = .int .i64 p.d.kind ∧ c5 = .int .i64 p.d.num ∧ c6 = .string p.d.text) ∧ i64 p.id := by
  obtain ⟨p, h0, h1⟩ := col_cells h
  refine ⟨p, ⟨h0, h1⟩, ?_⟩
  obtain ⟨y0, y1, y2, y3, y4, n, hl, h0', _⟩ := trod_struct5 Tryz.underlying47 h
  simp only [Tryz.cellsInt, List.drop_zero, List.take_succ_cons, List.take_zero] at h0'
  obtain ⟨id, e0, _, w0⟩ := DataW.trod_int Tryz.underlying3 h0'
  simp only [List.cons.injEq, and_true] at e0
  rw [h0] at e0
  obtain rfl : p.id = id := by simpa using e0
  exact i64_wf w0
/-- the cells of columns -/
def colC (c : CG) : List Value := [.int .i64 c.id, .string c.name, .int .i64 c.kind, .bool c.must, .int .i64 c.d.kind, .int .i64 c.d.num, .string c.d.text]
set_option maxRecDepth 100000 in
theorem cols_cells {cs : List Value} {x : DataW H × List MemPlace} (h : DataW.trod enc Tryz.prog w base spare held fuel 22 cs = some x) :
    ∃ (l : List CG) (A : Option Addr) (c : Nat), cs = [.slice A l.length c] ∧ RC w A l ∧ l.length ≤ c ∧ ∀ x ∈ l, i64 x.id := by
  rcases open_slice Tryz.underlying22 h with ⟨hcs, hx⟩ | ⟨a, len, cap, m, n, D, Pl, hcs, hb, hl, hm, hmm, hx, hi⟩
  · subst hcs
    exact ⟨[], none, 0, rfl, fun i x hi => by simp at hi, by simp, fun x h => by cases h⟩
  · subst hcs
    rw [Tryz.cellsCol] at hi
    have hlm : len ≤ m := by rw [hmm]; split <;> omega
    obtain ⟨l, hll, hq⟩ := list_of (Q := fun i (x : CG) => i64 x.id ∧ ∀ j u, (colC x)[j]? = some u → w.cell? (a.add (i * 7 + j)) = some u) len (fun i hil => by
      obtain ⟨cs', hc, ht⟩ := hi i (by omega)
      obtain ⟨_, hcl, hat⟩ := World.cells?_some hc
      match cs', hcl with
      | [c0, c1, c2, c3, c4, c5, c6], _ =>
        obtain ⟨x, ⟨rfl, rfl, rfl, rfl, rfl, rfl, rfl⟩, hxi⟩ := col_cells64 ht
        refine ⟨x, hxi, fun j u hu => ?_⟩
        have hj : j < 7 := by
          have := (List.getElem?_eq_some_iff.1 hu).1
          simpa [colC] using this
        rw [← Go.Deep.add_add, hat j hj]
        exact hu)
    refine ⟨l, some a, cap, by rw [hll], fun i x hx' => ?_, by rw [hll]; exact hl, fun x hx' => ?_⟩
    · have q := (hq i x hx').2
      have hil : i < l.length := (List.getElem?_eq_some_iff.1 hx').1
      have z0 : w.cell? a = some (.int .i64 (l[0]'(by omega)).id) := by
        have := (hq 0 (l[0]'(by omega)) (List.getElem?_eq_getElem _)).2 0 _ rfl
        simpa [Addr.add] using this
      obtain ⟨b, o, spot⟩ := a
      have hspot : spot = none := by
        have := World.cell?_spot z0
        simpa using this
      subst hspot
      have q' : ∀ j u, (colC x)[j]? = some u → w.cell? ⟨b, o + (i * 7 + j), none⟩ = some u := fun j u hu => by rw [← addr_add]; exact q j u hu
      refine ⟨b, o, rfl, ?_, ?_, ?_, ?_, ?_, ?_, ?_⟩
      · exact q' 0 _ rfl
      · exact q' 1 _ rfl
      · exact q' 2 _ rfl
      · exact q' 3 _ rfl
      · exact q' 4 _ rfl
      · exact q' 5 _ rfl
      · exact q' 6 _ rfl
    · obtain ⟨i, hi'⟩ := List.getElem?_of_mem hx'
      exact (hq i x hi').1
set_option maxRecDepth 100000 in
theorem vals_cells {cs : List Value} {x : DataW H × List MemPlace} (h : DataW.trod enc Tryz.prog w base spare held fuel 57 cs = some x) :
    ∃ (l : List GV) (A : Option Addr) (c : Nat), cs = [.slice A l.length c] ∧ RV w A l ∧ l.length ≤ c ∧ ∀ x ∈ l, i64 x.num := by
  rcases open_slice Tryz.underlying57 h with ⟨hcs, hx⟩ | ⟨a, len, cap, m, n, D, Pl, hcs, hb, hl, hm, hmm, hx, hi⟩
  · subst hcs
    exact ⟨[], none, 0, rfl, fun i x hi => by simp at hi, by simp, fun x h => by cases h⟩
  · subst hcs
    rw [Tryz.cellsVal] at hi
    have hlm : len ≤ m := by rw [hmm]; split <;> omega
    obtain ⟨l, hll, hq⟩ := list_of (Q := fun i (x : GV) => i64 x.num ∧ ∀ j u, [Value.int .i64 x.kind, .int .i64 x.num, .string x.text][j]? = some u → w.cell? (a.add (i * 3 + j)) = some u) len (fun i hil => by
      obtain ⟨cs', hc, ht⟩ := hi i (by omega)
      obtain ⟨x, rfl, hxi⟩ := val_cells ht
      obtain ⟨_, hcl, hat⟩ := World.cells?_some hc
      refine ⟨x, hxi, fun j u hu => ?_⟩
      have hj : j < 3 := by
        have := (List.getElem?_eq_some_iff.1 hu).1
        simpa using this
      rw [← Go.Deep.add_add, hat j hj, hu])
    refine ⟨l, some a, cap, by rw [hll], fun i x hx' => ?_, by rw [hll]; exact hl, fun x hx' => ?_⟩
    · have q := (hq i x hx').2
      have hil : i < l.length := (List.getElem?_eq_some_iff.1 hx').1
      have z0 : w.cell? a = some (.int .i64 (l[0]'(by omega)).kind) := by
        have := (hq 0 (l[0]'(by omega)) (List.getElem?_eq_getElem _)).2 0 _ rfl
        simpa [Addr.add] using this
      obtain ⟨b, o, spot⟩ := a
      have hspot : spot = none := by
        have := World.cell?_spot z0
        simpa using this
      subst hspot
      have q' : ∀ j u, [Value.int .i64 x.kind, .int .i64 x.num, .string x.text][j]? = some u → w.cell? ⟨b, o + (i * 3 + j), none⟩ = some u := fun j u hu => by rw [← addr_add]; exact q j u hu
      exact ⟨b, o, rfl, q' 0 _ rfl, q' 1 _ rfl, q' 2 _ rfl⟩
    · obtain ⟨i, hi'⟩ := List.getElem?_of_mem hx'
      exact (hq i x hi').1
set_option maxRecDepth 100000 in
theorem Tryz.bytesVals : Tryz.prog.bytesOf 57 = 24 := by kernel_rfl
set_option maxRecDepth 100000 in
theorem rows_cap {a0 : Option Addr} {len cap : Nat} {d : DataW H} {pl : List MemPlace} (h : DataW.trod enc Tryz.prog w base (fun _ => true) held fuel 23 [.slice a0 len cap] = some (d, pl)) (hz : ∀ n ∈ d.weights Tryz.prog 23, n ≤ reachBytes) : cap ≤ 140737488355328 := by
  rcases open_slice Tryz.underlying23 h with ⟨hcs, hx⟩ | ⟨a, len', cap', m, n, D, Pl, hcs, hb, hl, hm, hmm, hx, hi⟩
  · simp at hcs
    omega
  · simp at hcs
    obtain ⟨rfl, rfl, rfl⟩ := hcs
    simp only [Prod.mk.injEq] at hx
    have hd := hx.1
    subst hd
    have := hz ((len + (m - len)) * Tryz.prog.bytesOf 57) (by simp [DataW.weights, Tryz.underlying23])
    rw [Tryz.bytesVals] at this
    simp [reachBytes] at this
    simp at hmm
    omega
set_option maxRecDepth 100000 in
theorem rows_cells {cs : List Value} {x : DataW H × List MemPlace} (h : DataW.trod enc Tryz.prog w base spare held fuel 23 cs = some x) :
    ∃ (l : List (List GV)) (A : Option Addr) (c : Nat), cs = [.slice A l.length c] ∧ RR w A l ∧ l.length ≤ c ∧ ∀ r ∈ l, ∀ x ∈ r, i64 x.num := by
  rcases open_slice Tryz.underlying23 h with ⟨hcs, hx⟩ | ⟨a, len, cap, m, n, D, Pl, hcs, hb, hl, hm, hmm, hx, hi⟩
  · subst hcs
    exact ⟨[], none, 0, rfl, fun i x hi => by simp at hi, by simp, fun x h => by cases h⟩
  · subst hcs
    rw [Tryz.cellsVals] at hi
    have hlm : len ≤ m := by rw [hmm]; split <;> omega
    obtain ⟨l, hll, hq⟩ := list_of (Q := fun i (r : List GV) => (∀ x ∈ r, i64 x.num) ∧ ∃ A1 c1, w.cell? (a.add i) = some (.slice A1 r.length c1) ∧ RV w A1 r) len (fun i hil => by
      obtain ⟨cs', hc, ht⟩ := hi i (by omega)
      obtain ⟨r, A1, c1, rfl, hr, _, hxi⟩ := vals_cells ht
      obtain ⟨_, hcl, hat⟩ := World.cells?_some hc
      refine ⟨r, hxi, A1, c1, ?_, hr⟩
      have := hat 0 (by decide)
      rw [Go.Deep.add_add, Nat.mul_one, Nat.add_zero] at this
      exact this)
    refine ⟨l, some a, cap, by rw [hll], fun i r hx' => ?_, by rw [hll]; exact hl, fun x hx' => ?_⟩
    · obtain ⟨_, A1, c1, q, hr⟩ := hq i r hx'
      have hil : i < l.length := (List.getElem?_eq_some_iff.1 hx').1
      obtain ⟨_, A0, c0, z0, _⟩ := hq 0 (l[0]'(by omega)) (List.getElem?_eq_getElem _)
      have z0 : w.cell? a = some (.slice A0 (l[0]'(by omega)).length c0) := by simpa [Addr.add] using z0
      obtain ⟨b, o, spot⟩ := a
      have hspot : spot = none := by
        have := World.cell?_spot z0
        simpa using this
      subst hspot
      exact ⟨b, o, A1, c1, rfl, by rw [← addr_add]; exact q, hr⟩
    · obtain ⟨i, hi'⟩ := List.getElem?_of_mem hx'
      exact (hq i x hi').1
end
set_option maxRecDepth 100000 in
/-- columns that come in -/
theorem open_cols {H : Type} {enc : TypeId × Value → H} {w : World} {base b0 : Nat} {r : Reach} {v : Value} {d : DataW H} {p : List MemPlace}
    (hv : Value.okWide Tryz.prog w r b0 22 v) (h : DataW.Trod enc Tryz.prog w base (fun _ => true) true 22 v d p) :
    ∃ (l : List CG) (A : Option Addr) (c : Nat), v = .slice A l.length c ∧ RC w A l ∧ l.length ≤ c ∧ ∀ x ∈ l, i64 x.id := by
  obtain ⟨a0, len, cap, rfl⟩ := okWide_slice Tryz.underlying22 hv
  obtain ⟨fuel, hf⟩ := h
  obtain ⟨l, A, c, hcs, h1⟩ := cols_cells hf
  refine ⟨l, A, c, ?_, h1⟩
  simpa [Value.cells] using hcs
set_option maxRecDepth 100000 in
/-- rows that come in -/
theorem open_rows {H : Type} {enc : TypeId × Value → H} {w : World} {base b0 : Nat} {r : Reach} {v : Value} {d : DataW H} {p : List MemPlace}
    (hv : Value.okWide Tryz.prog w r b0 23 v) (h : DataW.Trod enc Tryz.prog w base (fun _ => true) true 23 v d p) (hz : ∀ n ∈ d.weights Tryz.prog 23, n ≤ reachBytes) :
    ∃ (l : List (List GV)) (A : Option Addr) (c : Nat), v = .slice A l.length c ∧ RR w A l ∧ l.length ≤ c ∧ c ≤ 140737488355328 ∧ ∀ r ∈ l, ∀ x ∈ r, i64 x.num := by
  obtain ⟨a0, len, cap, rfl⟩ := okWide_slice Tryz.underlying23 hv
  obtain ⟨fuel, hf⟩ := h
  obtain ⟨l, A, c, hcs, h1, h2, h3⟩ := rows_cells hf
  have hcs : Value.slice a0 len cap = .slice A l.length c := by simpa [Value.cells] using hcs
  have hc : cap ≤ 140737488355328 := rows_cap (by simpa [Value.cells] using hf) hz
  obtain rfl : cap = c := by simp at hcs; exact hcs.2.2
  exact ⟨l, A, cap, hcs, h1, h2, hc, h3⟩
end Go.Proofs.YtcpllhjhnfmepaaGreatDoor
