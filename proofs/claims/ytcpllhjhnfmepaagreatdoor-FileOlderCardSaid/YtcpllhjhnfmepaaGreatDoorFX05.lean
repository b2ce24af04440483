/- Texts joined: the writer of files: number, text. In place: a row is shrunk, appended to where there is room, cleared behind its end. For any program. In a round of a range over a function, and in an iterator: regions and appends under Hp. For any program. slices.Index, IndexFunc, Contains, ContainsFunc, Equal at values. -/
import Derived.Test.YtcpllhjhnfmepaaGreatDoorFX04
import Derived.Test.YtcpllhjhnfmepaaGreatDoorFX03
import Derived.Deep.DeepAppendRoom
import Derived.Lib.SliceRun
import Derived.RangeFuncNested
import Derived.RangeFuncBound
import Derived.RangeFuncCalls
import Derived.RangeFuncLeaves
import Derived.Shelf.Abstract
import Derived.Shelf.RegionOpen
import Derived.WalkKit
import Derived.OwnWalkIn
import Derived.TacticsInMore
import Derived.LoopNIn
import Derived.LoopIn
/- the writer of files: number, text. -/
namespace Go.Proofs.YtcpllhjhnfmepaaGreatDoor
set_option linter.all false
set_option linter.unusedSimpArgs false
set_option linter.unusedVariables false
open Go.RowKit
open Go.Lib (uvarint)
/-- a writer at gw that has written l -/
abbrev wIt (gw : Nat) (A : Option Addr) (n cap : Nat) (l : List UInt8) (L : List Item) : List Item := .row 5 1 A n cap (l.map B8) :: .blk gw [.slice A n cap] 90 :: L
set_option maxRecDepth 100000 in
set_option maxHeartbeats 8000000 in
theorem wnumber_any {B : Nat} {w0 w : World} {L : List Item} {gw : Nat} (A : Option Addr) (n cap : Nat) (l : List UInt8) (u : Nat) (hu : u < 9223372036854775808) (hn : l.length = n) (hl : n ≤ 1000000000000) (hS : Hp B w0 w (wIt gw A n cap l L)) :
    Calls Tryz.prog 35 #[.pointer (some ⟨gw, 0, none⟩), .int .i64 u] w fun e w' => e = .returned (.tuple #[]) ∧ ∃ A' n' cap', Hid ((l ++ uvarint u).length = n') ∧ Hp B w0 w' (wIt gw A' n' cap' (l ++ uvarint u) L) := by
  have Hn := Lib.hid hn
  have HL := Lib.hid (Lib.uvarint_length64 (show u < 18446744073709551616 by omega))
  have hwu : IntKind.u64.wrap (u : Int) = u := by rw [IntKind.wrap_u64]; omega
  clear hn
  ((try clear hF); (first | have hF := And.intro hS.facts (hR.at hS.ext) | have hF := hS.facts); simp only [HFacts, cellFacts, RFacts, cellOnly, and_true, true_and, Nat.zero_add, Nat.reduceAdd] at hF)
  go_enter Tryz.func35, Tryz.ntmps35
  go_wp2_with (first | ((with_reducible first | refine nhLa ?_ | refine nhLs ?_ | refine nhLd ?_ | refine nhCa ?_ | refine nhCs ?_ | refine nhCd ?_ | refine nhPa ?_ | refine nhPs ?_ | refine nhPd ?_ | refine nhKa ?_ | refine nhKs ?_ | refine nhKd ?_); ((try clear hF); clear hS; intro wk hS; (try simp only [List.set_cons_zero, List.set_cons_succ, heap_size, heap_set_size] at hS); ((try clear hF); (first | have hF := And.intro hS.facts (hR.at hS.ext) | have hF := hS.facts); simp only [HFacts, cellFacts, RFacts, cellOnly, and_true, true_and, Nat.zero_add, Nat.reduceAdd] at hF))) | fail)
  go_loopw [4] (fun x wr => ∃ (A : Option Addr) (cap n2 : Nat) (l' : List UInt8) (m : Nat), x = .int .u64 m ∧ m < 9223372036854775808 ∧ Hid (l'.length = n2) ∧ Hid (l' ++ uvarint m = l ++ uvarint u) ∧ Hp B w0 wr (wIt gw A n2 cap l' L)) (fun x _ => (intOf x).toNat)
  case atStart => exact ⟨A, cap, n, l, u, rfl, hu, Hn, Lib.hid rfl, hS⟩
  case round =>
    clear hS hF
    obtain ⟨A, cap, n', l', m, rfl, hm, Hn', Hl, hS⟩ := hrel
    have hb : n' ≤ n + 10 := by
      have h1 := congrArg List.length Hl.out
      simp only [List.length_append] at h1
      have := Lib.uvarint_pos m
      have := HL.out
      have := Hn.out
      have := Hn'.out
      omega
    by_cases hbig : m < 128
    · have hlt : (m : Int) < 128 := by omega
      have hw : IntKind.u8.wrap (m : Int) = m := by simp [IntKind.wrap, IntKind.bits, IntKind.signed]; omega
      ((try clear hF); (first | have hF := And.intro hS.facts (hR.at hS.ext) | have hF := hS.facts); simp only [HFacts, cellFacts, RFacts, cellOnly, and_true, true_and, Nat.zero_add, Nat.reduceAdd] at hF)
      go_wp2_with (first | ((with_reducible first | refine nhLa ?_ | refine nhLs ?_ | refine nhLd ?_ | refine nhCa ?_ | refine nhCs ?_ | refine nhCd ?_ | refine nhPa ?_ | refine nhPs ?_ | refine nhPd ?_ | refine nhKa ?_ | refine nhKs ?_ | refine nhKd ?_); ((try clear hF); clear hS; intro wk hS; (try simp only [List.set_cons_zero, List.set_cons_succ, heap_size, heap_set_size] at hS); ((try clear hF); (first | have hF := And.intro hS.facts (hR.at hS.ext) | have hF := hS.facts); simp only [HFacts, cellFacts, RFacts, cellOnly, and_true, true_and, Nat.zero_add, Nat.reduceAdd] at hF))) | (at_builtin; refine wpList_push_hp Tryz.elem_bytes rfl (.tmp 28) (.tmp 31) rfl (hS.second 0 rfl) rfl rfl rfl (by simp [Value.oneCell']) (by omega) (by omega) ?_; clear hS; intro Ak capk wk hS; (try simp only [List.eraseIdx_cons_zero, List.eraseIdx_cons_succ, List.set_cons_zero, List.set_cons_succ] at hS); ((try clear hF); (first | have hF := And.intro hS.facts (hR.at hS.ext) | have hF := hS.facts); simp only [HFacts, cellFacts, RFacts, cellOnly, and_true, true_and, Nat.zero_add, Nat.reduceAdd] at hF)))
      go_end0
      have e : (l' ++ [UInt8.ofNat m]).map B8 = l'.map B8 ++ [.int .u8 m] := by rw [List.map_append, List.map_cons, List.map_nil, b8_of m (by omega)]
      refine ⟨rfl, Ak, n' + 1, capk, Lib.hid ?_, ?_⟩
      · rw [← Hl.out, Lib.uvarint_small hbig, List.length_append, Hn'.out]
        rfl
      · rw [← Hl.out, Lib.uvarint_small hbig]
        unfold wIt
        rw [e]
        exact hS
    · have hge : (128 : Int) ≤ m := by omega
      have hw := and127 m (show m < 18446744073709551616 by omega)
      have hw2 := or128 m
      have HB := Lib.hid hbig
      have HV' := Lib.hid (show Value.int .u8 ((m : Int) % 128 + 128) = B8 (UInt8.ofNat (m % 128 + 128)) by rw [← b8_of _ (by omega)]; simp)
      clear hbig
      ((try clear hF); (first | have hF := And.intro hS.facts (hR.at hS.ext) | have hF := hS.facts); simp only [HFacts, cellFacts, RFacts, cellOnly, and_true, true_and, Nat.zero_add, Nat.reduceAdd] at hF)
      go_wp2_with (first | ((with_reducible first | refine nhLa ?_ | refine nhLs ?_ | refine nhLd ?_ | refine nhCa ?_ | refine nhCs ?_ | refine nhCd ?_ | refine nhPa ?_ | refine nhPs ?_ | refine nhPd ?_ | refine nhKa ?_ | refine nhKs ?_ | refine nhKd ?_); ((try clear hF); clear hS; intro wk hS; (try simp only [List.set_cons_zero, List.set_cons_succ, heap_size, heap_set_size] at hS); ((try clear hF); (first | have hF := And.intro hS.facts (hR.at hS.ext) | have hF := hS.facts); simp only [HFacts, cellFacts, RFacts, cellOnly, and_true, true_and, Nat.zero_add, Nat.reduceAdd] at hF))) | (at_builtin; refine wpList_push_hp Tryz.elem_bytes rfl (.tmp 15) (.tmp 20) rfl (hS.second 0 rfl) rfl rfl rfl (by simp [Value.oneCell']) (by omega) (by omega) ?_; clear hS; intro Ak capk wk hS; (try simp only [List.eraseIdx_cons_zero, List.eraseIdx_cons_succ, List.set_cons_zero, List.set_cons_succ] at hS); ((try clear hF); (first | have hF := And.intro hS.facts (hR.at hS.ext) | have hF := hS.facts); simp only [HFacts, cellFacts, RFacts, cellOnly, and_true, true_and, Nat.zero_add, Nat.reduceAdd] at hF)))
      go_roundw
      case rel =>
        refine ⟨Ak, capk, n' + 1, l' ++ [UInt8.ofNat (m % 128 + 128)], m / 128, by go_num, by omega, Lib.hid (by rw [List.length_append, Hn'.out]; rfl), Lib.hid ?_, ?_⟩
        · rw [← Hl.out, Lib.uvarint_big (x := m) (by have := HB.out; omega)]; simp
        · unfold wIt
          rw [List.map_append, List.map_cons, List.map_nil, ← HV'.out]
          exact hS
      case measure => simp [intOf]; omega
set_option maxRecDepth 100000 in
set_option maxHeartbeats 8000000 in
theorem wtext_any {B : Nat} {w0 w : World} {L : List Item} {gw : Nat} (A : Option Addr) (n cap : Nat) (l : List UInt8) (s : ByteArray) (hs : s.size ≤ 1000000000) (hn : l.length = n) (hl : n ≤ 100000000000) (hS : Hp B w0 w (wIt gw A n cap l L)) :
    Calls Tryz.prog 36 #[.pointer (some ⟨gw, 0, none⟩), .string s] w fun e w' => e = .returned (.tuple #[]) ∧ ∃ A' n' cap', Hid ((l ++ (uvarint s.size ++ s.data.toList)).length = n') ∧ Hp B w0 w' (wIt gw A' n' cap' (l ++ (uvarint s.size ++ s.data.toList)) L) := by
  have HN := Lib.hid (fun (W : World) (hW : Hp B w0 W (wIt gw A n cap l L)) => wnumber_any A n cap l s.size (by omega) hn (by omega) hW)
  have HL := Lib.hid (Lib.uvarint_length64 (show s.size < 18446744073709551616 by omega))
  have Hn := Lib.hid hn
  clear hn
  ((try clear hF); (first | have hF := And.intro hS.facts (hR.at hS.ext) | have hF := hS.facts); simp only [HFacts, cellFacts, RFacts, cellOnly, and_true, true_and, Nat.zero_add, Nat.reduceAdd] at hF)
  go_enter Tryz.func36, Tryz.ntmps36
  go_wp2_with (first | ((with_reducible first | refine nhLa ?_ | refine nhLs ?_ | refine nhLd ?_ | refine nhCa ?_ | refine nhCs ?_ | refine nhCd ?_ | refine nhPa ?_ | refine nhPs ?_ | refine nhPd ?_ | refine nhKa ?_ | refine nhKs ?_ | refine nhKd ?_); ((try clear hF); clear hS; intro wk hS; (try simp only [List.set_cons_zero, List.set_cons_succ, heap_size, heap_set_size] at hS); ((try clear hF); (first | have hF := And.intro hS.facts (hR.at hS.ext) | have hF := hS.facts); simp only [HFacts, cellFacts, RFacts, cellOnly, and_true, true_and, Nat.zero_add, Nat.reduceAdd] at hF))) | (go_at_call 35; (with_reducible refine Calls.mono (HN.out _ hS) ?_); clear hS; rintro e wk ⟨rfl, A2, n2, c2, H2, hS⟩; (have hb2 : n2 ≤ n + 10 := by have h1 := H2.out; rw [List.length_append] at h1; have := HL.out; have := Hn.out; omega); ((try clear hF); (first | have hF := And.intro hS.facts (hR.at hS.ext) | have hF := hS.facts); simp only [HFacts, cellFacts, RFacts, cellOnly, and_true, true_and, Nat.zero_add, Nat.reduceAdd] at hF)) | (at_builtin; refine wpList_append_str_hp Tryz.elem_bytes (by kernel_rfl) Tryz.underlying9 rfl (.tmp 12) (.tmp 13) rfl hS rfl s rfl (by omega) ?_; clear hS; intro A3 c3 wk hS; ((try clear hF); (first | have hF := And.intro hS.facts (hR.at hS.ext) | have hF := hS.facts); simp only [HFacts, cellFacts, RFacts, cellOnly, and_true, true_and, Nat.zero_add, Nat.reduceAdd] at hF)))
  go_end0
  have e : (l ++ (uvarint s.size ++ s.data.toList)).map B8 = (l ++ uvarint s.size).map B8 ++ Lib.strCells s := by
    rw [← List.append_assoc, List.map_append]
    rfl
  refine ⟨rfl, A3, n2 + s.size, c3, Lib.hid ?_, ?_⟩
  · rw [← List.append_assoc, List.length_append, H2.out]
    rfl
  · unfold wIt
    rw [e]
    exact hS
end Go.Proofs.YtcpllhjhnfmepaaGreatDoor

/- In place: a row is shrunk, appended to where there is room, cleared behind its end. For any program. -/
namespace Go.Proofs.YtcpllhjhnfmepaaGreatDoor
set_option linter.all false
open Go.RowKit
section
variable {P : Program} {ops : Array Oper} {F : World → Prop} {QN : Act → World → Prop} {B : Nat} {w0 w : World} {L : List Item} {o : Oper} {rest : List Oper} {a : Act}
theorem ownsRow_shrink {e : TypeId} {size g n cap k : Nat} {xs : List Value} (h : w.ownsRow B e size (.slice (some ⟨g, 0, none⟩) n cap) n xs) (hk : k ≤ n) : w.ownsRow B e size (.slice (some ⟨g, 0, none⟩) k cap) k (xs.take (k * size)) := by
  obtain ⟨hl, h⟩ := h
  have hks : k * size ≤ n * size := Nat.mul_le_mul_right _ hk
  rcases h with ⟨hv, _⟩ | ⟨g', cap', cur, hv, hb, hg, hnc, hcm, hcs, ht⟩
  · cases hv
  · simp at hv
    obtain ⟨rfl, rfl⟩ := hv
    refine ⟨by rw [List.length_take, hl]; omega, .inr ⟨g, cap, cur, rfl, hb, hg, by omega, hcm, hcs, ?_⟩⟩
    rw [← ht, List.take_take, Nat.min_eq_left hks]
theorem Hp.blkRow {e : TypeId} {size g n : Nat} {cs : List Value} (h : Hp B w0 w (.blk g cs e :: L)) (hl : cs.length = n * size) (hm : n ≤ 140737488355328) : Hp B w0 w (.row e size (some ⟨g, 0, none⟩) n n cs :: L) := by
  refine h.turn ((Ext.refl w).grownBy none) (.inl rfl) ⟨hl, .inr ⟨g, n, cs.toArray, rfl, h.head.1, h.head.2, Nat.le_refl _, by unfold maxLen; omega, by simpa using hl, ?_⟩⟩ (.inl rfl)
  rw [← hl]; simp
theorem Hp.putPast {e : TypeId} {size g n cap : Nat} {xs : List Value} : ∀ (vs : List Value) (off : Nat) (w : World), Hp B w0 w (.row e size (some ⟨g, 0, none⟩) n cap xs :: L) → xs.length ≤ off → Hp B w0 (w.setCells g off vs) (.row e size (some ⟨g, 0, none⟩) n cap xs :: L)
  | [], _, _, h, _ => h
  | v :: vs, off, w, h, hx => by
    rw [World.setCells]
    refine Hp.putPast vs (off + 1) _ ?_ (by omega)
    have := h.putRow off v
    rwa [List.set_eq_of_length_le hx] at this
theorem row_room {e : TypeId} {size g n cap : Nat} {xs : List Value} (h : w.ownsRow B e size (.slice (some ⟨g, 0, none⟩) n cap) n xs) (j : Nat) (hj : j < cap * size) : (w.cell? ⟨g, j, none⟩).isSome = true ∧ w.frozen? ⟨g, j, none⟩ = false := by
  obtain ⟨hl, h⟩ := h
  rcases h with ⟨hv, _⟩ | ⟨g', cap', cur, hv, hb, hg, hnc, hcm, hcs, ht⟩
  · cases hv
  · simp at hv
    obtain ⟨rfl, rfl⟩ := hv
    have : j < cur.size := by omega
    simp [World.cell?, World.frozen?, hg, this]
theorem zeroCells_one (cs : Array Value) : (Builtin.zeroCells cs 1).toList = cs.toList := by
  unfold Builtin.zeroCells
  apply List.ext_getElem
  · simp
  · intro i h1 h2
    simp at h1 h2
    simp [Nat.mod_eq_of_lt h2, h2]
theorem run_clear_one (w : World) (t e ty : TypeId) (z : Value) (ht : P.underlying t = some (.slice e)) (hv : ∀ w, (zeroValue e).run P w = .ok z w) (h1 : ∀ u ∈ z.cells.toList, u.oneCell' = true) (b off c : Nat)
    (hc : ∀ j, j < z.cells.size → (w.cell? ⟨b, off + j, none⟩).isSome = true) (hf : ∀ j, j < z.cells.size → w.frozen? ⟨b, off + j, none⟩ = false) :
    (Builtin.clear_ #[t] ty #[.slice (some ⟨b, off, none⟩) 1 c]).run P w = .ok (.tuple #[]) (w.setCells b off z.cells.toList) := by
  have hst := run_storeCells_cells (P := P) b off z.cells.toList 0 w (by simpa using hc) (by simpa using hf) h1
  simp only [Nat.add_zero] at hst
  simp [Builtin.clear_, run_underlying ht, hv, zeroCells_one, hst]
theorem wpList_clear_hp {t e : TypeId} {size n cap g c : Nat} {z : Value} {xs : List Value} {Q : Exit → Act → World → Prop} (ht : P.underlying t = some (.slice e)) (hv : ∀ w, (zeroValue e).run P w = .ok z w) (hzs : z.cells.size = size) (h1 : ∀ u ∈ z.cells.toList, u.oneCell' = true) (hgd : o.guard = none) (x : Operand)
    (ho : o.op = .call { callee := .builtin .clear, args := #[x], argTypes := #[t] }) (h : Hp B w0 w (.row e size (some ⟨g, 0, none⟩) n cap xs :: L)) (hx : a.eval x = .slice (some ⟨g, n * size, none⟩) 1 c) (hcap : n + 1 ≤ cap)
    (k : ∀ w', Hp B w0 w' (.row e size (some ⟨g, 0, none⟩) n cap xs :: L) → wpList P ops Q rest (a.put o.dst (.tuple #[])) w') : wpList P ops Q (o :: rest) a w := by
  refine wpList_plain hgd fun K hK => ?_
  have hrow : w.ownsRow B e size (.slice (some ⟨g, 0, none⟩) n cap) n xs := h.head
  have e1 : (n + 1) * size ≤ cap * size := Nat.mul_le_mul_right _ hcap
  have e2 : (n + 1) * size = n * size + size := Nat.succ_mul n size
  have hr := run_clear_one (P := P) w t e o.type z ht hv h1 g (n * size) c (fun j hj => (row_room hrow _ (by omega)).1) (fun j hj => (row_room hrow _ (by omega)).2)
  unfold Oper.wp execOp
  simp only [ho, resolve, invoke, builtin, Sem.run_bind, Sem.run_pure, Result.andThen_ok, List.map_toArray, List.map_cons, List.map_nil, hx, hr]
  exact hK _ _ (k _ (Hp.putPast _ _ _ h (by rw [hrow.1]; exact Nat.le_refl _)))
/-- append in place: of the first k elements, where there is room -/
theorem Chain.appendSpare {t e : TypeId} {size bytes n m c cap k g : Nat} {xs news : List Value} (hE : Elem P t e size bytes) (hw : Region.wanted o (yielded ops a.tmps) = true) (s x : Operand)
    (ho : o.op = .call { callee := .builtin .append, args := #[s, x], argTypes := #[t, t] }) (hs : a.eval s = .slice (some ⟨g, 0, none⟩) k cap) (ad : Addr) (hx : a.eval x = .slice (some ad) m c) (hl : news.length = m * size) (hk : k ≤ n) (hroom : k + m ≤ cap)
    (hnews : ∀ w, Hp B w0 w (.row e size (some ⟨g, 0, none⟩) n cap xs :: L) → ∀ j u, news[j]? = some u → w.cell? (ad.add j) = some u) (h1 : ∀ u ∈ news, u.oneCell' = true)
    (hF : ∀ w, Hp B w0 w L → F w) (h : Chain P ops F QN rest (a.put o.dst (.slice (some ⟨g, 0, none⟩) (k + m : Nat) cap)) (fun W => Hp B w0 W (.row e size (some ⟨g, 0, none⟩) (k + m) cap (xs.take (k * size) ++ news) :: L))) :
    Chain P ops F QN (o :: rest) a (fun W => Hp B w0 W (.row e size (some ⟨g, 0, none⟩) n cap xs :: L)) := by
  refine .inl ⟨hw, fun w hS => ?_⟩
  obtain ⟨i, z, hi, hz, hsz, hby, hzs⟩ := hE.info
  obtain ⟨w', hr, hown, hg⟩ := run_append_own_spare (P := P) (w := w) B t o.type e i size hE.under hi hsz g k cap (xs.take (k * size)) (ownsRow_shrink hS.head hk) ad m c news hl (hnews w hS) h1 hroom
  unfold Oper.wp execOp
  simp only [ho, resolve, invoke, builtin, Sem.run_bind, Sem.run_pure, Result.andThen_ok, List.map_toArray, List.map_cons, List.map_nil, hs, hx, hr]
  exact ⟨_, hS.turn (y := .row e size (some ⟨g, 0, none⟩) (k + m) cap (xs.take (k * size) ++ news)) hg (.inr rfl) hown (.inl rfl), fun _ _ h hx => h.step hx, fun W hW => hF W hW.tail, h⟩
end
end Go.Proofs.YtcpllhjhnfmepaaGreatDoor

/- In a round of a range over a function, and in an iterator: regions and appends under Hp. For any program. -/
namespace Go.Proofs.YtcpllhjhnfmepaaGreatDoor
set_option linter.all false
open Go.RowKit
attribute [local go_sem] Oper.semAt_some
/-- a fence that lets all through: calls go as everywhere -/
structure Open (F : Fence) : Prop where
  fn : ∀ f, F.fn f
  depth : F.depth = none
  calls : ∀ {n : Nat} {P : Program} {f : FuncId} {args : Array Value} {w : World} {R : Ending → World → Prop}, Calls P f args w R → CallsIn F n P f args w R
  rows : ∀ {n : Nat} {P : Program} {row : String} {args : Array Value} {w : World} {R : Value → World → Prop}, Rows P row args w R → RowsIn F n P row args w R
theorem open_wide : Open Fence.wide where
  fn := fun _ => trivial
  depth := rfl
  calls := fun h => callsIn_wide.2 h
  rows := fun h c cs _ => let ⟨v, w', r, s⟩ := h c cs; ⟨v, w', r, stepsIn_wide.2 s⟩
theorem Open.inRound {F : Fence} (h : Open F) (l : Nat) : Open (F.inRound l) where
  fn := h.fn
  depth := h.depth
  calls := fun k => CallsIn.inRound l (h.calls k)
  rows := fun k => h.rows (F := F) k
section
variable {F : Fence} {n : Nat} {P : Program} {ops : Array Oper} {B : Nat} {w0 : World} {L : List Item}
def noDefer (o : Oper) : Bool := match o.op with | .defer _ => false | _ => true
theorem operIn_of (hF : Open F) {o : Oper} (hnd : noDefer o = true) {a : Act} {w : World} {K K' : Act → World → Prop} {Q Q' : Exit → Act → World → Prop} (hK : ∀ a w, K a w → K' a w) (hQ : ∀ e a w, Q e a w → e = .normal) (h : o.wp P a w K Q) : o.wpIn F n P a w K' Q' := by
  have hs : o.semAt F.round a.eval = execOp a.eval o := by
    refine Oper.semAt_eq _ _ _ fun c e => ?_
    unfold noDefer at hnd
    rw [e] at hnd
    cases hnd
  refine ⟨fun f _ => hF.fn f, ?_⟩
  rw [hs]
  unfold Oper.wp at h
  generalize (execOp a.eval o).run P w = r at *
  cases r with
  | ok x w' =>
    cases x <;> simp only [Oper.upon, Oper.uponIn] at h ⊢
    case value => exact hK _ _ h
    case skip => exact hK _ _ h
    case defer => exact hK _ _ h
    case enter => exact ⟨fun hd => (by rw [hF.depth] at hd; cases hd), hF.calls (h.mono fun e w'' he => by
      cases e with
      | returned v => exact hK _ _ he
      | panicked chain => exact absurd (hQ _ _ _ he) (by simp)
      | outgrown => obtain ⟨a2, w2, h2⟩ := he; exact absurd (hQ _ _ _ h2) (by simp))⟩
    case row => exact ⟨fun hd => (by rw [hF.depth] at hd; cases hd), hF.rows (fun c cs => let ⟨v, w2, r, s⟩ := h c cs; ⟨v, w2, hK _ _ r, s⟩)⟩
  | halt x w' =>
    cases x <;> simp only [Oper.upon, Oper.uponIn] at h ⊢
    case panic => exact absurd (hQ _ _ _ h) (by simp)
theorem anyIn_of (hF : Open F) {Q : Exit → Act → World → Prop} (hnd : ops.all noDefer = true) : ∀ (fuel : Nat) (listed : Array Bool) (a : Act) (w : World), wpAny P .any ops (fun e a w => e = .normal ∧ Q e a w) fuel listed a w → wpAnyIn F n P .any ops Q fuel listed a w
  | 0, listed, a, w, h => ⟨h.1, h.2.2⟩
  | fuel + 1, listed, a, w, h => by
    refine ⟨fun hr => (h.1 hr).2, fun i hi => ?_⟩
    have hw := h.2 i hi
    unfold wpOp at hw
    unfold wpOpIn
    cases ho : ops[i]? with
    | none => rw [ho] at hw; exact anyIn_of hF hnd fuel _ _ _ hw
    | some o =>
      rw [ho] at hw
      simp only at hw ⊢
      have hd : noDefer o = true := by
        have := Array.all_eq_true_iff_forall_mem.1 hnd o (Array.mem_of_getElem? ho)
        exact this
      split
      · rename_i hwt
        rw [if_pos hwt] at hw
        rcases hw with hw | hw
        · exact operIn_of hF hd (fun a w h => anyIn_of hF hnd fuel _ a w h) (fun e a w h => h.1) hw
        · obtain ⟨_, a2, w2, h2, _⟩ := hw
          cases h2
      · rename_i hwt
        rw [if_neg hwt] at hw
        exact ⟨fun f _ => hF.fn f, anyIn_of hF hnd fuel _ _ _ hw⟩
theorem wpIn_region_braidz_hp (hF : Open F) {a : Act} {w : World} {Q : Exit → Act → World → Prop} {id : Nat} {l : List Oper} (ms : List Mark) (z : Nat) (LF : List Item) (hm : P.follows .mixedOrders = true) (hnd : l.toArray.all noDefer = true) (hlen : l.length = ms.length) (hok : braidZ l.toArray (mkOf ms) z = true)
    (hS : Hp B w0 w L) (hLF : ∀ w, Hp B w0 w L → Hp B w0 w LF)
    (h : Walk P l.toArray (fun W => Hp B w0 W LF) (fun a' => BraidZ P l.toArray (fun W => Hp B w0 W LF) (fun a w => Q .normal a w) z (braidsOf ms).length (braidsOf ms) a' (fun W => Hp B w0 W L)) ms l a) : (Code.region id l.toArray true).wpIn F n P Q a w :=
  wpIn_region_any hm (anyIn_of hF hnd _ _ _ _ (any_region_braidz (Q := fun e a w => e = .normal ∧ Q e a w) ms z (fun W => Hp B w0 W LF) (fun _ _ h => ⟨rfl, h⟩) hlen hok hS (fun _ _ h hx => h.step hx) hLF h))

theorem wpIn_region_fixed (hF : Open F) {G : World → Prop} {Q : Exit → Act → World → Prop} {id : Nat} {l : List Oper} {a : Act} {w : World} (hm : P.follows .mixedOrders = true) (hnd : l.toArray.all noDefer = true) (hok : fixedOk l.toArray = true)
    (hcl : ∀ w w', G w → Ext w w' → G w') (hG : G w) (h : Fixed P l.toArray G (fun a' => ∀ w', Ext w w' → G w' → Q .normal a' w') l a) : (Code.region id l.toArray true).wpIn F n P Q a w := by
  have hd : dstApart l.toArray = true := by simp only [fixedOk, Bool.and_eq_true] at hok; exact hok.1
  have hl : looksOk l.toArray = true := by simp only [fixedOk, Bool.and_eq_true] at hok; exact hok.2
  obtain ⟨vs, _, hK, hst⟩ := Fixed.values (a0 := a) l 0 (fun _ => undef) (by simp) (by simp) h
  refine wpIn_region_any hm (anyIn_of hF hnd _ _ _ _ ?_)
  have := wpAny_fixed (Q := fun e a w => e = .normal ∧ Q e a w) hd hl hcl (fun i o ho => hst i o (Nat.zero_le _) ho) (fun w' h1 h2 => ⟨rfl, hK w' h1 h2⟩) l.toArray.size (Array.replicate l.toArray.size false) w.drew (by simp) (by
    have := List.length_filter_le (fun j => !(Array.replicate l.toArray.size false).getD j true) (List.range l.toArray.size)
    simpa using this) (fun i j hi => by rw [repl_false] at hi; cases hi) (hcl w w.drew hG ((Ext.refl w).drew)) ((Ext.refl w).drew)
  rw [frame_congr (M := fun _ => false) l.toArray.size (fun j hj => repl_false _ _)] at this
  rw [show frameOf l.toArray vs (fun _ => false) a l.toArray.size = a from by
    generalize l.toArray.size = n
    induction n with
    | zero => rfl
    | succ n ih => unfold frameOf; simpa using ih] at this
  exact this
theorem niLa {W : World} {o : Obj} {Q : Exit → Act → World → Prop} {l : List Oper} {a : Act} (k : ∀ w, Hp B w0 w L → wpListIn F n P ops Q l a w) (h : Hp B w0 (W.alloc o) L := by (repeat (first | with_reducible exact hS | with_reducible apply Hp.drew | with_reducible apply Hp.alloc | with_reducible apply Hp.put | with_reducible apply atS | with_reducible exact at0 | with_reducible exact at1 | with_reducible exact at2 | with_reducible exact at3 | with_reducible exact at4 | with_reducible exact at5))) : wpListIn F n P ops Q l a (W.alloc o) := k _ h
theorem niLs {W : World} {p : Addr} {u : Value} {Q : Exit → Act → World → Prop} {l : List Oper} {a : Act} (k : ∀ w, Hp B w0 w L → wpListIn F n P ops Q l a w) (h : Hp B w0 (W.setCell p u) L := by (repeat (first | with_reducible exact hS | with_reducible apply Hp.drew | with_reducible apply Hp.alloc | with_reducible apply Hp.put | with_reducible apply atS | with_reducible exact at0 | with_reducible exact at1 | with_reducible exact at2 | with_reducible exact at3 | with_reducible exact at4 | with_reducible exact at5))) : wpListIn F n P ops Q l a (W.setCell p u) := k _ h
theorem niLd {W : World} {Q : Exit → Act → World → Prop} {l : List Oper} {a : Act} (k : ∀ w, Hp B w0 w L → wpListIn F n P ops Q l a w) (h : Hp B w0 W.drew L := by (repeat (first | with_reducible exact hS | with_reducible apply Hp.drew | with_reducible apply Hp.alloc | with_reducible apply Hp.put | with_reducible apply atS | with_reducible exact at0 | with_reducible exact at1 | with_reducible exact at2 | with_reducible exact at3 | with_reducible exact at4 | with_reducible exact at5))) : wpListIn F n P ops Q l a W.drew := k _ h
theorem niCa {W : World} {o : Obj} {c : Code} {Q : Exit → Act → World → Prop} {a : Act} (k : ∀ w, Hp B w0 w L → Code.wpIn F n P c Q a w) (h : Hp B w0 (W.alloc o) L := by (repeat (first | with_reducible exact hS | with_reducible apply Hp.drew | with_reducible apply Hp.alloc | with_reducible apply Hp.put | with_reducible apply atS | with_reducible exact at0 | with_reducible exact at1 | with_reducible exact at2 | with_reducible exact at3 | with_reducible exact at4 | with_reducible exact at5))) : Code.wpIn F n P c Q a (W.alloc o) := k _ h
theorem niCs {W : World} {p : Addr} {u : Value} {c : Code} {Q : Exit → Act → World → Prop} {a : Act} (k : ∀ w, Hp B w0 w L → Code.wpIn F n P c Q a w) (h : Hp B w0 (W.setCell p u) L := by (repeat (first | with_reducible exact hS | with_reducible apply Hp.drew | with_reducible apply Hp.alloc | with_reducible apply Hp.put | with_reducible apply atS | with_reducible exact at0 | with_reducible exact at1 | with_reducible exact at2 | with_reducible exact at3 | with_reducible exact at4 | with_reducible exact at5))) : Code.wpIn F n P c Q a (W.setCell p u) := k _ h
theorem niCd {W : World} {c : Code} {Q : Exit → Act → World → Prop} {a : Act} (k : ∀ w, Hp B w0 w L → Code.wpIn F n P c Q a w) (h : Hp B w0 W.drew L := by (repeat (first | with_reducible exact hS | with_reducible apply Hp.drew | with_reducible apply Hp.alloc | with_reducible apply Hp.put | with_reducible apply atS | with_reducible exact at0 | with_reducible exact at1 | with_reducible exact at2 | with_reducible exact at3 | with_reducible exact at4 | with_reducible exact at5))) : Code.wpIn F n P c Q a W.drew := k _ h
theorem niPa {W : World} {o : Obj} {fn : Func} {R : Ending → World → Prop} {x : Exit} {a : Act} (k : ∀ w, Hp B w0 w L → bodyPostM F n P fn R x a w) (h : Hp B w0 (W.alloc o) L := by (repeat (first | with_reducible exact hS | with_reducible apply Hp.drew | with_reducible apply Hp.alloc | with_reducible apply Hp.put | with_reducible apply atS | with_reducible exact at0 | with_reducible exact at1 | with_reducible exact at2 | with_reducible exact at3 | with_reducible exact at4 | with_reducible exact at5))) : bodyPostM F n P fn R x a (W.alloc o) := k _ h
theorem niPs {W : World} {p : Addr} {u : Value} {fn : Func} {R : Ending → World → Prop} {x : Exit} {a : Act} (k : ∀ w, Hp B w0 w L → bodyPostM F n P fn R x a w) (h : Hp B w0 (W.setCell p u) L := by (repeat (first | with_reducible exact hS | with_reducible apply Hp.drew | with_reducible apply Hp.alloc | with_reducible apply Hp.put | with_reducible apply atS | with_reducible exact at0 | with_reducible exact at1 | with_reducible exact at2 | with_reducible exact at3 | with_reducible exact at4 | with_reducible exact at5))) : bodyPostM F n P fn R x a (W.setCell p u) := k _ h
theorem niPd {W : World} {fn : Func} {R : Ending → World → Prop} {x : Exit} {a : Act} (k : ∀ w, Hp B w0 w L → bodyPostM F n P fn R x a w) (h : Hp B w0 W.drew L := by (repeat (first | with_reducible exact hS | with_reducible apply Hp.drew | with_reducible apply Hp.alloc | with_reducible apply Hp.put | with_reducible apply atS | with_reducible exact at0 | with_reducible exact at1 | with_reducible exact at2 | with_reducible exact at3 | with_reducible exact at4 | with_reducible exact at5))) : bodyPostM F n P fn R x a W.drew := k _ h
theorem niKa {W : World} {o : Obj} {f : FuncId} {R : Ending → World → Prop} {args : Array Value} (k : ∀ w, Hp B w0 w L → CallsIn F n P f args w R) (h : Hp B w0 (W.alloc o) L := by (repeat (first | with_reducible exact hS | with_reducible apply Hp.drew | with_reducible apply Hp.alloc | with_reducible apply Hp.put | with_reducible apply atS | with_reducible exact at0 | with_reducible exact at1 | with_reducible exact at2 | with_reducible exact at3 | with_reducible exact at4 | with_reducible exact at5))) : CallsIn F n P f args (W.alloc o) R := k _ h
theorem niKs {W : World} {p : Addr} {u : Value} {f : FuncId} {R : Ending → World → Prop} {args : Array Value} (k : ∀ w, Hp B w0 w L → CallsIn F n P f args w R) (h : Hp B w0 (W.setCell p u) L := by (repeat (first | with_reducible exact hS | with_reducible apply Hp.drew | with_reducible apply Hp.alloc | with_reducible apply Hp.put | with_reducible apply atS | with_reducible exact at0 | with_reducible exact at1 | with_reducible exact at2 | with_reducible exact at3 | with_reducible exact at4 | with_reducible exact at5))) : CallsIn F n P f args (W.setCell p u) R := k _ h
theorem niKd {W : World} {f : FuncId} {R : Ending → World → Prop} {args : Array Value} (k : ∀ w, Hp B w0 w L → CallsIn F n P f args w R) (h : Hp B w0 W.drew L := by (repeat (first | with_reducible exact hS | with_reducible apply Hp.drew | with_reducible apply Hp.alloc | with_reducible apply Hp.put | with_reducible apply atS | with_reducible exact at0 | with_reducible exact at1 | with_reducible exact at2 | with_reducible exact at3 | with_reducible exact at4 | with_reducible exact at5))) : CallsIn F n P f args W.drew R := k _ h
/-- append of the one element that lies in the block at the head -/
theorem wpListIn_push_hp {w : World} (hF : Open F) {t e : TypeId} {size bytes k c cap S : Nat} {A : Option Addr} {xs news : List Value} (hE : Elem P t e size bytes) {rest : List Oper} {o : Oper} {a : Act} {Q : Exit → Act → World → Prop} (hgd : o.guard = none) (s x : Operand)
    (ho : o.op = .call { callee := .builtin .append, args := #[s, x], argTypes := #[t, t] }) (h : Hp B w0 w (.blk S news e :: .row e size A k cap xs :: L)) (hs : a.eval s = .slice A k cap) (hx : a.eval x = .slice (some ⟨S, 0, none⟩) 1 c) (hl : news.length = size)
    (h1 : ∀ u ∈ news, u.oneCell' = true) (hn : (k + 1) * bytes ≤ 140737488355328) (hm : k + 1 ≤ 140737488355328)
    (hk : ∀ A' cap' w', Hp B w0 w' (.row e size A' (k + 1) cap' (xs ++ news) :: L) → wpListIn F n P ops Q rest (a.put o.dst (.slice A' (k + 1 : Nat) cap')) w') : wpListIn F n P ops Q (o :: rest) a w := by
  refine wpListIn_plain hgd fun K hK => ?_
  refine operIn_of hF (by unfold noDefer; rw [ho]) (K := K) (Q := fun _ _ _ => False) (fun _ _ h => h) (fun _ _ _ h => h.elim) ?_
  obtain ⟨A', cap', w', hr, h2⟩ := run_append_hp (P := P) (c := c) (ty := o.type) hE h.tail ⟨S, 0, none⟩ (m := 1) (news := news) (by simpa using hl) (fun j u hu => World.news_of_block h.head.2 j u (by simpa using hu)) h1 hn hm
  unfold Oper.wp execOp
  simp only [ho, resolve, invoke, builtin, Sem.run_bind, Sem.run_pure, Result.andThen_ok, List.map_toArray, List.map_cons, List.map_nil, hs, hx, hr]
  exact hK _ _ (hk A' cap' w' h2)
/-- what is no cells, from B1 on, as things -/
theorem Hp.others {w : World} (B1 : Nat) (hB : B ≤ B1) (h : Hp B w0 w L) (hL : ∀ x ∈ L, ∀ g, x.block = some g → ∃ o, w.heap[g]? = some o ∧ o.isCells = true) :
    ∃ K : List Item, Hp B w0 w (L ++ K) ∧ ∀ (w' : World) (M : List Item), Hp B w0 w' M → w.heap.size ≤ w'.heap.size → (∀ x ∈ K, x ∈ M) → KeepsFrom B1 w w' := by
  let K : List Item := (List.range w.heap.size).filterMap fun k => if B1 ≤ k then (match w.heap[k]? with | some o => if o.isCells then none else some (.ob k o) | none => none) else none
  have hmem : ∀ x ∈ K, ∃ k o, x = .ob k o ∧ B1 ≤ k ∧ w.heap[k]? = some o ∧ o.isCells = false := fun x hx => by
    obtain ⟨k, _, hk⟩ := List.mem_filterMap.1 hx
    split at hk
    · rename_i hb
      split at hk
      · rename_i o ho
        split at hk
        · cases hk
        · rename_i hc
          exact ⟨k, o, (Option.some.inj hk).symm, hb, ho, by simpa using hc⟩
      · cases hk
    · cases hk
  refine ⟨K, ⟨h.below, h.base, List.pairwise_append.2 ⟨h.apart, ?_, ?_⟩, ?_⟩, ?_⟩
  · refine List.Pairwise.filterMap _ (R := fun a b => a ≠ b) ?_ (List.nodup_range)
    intro a b hab x hx y hy
    right
    have e1 : x.block = some a := by
      split at hx
      · split at hx
        · split at hx
          · cases hx
          · cases hx; rfl
        · cases hx
      · cases hx
    have e2 : y.block = some b := by
      split at hy
      · split at hy
        · split at hy
          · cases hy
          · cases hy; rfl
        · cases hy
      · cases hy
    rw [e1, e2]
    simpa using hab
  · intro x hx y hy
    obtain ⟨k, o, rfl, _, ho, hc⟩ := hmem y hy
    cases hb : x.block with
    | none => exact .inl hb
    | some g =>
      right
      rw [hb]
      intro e
      obtain ⟨o2, ho2, hc2⟩ := hL x hx g hb
      have : g = k := by simpa [Item.block] using e
      subst this
      rw [ho] at ho2
      cases ho2
      rw [hc] at hc2
      cases hc2
  · intro x hx
    rcases List.mem_append.1 hx with hx | hx
    · exact h.own x hx
    · obtain ⟨k, o, rfl, hk, ho, _⟩ := hmem x hx
      exact ⟨Nat.le_trans hB hk, ho⟩
  · intro w' M hM hsz hK
    refine ⟨hsz, fun k o hk ho hc => ?_⟩
    have hx : Item.ob k o ∈ K := by
      refine List.mem_filterMap.2 ⟨k, by simpa using (Array.getElem?_eq_some_iff.1 ho).1, ?_⟩
      simp only [if_pos hk, ho, hc]
      rfl
    exact (hM.own _ (hK _ hx)).2
end
end Go.Proofs.YtcpllhjhnfmepaaGreatDoor

/- slices.Index, IndexFunc, Contains, ContainsFunc, Equal at values. -/
namespace Go.Proofs.YtcpllhjhnfmepaaGreatDoor
set_option linter.all false
set_option linter.unusedSimpArgs false
set_option linter.unusedVariables false
open Go.RowKit
def eqG (a b : GV) : Bool := a.kind == b.kind && a.num == b.num && a.text.toList == b.text.toList
theorem text_eqL (a b : ByteArray) : a.toList = b.toList ↔ a = b := by
  rw [ByteArray.toList_eq, ByteArray.toList_eq]
  exact ⟨fun h => ByteArray.ext (Array.toList_inj.1 h), fun h => by rw [h]⟩
theorem eqG_iff (a b : GV) : eqG a b = true ↔ a = b := by
  unfold eqG
  simp only [Bool.and_eq_true, beq_iff_eq, text_eqL]
  constructor
  · rintro ⟨⟨h1, h2⟩, h3⟩; cases a; cases b; simp_all
  · rintro rfl; exact ⟨⟨rfl, rfl⟩, rfl⟩
theorem eqG_self (a : GV) : eqG a a = true := (eqG_iff a a).2 rfl
theorem eqlG (a b : GV) (w : World) :
    (binOp .eql 45 (.agg #[.int .i64 a.kind, .int .i64 a.num, .string a.text]) (.agg #[.int .i64 b.kind, .int .i64 b.num, .string b.text])).run Tryz.prog w = .ok (.bool (eqG a b)) w := by
  unfold eqG
  by_cases h1 : a.kind = b.kind <;> by_cases h2 : a.num = b.num <;> by_cases h3 : a.text.toList = b.text.toList <;> simp [go_sem, h1, h2, h3]
theorem neqG (a b : GV) (w : World) :
    (binOp .neq 45 (.agg #[.int .i64 a.kind, .int .i64 a.num, .string a.text]) (.agg #[.int .i64 b.kind, .int .i64 b.num, .string b.text])).run Tryz.prog w = .ok (.bool (!eqG a b)) w := by
  unfold eqG
  by_cases h1 : a.kind = b.kind <;> by_cases h2 : a.num = b.num <;> by_cases h3 : a.text.toList = b.text.toList <;> simp [go_sem, h1, h2, h3]
/-- the first place, from k on, where p holds; or -1 -/
def idxP (p : GV → Bool) : Nat → List GV → Int
  | _, [] => -1
  | k, x :: l => if p x then k else idxP p (k + 1) l
theorem idxP_any (p : GV → Bool) : ∀ (l : List GV) (k : Nat), decide (0 ≤ idxP p k l) = l.any p
  | [], k => rfl
  | x :: l, k => by
    unfold idxP
    rw [List.any_cons]
    cases h : p x with
    | true => simp
    | false => simpa using idxP_any p l (k + 1)
/-- the place is one of the list -/
theorem idxP_range (p : GV → Bool) : ∀ (l : List GV) (k : Nat), -1 ≤ idxP p k l ∧ idxP p k l < k + l.length
  | [], k => by simp [idxP]; omega
  | x :: l, k => by
    unfold idxP
    have := idxP_range p l (k + 1)
    split <;> simp <;> omega
theorem drop_at {l : List GV} {k : Nat} {x : GV} (h : l[k]? = some x) : l.drop k = x :: l.drop (k + 1) := by
  obtain ⟨h1, e⟩ := List.getElem?_eq_some_iff.1 h
  rw [List.drop_eq_getElem_cons h1, e]
set_option maxRecDepth 100000 in
set_option maxHeartbeats 8000000 in
theorem index_any (l : List GV) (A : Option Addr) (cap : Nat) (v : GV) (w : World) (hr : RV w A l) (hl : l.length ≤ 140737488355328) :
    Calls Tryz.prog 94 #[.slice A l.length cap, .agg #[.int .i64 v.kind, .int .i64 v.num, .string v.text]] w fun e w' => e = .returned (.int .i64 (idxP (eqG v) 0 l)) ∧ Ext w w' := by
  obtain ⟨n, hn⟩ : ∃ n, n = l.length := ⟨_, rfl⟩
  rw [← hn]
  have Hn := Lib.hid hn
  rw [← hn] at hl
  clear hn
  have hS := Hp.init w
  have hR := Reads.nil w
  go_enter Tryz.func94, Tryz.ntmps94
  go_wp2_with (first | ((with_reducible first | refine nhLa ?_ | refine nhLs ?_ | refine nhLd ?_ | refine nhCa ?_ | refine nhCs ?_ | refine nhCd ?_ | refine nhPa ?_ | refine nhPs ?_ | refine nhPd ?_ | refine nhKa ?_ | refine nhKs ?_ | refine nhKd ?_); ((try clear hF); clear hS; intro wk hS; (try simp only [List.set_cons_zero, List.set_cons_succ, heap_size, heap_set_size] at hS); ((try clear hF); (first | have hF := And.intro hS.facts (hR.at hS.ext) | have hF := hS.facts); simp only [HFacts, cellFacts, RFacts, cellOnly, and_true, true_and, Nat.zero_add, Nat.reduceAdd] at hF))) | fail)
  go_loopw [8, 5] (fun i _ wr => ∃ k : Nat, i = .int .i64 k ∧ k ≤ n ∧ Hid (idxP (eqG v) 0 l = idxP (eqG v) k (l.drop k)) ∧ Hp w.heap.size w wr [.blk w.heap.size [.int .i64 v.kind, .int .i64 v.num, .string v.text] 45]) (fun i _ _ => n - (intOf i).toNat)
  case atStart => exact ⟨0, rfl, Nat.zero_le _, Lib.hid rfl, hS⟩
  case round =>
    clear hS hF
    obtain ⟨k, rfl, hk, hf, hS⟩ := hrel
    by_cases hlt : k < n
    · have hlt' : k < l.length := by rw [← Hn.out]; exact hlt
      obtain ⟨x, hx'⟩ : ∃ x, l[k]? = some x := ⟨l[k], List.getElem?_eq_getElem hlt'⟩
      obtain ⟨b, o, rfl, c0, c1, c2⟩ := hr k x hx'
      have hR := Reads.cell c0 (Reads.cell c1 (Reads.cell c2 (Reads.nil w)))
      have HD := Lib.hid (drop_at hx')
      have b5 := eqlG v x
      clear hx' hlt' c0 c1 c2 hr
      ((try clear hF); (first | have hF := And.intro hS.facts (hR.at hS.ext) | have hF := hS.facts); simp only [HFacts, cellFacts, RFacts, cellOnly, and_true, true_and, Nat.zero_add, Nat.reduceAdd] at hF)
      go_wp2_with (first | ((with_reducible first | refine nhLa ?_ | refine nhLs ?_ | refine nhLd ?_ | refine nhCa ?_ | refine nhCs ?_ | refine nhCd ?_ | refine nhPa ?_ | refine nhPs ?_ | refine nhPd ?_ | refine nhKa ?_ | refine nhKs ?_ | refine nhKd ?_); ((try clear hF); clear hS; intro wk hS; (try simp only [List.set_cons_zero, List.set_cons_succ, heap_size, heap_set_size] at hS); ((try clear hF); (first | have hF := And.intro hS.facts (hR.at hS.ext) | have hF := hS.facts); simp only [HFacts, cellFacts, RFacts, cellOnly, and_true, true_and, Nat.zero_add, Nat.reduceAdd] at hF))) | (first | (with_reducible refine wp_region_hp (draw := true) (by kernel_rfl) (by kernel_rfl) hS ?_) | ((with_reducible refine Fixed.here ?_); (first | ((with_reducible apply Fixed.skip); (first | rfl | exact wanted_false rfl rfl rfl (by assumption)); try simp only [Act.put, List.setIfInBounds_toArray, List.set_cons_zero, List.set_cons_succ]) | ((with_reducible apply Fixed.val); (first | rfl | exact wanted_true rfl rfl rfl (by assumption)); (rintro w hS; ((try clear hF); (first | have hF := And.intro hS.facts (hR.at hS.ext) | have hF := hS.facts); simp only [HFacts, cellFacts, RFacts, cellOnly, and_true, true_and, Nat.zero_add, Nat.reduceAdd] at hF); go_simp; with_reducible rfl); try simp only [Act.put, List.setIfInBounds_toArray, List.set_cons_zero, List.set_cons_succ]) | ((with_reducible apply Fixed.guardT); rfl; rfl; rfl; (all_goals intro hg)) | ((with_reducible apply Fixed.guardF); rfl; rfl; rfl; (all_goals intro hg)) | (with_reducible refine Fixed.done ?_; (try clear hF); clear hS; intro wk hS; ((try clear hF); (first | have hF := And.intro hS.facts (hR.at hS.ext) | have hF := hS.facts); simp only [HFacts, cellFacts, RFacts, cellOnly, and_true, true_and, Nat.zero_add, Nat.reduceAdd] at hF))))))
      · go_ret
        refine ⟨?_, hS.ext⟩
        have hc : eqG v x = true := by assumption
        rw [hf.out, HD.out, idxP, if_pos hc]; first | done | rfl
      · go_roundw
        case rel =>
          have hc : eqG v x = false := by assumption
          exact ⟨k + 1, by go_num, by omega, Lib.hid (by rw [hf.out, HD.out, idxP, if_neg (by rw [hc]; simp)]), hS⟩
        case measure => simp [intOf]; omega
    · obtain rfl : k = n := by omega
      ((try clear hF); (first | have hF := And.intro hS.facts (hR.at hS.ext) | have hF := hS.facts); simp only [HFacts, cellFacts, RFacts, cellOnly, and_true, true_and, Nat.zero_add, Nat.reduceAdd] at hF)
      go_wp2_with (first | ((with_reducible first | refine nhLa ?_ | refine nhLs ?_ | refine nhLd ?_ | refine nhCa ?_ | refine nhCs ?_ | refine nhCd ?_ | refine nhPa ?_ | refine nhPs ?_ | refine nhPd ?_ | refine nhKa ?_ | refine nhKs ?_ | refine nhKd ?_); ((try clear hF); clear hS; intro wk hS; (try simp only [List.set_cons_zero, List.set_cons_succ, heap_size, heap_set_size] at hS); ((try clear hF); (first | have hF := And.intro hS.facts (hR.at hS.ext) | have hF := hS.facts); simp only [HFacts, cellFacts, RFacts, cellOnly, and_true, true_and, Nat.zero_add, Nat.reduceAdd] at hF))) | fail)
      go_ret
      exact ⟨by rw [hf.out, Hn.out, List.drop_length]; rfl, hS.ext⟩
set_option maxRecDepth 100000 in
set_option maxHeartbeats 8000000 in
theorem contains_any (l : List GV) (A : Option Addr) (cap : Nat) (v : GV) (w : World) (hr : RV w A l) (hl : l.length ≤ 140737488355328) :
    Calls Tryz.prog 93 #[.slice A l.length cap, .agg #[.int .i64 v.kind, .int .i64 v.num, .string v.text]] w fun e w' => e = .returned (.bool (l.any (eqG v))) ∧ Ext w w' := by
  have hI := fun (W : World) (hx : Ext w W) => index_any l A cap v W (hr.ext hx) hl
  have HI := Lib.hid hI
  have HA := Lib.hid (idxP_any (eqG v) l 0)
  clear hI hr
  have hS := Hp.init w
  have hR := Reads.nil w
  go_enter Tryz.func93, Tryz.ntmps93
  go_wp2_with (first | ((with_reducible first | refine nhLa ?_ | refine nhLs ?_ | refine nhLd ?_ | refine nhCa ?_ | refine nhCs ?_ | refine nhCd ?_ | refine nhPa ?_ | refine nhPs ?_ | refine nhPd ?_ | refine nhKa ?_ | refine nhKs ?_ | refine nhKd ?_); ((try clear hF); clear hS; intro wk hS; (try simp only [List.set_cons_zero, List.set_cons_succ, heap_size, heap_set_size] at hS); ((try clear hF); (first | have hF := And.intro hS.facts (hR.at hS.ext) | have hF := hS.facts); simp only [HFacts, cellFacts, RFacts, cellOnly, and_true, true_and, Nat.zero_add, Nat.reduceAdd] at hF))) | (go_at_call 94; (with_reducible refine (HI.out _ hS.ext).mono ?_); rintro e wk ⟨rfl, hX⟩; replace hS := hS.step hX; clear hX; ((try clear hF); (first | have hF := And.intro hS.facts (hR.at hS.ext) | have hF := hS.facts); simp only [HFacts, cellFacts, RFacts, cellOnly, and_true, true_and, Nat.zero_add, Nat.reduceAdd] at hF)))
  go_ret
  exact ⟨by rw [HA.out]; first | done | rfl, hS.ext⟩
/-- a function that is called: it answers p of a value, and leaves all as it was -/
def PredOk (w0 : World) (g : Nat) (lb : Array Value) (p : GV → Bool) : Prop :=
  ∀ W, Ext w0 W → ∀ x : GV, Calls Tryz.prog g (#[.agg #[.int .i64 x.kind, .int .i64 x.num, .string x.text]] ++ lb) W fun e w' => e = .returned (.bool (p x)) ∧ Ext W w'
theorem PredOk.at {w0 : World} {g : Nat} {lb : Array Value} {p : GV → Bool} (h : PredOk w0 g lb p) (W : World) (hx : Ext w0 W) (x : GV) : Calls Tryz.prog g (#[.agg #[.int .i64 x.kind, .int .i64 x.num, .string x.text]] ++ lb) W fun e w' => e = .returned (.bool (p x)) ∧ Ext W w' := h W hx x
set_option maxRecDepth 100000 in
set_option maxHeartbeats 8000000 in
theorem indexFunc_any (l : List GV) (A : Option Addr) (cap : Nat) (g : Nat) (lb : Array Value) (p : GV → Bool) (w : World) (hr : RV w A l) (hl : l.length ≤ 140737488355328) (eg : ∀ args w, (callFunc g args).run Tryz.prog w = .ok (.enter g args) w) (hp : PredOk w g lb p) :
    Calls Tryz.prog 91 #[.slice A l.length cap, .func (.func g) #[] lb] w fun e w' => e = .returned (.int .i64 (idxP p 0 l)) ∧ Ext w w' := by
  obtain ⟨n, hn⟩ : ∃ n, n = l.length := ⟨_, rfl⟩
  rw [← hn]
  have Hn := Lib.hid hn
  rw [← hn] at hl
  clear hn
  have HP := Lib.hid hp
  clear hp
  have hS := Hp.init w
  have hR := Reads.nil w
  go_enter Tryz.func91, Tryz.ntmps91
  go_wp2_with (first | ((with_reducible first | refine nhLa ?_ | refine nhLs ?_ | refine nhLd ?_ | refine nhCa ?_ | refine nhCs ?_ | refine nhCd ?_ | refine nhPa ?_ | refine nhPs ?_ | refine nhPd ?_ | refine nhKa ?_ | refine nhKs ?_ | refine nhKd ?_); ((try clear hF); clear hS; intro wk hS; (try simp only [List.set_cons_zero, List.set_cons_succ, heap_size, heap_set_size] at hS); ((try clear hF); (first | have hF := And.intro hS.facts (hR.at hS.ext) | have hF := hS.facts); simp only [HFacts, cellFacts, RFacts, cellOnly, and_true, true_and, Nat.zero_add, Nat.reduceAdd] at hF))) | fail)
  go_loopw [8, 5] (fun i _ wr => ∃ k : Nat, i = .int .i64 k ∧ k ≤ n ∧ Hid (idxP p 0 l = idxP p k (l.drop k)) ∧ Hp w.heap.size w wr []) (fun i _ _ => n - (intOf i).toNat)
  case atStart => exact ⟨0, rfl, Nat.zero_le _, Lib.hid rfl, hS⟩
  case round =>
    clear hS
    obtain ⟨k, rfl, hk, hf, hS⟩ := hrel
    by_cases hlt : k < n
    · have hlt' : k < l.length := by rw [← Hn.out]; exact hlt
      obtain ⟨x, hx'⟩ : ∃ x, l[k]? = some x := ⟨l[k], List.getElem?_eq_getElem hlt'⟩
      obtain ⟨b, o, rfl, c0, c1, c2⟩ := hr k x hx'
      have hR := Reads.cell c0 (Reads.cell c1 (Reads.cell c2 (Reads.nil w)))
      have HD := Lib.hid (drop_at hx')
      clear hx' hlt' c0 c1 c2 hr
      ((try clear hF); (first | have hF := And.intro hS.facts (hR.at hS.ext) | have hF := hS.facts); simp only [HFacts, cellFacts, RFacts, cellOnly, and_true, true_and, Nat.zero_add, Nat.reduceAdd] at hF)
      go_wp2_with (first | ((with_reducible first | refine nhLa ?_ | refine nhLs ?_ | refine nhLd ?_ | refine nhCa ?_ | refine nhCs ?_ | refine nhCd ?_ | refine nhPa ?_ | refine nhPs ?_ | refine nhPd ?_ | refine nhKa ?_ | refine nhKs ?_ | refine nhKd ?_); ((try clear hF); clear hS; intro wk hS; (try simp only [List.set_cons_zero, List.set_cons_succ, heap_size, heap_set_size] at hS); ((try clear hF); (first | have hF := And.intro hS.facts (hR.at hS.ext) | have hF := hS.facts); simp only [HFacts, cellFacts, RFacts, cellOnly, and_true, true_and, Nat.zero_add, Nat.reduceAdd] at hF))) | ((with_reducible refine (HP.out.at _ hS.ext x).mono ?_); rintro e wk ⟨rfl, hX⟩; replace hS := hS.step hX; clear hX; ((try clear hF); (first | have hF := And.intro hS.facts (hR.at hS.ext) | have hF := hS.facts); simp only [HFacts, cellFacts, RFacts, cellOnly, and_true, true_and, Nat.zero_add, Nat.reduceAdd] at hF)))
      · go_ret
        refine ⟨?_, hS.ext⟩
        have hc : p x = true := by assumption
        rw [hf.out, HD.out, idxP, if_pos hc]; first | done | rfl
      · go_roundw
        case rel =>
          have hc : p x = false := by assumption
          exact ⟨k + 1, by go_num, by omega, Lib.hid (by rw [hf.out, HD.out, idxP, if_neg (by rw [hc]; simp)]), hS⟩
        case measure => simp [intOf]; omega
    · obtain rfl : k = n := by omega
      ((try clear hF); (first | have hF := And.intro hS.facts (hR.at hS.ext) | have hF := hS.facts); simp only [HFacts, cellFacts, RFacts, cellOnly, and_true, true_and, Nat.zero_add, Nat.reduceAdd] at hF)
      go_wp2_with (first | ((with_reducible first | refine nhLa ?_ | refine nhLs ?_ | refine nhLd ?_ | refine nhCa ?_ | refine nhCs ?_ | refine nhCd ?_ | refine nhPa ?_ | refine nhPs ?_ | refine nhPd ?_ | refine nhKa ?_ | refine nhKs ?_ | refine nhKd ?_); ((try clear hF); clear hS; intro wk hS; (try simp only [List.set_cons_zero, List.set_cons_succ, heap_size, heap_set_size] at hS); ((try clear hF); (first | have hF := And.intro hS.facts (hR.at hS.ext) | have hF := hS.facts); simp only [HFacts, cellFacts, RFacts, cellOnly, and_true, true_and, Nat.zero_add, Nat.reduceAdd] at hF))) | fail)
      go_ret
      exact ⟨by rw [hf.out, Hn.out, List.drop_length]; rfl, hS.ext⟩
set_option maxRecDepth 100000 in
set_option maxHeartbeats 8000000 in
theorem containsFunc_any (l : List GV) (A : Option Addr) (cap : Nat) (g : Nat) (lb : Array Value) (p : GV → Bool) (w : World) (hr : RV w A l) (hl : l.length ≤ 140737488355328) (eg : ∀ args w, (callFunc g args).run Tryz.prog w = .ok (.enter g args) w) (hp : PredOk w g lb p) :
    Calls Tryz.prog 69 #[.slice A l.length cap, .func (.func g) #[] lb] w fun e w' => e = .returned (.bool (l.any p)) ∧ Ext w w' := by
  have hI := fun (W : World) (hx : Ext w W) => indexFunc_any l A cap g lb p W (hr.ext hx) hl eg (fun W' hx' => hp W' (hx.trans hx'))
  have HI := Lib.hid hI
  have HA := Lib.hid (idxP_any p l 0)
  clear hI hr hp
  have hS := Hp.init w
  have hR := Reads.nil w
  go_enter Tryz.func69, Tryz.ntmps69
  go_wp2_with (first | ((with_reducible first | refine nhLa ?_ | refine nhLs ?_ | refine nhLd ?_ | refine nhCa ?_ | refine nhCs ?_ | refine nhCd ?_ | refine nhPa ?_ | refine nhPs ?_ | refine nhPd ?_ | refine nhKa ?_ | refine nhKs ?_ | refine nhKd ?_); ((try clear hF); clear hS; intro wk hS; (try simp only [List.set_cons_zero, List.set_cons_succ, heap_size, heap_set_size] at hS); ((try clear hF); (first | have hF := And.intro hS.facts (hR.at hS.ext) | have hF := hS.facts); simp only [HFacts, cellFacts, RFacts, cellOnly, and_true, true_and, Nat.zero_add, Nat.reduceAdd] at hF))) | (go_at_call 91; (with_reducible refine (HI.out _ hS.ext).mono ?_); rintro e wk ⟨rfl, hX⟩; replace hS := hS.step hX; clear hX; ((try clear hF); (first | have hF := And.intro hS.facts (hR.at hS.ext) | have hF := hS.facts); simp only [HFacts, cellFacts, RFacts, cellOnly, and_true, true_and, Nat.zero_add, Nat.reduceAdd] at hF)))
  go_ret
  exact ⟨by rw [HA.out]; first | done | rfl, hS.ext⟩
def eqL : List GV → List GV → Bool
  | [], [] => true
  | x :: l, y :: m => eqG x y && eqL l m
  | _, _ => false
theorem eqL_iff : ∀ l m : List GV, eqL l m = true ↔ l = m
  | [], [] => by simp [eqL]
  | [], _ :: _ => by simp [eqL]
  | _ :: _, [] => by simp [eqL]
  | x :: l, y :: m => by simp [eqL, eqG_iff, eqL_iff l m]
theorem eqL_len (l m : List GV) (h : l.length ≠ m.length) : eqL l m = false := by
  cases e : eqL l m with
  | false => rfl
  | true => exact absurd (by rw [(eqL_iff l m).1 e]) h
set_option maxRecDepth 100000 in
set_option maxHeartbeats 8000000 in
theorem equal_any (l m : List GV) (A A2 : Option Addr) (cap cap2 : Nat) (w : World) (hr : RV w A l) (hr2 : RV w A2 m) (hl : l.length ≤ 140737488355328) (hl2 : m.length ≤ 140737488355328) :
    Calls Tryz.prog 46 #[.slice A l.length cap, .slice A2 m.length cap2] w fun e w' => e = .returned (.bool (eqL l m)) ∧ Ext w w' := by
  by_cases hlen : l.length = m.length
  · obtain ⟨n, hn⟩ : ∃ n, n = l.length := ⟨_, rfl⟩
    rw [← hlen, ← hn]
    have Hn := Lib.hid hn
    rw [← hn] at hl
    rw [← hn] at hlen
    have Hm := Lib.hid hlen
    clear hn hlen hl2
    have hS := Hp.init w
    have hR := Reads.nil w
    go_enter Tryz.func46, Tryz.ntmps46
    go_wp2_with (first | ((with_reducible first | refine nhLa ?_ | refine nhLs ?_ | refine nhLd ?_ | refine nhCa ?_ | refine nhCs ?_ | refine nhCd ?_ | refine nhPa ?_ | refine nhPs ?_ | refine nhPd ?_ | refine nhKa ?_ | refine nhKs ?_ | refine nhKd ?_); ((try clear hF); clear hS; intro wk hS; (try simp only [List.set_cons_zero, List.set_cons_succ, heap_size, heap_set_size] at hS); ((try clear hF); (first | have hF := And.intro hS.facts (hR.at hS.ext) | have hF := hS.facts); simp only [HFacts, cellFacts, RFacts, cellOnly, and_true, true_and, Nat.zero_add, Nat.reduceAdd] at hF))) | fail)
    go_loopw [13, 5] (fun i _ wr => ∃ k : Nat, i = .int .i64 k ∧ k ≤ n ∧ Hid (eqL l m = eqL (l.drop k) (m.drop k)) ∧ Hp w.heap.size w wr []) (fun i _ _ => n - (intOf i).toNat)
    case atStart => exact ⟨0, rfl, Nat.zero_le _, Lib.hid rfl, hS⟩
    case round =>
      clear hS
      obtain ⟨k, rfl, hk, hf, hS⟩ := hrel
      by_cases hlt : k < n
      · have hlt' : k < l.length := by rw [← Hn.out]; exact hlt
        have hlt2 : k < m.length := by rw [← Hm.out]; exact hlt
        obtain ⟨x, hx'⟩ : ∃ x, l[k]? = some x := ⟨l[k], List.getElem?_eq_getElem hlt'⟩
        obtain ⟨y, hy'⟩ : ∃ x, m[k]? = some x := ⟨m[k], List.getElem?_eq_getElem hlt2⟩
        obtain ⟨b, o, rfl, c0, c1, c2⟩ := hr k x hx'
        obtain ⟨b2, o2, rfl, d0, d1, d2⟩ := hr2 k y hy'
        have hR := Reads.cell c0 (Reads.cell c1 (Reads.cell c2 (Reads.cell d0 (Reads.cell d1 (Reads.cell d2 (Reads.nil w))))))
        have HD := Lib.hid (drop_at hx')
        have HD2 := Lib.hid (drop_at hy')
        have b5 := neqG x y
        clear hx' hlt' c0 c1 c2 hr hy' hlt2 d0 d1 d2 hr2
        ((try clear hF); (first | have hF := And.intro hS.facts (hR.at hS.ext) | have hF := hS.facts); simp only [HFacts, cellFacts, RFacts, cellOnly, and_true, true_and, Nat.zero_add, Nat.reduceAdd] at hF)
        go_wp2_with (first | ((with_reducible first | refine nhLa ?_ | refine nhLs ?_ | refine nhLd ?_ | refine nhCa ?_ | refine nhCs ?_ | refine nhCd ?_ | refine nhPa ?_ | refine nhPs ?_ | refine nhPd ?_ | refine nhKa ?_ | refine nhKs ?_ | refine nhKd ?_); ((try clear hF); clear hS; intro wk hS; (try simp only [List.set_cons_zero, List.set_cons_succ, heap_size, heap_set_size] at hS); ((try clear hF); (first | have hF := And.intro hS.facts (hR.at hS.ext) | have hF := hS.facts); simp only [HFacts, cellFacts, RFacts, cellOnly, and_true, true_and, Nat.zero_add, Nat.reduceAdd] at hF))) | (first | (with_reducible refine wp_region_hp (draw := true) (by kernel_rfl) (by kernel_rfl) hS ?_) | ((with_reducible refine Fixed.here ?_); (first | ((with_reducible apply Fixed.skip); (first | rfl | exact wanted_false rfl rfl rfl (by assumption)); try simp only [Act.put, List.setIfInBounds_toArray, List.set_cons_zero, List.set_cons_succ]) | ((with_reducible apply Fixed.val); (first | rfl | exact wanted_true rfl rfl rfl (by assumption)); (rintro w hS; ((try clear hF); (first | have hF := And.intro hS.facts (hR.at hS.ext) | have hF := hS.facts); simp only [HFacts, cellFacts, RFacts, cellOnly, and_true, true_and, Nat.zero_add, Nat.reduceAdd] at hF); go_simp; with_reducible rfl); try simp only [Act.put, List.setIfInBounds_toArray, List.set_cons_zero, List.set_cons_succ]) | ((with_reducible apply Fixed.guardT); rfl; rfl; rfl; (all_goals intro hg)) | ((with_reducible apply Fixed.guardF); rfl; rfl; rfl; (all_goals intro hg)) | (with_reducible refine Fixed.done ?_; (try clear hF); clear hS; intro wk hS; ((try clear hF); (first | have hF := And.intro hS.facts (hR.at hS.ext) | have hF := hS.facts); simp only [HFacts, cellFacts, RFacts, cellOnly, and_true, true_and, Nat.zero_add, Nat.reduceAdd] at hF))))))
        · go_ret
          refine ⟨?_, hS.ext⟩
          have hc : eqG x y = false := by cases h : eqG x y <;> simp_all
          rw [hf.out, HD.out, HD2.out, eqL, hc]; rfl
        · go_roundw
          case rel =>
            have hc : eqG x y = true := by cases h : eqG x y <;> simp_all
            exact ⟨k + 1, by go_num, by omega, Lib.hid (by rw [hf.out, HD.out, HD2.out, eqL, hc]; rfl), hS⟩
          case measure => simp [intOf]; omega
      · obtain rfl : k = n := by omega
        ((try clear hF); (first | have hF := And.intro hS.facts (hR.at hS.ext) | have hF := hS.facts); simp only [HFacts, cellFacts, RFacts, cellOnly, and_true, true_and, Nat.zero_add, Nat.reduceAdd] at hF)
        go_wp2_with (first | ((with_reducible first | refine nhLa ?_ | refine nhLs ?_ | refine nhLd ?_ | refine nhCa ?_ | refine nhCs ?_ | refine nhCd ?_ | refine nhPa ?_ | refine nhPs ?_ | refine nhPd ?_ | refine nhKa ?_ | refine nhKs ?_ | refine nhKd ?_); ((try clear hF); clear hS; intro wk hS; (try simp only [List.set_cons_zero, List.set_cons_succ, heap_size, heap_set_size] at hS); ((try clear hF); (first | have hF := And.intro hS.facts (hR.at hS.ext) | have hF := hS.facts); simp only [HFacts, cellFacts, RFacts, cellOnly, and_true, true_and, Nat.zero_add, Nat.reduceAdd] at hF))) | fail)
        go_ret
        refine ⟨?_, hS.ext⟩
        have e1 : l.drop k = [] := by rw [Hn.out, List.drop_length]
        have e2 : m.drop k = [] := by rw [Hm.out, List.drop_length]
        rw [hf.out, e1, e2]; rfl
  · rw [eqL_len l m hlen]
    have hS := Hp.init w
    have hR := Reads.nil w
    clear hr hr2
    go_enter Tryz.func46, Tryz.ntmps46
    go_wp2_with (first | ((with_reducible first | refine nhLa ?_ | refine nhLs ?_ | refine nhLd ?_ | refine nhCa ?_ | refine nhCs ?_ | refine nhCd ?_ | refine nhPa ?_ | refine nhPs ?_ | refine nhPd ?_ | refine nhKa ?_ | refine nhKs ?_ | refine nhKd ?_); ((try clear hF); clear hS; intro wk hS; (try simp only [List.set_cons_zero, List.set_cons_succ, heap_size, heap_set_size] at hS); ((try clear hF); (first | have hF := And.intro hS.facts (hR.at hS.ext) | have hF := hS.facts); simp only [HFacts, cellFacts, RFacts, cellOnly, and_true, true_and, Nat.zero_add, Nat.reduceAdd] at hF))) | fail)
    all_goals first
      | (go_ret; exact ⟨rfl, hS.ext⟩)
      | skip
    all_goals trace_state
end Go.Proofs.YtcpllhjhnfmepaaGreatDoor
