/- Texts joined: log.columns: columns in letters. log.Print: a commit in letters. (Printed by genprint.py.) what Apply leaves of a table: it stands, one version on. who does not fight may go first: the plain law. millpondkeep.sameSet: true of two tables that have the same. -/
import Derived.Test.YtcpnnffnkegamaaGreatDoorLX10
import Derived.Test.YtcpnnffnkegamaaGreatDoorLX01
import Derived.Lib.ItoaLen
import Derived.Test.YtcpnnffnkegamaaGreatDoorLX07
import Derived.Test.YtcpnnffnkegamaaGreatDoorLX08
/- log.columns: columns in letters. -/
namespace Go.Proofs.YtcpnnffnkegamaaGreatDoor
set_option linter.unusedSimpArgs false
set_option linter.unusedVariables false
open Go.RowKit
set_option linter.all false
def printG (v : GV) : ByteArray := printS v.kind v.num v.text
abbrev spS : ByteArray := ⟨#[32]⟩
def mustS (b : Bool) : ByteArray := if b then ⟨#[109, 117, 115, 116]⟩ else ⟨#[109, 97, 121]⟩
def colS (c : CG) : ByteArray := itoS c.id ++ spS ++ c.name ++ spS ++ itoS c.kind ++ spS ++ mustS c.must ++ spS ++ printG c.d
def COk (c : CG) : Prop := i64 c.id ∧ i64 c.kind ∧ i64 c.d.num ∧ c.d.text.size ≤ 1000000 ∧ c.name.size ≤ 1000000
theorem printS_size (k n : Int) (s : ByteArray) (h0 : -9223372036854775808 ≤ n) (h1 : n ≤ 9223372036854775807) (hs : s.size ≤ 1000000) : (printS k n s).size ≤ 1000100 := by
  show (printL k n s).toArray.size ≤ 1000100
  rw [List.size_toArray]
  unfold printL
  split
  · have := revDig_len 19 n.natAbs (by have : (10 : Nat) ^ 19 = 10000000000000000000 := by decide
                                       omega)
    unfold itoaL
    rw [List.length_reverse, List.length_append]
    split <;> simp <;> omega
  · split
    · have : s.data.toList.length = s.size := by rw [Array.length_toList]; rfl
      simp only [List.length_cons, List.length_append, List.length_nil]
      omega
    · decide
set_option maxRecDepth 100000 in
set_option maxHeartbeats 8000000 in
theorem lcols_any (l : List CG) (A : Option Addr) (n cap : Nat) (w : World) (hn : l.length = n) (hl : n ≤ 1000) (h64 : ∀ x ∈ l, COk x) (hr : RC w A l) (ht : TabAt w) (hj : (joinS (l.map colS) ⟨#[59]⟩).size ≤ 1000000) :
    Calls Tryz.prog 35 #[.slice A n cap] w fun e w' => e = .returned (.string (joinS (l.map colS) ⟨#[59]⟩)) ∧ Ext w w' := by
  have Hn := Lib.hid hn
  have HT := Lib.hid ht
  have H6 := Lib.hid h64
  have HJ := Lib.hid hj
  clear hn ht h64 hj
  have hS := Hp.init w
  have hR := Reads.nil w
  go_enter Tryz.func35, Tryz.ntmps35
  go_wp2_with (first | ((with_reducible first | refine nhLa ?_ | refine nhLs ?_ | refine nhLd ?_ | refine nhCa ?_ | refine nhCs ?_ | refine nhCd ?_ | refine nhPa ?_ | refine nhPs ?_ | refine nhPd ?_ | refine nhKa ?_ | refine nhKs ?_ | refine nhKd ?_); ((try clear hF); clear hS; intro wk hS; (try simp only [List.set_cons_zero, List.set_cons_succ, heap_size, heap_set_size] at hS); ((try clear hF); (first | have hF := And.intro hS.facts (HRD.out _ (hS.sub (by first | simp | ((repeat (first | exact List.nil_sublist _ | exact List.Sublist.refl _ | with_reducible apply List.Sublist.cons₂ | apply List.Sublist.cons)))))) | have hF := And.intro hS.facts (hR.at hS.ext) | have hF := hS.facts); simp only [HFacts, cellFacts, RFacts, cellOnly, and_true, true_and, Nat.zero_add, Nat.reduceAdd] at hF))) | fail)
  replace hS := hS.nilRow 9 1
  go_loopw [9, 3] (fun i sl wr => ∃ (k : Nat) (A' : Option Addr) (c' : Nat), i = .int .i64 k ∧ k ≤ n ∧ sl = .slice A' k c' ∧ Hp w.heap.size w wr [.row 9 1 A' k c' (strV ((l.take k).map colS))]) (fun i _ _ => n - (intOf i).toNat)
  case atStart => exact ⟨0, none, 0, rfl, Nat.zero_le _, rfl, hS⟩
  case round =>
    clear hS
    obtain ⟨k, A', c', rfl, hk, rfl, hS⟩ := hrel
    by_cases hlt : k < n
    · obtain ⟨x, hx⟩ : ∃ x, l[k]? = some x := ⟨l[k]'(by rw [Hn.out]; exact hlt), List.getElem?_eq_getElem _⟩
      obtain ⟨b, o, rfl, c0, c1, c2, c3, c4, c5, c6⟩ := hr k x hx
      have hR := Reads.cell c0 (Reads.cell c1 (Reads.cell c2 (Reads.cell c3 (Reads.cell c4 (Reads.cell c5 (Reads.cell c6 (Reads.nil w)))))))
      obtain ⟨q0, q1, q2, q3, q4⟩ := H6.out x (List.mem_of_getElem? hx)
      have HX := Lib.hid (fun (W : World) (hW : Ext w W) => stritoa_any x.id q0.1 q0.2 W (HT.out.ext hW))
      have HY := Lib.hid (fun (W : World) (hW : Ext w W) => stritoa_any x.kind q1.1 q1.2 W (HT.out.ext hW))
      have HP := Lib.hid (fun (W : World) => print_any x.d.kind x.d.num x.d.text W q2.1 q2.2 (by omega))
      have HTK := Lib.hid (show (l.take (k + 1)).map colS = (l.take k).map colS ++ [colS x] by
        rw [List.take_add_one, hx, List.map_append]; rfl)
      have HCS := Lib.hid (show colS x = ⟨(Lib.itoa x.id).toArray⟩ ++ ⟨#[32]⟩ ++ x.name ++ ⟨#[32]⟩ ++ ⟨(Lib.itoa x.kind).toArray⟩ ++ ⟨#[32]⟩ ++ mustS x.must ++ ⟨#[32]⟩ ++ printS x.d.kind x.d.num x.d.text from rfl)
      have z1 := Lib.itoa_length_le x.id q0.1 q0.2
      have z2 := Lib.itoa_length_le x.kind q1.1 q1.2
      have z3 := printS_size x.d.kind x.d.num x.d.text q2.1 q2.2 q3
      clear c0 c1 c2 c3 c4 c5 c6 hx hr q0 q1 q2 q3
      obtain ⟨m, hm⟩ : ∃ m, m = x.must := ⟨_, rfl⟩
      rw [← hm] at hR HCS
      clear hm
      cases m with
      | false =>
        ((try clear hF); (first | have hF := And.intro hS.facts (HRD.out _ (hS.sub (by first | simp | ((repeat (first | exact List.nil_sublist _ | exact List.Sublist.refl _ | with_reducible apply List.Sublist.cons₂ | apply List.Sublist.cons)))))) | have hF := And.intro hS.facts (hR.at hS.ext) | have hF := hS.facts); simp only [HFacts, cellFacts, RFacts, cellOnly, and_true, true_and, Nat.zero_add, Nat.reduceAdd] at hF)
        go_wp2_with (first | ((with_reducible first | refine nhLa ?_ | refine nhLs ?_ | refine nhLd ?_ | refine nhCa ?_ | refine nhCs ?_ | refine nhCd ?_ | refine nhPa ?_ | refine nhPs ?_ | refine nhPd ?_ | refine nhKa ?_ | refine nhKs ?_ | refine nhKd ?_); ((try clear hF); clear hS; intro wk hS; (try simp only [List.set_cons_zero, List.set_cons_succ, heap_size, heap_set_size] at hS); ((try clear hF); (first | have hF := And.intro hS.facts (HRD.out _ (hS.sub (by first | simp | ((repeat (first | exact List.nil_sublist _ | exact List.Sublist.refl _ | with_reducible apply List.Sublist.cons₂ | apply List.Sublist.cons)))))) | have hF := And.intro hS.facts (hR.at hS.ext) | have hF := hS.facts); simp only [HFacts, cellFacts, RFacts, cellOnly, and_true, true_and, Nat.zero_add, Nat.reduceAdd] at hF))) | fail)
        ((with_reducible refine wp_region_chain_hp [.q, .q, .q, .q, .q, .q, .q, .q, .q, .q, .q, .q, .q, .q, .q, .q, .q, .q, .q, .q, .q, .t, .t, .t] [.blk wr.heap.size [.int .i64 x.id, .string x.name, .int .i64 x.kind, .bool false, .int .i64 x.d.kind, .int .i64 x.d.num, .string x.d.text] 61] (by kernel_rfl) rfl (by kernel_rfl) hS (fun w h => h.sub (by simp)) ?_); clear hS; (repeat ((with_reducible refine Walk.here ?_); (first | ((with_reducible apply Walk.skipQ); (first | rfl | exact wanted_false rfl rfl rfl (by assumption)); (try simp only [Mark.isQ, if_true, Bool.false_eq_true, if_false, Act.put, List.setIfInBounds_toArray, List.set_cons_zero, List.set_cons_succ])) | ((with_reducible apply Walk.val); (first | rfl | exact wanted_true rfl rfl rfl (by assumption)); (rintro w hS; ((try clear hF); (first | have hF := And.intro hS.facts (HRD.out _ (hS.sub (by first | simp | ((repeat (first | exact List.nil_sublist _ | exact List.Sublist.refl _ | with_reducible apply List.Sublist.cons₂ | apply List.Sublist.cons)))))) | have hF := And.intro hS.facts (hR.at hS.ext) | have hF := hS.facts); simp only [HFacts, cellFacts, RFacts, cellOnly, and_true, true_and, Nat.zero_add, Nat.reduceAdd] at hF); go_simp; first | with_reducible rfl | (rw [if_neg (by first | omega | (simp only [ByteArray.size_append]; omega) | (simp [ByteArray.size_append]; omega))]; try with_reducible rfl)); (try simp only [Mark.isQ, if_true, Bool.false_eq_true, if_false, Act.put, List.setIfInBounds_toArray, List.set_cons_zero, List.set_cons_succ])) | ((with_reducible apply Walk.call); (first | rfl | exact wanted_true rfl rfl rfl (by assumption)); (rintro w hS; ((try clear hF); (first | have hF := And.intro hS.facts (HRD.out _ (hS.sub (by first | simp | ((repeat (first | exact List.nil_sublist _ | exact List.Sublist.refl _ | with_reducible apply List.Sublist.cons₂ | apply List.Sublist.cons)))))) | have hF := And.intro hS.facts (hR.at hS.ext) | have hF := hS.facts); simp only [HFacts, cellFacts, RFacts, cellOnly, and_true, true_and, Nat.zero_add, Nat.reduceAdd] at hF); go_simp; exact ⟨rfl, rfl⟩); (rintro w hS; first | (with_reducible exact HX.out w hS.ext) | (with_reducible exact HY.out w hS.ext) | (with_reducible exact HP.out w)); (try simp only [Mark.isQ, if_true, Bool.false_eq_true, if_false, Act.put, List.setIfInBounds_toArray, List.set_cons_zero, List.set_cons_succ])) | ((with_reducible apply Walk.tail); (try simp only [Mark.isQ, if_true, Bool.false_eq_true, if_false, Act.put, List.setIfInBounds_toArray, List.set_cons_zero, List.set_cons_succ])) | ((with_reducible apply Walk.guardT); rfl; rfl; rfl; (all_goals intro hg)) | ((with_reducible apply Walk.guardF); rfl; rfl; rfl; (all_goals intro hg))))); refine Walk.done ?_; simp only [chainOf, Mark.isT, if_true, Bool.false_eq_true, if_false])
        refine Chain.alloc (cs := [.string (⟨(Lib.itoa x.id).toArray⟩ ++ ⟨#[32]⟩ ++ x.name ++ ⟨#[32]⟩ ++ ⟨(Lib.itoa x.kind).toArray⟩ ++ ⟨#[32]⟩ ++ ⟨#[109, 97, 121]⟩ ++ ⟨#[32]⟩ ++ printS x.d.kind x.d.num x.d.text)]) (t := 9) (f := fun g => .slice (some ⟨g, 0, none⟩) 1 1) rfl (fun w h => h.sub (by simp)) (fun w hS => ?_) (fun gs => ?_)
        · go_simp
        try simp only [Act.put, List.setIfInBounds_toArray, List.set_cons_zero, List.set_cons_succ]
        refine Chain.append Tryz.elem_strs rfl (.tmp 15) (.tmp 36) rfl 2 rfl rfl rfl ⟨gs, 0, none⟩ rfl rfl (fun w hS jj u hu => World.news_of_block hS.head.2 jj u (by simpa using hu)) (by simp [Value.oneCell']) (by omega) (by omega) (fun w h => h.sub (by simp)) (fun Ak capk => ?_)
        try simp only [Act.put, List.setIfInBounds_toArray, List.set_cons_zero, List.set_cons_succ]
        (refine Chain.val (by (first | rfl | exact wanted_true rfl rfl rfl (by assumption))) (fun w h => h.sub (by simp)) (by rintro w hS; ((try clear hF); (first | have hF := And.intro hS.facts (HRD.out _ (hS.sub (by first | simp | ((repeat (first | exact List.nil_sublist _ | exact List.Sublist.refl _ | with_reducible apply List.Sublist.cons₂ | apply List.Sublist.cons)))))) | have hF := And.intro hS.facts (hR.at hS.ext) | have hF := hS.facts); simp only [HFacts, cellFacts, RFacts, cellOnly, and_true, true_and, Nat.zero_add, Nat.reduceAdd] at hF); go_simp; with_reducible rfl) ?_; try simp only [Act.put, List.setIfInBounds_toArray, List.set_cons_zero, List.set_cons_succ])
        (refine Chain.done ?_; (try clear hF); intro wk hS; ((try clear hF); (first | have hF := And.intro hS.facts (HRD.out _ (hS.sub (by first | simp | ((repeat (first | exact List.nil_sublist _ | exact List.Sublist.refl _ | with_reducible apply List.Sublist.cons₂ | apply List.Sublist.cons)))))) | have hF := And.intro hS.facts (hR.at hS.ext) | have hF := hS.facts); simp only [HFacts, cellFacts, RFacts, cellOnly, and_true, true_and, Nat.zero_add, Nat.reduceAdd] at hF))
        go_wp2_with fail
        go_roundw
        case rel =>
          refine ⟨k + 1, _, _, by go_num, by omega, rfl, ?_⟩
          rw [HTK.out, strV, List.map_append, HCS.out]
          exact hS.sub (List.Sublist.cons_cons _ (List.nil_sublist _))
        case measure => simp [intOf]; omega
      | true =>
        ((try clear hF); (first | have hF := And.intro hS.facts (HRD.out _ (hS.sub (by first | simp | ((repeat (first | exact List.nil_sublist _ | exact List.Sublist.refl _ | with_reducible apply List.Sublist.cons₂ | apply List.Sublist.cons)))))) | have hF := And.intro hS.facts (hR.at hS.ext) | have hF := hS.facts); simp only [HFacts, cellFacts, RFacts, cellOnly, and_true, true_and, Nat.zero_add, Nat.reduceAdd] at hF)
        go_wp2_with (first | ((with_reducible first | refine nhLa ?_ | refine nhLs ?_ | refine nhLd ?_ | refine nhCa ?_ | refine nhCs ?_ | refine nhCd ?_ | refine nhPa ?_ | refine nhPs ?_ | refine nhPd ?_ | refine nhKa ?_ | refine nhKs ?_ | refine nhKd ?_); ((try clear hF); clear hS; intro wk hS; (try simp only [List.set_cons_zero, List.set_cons_succ, heap_size, heap_set_size] at hS); ((try clear hF); (first | have hF := And.intro hS.facts (HRD.out _ (hS.sub (by first | simp | ((repeat (first | exact List.nil_sublist _ | exact List.Sublist.refl _ | with_reducible apply List.Sublist.cons₂ | apply List.Sublist.cons)))))) | have hF := And.intro hS.facts (hR.at hS.ext) | have hF := hS.facts); simp only [HFacts, cellFacts, RFacts, cellOnly, and_true, true_and, Nat.zero_add, Nat.reduceAdd] at hF))) | fail)
        ((with_reducible refine wp_region_chain_hp [.q, .q, .q, .q, .q, .q, .q, .q, .q, .q, .q, .q, .q, .q, .q, .q, .q, .q, .q, .q, .q, .t, .t, .t] [.blk wr.heap.size [.int .i64 x.id, .string x.name, .int .i64 x.kind, .bool true, .int .i64 x.d.kind, .int .i64 x.d.num, .string x.d.text] 61] (by kernel_rfl) rfl (by kernel_rfl) hS (fun w h => h.sub (by simp)) ?_); clear hS; (repeat ((with_reducible refine Walk.here ?_); (first | ((with_reducible apply Walk.skipQ); (first | rfl | exact wanted_false rfl rfl rfl (by assumption)); (try simp only [Mark.isQ, if_true, Bool.false_eq_true, if_false, Act.put, List.setIfInBounds_toArray, List.set_cons_zero, List.set_cons_succ])) | ((with_reducible apply Walk.val); (first | rfl | exact wanted_true rfl rfl rfl (by assumption)); (rintro w hS; ((try clear hF); (first | have hF := And.intro hS.facts (HRD.out _ (hS.sub (by first | simp | ((repeat (first | exact List.nil_sublist _ | exact List.Sublist.refl _ | with_reducible apply List.Sublist.cons₂ | apply List.Sublist.cons)))))) | have hF := And.intro hS.facts (hR.at hS.ext) | have hF := hS.facts); simp only [HFacts, cellFacts, RFacts, cellOnly, and_true, true_and, Nat.zero_add, Nat.reduceAdd] at hF); go_simp; first | with_reducible rfl | (rw [if_neg (by first | omega | (simp only [ByteArray.size_append]; omega) | (simp [ByteArray.size_append]; omega))]; try with_reducible rfl)); (try simp only [Mark.isQ, if_true, Bool.false_eq_true, if_false, Act.put, List.setIfInBounds_toArray, List.set_cons_zero, List.set_cons_succ])) | ((with_reducible apply Walk.call); (first | rfl | exact wanted_true rfl rfl rfl (by assumption)); (rintro w hS; ((try clear hF); (first | have hF := And.intro hS.facts (HRD.out _ (hS.sub (by first | simp | ((repeat (first | exact List.nil_sublist _ | exact List.Sublist.refl _ | with_reducible apply List.Sublist.cons₂ | apply List.Sublist.cons)))))) | have hF := And.intro hS.facts (hR.at hS.ext) | have hF := hS.facts); simp only [HFacts, cellFacts, RFacts, cellOnly, and_true, true_and, Nat.zero_add, Nat.reduceAdd] at hF); go_simp; exact ⟨rfl, rfl⟩); (rintro w hS; first | (with_reducible exact HX.out w hS.ext) | (with_reducible exact HY.out w hS.ext) | (with_reducible exact HP.out w)); (try simp only [Mark.isQ, if_true, Bool.false_eq_true, if_false, Act.put, List.setIfInBounds_toArray, List.set_cons_zero, List.set_cons_succ])) | ((with_reducible apply Walk.tail); (try simp only [Mark.isQ, if_true, Bool.false_eq_true, if_false, Act.put, List.setIfInBounds_toArray, List.set_cons_zero, List.set_cons_succ])) | ((with_reducible apply Walk.guardT); rfl; rfl; rfl; (all_goals intro hg)) | ((with_reducible apply Walk.guardF); rfl; rfl; rfl; (all_goals intro hg))))); refine Walk.done ?_; simp only [chainOf, Mark.isT, if_true, Bool.false_eq_true, if_false])
        refine Chain.alloc (cs := [.string (⟨(Lib.itoa x.id).toArray⟩ ++ ⟨#[32]⟩ ++ x.name ++ ⟨#[32]⟩ ++ ⟨(Lib.itoa x.kind).toArray⟩ ++ ⟨#[32]⟩ ++ ⟨#[109, 117, 115, 116]⟩ ++ ⟨#[32]⟩ ++ printS x.d.kind x.d.num x.d.text)]) (t := 9) (f := fun g => .slice (some ⟨g, 0, none⟩) 1 1) rfl (fun w h => h.sub (by simp)) (fun w hS => ?_) (fun gs => ?_)
        · go_simp
        try simp only [Act.put, List.setIfInBounds_toArray, List.set_cons_zero, List.set_cons_succ]
        refine Chain.append Tryz.elem_strs rfl (.tmp 15) (.tmp 36) rfl 2 rfl rfl rfl ⟨gs, 0, none⟩ rfl rfl (fun w hS jj u hu => World.news_of_block hS.head.2 jj u (by simpa using hu)) (by simp [Value.oneCell']) (by omega) (by omega) (fun w h => h.sub (by simp)) (fun Ak capk => ?_)
        try simp only [Act.put, List.setIfInBounds_toArray, List.set_cons_zero, List.set_cons_succ]
        (refine Chain.val (by (first | rfl | exact wanted_true rfl rfl rfl (by assumption))) (fun w h => h.sub (by simp)) (by rintro w hS; ((try clear hF); (first | have hF := And.intro hS.facts (HRD.out _ (hS.sub (by first | simp | ((repeat (first | exact List.nil_sublist _ | exact List.Sublist.refl _ | with_reducible apply List.Sublist.cons₂ | apply List.Sublist.cons)))))) | have hF := And.intro hS.facts (hR.at hS.ext) | have hF := hS.facts); simp only [HFacts, cellFacts, RFacts, cellOnly, and_true, true_and, Nat.zero_add, Nat.reduceAdd] at hF); go_simp; with_reducible rfl) ?_; try simp only [Act.put, List.setIfInBounds_toArray, List.set_cons_zero, List.set_cons_succ])
        (refine Chain.done ?_; (try clear hF); intro wk hS; ((try clear hF); (first | have hF := And.intro hS.facts (HRD.out _ (hS.sub (by first | simp | ((repeat (first | exact List.nil_sublist _ | exact List.Sublist.refl _ | with_reducible apply List.Sublist.cons₂ | apply List.Sublist.cons)))))) | have hF := And.intro hS.facts (hR.at hS.ext) | have hF := hS.facts); simp only [HFacts, cellFacts, RFacts, cellOnly, and_true, true_and, Nat.zero_add, Nat.reduceAdd] at hF))
        go_wp2_with fail
        go_roundw
        case rel =>
          refine ⟨k + 1, _, _, by go_num, by omega, rfl, ?_⟩
          rw [HTK.out, strV, List.map_append, HCS.out]
          exact hS.sub (List.Sublist.cons_cons _ (List.nil_sublist _))
        case measure => simp [intOf]; omega
    · obtain rfl : k = n := by omega
      rw [List.take_of_length_le (by rw [Hn.out]; omega)] at hS
      ((try clear hF); (first | have hF := And.intro hS.facts (HRD.out _ (hS.sub (by first | simp | ((repeat (first | exact List.nil_sublist _ | exact List.Sublist.refl _ | with_reducible apply List.Sublist.cons₂ | apply List.Sublist.cons)))))) | have hF := And.intro hS.facts (hR.at hS.ext) | have hF := hS.facts); simp only [HFacts, cellFacts, RFacts, cellOnly, and_true, true_and, Nat.zero_add, Nat.reduceAdd] at hF)
      go_wp2_with (first | ((with_reducible first | refine nhLa ?_ | refine nhLs ?_ | refine nhLd ?_ | refine nhCa ?_ | refine nhCs ?_ | refine nhCd ?_ | refine nhPa ?_ | refine nhPs ?_ | refine nhPd ?_ | refine nhKa ?_ | refine nhKs ?_ | refine nhKd ?_); ((try clear hF); clear hS; intro wk hS; (try simp only [List.set_cons_zero, List.set_cons_succ, heap_size, heap_set_size] at hS); ((try clear hF); (first | have hF := And.intro hS.facts (HRD.out _ (hS.sub (by first | simp | ((repeat (first | exact List.nil_sublist _ | exact List.Sublist.refl _ | with_reducible apply List.Sublist.cons₂ | apply List.Sublist.cons)))))) | have hF := And.intro hS.facts (hR.at hS.ext) | have hF := hS.facts); simp only [HFacts, cellFacts, RFacts, cellOnly, and_true, true_and, Nat.zero_add, Nat.reduceAdd] at hF))) | (go_at_call 54; (with_reducible refine (join_any (l.map colS) ⟨#[59]⟩ 0 (by rw [List.length_map, Hn.out]) (by omega) HJ.out hS rfl).mono ?_); rintro e wk ⟨rfl, hX⟩; replace hS := hS.step hX; clear hX; ((try clear hF); (first | have hF := And.intro hS.facts (HRD.out _ (hS.sub (by first | simp | ((repeat (first | exact List.nil_sublist _ | exact List.Sublist.refl _ | with_reducible apply List.Sublist.cons₂ | apply List.Sublist.cons)))))) | have hF := And.intro hS.facts (hR.at hS.ext) | have hF := hS.facts); simp only [HFacts, cellFacts, RFacts, cellOnly, and_true, true_and, Nat.zero_add, Nat.reduceAdd] at hF)))
      go_ret
      exact ⟨rfl, hS.ext⟩
end Go.Proofs.YtcpnnffnkegamaaGreatDoor

/- log.Print: a commit in letters. (Printed by genprint.py.) -/
namespace Go.Proofs.YtcpnnffnkegamaaGreatDoor
set_option linter.unusedSimpArgs false
set_option linter.unusedVariables false
open Go.RowKit
set_option linter.all false
abbrev nlS : ByteArray := ⟨#[10]⟩
/-- an action in letters, if it may be -/
def lineA (a : AN) : Option ByteArray :=
  if a.kind = 1 then (if nameB a.path = true ∧ 1 ≤ a.rows ∧ a.rows ≤ 60 ∧ a.mask.length = 0 ∧ a.cols.length = 0 ∧ a.next = 0 then some (⟨#[97, 100, 100, 32]⟩ ++ a.path ++ spS ++ itoS a.rows ++ nlS) else none)
  else if a.kind = 2 then (if nameB a.path = true ∧ a.rows = 0 ∧ a.mask.length = 0 ∧ a.cols.length = 0 ∧ a.next = 0 then some (⟨#[114, 101, 109, 111, 118, 101, 32]⟩ ++ a.path ++ nlS) else none)
  else if a.kind = 3 then (if nameB a.path = true ∧ a.rows = 0 ∧ ¬ a.mask.length = 0 ∧ maskB a.mask 60 = true ∧ a.cols.length = 0 ∧ a.next = 0 then some (⟨#[109, 97, 115, 107, 32]⟩ ++ a.path ++ spS ++ joinS (a.mask.map itoS) ⟨#[44]⟩ ++ nlS) else none)
  else if a.kind = 4 then (if (a.path.toList == (⟨#[]⟩ : ByteArray).toList) = true ∧ a.rows = 0 ∧ a.mask.length = 0 ∧ rightC a.cols a.next = true then some (⟨#[115, 99, 104, 101, 109, 97, 32]⟩ ++ itoS a.next ++ spS ++ joinS (a.cols.map colS) ⟨#[59]⟩ ++ nlS) else none)
  else none
def linesA : ByteArray → List AN → Option ByteArray
  | s, [] => some s
  | s, a :: l => match lineA a with | some t => linesA (s ++ t) l | none => none
def readsS (b : Bool) : ByteArray := if b then ⟨#[114, 101, 97, 100, 115]⟩ else ⟨#[98, 108, 105, 110, 100]⟩
def printC (tx : ByteArray) (rd : Bool) (l : List AN) : Option ByteArray :=
  if nameB tx = true then linesA (⟨#[99, 111, 109, 109, 105, 116, 32]⟩ ++ tx ++ spS ++ readsS rd ++ nlS) l else none
def PrRes (D : Option ByteArray) (e : Ending) : Prop :=
  match D with
  | some t => e = .returned (.tuple #[.string t, .nilIface])
  | none => e = .returned (.tuple #[.string ⟨#[]⟩, .iface 66 (.int .i64 1)])
theorem linesA_bad {s : ByteArray} {a : AN} {l : List AN} (h : lineA a = none) : linesA s (a :: l) = none := by rw [linesA, h]
theorem linesA_good {s t : ByteArray} {a : AN} {l : List AN} (h : lineA a = some t) : linesA s (a :: l) = linesA (s ++ t) l := by rw [linesA, h]
/-- what is printed is not too long -/
structure PrOk (a : AN) (v : AV) : Prop where
  q : a.mask.length = v.qn
  q2 : v.qn ≤ 100
  r : a.cols.length = v.rn
  r2 : v.rn ≤ 1000
  r3 : v.rn ≤ v.rc
  n64 : i64 a.next
  r64 : i64 a.rows
  m64 : ∀ x ∈ a.mask, i64 x
  c64 : ∀ c ∈ a.cols, COk c
  p : a.path.size ≤ 1000
  mj : (joinS (a.mask.map itoS) ⟨#[44]⟩).size ≤ 1000000
  cj : (joinS (a.cols.map colS) ⟨#[59]⟩).size ≤ 1000000
end Go.Proofs.YtcpnnffnkegamaaGreatDoor

/- what Apply leaves of a table: it stands, one version on. -/
namespace Go.Proofs.YtcpnnffnkegamaaGreatDoor
set_option linter.unusedSimpArgs false
set_option linter.unusedVariables false
open Go.RowKit
set_option linter.all false
theorem actS_ver (s : SN) (a : AN) : (actS s a).ver = s.ver := by
  unfold actS
  split
  · rfl
  split
  · rfl
  split
  · rfl
  split <;> rfl
theorem runA_good : ∀ (l : List AN) (k : Nat) (s s' : SN), Good s → runA k s l = .ok s' → Good s' ∧ s'.ver = s.ver
  | [], k, s, s', hg, h => by
    rw [runA] at h
    obtain rfl := Except.ok.inj h
    exact ⟨hg, rfl⟩
  | a :: l, k, s, s', hg, h => by
    rw [runA_cons] at h
    split at h
    · rename_i he
      have := runA_good l (k + 1) (actS s a) s' (hg.act he) h
      exact ⟨this.1, this.2.trans (actS_ver s a)⟩
    · cases h
theorem apply_good {s s' : SN} {tx : ByteArray} {l : List AN} (hg : Good s) (h : applyR s tx l = .ok s') : Good s' ∧ s'.ver = s.ver + 1 := by
  unfold applyR at h
  split at h
  · revert h
    cases hr : runA 0 { s with ver := s.ver + 1 } l with
    | ok x =>
      intro h
      obtain rfl := Except.ok.inj h
      exact runA_good l 0 _ _ (hg.ver _) hr
    | error e => intro h; cases h
  · cases h
end Go.Proofs.YtcpnnffnkegamaaGreatDoor

/- who does not fight may go first: the plain law. -/
namespace Go.Proofs.YtcpnnffnkegamaaGreatDoor
set_option linter.unusedSimpArgs false
set_option linter.unusedVariables false
open Go.RowKit
set_option linter.all false
theorem ba_toList_loop (bs : ByteArray) (i : Nat) (r : List UInt8) : ByteArray.toList.loop bs i r = r.reverse ++ bs.data.toList.drop i := by
  rw [ByteArray.toList.loop]
  split
  · rename_i h
    rw [ba_toList_loop]
    have h2 : i < bs.data.toList.length := by simpa using h
    rw [List.drop_eq_getElem_cons h2]
    simp only [List.reverse_cons, List.append_assoc, List.cons_append, List.nil_append]
    congr 2
    simp only [ByteArray.get!, Array.getElem!_eq_getD, Array.getD]
    rw [dif_pos (show i < bs.data.size from h)]
    rfl
  · rename_i h
    rw [List.drop_eq_nil_of_le (by have : bs.data.toList.length = bs.size := by rw [Array.length_toList]; rfl
                                   omega)]
    simp
termination_by bs.size - i
theorem ba_toList (bs : ByteArray) : bs.toList = bs.data.toList := by
  unfold ByteArray.toList
  rw [ba_toList_loop]
  simp
theorem pathEq_iff {p q : ByteArray} : pathEq p q = true ↔ q = p := by
  unfold pathEq
  rw [beq_iff_eq, ba_toList, ba_toList]
  exact ⟨fun h => ByteArray.ext (Array.toList_inj.1 h), fun h => by rw [h]⟩
def lk (l : List EN) (p : ByteArray) : Option EN := l.find? (fun e => pathEq p e.path)
theorem lk_cons (x : EN) (l : List EN) (p : ByteArray) : lk (x :: l) p = if x.path = p then some x else lk l p := by
  unfold lk
  rw [List.find?_cons]
  by_cases h : x.path = p
  · rw [if_pos h, pathEq_iff.2 h]
  · rw [if_neg h]
    cases hb : pathEq p x.path with
    | true => exact absurd (pathEq_iff.1 hb) h
    | false => rfl
theorem lk_nil (p : ByteArray) : lk [] p = none := rfl
theorem lk_path {l : List EN} {p : ByteArray} {e : EN} (h : lk l p = some e) : e.path = p ∧ e ∈ l := by
  unfold lk at h
  have := List.find?_some h
  exact ⟨pathEq_iff.1 this, List.mem_of_find?_eq_some h⟩
theorem lk_none {l : List EN} {p : ByteArray} : lk l p = none ↔ p ∉ l.map (·.path) := by
  induction l with
  | nil => simp [lk_nil]
  | cons x l ih =>
    rw [lk_cons]
    by_cases h : x.path = p
    · simp [h]
    · rw [if_neg h, ih]
      simp [Ne.symm h]
theorem lk_mem {l : List EN} (hn : (l.map (·.path)).Nodup) {e : EN} (he : e ∈ l) : lk l e.path = some e := by
  induction l with
  | nil => cases he
  | cons x l ih =>
    rw [lk_cons]
    rw [List.map_cons, List.nodup_cons] at hn
    rcases List.mem_cons.1 he with rfl | he
    · rw [if_pos rfl]
    · rw [if_neg (fun e' => hn.1 (by rw [e']; exact List.mem_map.2 ⟨e, he, rfl⟩))]
      exact ih hn.2 he
/-- where it stands -/
theorem idxP_lk (p : ByteArray) : ∀ (l : List EN) (k : Nat), (lk l p = none ∧ idxP p k (l.map (·.path)) = -1) ∨ (∃ (j : Nat) (e : EN), lk l p = some e ∧ l[j]? = some e ∧ idxP p k (l.map (·.path)) = ((k + j : Nat) : Int) ∧ ∀ i < j, ∀ f, l[i]? = some f → f.path ≠ p)
  | [], k => .inl ⟨rfl, rfl⟩
  | x :: l, k => by
    rw [lk_cons, List.map_cons, idxP]
    by_cases h : x.path = p
    · right
      refine ⟨0, x, by rw [if_pos h], rfl, by rw [if_pos (pathEq_iff.2 h)]; rfl, fun i hi => by omega⟩
    · rw [if_neg h, if_neg (fun hb => h (pathEq_iff.1 hb))]
      rcases idxP_lk p l (k + 1) with ⟨h1, h2⟩ | ⟨j, e, h1, h2, h3, h4⟩
      · exact .inl ⟨h1, h2⟩
      · refine .inr ⟨j + 1, e, h1, by simpa using h2, by rw [h3]; congr 1; omega, fun i hi f hf => ?_⟩
        cases i with
        | zero => simp at hf; rw [← hf]; exact h
        | succ i => exact h4 i (by omega) f (by simpa using hf)
def stepL (o : Option EN) (a : AN) : Option EN :=
  if a.kind = 1 then some ⟨a.path, a.rows, []⟩ else if a.kind = 2 then none else o.map fun e => ⟨e.path, e.rows, sortI (e.mask ++ a.mask)⟩
def okL (o : Option EN) (cl : Nat) (a : AN) : Prop :=
  if a.kind = 1 then nameB a.path = true ∧ 1 ≤ a.rows ∧ a.rows ≤ 60 ∧ o = none ∧ cl ≠ 0
  else if a.kind = 2 then o ≠ none
  else a.kind = 3 ∧ ∃ e, o = some e ∧ masksE e.rows e.mask a.mask = 0
theorem actE_iff {s : SN} {a : AN} (h4 : a.kind ≠ 4) : actE s a = 0 ↔ okL (lk s.files a.path) s.cols.length a ∧ (a.kind = 1 → s.files.length < 40) := by
  unfold actE okL
  rw [if_neg h4]
  by_cases h1 : a.kind = 1
  · rw [if_pos h1, if_pos h1]
    rcases idxP_lk a.path s.files 0 with ⟨e1, e2⟩ | ⟨j, e, e1, e2, e3, _⟩
    · rw [e1, e2]
      constructor
      · intro h
        split at h
        · cases h
        rename_i hb
        simp only [not_or] at hb
        rw [if_neg (by omega)] at h
        split at h
        · cases h
        rename_i hc
        split at h
        · cases h
        rename_i hf
        exact ⟨⟨by simpa using hb.1, by omega, by omega, rfl, hc⟩, fun _ => by omega⟩
      · rintro ⟨⟨a1, a2, a3, _, a5⟩, a6⟩
        have := a6 h1
        rw [if_neg (by simp [a1]; omega), if_neg (by omega), if_neg a5, if_neg (by omega)]
    · rw [e1, e3]
      constructor
      · intro h
        split at h
        · cases h
        rw [if_pos (by omega)] at h
        cases h
      · rintro ⟨⟨a1, a2, a3, a4, a5⟩, a6⟩
        cases a4
  rw [if_neg h1, if_neg h1]
  by_cases h2 : a.kind = 2
  · rw [if_pos (.inl h2), if_pos h2, if_pos h2]
    rcases idxP_lk a.path s.files 0 with ⟨e1, e2⟩ | ⟨j, e, e1, e2, e3, _⟩
    · rw [e1, e2]
      simp
    · rw [e1, e3, if_neg (by omega)]
      simp [h1]
  rw [if_neg h2]
  by_cases h3 : a.kind = 3
  · rw [if_pos (.inr h3), if_neg h2]
    rcases idxP_lk a.path s.files 0 with ⟨e1, e2⟩ | ⟨j, e, e1, e2, e3, _⟩
    · rw [e1, e2]
      simp
    · rw [e1, e3, if_neg (by omega), Nat.zero_add, Int.toNat_natCast, e2]
      simp [h1, h3]
  · rw [if_neg (by omega), if_neg h2]
    simp [h3]
theorem find_eraseIdx {l : List EN} (p : ByteArray) : ∀ (l : List EN) (j : Nat) (e : EN), (l.map (·.path)).Nodup → l[j]? = some e → lk (l.eraseIdx j) p = if p = e.path then none else lk l p
  | [], j, e, _, h => by simp at h
  | x :: l, 0, e, hn, h => by
    simp at h
    subst h
    rw [List.map_cons, List.nodup_cons] at hn
    rw [List.eraseIdx_cons_zero, lk_cons]
    by_cases hp : p = x.path
    · rw [if_pos hp, lk_none, hp]; exact hn.1
    · rw [if_neg hp, if_neg (Ne.symm hp)]
  | x :: l, j + 1, e, hn, h => by
    rw [List.map_cons, List.nodup_cons] at hn
    have hl : l[j]? = some e := by simpa using h
    rw [List.eraseIdx_cons_succ, lk_cons, lk_cons, find_eraseIdx (l := l) p l j e hn.2 hl]
    by_cases hx : x.path = p
    · have : ¬ p = e.path := fun he => hn.1 (by rw [hx, he]; exact List.mem_map.2 ⟨e, List.mem_of_getElem? hl, rfl⟩)
      rw [if_pos hx, if_pos hx, if_neg this]
    · rw [if_neg hx, if_neg hx]
theorem lk_set (p : ByteArray) : ∀ (l : List EN) (j : Nat) (e f : EN), (l.map (·.path)).Nodup → l[j]? = some e → f.path = e.path → lk (l.set j f) p = if p = e.path then some f else lk l p
  | [], j, e, f, _, h, _ => by simp at h
  | x :: l, 0, e, f, hn, h, hf => by
    simp at h
    subst h
    rw [List.set_cons_zero, lk_cons, lk_cons, hf]
    by_cases hp : p = x.path
    · rw [if_pos hp.symm, if_pos hp]
    · rw [if_neg (Ne.symm hp), if_neg hp, if_neg (Ne.symm hp)]
  | x :: l, j + 1, e, f, hn, h, hf => by
    rw [List.map_cons, List.nodup_cons] at hn
    have hl : l[j]? = some e := by simpa using h
    rw [List.set_cons_succ, lk_cons, lk_cons, lk_set p l j e f hn.2 hl hf]
    by_cases hx : x.path = p
    · have : ¬ p = e.path := fun he => hn.1 (by rw [hx, he]; exact List.mem_map.2 ⟨e, List.mem_of_getElem? hl, rfl⟩)
      rw [if_pos hx, if_pos hx, if_neg this]
    · rw [if_neg hx, if_neg hx]
theorem lk_snoc (p : ByteArray) : ∀ (l : List EN) (f : EN), f.path ∉ l.map (·.path) → lk (l ++ [f]) p = if p = f.path then some f else lk l p
  | [], f, _ => by
    rw [List.nil_append, lk_cons, lk_nil]
    by_cases hp : p = f.path
    · rw [if_pos hp.symm, if_pos hp]
    · rw [if_neg (Ne.symm hp), if_neg hp]
  | x :: l, f, h => by
    rw [List.map_cons, List.mem_cons, not_or] at h
    rw [List.cons_append, lk_cons, lk_cons, lk_snoc p l f h.2]
    by_cases hx : x.path = p
    · have : ¬ p = f.path := fun he => h.1 (by rw [hx, he])
      rw [if_pos hx, if_pos hx, if_neg this]
    · rw [if_neg hx, if_neg hx]
def addN (a : AN) : Nat := if a.kind = 1 then 1 else 0
def remN (a : AN) : Nat := if a.kind = 2 then 1 else 0
def adds (l : List AN) : Nat := (l.map addN).sum
def rems (l : List AN) : Nat := (l.map remN).sum
theorem adds_rems : ∀ l : List AN, adds l + rems l ≤ l.length
  | [] => by simp [adds, rems]
  | a :: l => by
    have := adds_rems l
    have h1 : addN a + remN a ≤ 1 := by unfold addN remN; split <;> split <;> omega
    simp only [adds, rems, List.map_cons, List.sum_cons, List.length_cons] at *
    omega
/-- what an action does -/
theorem act_law {s : SN} {a : AN} (hg : Good s) (h4 : a.kind ≠ 4) (he : actE s a = 0) :
    (∀ p, lk (actS s a).files p = if p = a.path then stepL (lk s.files a.path) a else lk s.files p) ∧ (actS s a).files.length + remN a = s.files.length + addN a ∧ (actS s a).cols = s.cols ∧ (actS s a).next = s.next := by
  obtain ⟨hk, _⟩ := (actE_iff h4).1 he
  unfold okL at hk
  unfold actS stepL
  rw [if_neg h4]
  by_cases h1 : a.kind = 1
  · rw [if_pos h1] at hk
    rw [if_pos h1, if_pos h1]
    have hn := lk_none.1 hk.2.2.2.1
    exact ⟨fun p => lk_snoc p _ ⟨a.path, a.rows, []⟩ hn, by simp [remN, addN, h1], rfl, rfl⟩
  rw [if_neg h1] at hk
  rw [if_neg h1, if_neg h1]
  by_cases h2 : a.kind = 2
  · rw [if_pos h2] at hk
    rw [if_pos h2, if_pos h2]
    rcases idxP_lk a.path s.files 0 with ⟨e1, e2⟩ | ⟨j, e, e1, e2, e3, _⟩
    · exact absurd e1 hk
    · have hj := (List.getElem?_eq_some_iff.1 e2).1
      rw [e3, Nat.zero_add, Int.toNat_natCast]
      refine ⟨fun p => ?_, ?_, rfl, rfl⟩
      · rw [find_eraseIdx (l := s.files) p s.files j e hg.once e2, (lk_path e1).1]
      · simp only [remN, addN, h2, if_true, List.length_eraseIdx, hj]
        simp; omega
  · rw [if_neg h2] at hk
    rw [if_neg h2, if_neg h2]
    obtain ⟨h3, e, hl, hm⟩ := hk
    rcases idxP_lk a.path s.files 0 with ⟨e1, e2⟩ | ⟨j, e', e1, e2, e3, _⟩
    · rw [e1] at hl; cases hl
    · rw [e1] at hl
      obtain rfl := Option.some.inj hl
      rw [e3, Nat.zero_add, Int.toNat_natCast, e2]
      refine ⟨fun p => ?_, ?_, rfl, rfl⟩
      · show lk (s.files.set j _) p = _
        rw [lk_set p s.files j e' ⟨e'.path, e'.rows, sortI (e'.mask ++ a.mask)⟩ hg.once e2 rfl, (lk_path e1).1, e1, Option.map_some, (lk_path e1).1]
      · simp [remN, addN, h1, h2]
/-- a run, and the same run of another table that has the same at its paths -/
theorem run_law : ∀ (l : List AN) (k j : Nat) (s s' s1 : SN), Good s → Good s1 → (∀ a ∈ l, a.kind ≠ 4) → runA k s l = .ok s' → s1.cols = s.cols → (∀ a ∈ l, lk s1.files a.path = lk s.files a.path) → s1.files.length + adds l ≤ 40 →
    ∃ s1', runA j s1 l = .ok s1' ∧ Good s1' ∧ Good s' ∧ s'.ver = s.ver ∧ s1'.ver = s1.ver ∧ s'.cols = s.cols ∧ s'.next = s.next ∧ s1'.cols = s1.cols ∧ s1'.next = s1.next ∧ (∀ a ∈ l, lk s1'.files a.path = lk s'.files a.path) ∧
      (∀ p, (∀ a ∈ l, a.path ≠ p) → lk s1'.files p = lk s1.files p ∧ lk s'.files p = lk s.files p) ∧ s'.files.length + rems l = s.files.length + adds l
  | [], k, j, s, s', s1, hg, hg1, _, hr, hc, hl, hn => by
    obtain rfl := Except.ok.inj (show Except.ok s = Except.ok s' from hr)
    exact ⟨s1, rfl, hg1, hg, rfl, rfl, rfl, rfl, rfl, rfl, (fun a ha => nomatch ha), fun p _ => ⟨rfl, rfl⟩, rfl⟩
  | a :: l, k, j, s, s', s1, hg, hg1, h4, hr, hc, hl, hn => by
    have ha4 := h4 a (by simp)
    rw [runA_cons] at hr
    split at hr
    rotate_left
    · cases hr
    rename_i he
    obtain ⟨hok, _⟩ := (actE_iff ha4).1 he
    have hadds : adds (a :: l) = addN a + adds l := by simp [adds]
    have hrems : rems (a :: l) = remN a + rems l := by simp [rems]
    have he1 : actE s1 a = 0 := (actE_iff ha4).2 ⟨by rw [hl a (by simp), hc]; exact hok, fun h1 => by rw [hadds] at hn; unfold addN at hn; rw [if_pos h1] at hn; omega⟩
    obtain ⟨q1, q2, q3, q4⟩ := act_law hg ha4 he
    obtain ⟨r1, r2, r3, r4⟩ := act_law hg1 ha4 he1
    obtain ⟨s1', t1, t2, t3, t4, t5, t6, t7, t8, t9, t10, t11, t12⟩ := run_law l (k + 1) (j + 1) (actS s a) s' (actS s1 a) (hg.act he) (hg1.act he1) (fun b hb => h4 b (by simp [hb])) hr (by rw [r3, q3, hc]) (fun b hb => by
      rw [q1, r1, hl a (by simp), hl b (by simp [hb])]) (by rw [hadds] at hn; omega)
    have hat : lk (actS s1 a).files a.path = lk (actS s a).files a.path := by rw [q1, r1, if_pos rfl, if_pos rfl, hl a (by simp)]
    refine ⟨s1', by rw [runA_cons, if_pos he1]; exact t1, t2, t3, t4.trans (actS_ver s a), t5.trans (actS_ver s1 a), t6.trans q3, t7.trans q4, t8.trans r3, t9.trans r4, ?_, ?_, by rw [hadds, hrems]; omega⟩
    · intro b hb
      rcases List.mem_cons.1 hb with rfl | hb
      · by_cases hin : ∃ c ∈ l, c.path = b.path
        · obtain ⟨c, hc1, hc2⟩ := hin
          rw [← hc2]
          exact t10 c hc1
        · have := t11 b.path (fun c hc1 hc2 => hin ⟨c, hc1, hc2⟩)
          rw [this.1, this.2, hat]
      · exact t10 b hb
    · intro p hp
      have := t11 p (fun c hc1 => hp c (by simp [hc1]))
      have hne : p ≠ a.path := fun e => hp a (by simp) e.symm
      rw [this.1, this.2, r1, q1, if_neg hne, if_neg hne]
      exact ⟨rfl, rfl⟩
theorem fight_off {rd : Bool} {la lb : List AN} (h : fightB rd la lb = false) : (∀ b ∈ lb, b.kind ≠ 4) ∧ ∀ b ∈ lb, ∀ a ∈ la, a.path ≠ b.path := by
  unfold fightB at h
  rw [List.any_eq_false] at h
  refine ⟨fun b hb h4 => h b hb (by unfold fight1; simp [h4]), fun b hb a ha e => h b hb ?_⟩
  unfold fight1
  have : (la.any fun a => a.kind == 4 || pathEq b.path a.path) = true := List.any_eq_true.2 ⟨a, ha, by rw [pathEq_iff.2 e]; simp⟩
  rw [this]
  simp
theorem commute {s x y : SN} {txa txb : ByteArray} {rda rdb : Bool} {la lb : List AN} (hg : Good s) (hx : applyR s txa la = .ok x) (hy : applyR s txb lb = .ok y) (hf1 : fightB rda la lb = false) (hf2 : fightB rdb lb la = false)
    (hla : la.length ≤ 12) (hlb : lb.length ≤ 12) (hlen : x.files.length + y.files.length ≤ 40) :
    ∃ x' y', applyR x txb lb = .ok x' ∧ applyR y txa la = .ok y' ∧ x'.ver = y'.ver ∧ x'.next = y'.next ∧ x'.cols = y'.cols ∧ (∀ p, lk x'.files p = lk y'.files p) ∧ Good x' ∧ Good y' := by
  obtain ⟨b4, dis⟩ := fight_off hf1
  obtain ⟨a4, _⟩ := fight_off hf2
  have hna : nameB txa = true := by
    unfold applyR at hx
    split at hx
    · assumption
    · cases hx
  have hnb : nameB txb = true := by
    unfold applyR at hy
    split at hy
    · assumption
    · cases hy
  have ux : runA 0 { s with ver := s.ver + 1 } la = .ok x := by
    unfold applyR at hx
    rw [if_pos hna] at hx
    revert hx
    cases runA 0 { s with ver := s.ver + 1 } la with
    | ok z => intro h; exact congrArg _ (Except.ok.inj h)
    | error e => intro h; cases h
  have uy : runA 0 { s with ver := s.ver + 1 } lb = .ok y := by
    unfold applyR at hy
    rw [if_pos hnb] at hy
    revert hy
    cases runA 0 { s with ver := s.ver + 1 } lb with
    | ok z => intro h; exact congrArg _ (Except.ok.inj h)
    | error e => intro h; cases h
  have hg1 := hg.ver (s.ver + 1)
  -- what each run is by itself
  have gx := runA_good la 0 _ _ hg1 ux
  have gy := runA_good lb 0 _ _ hg1 uy
  have ha2 := adds_rems la
  have hb2 := adds_rems lb
  have self : ∀ (l : List AN) (z : SN), (∀ a ∈ l, a.kind ≠ 4) → runA 0 { s with ver := s.ver + 1 } l = .ok z → z.cols = s.cols ∧ z.next = s.next ∧ (∀ p, (∀ a ∈ l, a.path ≠ p) → lk z.files p = lk s.files p) ∧ z.files.length + rems l = s.files.length + adds l := by
    intro l
    suffices H : ∀ (l : List AN) (k : Nat) (u z : SN), Good u → (∀ a ∈ l, a.kind ≠ 4) → runA k u l = .ok z → z.cols = u.cols ∧ z.next = u.next ∧ (∀ p, (∀ a ∈ l, a.path ≠ p) → lk z.files p = lk u.files p) ∧ z.files.length + rems l = u.files.length + adds l by
      exact fun z h1 h2 => H l 0 { s with ver := s.ver + 1 } z hg1 h1 h2
    clear l
    intro l
    induction l with
    | nil =>
      intro k u z hu _ h
      obtain rfl := Except.ok.inj (show Except.ok u = Except.ok z from h)
      exact ⟨rfl, rfl, fun _ _ => rfl, rfl⟩
    | cons a l ih =>
      intro k u z hu h4 h
      rw [runA_cons] at h
      split at h
      rotate_left
      · cases h
      rename_i he
      obtain ⟨q1, q2, q3, q4⟩ := act_law hu (h4 a (by simp)) he
      obtain ⟨i1, i2, i3, i4⟩ := ih (k + 1) _ z (hu.act he) (fun b hb => h4 b (by simp [hb])) h
      have hadds : adds (a :: l) = addN a + adds l := by simp [adds]
      have hrems : rems (a :: l) = remN a + rems l := by simp [rems]
      refine ⟨i1.trans q3, i2.trans q4, fun p hp => ?_, by rw [hadds, hrems]; omega⟩
      rw [i3 p (fun b hb => hp b (by simp [hb])), q1, if_neg (fun e => hp a (by simp) e.symm)]
  obtain ⟨sx1, sx2, sx3, sx4⟩ := self la x a4 ux
  obtain ⟨sy1, sy2, sy3, sy4⟩ := self lb y b4 uy
  have hgxv := gx.1.ver (x.ver + 1)
  have hgyv := gy.1.ver (y.ver + 1)
  obtain ⟨x', X1, X2, X3, X4, X5, X6, X7, X8, X9, X10, X11, X12⟩ := run_law lb 0 0 _ y { x with ver := x.ver + 1 } hg1 hgxv b4 uy (by exact sx1) (fun b hb => sx3 b.path (fun a ha => dis b hb a ha)) (by show x.files.length + adds lb ≤ 40; omega)
  obtain ⟨y', Y1, Y2, Y3, Y4, Y5, Y6, Y7, Y8, Y9, Y10, Y11, Y12⟩ := run_law la 0 0 _ x { y with ver := y.ver + 1 } hg1 hgyv a4 ux (by exact sy1) (fun a ha => sy3 a.path (fun b hb e => dis b hb a ha e.symm)) (by show y.files.length + adds la ≤ 40; omega)
  refine ⟨x', y', ?_, ?_, ?_, ?_, ?_, ?_, X2, Y2⟩
  · unfold applyR
    rw [if_pos hnb, X1]
  · unfold applyR
    rw [if_pos hna, Y1]
  · rw [X5, Y5]
    show x.ver + 1 = y.ver + 1
    rw [gx.2, gy.2]
  · rw [X9, Y9]
    show x.next = y.next
    rw [sx2, sy2]
  · rw [X8, Y8]
    show x.cols = y.cols
    rw [sx1, sy1]
  · intro p
    by_cases hb : ∃ b ∈ lb, b.path = p
    · obtain ⟨b, hb1, rfl⟩ := hb
      rw [X10 b hb1, (Y11 b.path (fun a ha => dis b hb1 a ha)).1]
    · have hnb2 : ∀ b ∈ lb, b.path ≠ p := fun b h1 h2 => hb ⟨b, h1, h2⟩
      rw [(X11 p hnb2).1]
      by_cases ha : ∃ a ∈ la, a.path = p
      · obtain ⟨a, ha1, rfl⟩ := ha
        rw [Y10 a ha1]
      · have hna2 : ∀ a ∈ la, a.path ≠ p := fun a h1 h2 => ha ⟨a, h1, h2⟩
        rw [(Y11 p hna2).1]
        show lk x.files p = lk y.files p
        rw [sx3 p hna2, sy3 p hnb2]
end Go.Proofs.YtcpnnffnkegamaaGreatDoor

/- millpondkeep.sameSet: true of two tables that have the same. -/
namespace Go.Proofs.YtcpnnffnkegamaaGreatDoor
set_option linter.unusedSimpArgs false
set_option linter.unusedVariables false
open Go.RowKit
set_option linter.all false
open Go.Maps (Keyed)
theorem zeroE (w : World) : (zeroValue 43).run Tryz.prog w = .ok (.agg #[.string ⟨#[]⟩, .int .i64 0, .slice none 0 0]) w := by kernel_rfl
theorem rightC_len {l : List CG} {n : Int} (h : rightC l n = true) : l.length ≤ 8 := by
  unfold rightC at h
  simp only [Bool.and_eq_true, decide_eq_true_eq] at h
  exact h.2.2
theorem Hp.named2 {B : Nat} {w0 w : World} {L : List Item} {g : Nat} {cs : List Value} {T : TypeId} (_ : Hp B w0 w (.blk g cs T :: L)) : ∃ g', g' = g := ⟨g, rfl⟩
/-- what the map of a table's files tells -/
structure SetOk (B : Nat) (w0 : World) (K : List Item) (s : SN) (D : DataW Value) : Prop where
  kt : KT D (s.files.map (·.path))
  get : ∀ x, vhas D x = true → ∃ e ev, lk s.files x = some e ∧ (∀ z, vget D x z = evV ev) ∧ EvOk B w0 K ev e
theorem SetOk.more {B : Nat} {w0 : World} {K K' : List Item} {s : SN} {D : DataW Value} (h : SetOk B w0 K s D) (hK : ∀ W, Hp B w0 W K' → Hp B w0 W K) : SetOk B w0 K' s D :=
  ⟨h.kt, fun x hx => by obtain ⟨e, ev, h1, h2, h3⟩ := h.get x hx; exact ⟨e, ev, h1, h2, h3.more hK⟩⟩
theorem SetOk.has {B : Nat} {w0 : World} {K : List Item} {s : SN} {D : DataW Value} (h : SetOk B w0 K s D) {x : ByteArray} {e : EN} (he : lk s.files x = some e) : vhas D x = true := by
  rw [h.kt.mem]
  obtain ⟨h1, h2⟩ := lk_path he
  rw [← h1]
  exact List.mem_map.2 ⟨e, h2, rfl⟩
theorem setOk_of {B : Nat} {w0 : World} {K : List Item} {s : SN} {evs : List EV} (h : FsOk B w0 K evs s.files) (hg : Good s) : SetOk B w0 K s (setD evs) := by
  have hp := h.paths
  have hn : (evs.map (·.path)).Nodup := by rw [hp]; exact hg.once
  refine ⟨by rw [← hp]; exact setD_kt hn, fun x hx => ?_⟩
  have hm := ((setD_kt hn).mem x).1 hx
  obtain ⟨ev, hev, rfl⟩ := List.mem_map.1 hm
  obtain ⟨i, hi⟩ := List.getElem?_of_mem hev
  have hlt := (List.getElem?_eq_some_iff.1 hi).1
  obtain ⟨e, he⟩ : ∃ e, s.files[i]? = some e := ⟨_, List.getElem?_eq_getElem (by rw [← h.len]; exact hlt)⟩
  have ho := h.one i ev e hi he
  refine ⟨e, ev, ?_, fun z => setD_get hn hev z, ho⟩
  rw [ho.path]
  exact lk_mem hg.once (List.mem_of_getElem? he)
section
variable {B : Nat} {w0 w : World} {K : List Item}
set_option maxRecDepth 100000 in
set_option maxHeartbeats 8000000 in
theorem sameSet_any (s1 s2 : SN) (v1 v2 : SV) (h1 : Hid (SnOk B w0 K s1 v1)) (h2 : Hid (SnOk B w0 K s2 v2)) (g1 : Good s1) (g2 : Good s2) (p1 : ∀ e ∈ s1.files, e.path.size ≤ maxLen) (p2 : ∀ e ∈ s2.files, e.path.size ≤ maxLen)
    (hv : s1.ver = s2.ver) (hn : s1.next = s2.next) (hc : s1.cols = s2.cols) (hlk : ∀ p, lk s1.files p = lk s2.files p) (hS : Hp B w0 w K) :
    Calls Tryz.prog 14 #[snV s1 v1, snV s2 v2] w fun e w' => e = .returned (.bool true) ∧ Hp B w0 w' K := by
  have HS1 := Lib.hid (fun (W : World) (L : List Item) (hL : ∀ W, Hp B w0 W L → Hp B w0 W K) (h : Hp B w0 W L) => set_any v1.evs s1.ver s1.next v1.ca v1.fa v1.cn v1.cc v1.fn v1.fc h1.out.k.fl (by have := g1.fn h1.out.k; omega) (by
    intro v hv
    have hp := h1.out.k.fs.paths
    have : v.path ∈ s1.files.map (·.path) := by rw [← hp]; exact List.mem_map.2 ⟨v, hv, rfl⟩
    obtain ⟨e, he, he2⟩ := List.mem_map.1 this
    rw [← he2]; exact p1 e he) (Lib.hid fun W' h' => h1.out.fr W' (hL W' h')) h)
  have HS2 := Lib.hid (fun (W : World) (L : List Item) (hL : ∀ W, Hp B w0 W L → Hp B w0 W K) (h : Hp B w0 W L) => set_any v2.evs s2.ver s2.next v2.ca v2.fa v2.cn v2.cc v2.fn v2.fc h2.out.k.fl (by have := g2.fn h2.out.k; omega) (by
    intro v hv
    have hp := h2.out.k.fs.paths
    have : v.path ∈ s2.files.map (·.path) := by rw [← hp]; exact List.mem_map.2 ⟨v, hv, rfl⟩
    obtain ⟨e, he, he2⟩ := List.mem_map.1 this
    rw [← he2]; exact p2 e he) (Lib.hid fun W' h' => h2.out.fr W' (hL W' h')) h)
  have HK1 := Lib.hid (setOk_of h1.out.k.fs g1)
  have HK2 := Lib.hid (setOk_of h2.out.k.fs g2)
  have f1 : s1.files.length = v1.fn := by rw [← h1.out.k.fl, h1.out.k.fs.len]
  have f2 : s2.files.length = v2.fn := by rw [← h2.out.k.fl, h2.out.k.fs.len]
  have hn1 := g1.fn h1.out.k
  have hmem : ∀ x, x ∈ s1.files.map (·.path) ↔ x ∈ s2.files.map (·.path) := fun x => by
    have := hlk x
    constructor
    · intro hx
      cases hb : lk s2.files x with
      | none => rw [hb] at this; exact absurd hx (lk_none.1 this)
      | some e => obtain ⟨q1, q2⟩ := lk_path hb; exact List.mem_map.2 ⟨e, q2, q1⟩
    · intro hx
      cases hb : lk s1.files x with
      | none => rw [hb] at this; exact absurd hx (lk_none.1 this.symm)
      | some e => obtain ⟨q1, q2⟩ := lk_path hb; exact List.mem_map.2 ⟨e, q2, q1⟩
  have f12 : v2.fn = v1.fn := by
    have := HK1.out.kt.eq HK2.out.kt hmem
    rw [HK1.out.kt.size, HK2.out.kt.size, List.length_map, List.length_map] at this
    omega
  have HCE := Lib.hid (fun (W : World) (hW : Hp B w0 W K) => show Calls Tryz.prog 27 #[.slice v1.ca v1.cn v1.cc, .slice v2.ca v2.cn v2.cc] W fun e w' => e = .returned (.bool true) ∧ Ext W w' from by
    have hcl : s1.cols.length ≤ 1000 := by
      rcases g1.cols with hc | hc
      · rw [hc]; simp
      · have := rightC_len hc; omega
    have := cequal_any s1.cols v1.ca v2.ca v1.cc v2.cc W (h1.out.k.cr W hW) (by rw [hc]; exact h2.out.k.cr W hW) hcl
    rw [show s1.cols.length = v1.cn from h1.out.k.cl] at this
    rw [show v2.cn = v1.cn by rw [← h1.out.k.cl, ← h2.out.k.cl, hc]]
    exact this)
  have HLK := Lib.hid hlk
  obtain ⟨D1, hD1⟩ : ∃ D, D = setD v1.evs := ⟨_, rfl⟩
  obtain ⟨D2, hD2⟩ : ∃ D, D = setD v2.evs := ⟨_, rfl⟩
  rw [← hD1] at HS1 HK1
  rw [← hD2] at HS2 HK2
  have hz1 : Maps.size D1 = v1.fn := by rw [HK1.out.kt.size, List.length_map, f1]
  have hz2 : Maps.size D2 = v1.fn := by rw [HK2.out.kt.size, List.length_map, f2, f12]
  have HEQ := Lib.hid (fun (e : EN) (ev1 ev2 : EV) (W : World) (o1 : EvOk B w0 K ev1 e) (o2 : EvOk B w0 K ev2 e) (he : e.mask.length ≤ 1000) (hW : Hp B w0 W K) => show Calls Tryz.prog 12 #[.slice ev1.ma ev1.mn ev1.mc, .slice ev2.ma ev2.mn ev2.mc] W fun e w' => e = .returned (.bool true) ∧ Ext W w' from by
    have := iequal_any (cap := ev1.mc) (cap2 := ev2.mc) o1.len o2.len (by rw [← o1.len]; omega) (by rw [← o2.len]; omega) (o1.mask W hW) (o2.mask W hW)
    rw [show (e.mask == e.mask) = true by simp] at this
    exact this)
  have HML := Lib.hid (fun (e : EN) (x : ByteArray) (h : lk s1.files x = some e) => show e.mask.length ≤ 1000 ∧ x.size ≤ maxLen from by
    obtain ⟨q1, q2⟩ := lk_path h
    have := g1.mask q2
    exact ⟨by omega, by rw [← q1]; exact p1 e q2⟩)
  rw [← hv, ← hn] at HS2
  unfold snV
  rw [← hv, ← hn]
  rw [f12] at HS2 ⊢
  clear hD1 hD2 hv hn hc hlk hmem f1 f2 f12 p1 p2 g1 g2 h1 h2
  have hF : True := trivial
  go_enter Tryz.func14, Tryz.ntmps14
  go_wp2_with (first | ((with_reducible first | refine nhLa ?_ | refine nhLs ?_ | refine nhLd ?_ | refine nhCa ?_ | refine nhCs ?_ | refine nhCd ?_ | refine nhPa ?_ | refine nhPs ?_ | refine nhPd ?_ | refine nhKa ?_ | refine nhKs ?_ | refine nhKd ?_); ((try clear hF); clear hS; intro wk hS; (try simp only [List.set_cons_zero, List.set_cons_succ, heap_size, heap_set_size] at hS); ((try clear hF); (first | have hF := And.intro hS.facts (HRD.out _ (hS.sub (by first | simp | ((repeat (first | exact List.nil_sublist _ | exact List.Sublist.refl _ | with_reducible apply List.Sublist.cons₂ | apply List.Sublist.cons)))))) | have hF := And.intro hS.facts (hR.at hS.ext) | have hF := hS.facts); simp only [HFacts, cellFacts, RFacts, cellOnly, and_true, true_and, Nat.zero_add, Nat.reduceAdd] at hF))) | fail)
  obtain ⟨gb, hgb⟩ := hS.named2
  rw [← hgb] at hS hF ⊢
  clear hgb
  ((with_reducible refine wp_region_chain_hp [.q, .t, .q, .t, .t, .t] [.blk gb [.int .i64 s1.ver, .slice v2.ca v2.cn v2.cc, .int .i64 s1.next, .slice v2.fa v1.fn v2.fc] 27, .blk w.heap.size [.int .i64 s1.ver, .slice v1.ca v1.cn v1.cc, .int .i64 s1.next, .slice v1.fa v1.fn v1.fc] 27] (by kernel_rfl) rfl (by kernel_rfl) hS (fun w h => h.sub (by simp)) ?_); clear hS; (repeat ((with_reducible refine Walk.here ?_); (first | ((with_reducible apply Walk.skipQ); (first | rfl | exact wanted_false rfl rfl rfl (by assumption)); (try simp only [Mark.isQ, if_true, Bool.false_eq_true, if_false, Act.put, List.setIfInBounds_toArray, List.set_cons_zero, List.set_cons_succ])) | ((with_reducible apply Walk.val); (first | rfl | exact wanted_true rfl rfl rfl (by assumption)); (rintro w hS; ((try clear hF); (first | have hF := And.intro hS.facts (HRD.out _ (hS.sub (by first | simp | ((repeat (first | exact List.nil_sublist _ | exact List.Sublist.refl _ | with_reducible apply List.Sublist.cons₂ | apply List.Sublist.cons)))))) | have hF := And.intro hS.facts (hR.at hS.ext) | have hF := hS.facts); simp only [HFacts, cellFacts, RFacts, cellOnly, and_true, true_and, Nat.zero_add, Nat.reduceAdd] at hF); go_simp; first | with_reducible rfl | (rw [if_neg (by first | omega | (simp only [ByteArray.size_append]; omega) | (simp [ByteArray.size_append]; omega))]; try with_reducible rfl)); (try simp only [Mark.isQ, if_true, Bool.false_eq_true, if_false, Act.put, List.setIfInBounds_toArray, List.set_cons_zero, List.set_cons_succ])) | ((with_reducible apply Walk.tail); (try simp only [Mark.isQ, if_true, Bool.false_eq_true, if_false, Act.put, List.setIfInBounds_toArray, List.set_cons_zero, List.set_cons_succ])) | ((with_reducible apply Walk.guardT); rfl; rfl; rfl; (all_goals intro hg)) | ((with_reducible apply Walk.guardF); rfl; rfl; rfl; (all_goals intro hg))))); refine Walk.done ?_; simp only [chainOf, Mark.isT, if_true, Bool.false_eq_true, if_false])
  (refine Chain.call (by (first | rfl | exact wanted_true rfl rfl rfl (by assumption))) (by rintro w hS; ((try clear hF); (first | have hF := And.intro hS.facts (HRD.out _ (hS.sub (by first | simp | ((repeat (first | exact List.nil_sublist _ | exact List.Sublist.refl _ | with_reducible apply List.Sublist.cons₂ | apply List.Sublist.cons)))))) | have hF := And.intro hS.facts (hR.at hS.ext) | have hF := hS.facts); simp only [HFacts, cellFacts, RFacts, cellOnly, and_true, true_and, Nat.zero_add, Nat.reduceAdd] at hF); go_simp; exact ⟨rfl, rfl⟩) ?_; (intro w hS); (with_reducible refine Calls.mono (HS1.out _ _ (fun W h => h.sub (by first | simp | ((try simp only [List.eraseIdx_cons_zero, List.eraseIdx_cons_succ]); (repeat (first | exact List.nil_sublist _ | exact List.Sublist.refl _ | with_reducible apply List.Sublist.cons₂ | apply List.Sublist.cons))))) hS) ?_); clear hS; rintro e wk ⟨gm1, ob1, rfl, hV1, hS⟩; (try simp only [List.eraseIdx_cons_zero, List.eraseIdx_cons_succ, List.set_cons_zero, List.set_cons_succ] at hS); refine ⟨_, _, rfl, hS, (fun w h => h.sub (by simp)), ?_⟩; (clear hS); try simp only [Act.put, List.setIfInBounds_toArray, List.set_cons_zero, List.set_cons_succ])
  (refine Chain.call (by (first | rfl | exact wanted_true rfl rfl rfl (by assumption))) (by rintro w hS; ((try clear hF); (first | have hF := And.intro hS.facts (HRD.out _ (hS.sub (by first | simp | ((repeat (first | exact List.nil_sublist _ | exact List.Sublist.refl _ | with_reducible apply List.Sublist.cons₂ | apply List.Sublist.cons)))))) | have hF := And.intro hS.facts (hR.at hS.ext) | have hF := hS.facts); simp only [HFacts, cellFacts, RFacts, cellOnly, and_true, true_and, Nat.zero_add, Nat.reduceAdd] at hF); go_simp; exact ⟨rfl, rfl⟩) ?_; (intro w hS); (with_reducible refine Calls.mono (HS2.out _ _ (fun W h => h.sub (by first | simp | ((try simp only [List.eraseIdx_cons_zero, List.eraseIdx_cons_succ]); (repeat (first | exact List.nil_sublist _ | exact List.Sublist.refl _ | with_reducible apply List.Sublist.cons₂ | apply List.Sublist.cons))))) hS) ?_); clear hS; rintro e wk ⟨gm2, ob2, rfl, hV2, hS⟩; (try simp only [List.eraseIdx_cons_zero, List.eraseIdx_cons_succ, List.set_cons_zero, List.set_cons_succ] at hS); refine ⟨_, _, rfl, hS, (fun w h => h.sub (by simp)), ?_⟩; (clear hS); try simp only [Act.put, List.setIfInBounds_toArray, List.set_cons_zero, List.set_cons_succ])
  (refine Chain.val (by (first | rfl | exact wanted_true rfl rfl rfl (by assumption))) (fun w h => h.sub (by simp)) (by rintro w hS; ((try clear hF); (first | have hF := And.intro hS.facts (HRD.out _ (hS.sub (by first | simp | ((repeat (first | exact List.nil_sublist _ | exact List.Sublist.refl _ | with_reducible apply List.Sublist.cons₂ | apply List.Sublist.cons)))))) | have hF := And.intro hS.facts (hR.at hS.ext) | have hF := hS.facts); simp only [HFacts, cellFacts, RFacts, cellOnly, and_true, true_and, Nat.zero_add, Nat.reduceAdd] at hF); go_simp; with_reducible rfl) ?_; try simp only [Act.put, List.setIfInBounds_toArray, List.set_cons_zero, List.set_cons_succ])
  (refine Chain.val (by (first | rfl | exact wanted_true rfl rfl rfl (by assumption))) (fun w h => h.sub (by simp)) (by rintro w hS; ((try clear hF); (first | have hF := And.intro hS.facts (HRD.out _ (hS.sub (by first | simp | ((repeat (first | exact List.nil_sublist _ | exact List.Sublist.refl _ | with_reducible apply List.Sublist.cons₂ | apply List.Sublist.cons)))))) | have hF := And.intro hS.facts (hR.at hS.ext) | have hF := hS.facts); simp only [HFacts, cellFacts, RFacts, cellOnly, and_true, true_and, Nat.zero_add, Nat.reduceAdd] at hF); go_simp; with_reducible rfl) ?_; try simp only [Act.put, List.setIfInBounds_toArray, List.set_cons_zero, List.set_cons_succ])
  (refine Chain.done ?_; (try clear hF); intro wk hS; ((try clear hF); (first | have hF := And.intro hS.facts (HRD.out _ (hS.sub (by first | simp | ((repeat (first | exact List.nil_sublist _ | exact List.Sublist.refl _ | with_reducible apply List.Sublist.cons₂ | apply List.Sublist.cons)))))) | have hF := And.intro hS.facts (hR.at hS.ext) | have hF := hS.facts); simp only [HFacts, cellFacts, RFacts, cellOnly, and_true, true_and, Nat.zero_add, Nat.reduceAdd] at hF))
  have HV1 := Lib.hid hV1
  have HV2 := Lib.hid hV2
  clear HS1 HS2 hV1 hV2
  have hl1 : (Builtin.len_ #[29] 3 #[.map (some gm1)]).run Tryz.prog wk = .ok (.int .i64 v1.fn) wk := by rw [run_len_v Tryz.underlying29 HV1.out (hS.obAt (i := 1) rfl), hz1]
  have hl2 : (Builtin.len_ #[29] 3 #[.map (some gm2)]).run Tryz.prog wk = .ok (.int .i64 v1.fn) wk := by rw [run_len_v Tryz.underlying29 HV2.out (hS.obAt (i := 0) rfl), hz2]
  go_wp2_with (first | ((with_reducible first | refine nhLa ?_ | refine nhLs ?_ | refine nhLd ?_ | refine nhCa ?_ | refine nhCs ?_ | refine nhCd ?_ | refine nhPa ?_ | refine nhPs ?_ | refine nhPd ?_ | refine nhKa ?_ | refine nhKs ?_ | refine nhKd ?_); ((try clear hF); clear hS; intro wk hS; (try simp only [List.set_cons_zero, List.set_cons_succ, heap_size, heap_set_size] at hS); ((try clear hF); (first | have hF := And.intro hS.facts (HRD.out _ (hS.sub (by first | simp | ((repeat (first | exact List.nil_sublist _ | exact List.Sublist.refl _ | with_reducible apply List.Sublist.cons₂ | apply List.Sublist.cons)))))) | have hF := And.intro hS.facts (hR.at hS.ext) | have hF := hS.facts); simp only [HFacts, cellFacts, RFacts, cellOnly, and_true, true_and, Nat.zero_add, Nat.reduceAdd] at hF))) | (go_at_call 27; (with_reducible refine (HCE.out _ (hS.sub (by first | simp | ((try simp only [List.eraseIdx_cons_zero, List.eraseIdx_cons_succ]); (repeat (first | exact List.nil_sublist _ | exact List.Sublist.refl _ | with_reducible apply List.Sublist.cons₂ | apply List.Sublist.cons)))))).mono ?_); rintro e wk ⟨rfl, hX⟩; replace hS := hS.step hX; clear hX; ((try clear hF); (first | have hF := And.intro hS.facts (HRD.out _ (hS.sub (by first | simp | ((repeat (first | exact List.nil_sublist _ | exact List.Sublist.refl _ | with_reducible apply List.Sublist.cons₂ | apply List.Sublist.cons)))))) | have hF := And.intro hS.facts (hR.at hS.ext) | have hF := hS.facts); simp only [HFacts, cellFacts, RFacts, cellOnly, and_true, true_and, Nat.zero_add, Nat.reduceAdd] at hF)) | (refine wpList_range_v rfl _ rfl Tryz.keyedStr Tryz.underlying29 HV1.out hS (hS.obAt (i := 1) rfl) rfl ?_; clear hS; intro r it wk hrf hS))
  have HR0 := Lib.hid hrf
  clear hrf HCE
  go_frame
  go_loopw [7, 8, 9, 10] (fun _ _ _ _ wr2 => ∃ (left : Lit → Bool) (cnt : Nat) (it2 : Obj), Hid (WFit Tryz.prog 9 gm1 v1.fn D1 left cnt ob1 it2) ∧ Hp B w0 wr2 (.ob r it2 :: .ob gm2 ob2 :: .ob gm1 ob1 :: K)) (fun _ _ _ _ wr2 => wr2.rangeLeft gm1 r)
  case atStart => exact ⟨_, _, it, HR0, hS.sub (by first | simp | ((try simp only [List.eraseIdx_cons_zero, List.eraseIdx_cons_succ]); (repeat (first | exact List.nil_sublist _ | exact List.Sublist.refl _ | with_reducible apply List.Sublist.cons₂ | apply List.Sublist.cons))))⟩
  case round =>
    clear hS HR0 hz1 hz2
    obtain ⟨left, cnt, it2, HR2, hS⟩ := hrel
    have hcnt := (HR2.out.ranges (hS.obAt (i := 2) rfl) (hS.obAt (i := 0) rfl)).left_eq
    have HCN := Lib.hid hcnt
    clear hcnt
    go_wp2_with (refine wpList_next_v rfl _ rfl Tryz.keyedStr Tryz.underlying9 0 HR2.out hS (hS.obAt (i := 2) rfl) rfl rfl ?_ ?_)
    · intro _ _
      go_wp2_with (first | ((with_reducible first | refine nhLa ?_ | refine nhLs ?_ | refine nhLd ?_ | refine nhCa ?_ | refine nhCs ?_ | refine nhCd ?_ | refine nhPa ?_ | refine nhPs ?_ | refine nhPd ?_ | refine nhKa ?_ | refine nhKs ?_ | refine nhKd ?_); ((try clear hF); clear hS; intro wk hS; (try simp only [List.set_cons_zero, List.set_cons_succ, heap_size, heap_set_size] at hS); ((try clear hF); (first | have hF := And.intro hS.facts (HRD.out _ (hS.sub (by first | simp | ((repeat (first | exact List.nil_sublist _ | exact List.Sublist.refl _ | with_reducible apply List.Sublist.cons₂ | apply List.Sublist.cons)))))) | have hF := And.intro hS.facts (hR.at hS.ext) | have hF := hS.facts); simp only [HFacts, cellFacts, RFacts, cellOnly, and_true, true_and, Nat.zero_add, Nat.reduceAdd] at hF))) | fail)
      go_ret
      exact ⟨rfl, hS.sub (by first | simp | ((try simp only [List.eraseIdx_cons_zero, List.eraseIdx_cons_succ]); (repeat (first | exact List.nil_sublist _ | exact List.Sublist.refl _ | with_reducible apply List.Sublist.cons₂ | apply List.Sublist.cons))))⟩
    · clear hS
      intro x c it3 wk cnt3 hxs hlk hh hg hr3 hlt3 hS hen
      try simp only [List.set_cons_zero] at hS
      have hcnt3 := (hr3.ranges (hS.obAt (i := 2) rfl) (hS.obAt (i := 0) rfl)).left_eq
      have HR3 := Lib.hid hr3
      have HC3 := Lib.hid hcnt3
      clear hcnt3 hr3 hlk
      obtain ⟨e, ev1, l1, ge1, o1⟩ := HK1.out.get x hh
      have hcev : c = evV ev1 := (hg (.int .i64 0)).symm.trans (ge1 _)
      subst hcev
      have l2 : lk s2.files x = some e := by rw [← HLK.out]; exact l1
      have hb2 := HK2.out.has l2
      obtain ⟨e', ev2, l3, ge2, o2⟩ := HK2.out.get x hb2
      obtain rfl : e = e' := by rw [l2] at l3; exact Option.some.inj l3
      obtain ⟨hml, hxm⟩ := HML.out e x l1
      have hkey := key_str hxm
      have hge2 := ge2 (.agg #[.string ⟨#[]⟩, .int .i64 0, .slice none 0 0])
      have HE2 := Lib.hid (fun W h => HEQ.out e ev1 ev2 W o1 o2 hml h)
      have hrw : ev2.rows = ev1.rows := by rw [o1.rows, o2.rows]
      have HV2' := HV2.out
      clear hh hg l1 ge1 o1 l2 ge2 l3 o2 hml hxm
      have hF : True := trivial
      go_wp2_with (first | ((with_reducible first | refine nhLa ?_ | refine nhLs ?_ | refine nhLd ?_ | refine nhCa ?_ | refine nhCs ?_ | refine nhCd ?_ | refine nhPa ?_ | refine nhPs ?_ | refine nhPd ?_ | refine nhKa ?_ | refine nhKs ?_ | refine nhKd ?_); ((try clear hF); clear hS; intro wk hS; (try simp only [List.set_cons_zero, List.set_cons_succ, heap_size, heap_set_size] at hS); ((try clear hF); (first | have hF := And.intro hS.facts (HRD.out _ (hS.sub (by first | simp | ((repeat (first | exact List.nil_sublist _ | exact List.Sublist.refl _ | with_reducible apply List.Sublist.cons₂ | apply List.Sublist.cons)))))) | have hF := And.intro hS.facts (hR.at hS.ext) | have hF := hS.facts); simp only [HFacts, cellFacts, RFacts, cellOnly, and_true, true_and, Nat.zero_add, Nat.reduceAdd] at hF))) | (refine wpList_lookup_v rfl _ _ rfl Tryz.keyedStr Tryz.underlying29 zeroE HV2' (hS.obAt (i := 2) rfl) rfl x rfl hkey ?_; rw [hge2, hb2]) | (go_at_call 12; (with_reducible refine (HE2.out _ (hS.sub (by first | simp | ((try simp only [List.eraseIdx_cons_zero, List.eraseIdx_cons_succ]); (repeat (first | exact List.nil_sublist _ | exact List.Sublist.refl _ | with_reducible apply List.Sublist.cons₂ | apply List.Sublist.cons)))))).mono ?_); rintro e wk ⟨rfl, hX⟩; replace hS := hS.step hX; clear hX; ((try clear hF); (first | have hF := And.intro hS.facts (HRD.out _ (hS.sub (by first | simp | ((repeat (first | exact List.nil_sublist _ | exact List.Sublist.refl _ | with_reducible apply List.Sublist.cons₂ | apply List.Sublist.cons)))))) | have hF := And.intro hS.facts (hR.at hS.ext) | have hF := hS.facts); simp only [HFacts, cellFacts, RFacts, cellOnly, and_true, true_and, Nat.zero_add, Nat.reduceAdd] at hF)))
      go_roundw
      case rel => exact ⟨_, _, it3, HR3, hS.sub (by first | simp | ((try simp only [List.eraseIdx_cons_zero, List.eraseIdx_cons_succ]); (repeat (first | exact List.nil_sublist _ | exact List.Sublist.refl _ | with_reducible apply List.Sublist.cons₂ | apply List.Sublist.cons))))⟩
      case measure =>
        have e1 := (HR3.out.ranges (hS.obAt (i := 4) rfl) (hS.obAt (i := 2) rfl)).left_eq
        rw [e1, HCN.out]
        exact hlt3
end
end Go.Proofs.YtcpnnffnkegamaaGreatDoor
