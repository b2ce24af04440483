/- millpondkeep.QueryOrders: the walk. -/
import Derived.Test.YtlaldfkeaalnhaaGreatDoorQA30
import Derived.Test.YtlaldfkeaalnhaaGreatDoorQA29
import Derived.Test.YtlaldfkeaalnhaaGreatDoorQA02
import Derived.Test.YtlaldfkeaalnhaaGreatDoorQA10
import Derived.Test.YtlaldfkeaalnhaaGreatDoorQA11
import Derived.Lib.SlBytesRow
namespace Go.Proofs.YtlaldfkeaalnhaaGreatDoor
set_option linter.unusedSimpArgs false
set_option linter.unusedVariables false
open Go.RowKit
set_option linter.all false
theorem conv_q {w : World} {g k : Nat} (hk : k ≤ 60) (hc : w.cell? ⟨g, 0, none⟩ = some (.int .u8 (k : Int))) : (convert 41 9 (.slice (some ⟨g, 0, none⟩) 1 1)).run Tryz.prog w = .ok (.string ⟨#[UInt8.ofNat k]⟩) w := by
 refine Lib.run_convert_whole (P := Tryz.prog) w 41 5 9 Tryz.underlying41 Tryz.underlying5 Tryz.underlying9 g 0 ⟨#[UInt8.ofNat k]⟩ (fun i hi => ?_) 1
 obtain rfl : i = 0 := by
  have : (⟨#[UInt8.ofNat k]⟩ : ByteArray).size = 1 := rfl
  omega
 rw [Nat.add_zero, hc]
 have e : ((⟨#[UInt8.ofNat k]⟩ : ByteArray)[0]).toNat = k := by
  show (UInt8.ofNat k).toNat = k
  rw [UInt8.toNat_ofNat', Nat.mod_eq_of_lt (by omega)]
 rw [e]
theorem RunsRes.at {w w' : World} {R : List (List GV)} {n2 : Nat} {e : Ending} (h : RunsRes w R e w') (hl : R.length = n2) : ∃ A' c', e = .returned (.tuple #[.slice A' n2 c', .bool true]) ∧ n2 ≤ c' ∧ Ext w w' ∧ Hid (RR w' A' R) := by
 obtain ⟨A', n', c', e1, h1, h2, h3⟩ := h
 obtain ⟨k1, _, k3⟩ := h1.out
 obtain rfl : n' = n2 := by omega
 exact ⟨A', c', e1, k3, h2, Lib.hid h3⟩
theorem ord_in {cs : List CG} {k : Nat} (h : k < cs.length) (d : Bool) (lim : Int) : ∀ p ∈ (ordQ cs [((k : Int), d)] lim).ord, 0 ≤ p.1 ∧ p.1 < (ordQ cs [((k : Int), d)] lim).items.length := fun p hp => by
 obtain rfl : p = ((k : Int), d) := by simpa [ordQ] using hp
 show 0 ≤ (k : Int) ∧ (k : Int) < ((cs.map nmI).length : Int)
 rw [List.length_map]
 omega
theorem ord_star {cs : List CG} {rs : List (List GV)} (hf : FineQ cs rs) (ord : List (Int × Bool)) (lim : Int) : ∀ x ∈ (ordQ cs ord lim).items, x.col = starS → x.fn = countS := fun x hx h => by
 obtain ⟨c, hc, rfl⟩ := List.mem_map.1 hx
 exact absurd h (name_star (hf.name c hc))
set_option maxRecDepth 100000 in
set_option maxHeartbeats 8000000 in
theorem orders_any (cs : List CG) (rs : List (List GV)) (A A2 : Option Addr) (n n2 cap cap2 : Nat) (bi li : Int) (w : World) (hn : cs.length = n) (hn2 : rs.length = n2) (hc : RC w A cs) (hr : RR w A2 rs) (hcap : n ≤ cap) (hcap2 : n2 ≤ cap2) (hcap3 : cap2 ≤ 140737488355328)
  (hi : ∀ c ∈ cs, i64 c.id) (hv : ∀ r ∈ rs, ∀ x ∈ r, i64 x.num) (hE : ∀ W, Ext w W → EnvK W) (hK : KeptAt w) (hEr : ErrAt w) :
  Calls Tryz.prog 4 #[.slice A n cap, .slice A2 n2 cap2, .int .i64 bi, .int .i64 li] w fun e w' => e = .returned (.bool true) ∧ Ext w w' := by
 have H1 := Lib.hid (fun (W : World) (hx : Ext w W) => columns_any cs A n cap W hn (hc.ext hx))
 have H2 := Lib.hid (fun (W : World) (hx : Ext w W) => rows_any rs A2 n2 cap2 W hn2 (hr.ext hx))
 have H3 := Lib.hid (fun (W : World) (hx : Ext w W) => answered_any W (fun W' hx' => hE W' (hx.trans hx')))
 by_cases hs1 : shortCs cs = true
 case neg =>
  rw [show shortCs cs = false by simpa using hs1] at H1
  clear H2 H3 hs1 hn hn2 hc hr hcap hcap2 hcap3 hi hv hE hK hEr
  have hS := Hp.init w
  have hR := Reads.nil w
  go_enter Tryz.func4, Tryz.ntmps4
  go_wp2_with (first | ((with_reducible first | refine nhLa ?_ | refine nhLd ?_ | refine nhCa ?_ | refine nhCd ?_ | refine nhPa ?_ | refine nhPd ?_ | refine nhKa ?_ | refine nhKd ?_); (try clear hF); clear hS; intro wk hS; refine hfI ?_; intro hF) | (go_at_call 5; (with_reducible refine (H1.out _ hS.ext).mono ?_); rintro e wk ⟨rfl, hX⟩; replace hS := hS.step hX; clear hX; ((try clear hF); refine hfI ?_; intro hF)))
  go_ret
  exact ⟨rfl, hS.ext⟩
 case pos =>
 by_cases hs2 : shortRs rs = true
 case neg =>
  rw [show shortRs rs = false by simpa using hs2] at H2
  rw [hs1] at H1
  clear H3 hs1 hs2 hn hn2 hc hr hcap hcap2 hcap3 hi hv hE hK hEr
  have hS := Hp.init w
  have hR := Reads.nil w
  go_enter Tryz.func4, Tryz.ntmps4
  go_wp2_with (first | ((with_reducible first | refine nhLa ?_ | refine nhLd ?_ | refine nhCa ?_ | refine nhCd ?_ | refine nhPa ?_ | refine nhPd ?_ | refine nhKa ?_ | refine nhKd ?_); (try clear hF); clear hS; intro wk hS; refine hfI ?_; intro hF) | (go_at_call 5; (with_reducible refine (H1.out _ hS.ext).mono ?_); rintro e wk ⟨rfl, hX⟩; replace hS := hS.step hX; clear hX; ((try clear hF); refine hfI ?_; intro hF)) | (go_at_call 6; (with_reducible refine (H2.out _ hS.ext).mono ?_); rintro e wk ⟨rfl, hX⟩; replace hS := hS.step hX; clear hX; ((try clear hF); refine hfI ?_; intro hF)))
  go_ret
  exact ⟨rfl, hS.ext⟩
 case pos =>
 rw [hs1] at H1
 rw [hs2] at H2
 have hl : n ≤ 20 := by
  unfold shortCs at hs1
  simp only [Bool.and_eq_true, decide_eq_true_eq] at hs1
  rw [← hn]; exact hs1.1
 have hl2 : n2 ≤ 70 ∧ ∀ r ∈ rs, r.length ≤ 1000 := by
  unfold shortRs at hs2
  simp only [Bool.and_eq_true, decide_eq_true_eq] at hs2
  refine ⟨by rw [← hn2]; exact hs2.1, fun r hr => ?_⟩
  have := List.all_eq_true.1 hs2.2 r hr
  unfold shortR at this
  simp only [Bool.and_eq_true, decide_eq_true_eq] at this
  omega
 have H4 := Lib.hid (fun (W : World) (hx : Ext w W) => rightRows_any cs rs A A2 n n2 cap cap2 W hn hn2 (hc.ext hx) (hr.ext hx) hcap hcap2 hcap3 (by omega) (by omega) hl2.2 hi hv (hK.ext hx) (hEr.ext hx))
 by_cases hm : mkE cs rs = 0
 case neg =>
  rw [decide_eq_false hm] at H4
  clear hs1 hs2 hn hn2 hc hr hcap hcap2 hcap3 hi hv hE hK hEr hl hl2 hm
  have hS := Hp.init w
  have hR := Reads.nil w
  go_enter Tryz.func4, Tryz.ntmps4
  go_wp2_with (first | ((with_reducible first | refine nhLa ?_ | refine nhLd ?_ | refine nhCa ?_ | refine nhCd ?_ | refine nhPa ?_ | refine nhPd ?_ | refine nhKa ?_ | refine nhKd ?_); (try clear hF); clear hS; intro wk hS; refine hfI ?_; intro hF) | (go_at_call 5; (with_reducible refine (H1.out _ hS.ext).mono ?_); rintro e wk ⟨rfl, hX⟩; replace hS := hS.step hX; clear hX; ((try clear hF); refine hfI ?_; intro hF)) | (go_at_call 6; (with_reducible refine (H2.out _ hS.ext).mono ?_); rintro e wk ⟨rfl, hX⟩; replace hS := hS.step hX; clear hX; ((try clear hF); refine hfI ?_; intro hF)) | (go_at_call 7; (with_reducible refine (H3.out _ hS.ext).mono ?_); rintro e wk ⟨rfl, hX⟩; replace hS := hS.step hX; clear hX; ((try clear hF); refine hfI ?_; intro hF)) | (go_at_call 8; (with_reducible refine (H4.out _ hS.ext).mono ?_); rintro e wk ⟨rfl, hX⟩; replace hS := hS.step hX; clear hX; ((try clear hF); refine hfI ?_; intro hF)))
  go_ret
  exact ⟨rfl, hS.ext⟩
 case pos =>
 rw [decide_eq_true hm] at H4
 have H5 := Lib.hid (fun (W : World) (hx : Ext w W) => kept_law cs A n cap W hn (hc.ext hx) (by omega))
 by_cases hk : (cs.any fun c => Lib.containsS keptQ c.name) = true
 case pos =>
  rw [hk] at H5
  clear hs1 hs2 hn hn2 hc hr hcap hcap2 hcap3 hi hv hE hK hEr hl hl2 hm hk
  have hS := Hp.init w
  have hR := Reads.nil w
  go_enter Tryz.func4, Tryz.ntmps4
  go_wp2_with (first | ((with_reducible first | refine nhLa ?_ | refine nhLd ?_ | refine nhCa ?_ | refine nhCd ?_ | refine nhPa ?_ | refine nhPd ?_ | refine nhKa ?_ | refine nhKd ?_); (try clear hF); clear hS; intro wk hS; refine hfI ?_; intro hF) | (go_at_call 5; (with_reducible refine (H1.out _ hS.ext).mono ?_); rintro e wk ⟨rfl, hX⟩; replace hS := hS.step hX; clear hX; ((try clear hF); refine hfI ?_; intro hF)) | (go_at_call 6; (with_reducible refine (H2.out _ hS.ext).mono ?_); rintro e wk ⟨rfl, hX⟩; replace hS := hS.step hX; clear hX; ((try clear hF); refine hfI ?_; intro hF)) | (go_at_call 7; (with_reducible refine (H3.out _ hS.ext).mono ?_); rintro e wk ⟨rfl, hX⟩; replace hS := hS.step hX; clear hX; ((try clear hF); refine hfI ?_; intro hF)) | (go_at_call 8; (with_reducible refine (H4.out _ hS.ext).mono ?_); rintro e wk ⟨rfl, hX⟩; replace hS := hS.step hX; clear hX; ((try clear hF); refine hfI ?_; intro hF)) | (go_at_call 9; (with_reducible refine (H5.out _ hS.ext).mono ?_); rintro e wk ⟨rfl, hX⟩; replace hS := hS.step hX; clear hX; ((try clear hF); refine hfI ?_; intro hF)))
  go_ret
  exact ⟨rfl, hS.ext⟩
 case neg =>
 have hk' : (cs.any fun c => Lib.containsS keptQ c.name) = false := by simpa using hk
 rw [hk'] at H5
 have hf := fineQ hm hk'
 have HFQ := Lib.hid hf
 have HRC := Lib.hid hc
 have HRR := Lib.hid hr
 have Hn := Lib.hid hn
 have Hn2 := Lib.hid hn2
 have hn1 : 1 ≤ n := by rw [← hn]; exact hf.c1
 have hn8 : n ≤ 8 := by rw [← hn]; exact hf.c8
 have hm1 : 1 ≤ n2 := by rw [← hn2]; exact hf.r1
 have hm60 : n2 ≤ 60 := by rw [← hn2]; exact hf.r60
 have PK1 := Lib.hid (fun W : World => pick_any bi n W (by omega) (by omega))
 have PK2 := Lib.hid (fun W : World => pick_any li 9 W (by omega) (by omega))
 have HRU := Lib.hid (fun (W : World) (hx : Ext w W) (s : ByteArray) (q : QG) (hs : s.size ≤ 5000) (hq : parseQ s.data.toList = some q) (hp : (planE cs q).1 = 0) (ho : ∀ p ∈ q.ord, 0 ≤ p.1 ∧ p.1 < q.items.length) (hst : ∀ x ∈ q.items, x.col = starS → x.fn = countS) => runs_any cs A n cap rs A2 n2 cap2 s q W (fun W' hx' => hE W' (hx.trans hx')) hs hq hp hn (hc.ext hx) (by omega) hn2 (hr.ext hx) hm1 (by omega) (fun r hr => by rw [hf.rlen r hr, hn]) ho hst)
 clear hs1 hs2 hn hn2 hc hr hcap hcap2 hcap3 hi hv hE hK hEr hl hl2 hm hk hk' hf
 have hS := Hp.init w
 have hR := Reads.nil w
 go_enter Tryz.func4, Tryz.ntmps4
 go_wp2_with (first | ((with_reducible first | refine nhLa ?_ | refine nhLd ?_ | refine nhCa ?_ | refine nhCd ?_ | refine nhPa ?_ | refine nhPd ?_ | refine nhKa ?_ | refine nhKd ?_); (try clear hF); clear hS; intro wk hS; refine hfI ?_; intro hF) | (go_at_call 5; (with_reducible refine (H1.out _ hS.ext).mono ?_); rintro e wk ⟨rfl, hX⟩; replace hS := hS.step hX; clear hX; ((try clear hF); refine hfI ?_; intro hF)) | (go_at_call 6; (with_reducible refine (H2.out _ hS.ext).mono ?_); rintro e wk ⟨rfl, hX⟩; replace hS := hS.step hX; clear hX; ((try clear hF); refine hfI ?_; intro hF)) | (go_at_call 7; (with_reducible refine (H3.out _ hS.ext).mono ?_); rintro e wk ⟨rfl, hX⟩; replace hS := hS.step hX; clear hX; ((try clear hF); refine hfI ?_; intro hF)) | (go_at_call 8; (with_reducible refine (H4.out _ hS.ext).mono ?_); rintro e wk ⟨rfl, hX⟩; replace hS := hS.step hX; clear hX; ((try clear hF); refine hfI ?_; intro hF)) | (go_at_call 9; (with_reducible refine (H5.out _ hS.ext).mono ?_); rintro e wk ⟨rfl, hX⟩; replace hS := hS.step hX; clear hX; ((try clear hF); refine hfI ?_; intro hF)) | (go_at_call 10; (with_reducible refine (PK1.out _).mono ?_); rintro e wk ⟨⟨m, rfl, hk0, hk1⟩, hX⟩; (obtain ⟨k, rfl⟩ := Int.eq_ofNat_of_zero_le hk0); (have hkn : k < n := by omega); replace hS := hS.step hX; clear hX hk0 hk1; ((try clear hF); refine hfI ?_; intro hF)))
 clear H1 H2 H3 H4 H5 PK1
 go_loopw [10, 11] (fun sv i wr => ∃ (j : Nat) (s : ByteArray), i = .int .i64 j ∧ j ≤ n ∧ sv = .string s ∧ Hid (s.data.toList = txtQ (cs.take j)) ∧ s.size ≤ 10 + 18 * j ∧ Hp w.heap.size w wr []) (fun _ i _ => n - (intOf i).toNat)
 case atStart => exact ⟨0, _, rfl, Nat.zero_le _, rfl, Lib.hid rfl, by decide, hS⟩
 case round =>
  clear hS
  obtain ⟨j, s, rfl, hj, rfl, HTX, hsz, hS⟩ := hrel
  by_cases hlt : j < n
  ·obtain ⟨c, hc⟩ : ∃ c, cs[j]? = some c := ⟨cs[j]'(by rw [Hn.out]; exact hlt), List.getElem?_eq_getElem _⟩
   obtain ⟨b, o, rfl, _, c1, _, _, _, _, _⟩ := HRC.out j c hc
   have hcs := name_size (HFQ.out.name c (List.mem_of_getElem? hc))
   have HT2 := Lib.hid (show txtQ (cs.take (j + 1)) = if j = 0 then s.data.toList ++ c.name.data.toList else s.data.toList ++ [44, 32] ++ c.name.data.toList by
    rw [HTX.out, List.take_add_one, hc, Option.toList_some]
    by_cases hj0 : j = 0
    ·subst hj0
     rw [if_pos rfl, List.take_zero, List.nil_append, txtQ_one]
     rfl
    ·rw [if_neg hj0, txtQ_snoc _ _ (fun e => by have := congrArg List.length e; rw [List.length_take, Hn.out, List.length_nil] at this; omega)])
   obtain ⟨nm, hnm⟩ : ∃ nm, nm = c.name := ⟨_, rfl⟩
   rw [← hnm] at c1 hcs HT2
   have hR := Reads.cell c1 (Reads.nil w)
   clear hc c1 hnm HTX
   by_cases hj0 : j = 0
   ·subst hj0
    have HT3 := Lib.hid (show (s ++ nm).data.toList = txtQ (cs.take (0 + 1)) by rw [HT2.out, if_pos rfl, ByteArray.data_append, Array.toList_append])
    have hs2 : (s ++ nm).size ≤ 10 + 18 * (0 + 1) := by rw [ByteArray.size_append]; omega
    clear HT2
    ((try clear hF); refine hfI ?_; intro hF)
    go_wp2_with (first | ((with_reducible first | refine nhLa ?_ | refine nhLd ?_ | refine nhCa ?_ | refine nhCd ?_ | refine nhPa ?_ | refine nhPd ?_ | refine nhKa ?_ | refine nhKd ?_); (try clear hF); clear hS; intro wk hS; refine hfI ?_; intro hF) | fail)
    go_roundw
    case rel => exact ⟨0 + 1, s ++ nm, by go_num, by omega, rfl, HT3, hs2, hS⟩
    case measure => simp [intOf]; omega
   ·have hj1 : (0 : Int) < (j : Int) := by omega
    have HT3 := Lib.hid (show (s ++ ⟨#[44, 32]⟩ ++ nm).data.toList = txtQ (cs.take (j + 1)) by rw [HT2.out, if_neg hj0, ByteArray.data_append, Array.toList_append, ByteArray.data_append, Array.toList_append])
    have hsb : (⟨#[44, 32]⟩ : ByteArray).size = 2 := rfl
    have hs2 : (s ++ ⟨#[44, 32]⟩ ++ nm).size ≤ 10 + 18 * (j + 1) := by rw [ByteArray.size_append, ByteArray.size_append]; omega
    clear HT2
    ((try clear hF); refine hfI ?_; intro hF)
    go_wp2_with (first | ((with_reducible first | refine nhLa ?_ | refine nhLd ?_ | refine nhCa ?_ | refine nhCd ?_ | refine nhPa ?_ | refine nhPd ?_ | refine nhKa ?_ | refine nhKd ?_); (try clear hF); clear hS; intro wk hS; refine hfI ?_; intro hF) | fail)
    go_roundw
    case rel => exact ⟨j + 1, s ++ ⟨#[44, 32]⟩ ++ nm, by go_num, by omega, rfl, HT3, hs2, hS⟩
    case measure => simp [intOf]; omega
  ·obtain rfl : n = j := by omega
   have HSQ := Lib.hid (show s.data.toList = txtQ cs by rw [HTX.out, List.take_of_length_le (by rw [Hn.out]; exact Nat.le_refl _)])
   have hsl : s.size ≤ 200 := by omega
   clear HTX hsz hlt hj
   have hw0 : IntKind.i64.wrap (49 + (k : Int)) = ((49 + k : Nat) : Int) := by rw [IntWalk.i64_in _ (by omega)]; push_cast; rfl
   have hw1 : IntKind.u8.wrap ((49 + k : Nat) : Int) = ((49 + k : Nat) : Int) := by
    rw [IntKind.wrap_u8]; omega
   obtain ⟨at1, hat⟩ : ∃ a : ByteArray, a = ⟨#[UInt8.ofNat (49 + k)]⟩ := ⟨_, rfl⟩
   have HAT := Lib.hid hat
   have HCV : ∀ (W : World) (g : Nat), W.cell? ⟨g, 0, none⟩ = some (.int .u8 ((49 + k : Nat) : Int)) → (convert 41 9 (.slice (some ⟨g, 0, none⟩) 1 1)).run Tryz.prog W = .ok (.string at1) W := fun W g h => by rw [hat]; exact conv_q (by omega) h
   clear hat
   ((try clear hF); refine hfI ?_; intro hF)
   have hal : at1.size = 1 := by rw [HAT.out]; rfl
   have hol : (⟨#[32, 111, 114, 100, 101, 114, 32]⟩ : ByteArray).size = 7 := rfl
   have hdl : (⟨#[32, 100, 101, 115, 99]⟩ : ByteArray).size = 5 := rfl
   have hll : (⟨#[32, 108, 105, 109, 105, 116, 32]⟩ : ByteArray).size = 7 := rfl
   go_upto_region 17 with (first | ((with_reducible first | refine nhLa ?_ | refine nhLd ?_ | refine nhCa ?_ | refine nhCd ?_ | refine nhPa ?_ | refine nhPd ?_ | refine nhKa ?_ | refine nhKd ?_); (try clear hF); clear hS; intro wk hS; refine hfI ?_; intro hF) | (go_at_call 10; (with_reducible refine (PK2.out _).mono ?_); rintro e wk ⟨⟨m, rfl, hm0, hm9⟩, hX⟩; (obtain ⟨m, rfl⟩ := Int.eq_ofNat_of_zero_le hm0); (obtain ⟨L, hL⟩ : ∃ L, L = 1 + m := ⟨_, rfl⟩); (have hw2 : IntKind.i64.wrap (1 + (m : Int)) = (L : Int) := by rw [IntWalk.i64_in _ (by omega)]; omega); (have hL1 : 1 ≤ L := by omega); (have hL9 : L < 10 := by omega); replace hS := hS.step hX; clear hX hm0 hm9 hL; ((try clear hF); refine hfI ?_; intro hF)))
   clear PK2 hw0 hw1 hw2 HCV
   have HX := Lib.hid hS.ext
   clear hF hS hR
   have hS := Hp.init wk
   have hR := Reads.nil wk
   have hlen := Hn.out
   have HR1 := Lib.hid (fun (W : World) (hx : Ext w W) => show Calls Tryz.prog 11 #[.slice A n cap, .slice A2 n2 cap2, .string s] W fun e w' => ∃ A' c', e = .returned (.tuple #[.slice A' n2 c', .bool true]) ∧ n2 ≤ c' ∧ Ext W w' ∧ Hid (RR w' A' rs) from (HRU.out W hx s (ordQ cs [] 0) (by omega) (by rw [HSQ.out]; exact parse_plain HFQ.out) (by rw [plan_names HFQ.out]) (fun p hp => by simp [ordQ] at hp) (ord_star HFQ.out _ _)).mono fun e w' h => by
    rw [run_plain HFQ.out] at h
    exact h.at Hn2.out)
   have HR2 := Lib.hid (fun (W : World) (hx : Ext w W) => show Calls Tryz.prog 11 #[.slice A n cap, .slice A2 n2 cap2, .string (s ++ ⟨#[32, 111, 114, 100, 101, 114, 32]⟩ ++ at1)] W fun e w' => ∃ A' c', e = .returned (.tuple #[.slice A' n2 c', .bool true]) ∧ n2 ≤ c' ∧ Ext W w' ∧ Hid (RR w' A' (srtR (ordC [((k : Int), false)]) rs)) from (HRU.out W hx _ (ordQ cs [((k : Int), false)] 0) (by rw [ByteArray.size_append, ByteArray.size_append]; omega) (by
    rw [ByteArray.data_append, ByteArray.data_append, Array.toList_append, Array.toList_append, HSQ.out, HAT.out, List.append_assoc]
    exact parse_up HFQ.out (by omega)) (by rw [plan_names HFQ.out]) (ord_in (by omega) _ _) (ord_star HFQ.out _ _)).mono fun e w' h => by
    rw [run_names HFQ.out, limQ_zero] at h
    exact h.at (by rw [(srtR_perm _ _).length_eq, Hn2.out]))
   have HR3 := Lib.hid (fun (W : World) (hx : Ext w W) => show Calls Tryz.prog 11 #[.slice A n cap, .slice A2 n2 cap2, .string (s ++ ⟨#[32, 111, 114, 100, 101, 114, 32]⟩ ++ at1 ++ ⟨#[32, 100, 101, 115, 99]⟩)] W fun e w' => ∃ A' c', e = .returned (.tuple #[.slice A' n2 c', .bool true]) ∧ n2 ≤ c' ∧ Ext W w' ∧ Hid (RR w' A' (srtR (ordC [((k : Int), true)]) rs)) from (HRU.out W hx _ (ordQ cs [((k : Int), true)] 0) (by rw [ByteArray.size_append, ByteArray.size_append, ByteArray.size_append]; omega) (by
    rw [ByteArray.data_append, ByteArray.data_append, ByteArray.data_append, Array.toList_append, Array.toList_append, Array.toList_append, HSQ.out, HAT.out, List.append_assoc, List.append_assoc, ← List.append_assoc [32, 111, 114, 100, 101, 114, 32]]
    exact parse_down HFQ.out (by omega)) (by rw [plan_names HFQ.out]) (ord_in (by omega) _ _) (ord_star HFQ.out _ _)).mono fun e w' h => by
    rw [run_names HFQ.out, limQ_zero] at h
    exact h.at (by rw [(srtR_perm _ _).length_eq, Hn2.out]))
   have hw3 : IntKind.i64.wrap (48 + (L : Int)) = ((48 + L : Nat) : Int) := by rw [IntWalk.i64_in _ (by omega)]; push_cast; rfl
   have hw4 : IntKind.u8.wrap ((48 + L : Nat) : Int) = ((48 + L : Nat) : Int) := by rw [IntKind.wrap_u8]; omega
   obtain ⟨at2, hat⟩ : ∃ a : ByteArray, a = ⟨#[UInt8.ofNat (48 + L)]⟩ := ⟨_, rfl⟩
   have HAT2 := Lib.hid hat
   have hal2 : at2.size = 1 := by rw [HAT2.out]; rfl
   have HCV : ∀ (W : World) (g : Nat), W.cell? ⟨g, 0, none⟩ = some (.int .u8 ((48 + L : Nat) : Int)) → (convert 41 9 (.slice (some ⟨g, 0, none⟩) 1 1)).run Tryz.prog W = .ok (.string at2) W := fun W g h => by rw [hat]; exact conv_q (by omega) h
   clear hat
   have HR4 := Lib.hid (fun (W : World) (hx : Ext w W) => show Calls Tryz.prog 11 #[.slice A n cap, .slice A2 n2 cap2, .string (s ++ ⟨#[32, 111, 114, 100, 101, 114, 32]⟩ ++ at1 ++ ⟨#[32, 108, 105, 109, 105, 116, 32]⟩ ++ at2)] W fun e w' => ∃ A' c', e = .returned (.tuple #[.slice A' (min L n2) c', .bool true]) ∧ min L n2 ≤ c' ∧ Ext W w' ∧ Hid (RR w' A' ((srtR (ordC [((k : Int), false)]) rs).take (min L n2))) from (HRU.out W hx _ (ordQ cs [((k : Int), false)] L) (by rw [ByteArray.size_append, ByteArray.size_append, ByteArray.size_append, ByteArray.size_append]; omega) (by
    rw [ByteArray.data_append, ByteArray.data_append, ByteArray.data_append, ByteArray.data_append, Array.toList_append, Array.toList_append, Array.toList_append, Array.toList_append, HSQ.out, HAT.out, HAT2.out, List.append_assoc, List.append_assoc, List.append_assoc, ← List.append_assoc [32, 111, 114, 100, 101, 114, 32]]
    exact parse_few HFQ.out (by omega) hL1 hL9) (by rw [plan_names HFQ.out]) (ord_in (by omega) _ _) (ord_star HFQ.out _ _)).mono fun e w' h => by
    rw [run_names HFQ.out, limQ_take _ _ hL1, (srtR_perm _ _).length_eq, Hn2.out] at h
    exact h.at (by rw [List.length_take, (srtR_perm _ _).length_eq, Hn2.out]; omega))
   clear HRU
   obtain ⟨up, hup⟩ : ∃ u, u = srtR (ordC [((k : Int), false)]) rs := ⟨_, rfl⟩
   obtain ⟨dn, hdn⟩ : ∃ u, u = srtR (ordC [((k : Int), true)]) rs := ⟨_, rfl⟩
   rw [← hup] at HR2 HR4
   rw [← hdn] at HR3
   have HUP := Lib.hid hup
   have HDN := Lib.hid hdn
   clear hup hdn
   obtain ⟨mn, hmn⟩ : ∃ x, x = min L n2 := ⟨_, rfl⟩
   rw [← hmn] at HR4
   have HMN := Lib.hid hmn
   clear hmn
   go_upto_region 18 with (first | ((with_reducible first | refine nhLa ?_ | refine nhLd ?_ | refine nhCa ?_ | refine nhCd ?_ | refine nhPa ?_ | refine nhPd ?_ | refine nhKa ?_ | refine nhKd ?_); (try clear hF); clear hS; intro wk hS; refine hfI ?_; intro hF) | (go_at_call 11; (with_reducible refine Calls.mono (HR1.out _ HX.out) ?_); rintro e wk ⟨Ap, cp, rfl, hcp, hX, RR1⟩; have hX2 := hS.ext.trans hX; replace hS := hS.step hX; clear hX; have hRn := Reads.nil wk; replace HX := Lib.hid (HX.out.trans hX2); skip; clear hX2 hS hR; (try clear hF); have hS := Hp.init wk; have hR := hRn; clear hRn; ((try clear hF); refine hfI ?_; intro hF)))
   go_upto_region 19 with (first | ((with_reducible first | refine nhLa ?_ | refine nhLd ?_ | refine nhCa ?_ | refine nhCd ?_ | refine nhPa ?_ | refine nhPd ?_ | refine nhKa ?_ | refine nhKd ?_); (try clear hF); clear hS; intro wk hS; refine hfI ?_; intro hF) | (go_at_call 11; (with_reducible refine Calls.mono (HR2.out _ HX.out) ?_); rintro e wk ⟨Au, cu, rfl, hcu, hX, RR2⟩; have hX2 := hS.ext.trans hX; replace hS := hS.step hX; clear hX; have hRn := Reads.nil wk; replace HX := Lib.hid (HX.out.trans hX2); (try replace RR1 := Lib.hid (RR1.out.ext hX2)); clear hX2 hS hR; (try clear hF); have hS := Hp.init wk; have hR := hRn; clear hRn; ((try clear hF); refine hfI ?_; intro hF)))
   go_upto_region 20 with (first | ((with_reducible first | refine nhLa ?_ | refine nhLd ?_ | refine nhCa ?_ | refine nhCd ?_ | refine nhPa ?_ | refine nhPd ?_ | refine nhKa ?_ | refine nhKd ?_); (try clear hF); clear hS; intro wk hS; refine hfI ?_; intro hF) | (go_at_call 11; (with_reducible refine Calls.mono (HR3.out _ HX.out) ?_); rintro e wk ⟨Ad, cd, rfl, hcd, hX, RR3⟩; have hX2 := hS.ext.trans hX; replace hS := hS.step hX; clear hX; have hRn := Reads.nil wk; replace HX := Lib.hid (HX.out.trans hX2); (try replace RR1 := Lib.hid (RR1.out.ext hX2)); (try replace RR2 := Lib.hid (RR2.out.ext hX2)); clear hX2 hS hR; (try clear hF); have hS := Hp.init wk; have hR := hRn; clear hRn; ((try clear hF); refine hfI ?_; intro hF)))
   go_upto_region 21 with (first | ((with_reducible first | refine nhLa ?_ | refine nhLd ?_ | refine nhCa ?_ | refine nhCd ?_ | refine nhPa ?_ | refine nhPd ?_ | refine nhKa ?_ | refine nhKd ?_); (try clear hF); clear hS; intro wk hS; refine hfI ?_; intro hF) | (go_at_call 11; (with_reducible refine Calls.mono (HR4.out _ (HX.out.trans hS.ext)) ?_); rintro e wk ⟨Af, cf, rfl, hcf, hX, RR4⟩; have hX2 := hS.ext.trans hX; replace hS := hS.step hX; clear hX; have hRn := Reads.nil wk; replace HX := Lib.hid (HX.out.trans hX2); (try replace RR1 := Lib.hid (RR1.out.ext hX2)); (try replace RR2 := Lib.hid (RR2.out.ext hX2)); (try replace RR3 := Lib.hid (RR3.out.ext hX2)); clear hX2 hS hR; (try clear hF); have hS := Hp.init wk; have hR := hRn; clear hRn; ((try clear hF); refine hfI ?_; intro hF)))
   clear HR1 HR2 HR3 HR4 HAT HAT2 HCV HSQ hw3 hw4
   obtain ⟨wB, hwB⟩ : ∃ x, x = wk := ⟨_, rfl⟩
   subst hwB
   have hrn : ∀ r ∈ rs, r.length = n := fun r hr => by rw [HFQ.out.rlen r hr, hlen]
   have hun : ∀ r ∈ up, r.length = n := fun r hr => hrn r ((srtR_perm _ _).mem_iff.1 (by rw [← HUP.out]; exact hr))
   have hul : up.length = n2 := by rw [HUP.out, (srtR_perm _ _).length_eq, Hn2.out]
   have hdl : dn.length = n2 := by rw [HDN.out, (srtR_perm _ _).length_eq, Hn2.out]
   have hdn : ∀ r ∈ dn, r.length = n := fun r hr => hrn r ((srtR_perm _ _).mem_iff.1 (by rw [← HDN.out]; exact hr))
   have hmn : mn ≤ n2 := by rw [HMN.out]; omega
   have hmc : (mn : Int) ≤ (cu : Int) := by omega
   have HS1 := Lib.hid (fun (W : World) (hw : Ext w W) (hx : Ext wB W) => show Calls Tryz.prog 14 #[.slice Ap n2 cp, .slice A2 n2 cap2] W fun e w' => e = .returned (.bool true) ∧ Ext W w' from by
    have := ksame_any rs Ap A2 cp cap2 W (RR1.out.ext hx) (HRR.out.ext hw) (by rw [Hn2.out]; omega) (fun r hr => by rw [hrn r hr]; omega)
    rwa [Hn2.out] at this)
   have HS2 := Lib.hid (fun (W : World) (c2 : Nat) (hx : Ext wB W) => show Calls Tryz.prog 14 #[.slice Af mn cf, .slice Au mn c2] W fun e w' => e = .returned (.bool true) ∧ Ext W w' from by
    have h1 : (up.take mn).length = mn := by rw [List.length_take, hul]; omega
    have := ksame_any (up.take mn) Af Au cf c2 W (RR4.out.ext hx) ((RR2.out.ext hx).take mn) (by rw [h1]; omega) (fun r hr => by rw [hun r (List.mem_of_mem_take hr)]; omega)
    rwa [h1] at this)
   have hmin : ∀ W : World, (Builtin.min_ #[3, 3] 3 #[.int .i64 L, .int .i64 n2]).run Tryz.prog W = .ok (.int .i64 mn) W := fun W => by
    rw [run_min_int2, HMN.out]
    congr 2
    split <;> omega
   go_upto_region 23 with (first | ((with_reducible first | refine nhLa ?_ | refine nhLd ?_ | refine nhCa ?_ | refine nhCd ?_ | refine nhPa ?_ | refine nhPd ?_ | refine nhKa ?_ | refine nhKd ?_); (try clear hF); clear hS; intro wk hS; refine hfI ?_; intro hF) | (go_at_call 14; (with_reducible refine (HS1.out _ (HX.out.trans hS.ext) hS.ext).mono ?_); rintro e wk ⟨rfl, hX⟩; replace hS := hS.step hX; clear hX; ((try clear hF); refine hfI ?_; intro hF)) | (go_at_call 14; (with_reducible refine (HS2.out _ _ hS.ext).mono ?_); rintro e wk ⟨rfl, hX⟩; replace hS := hS.step hX; clear hX; ((try clear hF); refine hfI ?_; intro hF)))
   clear HS1 HS2 hmin RR1 RR4
   have hkn2 : k < n := hkn
   have hw5 : IntKind.i64.wrap ((1 : Int) - 1) = 0 := by decide
   go_wp2_with (first | ((with_reducible first | refine nhLa ?_ | refine nhLd ?_ | refine nhCa ?_ | refine nhCd ?_ | refine nhPa ?_ | refine nhPd ?_ | refine nhKa ?_ | refine nhKd ?_); (try clear hF); clear hS; intro wk hS; refine hfI ?_; intro hF) | fail)
   go_loopw [21] (fun i wr => ∃ t : Nat, i = .int .i64 t ∧ 1 ≤ t ∧ t ≤ n2 ∧ Hp wB.heap.size wB wr []) (fun i _ => n2 - (intOf i).toNat)
   case atStart => exact ⟨1, rfl, Nat.le_refl _, by omega, hS⟩
   case round =>
    clear hS
    obtain ⟨i, rfl, hi1, ht, hS⟩ := hrel
    by_cases hlt2 : i < n2
    ·as_aux_lemma =>
     obtain ⟨t, hti⟩ : ∃ t, t + 1 = i := ⟨i - 1, by omega⟩
     obtain ⟨a, ha⟩ : ∃ x, up[t]? = some x := ⟨up[t]'(by omega), List.getElem?_eq_getElem _⟩
     obtain ⟨b, hb⟩ : ∃ x, up[i]? = some x := ⟨up[i]'(by omega), List.getElem?_eq_getElem _⟩
     obtain ⟨p, hp⟩ : ∃ x, dn[t]? = some x := ⟨dn[t]'(by omega), List.getElem?_eq_getElem _⟩
     obtain ⟨q, hq⟩ : ∃ x, dn[i]? = some x := ⟨dn[i]'(by omega), List.getElem?_eq_getElem _⟩
     have la := hun a (List.mem_of_getElem? ha)
     have lb := hun b (List.mem_of_getElem? hb)
     have lp := hdn p (List.mem_of_getElem? hp)
     have lq := hdn q (List.mem_of_getElem? hq)
     obtain ⟨va, hva⟩ : ∃ x, a[k]? = some x := ⟨a[k]'(by omega), List.getElem?_eq_getElem _⟩
     obtain ⟨vb, hvb⟩ : ∃ x, b[k]? = some x := ⟨b[k]'(by omega), List.getElem?_eq_getElem _⟩
     obtain ⟨vp, hvp⟩ : ∃ x, p[k]? = some x := ⟨p[k]'(by omega), List.getElem?_eq_getElem _⟩
     obtain ⟨vq, hvq⟩ : ∃ x, q[k]? = some x := ⟨q[k]'(by omega), List.getElem?_eq_getElem _⟩
     have o1 := ord_up k false rs (i := t) (by rw [Hn2.out, hti]; exact hlt2) (by rw [← HUP.out]; exact ha) (by rw [← HUP.out, hti]; exact hb)
     have o2 := ord_up k true rs (i := t) (by rw [Hn2.out, hti]; exact hlt2) (by rw [← HDN.out]; exact hp) (by rw [← HDN.out, hti]; exact hq)
     have ea : ∀ {l : List GV} {v : GV}, l[k]? = some v → atR l (k : Int) = v := fun h => by unfold atR; simp [h]
     rw [ea hva, ea hvb, if_neg (by simp)] at o1
     rw [ea hvp, ea hvq, if_pos rfl] at o2
     obtain ⟨bu, ou, A3, c3, hA, h0, h1⟩ := RR2.out t a ha
     obtain ⟨bu', ou', A4, c4, hA', h0', h1'⟩ := RR2.out i b hb
     obtain ⟨rfl, rfl⟩ : bu = bu' ∧ ou = ou' := by rw [hA] at hA'; simpa using hA'
     obtain ⟨bd, od, A5, c5, hD, d0, d1⟩ := RR3.out t p hp
     obtain ⟨bd', od', A6, c6, hD', d0', d1'⟩ := RR3.out i q hq
     obtain ⟨rfl, rfl⟩ : bd = bd' ∧ od = od' := by rw [hD] at hD'; simpa using hD'
     obtain ⟨b1, o1', hA3, x0, x1, x2⟩ := h1 k va hva
     obtain ⟨b2, o2', hA4, y0, y1, y2⟩ := h1' k vb hvb
     obtain ⟨b3, o3', hA5, z0, z1, z2⟩ := d1 k vp hvp
     obtain ⟨b4, o4', hA6, u0, u1, u2⟩ := d1' k vq hvq
     rw [la] at h0
     rw [lb] at h0'
     rw [lp] at d0
     rw [lq] at d0'
     have hR := Reads.cell h0 (Reads.cell h0' (Reads.cell d0 (Reads.cell d0' (Reads.cell x0 (Reads.cell x1 (Reads.cell x2 (Reads.cell y0 (Reads.cell y1 (Reads.cell y2 (Reads.cell z0 (Reads.cell z1 (Reads.cell z2 (Reads.cell u0 (Reads.cell u1 (Reads.cell u2 (Reads.nil wB))))))))))))))))
     obtain ⟨e1, he1⟩ : ∃ x, x = cmpG va vb := ⟨_, rfl⟩
     obtain ⟨e2, he2⟩ : ∃ x, x = cmpG vp vq := ⟨_, rfl⟩
     have HC1 := Lib.hid (fun (W : World) => show Calls Tryz.prog 12 #[.agg #[.int .i64 va.kind, .int .i64 va.num, .string va.text], .agg #[.int .i64 vb.kind, .int .i64 vb.num, .string vb.text]] W fun e w' => e = .returned (.int .i64 e1) ∧ Ext W w' from by rw [he1]; exact compare_any va.kind va.num va.text vb.kind vb.num vb.text W)
     have HC2 := Lib.hid (fun (W : World) => show Calls Tryz.prog 12 #[.agg #[.int .i64 vp.kind, .int .i64 vp.num, .string vp.text], .agg #[.int .i64 vq.kind, .int .i64 vq.num, .string vq.text]] W fun e w' => e = .returned (.int .i64 e2) ∧ Ext W w' from by rw [he2]; exact compare_any vp.kind vp.num vp.text vq.kind vq.num vq.text W)
     have q1 : ¬ 0 < e1 := by rw [he1]; omega
     have q2 : ¬ e2 < 0 := by rw [he2]; omega
     have hw6 : IntKind.i64.wrap ((i : Int) - 1) = (t : Int) := by rw [IntWalk.i64_in _ (by omega)]; omega
     have htn : t < n2 := by omega
     clear hti
     subst hA hD hA3 hA4 hA5 hA6
     clear ha hb hp hq la lb lp lq hva hvb hvp hvq o1 o2 ea hA' h0 h0' h1 h1' hD' d0 d0' d1 d1' x0 x1 x2 y0 y1 y2 z0 z1 z2 u0 u1 u2 he1 he2 hun hdn hrn
     ((try clear hF); refine hfI ?_; intro hF)
     go_upto_region 26 with (first | ((with_reducible first | refine nhLa ?_ | refine nhLd ?_ | refine nhCa ?_ | refine nhCd ?_ | refine nhPa ?_ | refine nhPd ?_ | refine nhKa ?_ | refine nhKd ?_); (try clear hF); clear hS; intro wk hS; refine hfI ?_; intro hF) | fail)
     ((with_reducible refine wp_region_hp (draw := true) (by kernel_rfl) (by kernel_rfl) hS ?_); (repeat ((with_reducible refine Fixed.here ?_); (first | ((with_reducible apply Fixed.skip); (first | rfl | exact wanted_false rfl rfl rfl (by assumption)); try simp only [Act.put, List.setIfInBounds_toArray, List.set_cons_zero, List.set_cons_succ]) | ((with_reducible apply Fixed.val); (first | rfl | exact wanted_true rfl rfl rfl (by assumption)); (rintro w hS; ((try clear hF); refine hfI ?_; intro hF); go_simp; with_reducible rfl); try simp only [Act.put, List.setIfInBounds_toArray, List.set_cons_zero, List.set_cons_succ]) | ((with_reducible apply Fixed.call); (first | rfl | exact wanted_true rfl rfl rfl (by assumption)); (rintro w hS; ((try clear hF); refine hfI ?_; intro hF); go_simp; exact ⟨rfl, rfl⟩); (rintro w hS; first | (with_reducible exact HC1.out _) | (with_reducible exact HC2.out _)); try simp only [Act.put, List.setIfInBounds_toArray, List.set_cons_zero, List.set_cons_succ])))); (with_reducible refine Fixed.done ?_); (try clear hF); clear hS; intro wk hS; ((try clear hF); refine hfI ?_; intro hF))
     go_wp2_with (first | ((with_reducible first | refine nhLa ?_ | refine nhLd ?_ | refine nhCa ?_ | refine nhCd ?_ | refine nhPa ?_ | refine nhPd ?_ | refine nhKa ?_ | refine nhKd ?_); (try clear hF); clear hS; intro wk hS; refine hfI ?_; intro hF) | fail)
     go_roundw
     case rel => exact ⟨i + 1, by go_num, by omega, by omega, hS⟩
     case measure => simp [intOf]; omega
    ·obtain rfl : i = n2 := by omega
     have hlr := Hn2.out
     obtain ⟨sg, hsg⟩ : ∃ x, x = sortG rs := ⟨_, rfl⟩
     have hsgp : sg.Perm rs := by rw [hsg]; exact List.mergeSort_perm _ _
     have hsgl : sg.length = i := by rw [hsgp.length_eq, hlr]
     have hsgr : ∀ r ∈ sg, r.length ≤ 1000 := fun r hr => by rw [hrn r (hsgp.mem_iff.1 hr)]; omega
     have hsu : sortG up = sg := by rw [hsg, HUP.out]; exact sortG_perm (srtR_perm _ _)
     have hsd : sortG dn = sg := by rw [hsg, HDN.out]; exact sortG_perm (srtR_perm _ _)
     have HSU := Lib.hid (fun (W : World) (h : RR W Au up) => show Calls Tryz.prog 15 #[.slice Au i cu] W fun e w' => ∃ A' c', e = .returned (.slice A' i c') ∧ Ext W w' ∧ Hid (RR w' A' sg) from (ksorted_any up Au i cu W hul h (by omega) (by omega) (fun r hr => by rw [hun r hr]; omega)).mono fun e w' ⟨A', c', e1, e2, e3⟩ => ⟨A', c', e1, e2, Lib.hid (by rw [← hsu]; exact e3)⟩)
     have HSD := Lib.hid (fun (W : World) (h : RR W Ad dn) => show Calls Tryz.prog 15 #[.slice Ad i cd] W fun e w' => ∃ A' c', e = .returned (.slice A' i c') ∧ Ext W w' ∧ Hid (RR w' A' sg) from (ksorted_any dn Ad i cd W hdl h (by omega) (by omega) (fun r hr => by rw [hdn r hr]; omega)).mono fun e w' ⟨A', c', e1, e2, e3⟩ => ⟨A', c', e1, e2, Lib.hid (by rw [← hsd]; exact e3)⟩)
     have HSS := Lib.hid (fun (W : World) (hx : Ext w W) => show Calls Tryz.prog 15 #[.slice A2 i cap2] W fun e w' => ∃ A' c', e = .returned (.slice A' i c') ∧ Ext W w' ∧ Hid (RR w' A' sg) from (ksorted_any rs A2 i cap2 W hlr (HRR.out.ext hx) (by omega) (by omega) (fun r hr => by rw [hrn r hr]; omega)).mono fun e w' ⟨A', c', e1, e2, e3⟩ => ⟨A', c', e1, e2, Lib.hid (by rw [hsg]; exact e3)⟩)
     have HSQ := Lib.hid (fun (W : World) (B1 B2 : Option Addr) (c1 c2 : Nat) (h1 : RR W B1 sg) (h2 : RR W B2 sg) => show Calls Tryz.prog 14 #[.slice B1 i c1, .slice B2 i c2] W fun e w' => e = .returned (.bool true) ∧ Ext W w' from by
      have := ksame_any sg B1 B2 c1 c2 W h1 h2 (by rw [hsgl]; omega) (fun r hr => Nat.le_trans (hsgr r hr) (by decide))
      rwa [hsgl] at this)
     clear hlr hsg hsgp hsgl hsgr hsu hsd hun hdn hrn hul hdl HUP HDN HFQ Hn Hn2
     ((try clear hF); refine hfI ?_; intro hF)
     go_wp2_with (first | ((with_reducible first | refine nhLa ?_ | refine nhLd ?_ | refine nhCa ?_ | refine nhCd ?_ | refine nhPa ?_ | refine nhPd ?_ | refine nhKa ?_ | refine nhKd ?_); (try clear hF); clear hS; intro wk hS; refine hfI ?_; intro hF) | (go_at_call 15; (with_reducible refine Calls.mono (HSU.out _ (RR2.out.ext hS.ext)) ?_); rintro e wk ⟨A7, c7, rfl, hX, RR7⟩; have hX2 := hS.ext.trans hX; replace hS := hS.step hX; clear hX; have hRn := Reads.nil wk; replace HX := Lib.hid (HX.out.trans hX2); (try replace RR3 := Lib.hid (RR3.out.ext hX2)); clear hX2 hS hR; (try clear hF); have hS := Hp.init wk; have hR := hRn; clear hRn; ((try clear hF); refine hfI ?_; intro hF)) | (go_at_call 15; (with_reducible refine Calls.mono (HSS.out _ (HX.out.trans hS.ext)) ?_); rintro e wk ⟨A8, c8, rfl, hX, RR8⟩; have hX2 := hS.ext.trans hX; replace hS := hS.step hX; clear hX; have hRn := Reads.nil wk; replace HX := Lib.hid (HX.out.trans hX2); (try replace RR3 := Lib.hid (RR3.out.ext hX2)); (try replace RR7 := Lib.hid (RR7.out.ext hX2)); (try replace RR9 := Lib.hid (RR9.out.ext hX2)); clear hX2 hS hR; (try clear hF); have hS := Hp.init wk; have hR := hRn; clear hRn; ((try clear hF); refine hfI ?_; intro hF)) | (go_at_call 15; (with_reducible refine Calls.mono (HSD.out _ (RR3.out.ext hS.ext)) ?_); rintro e wk ⟨A9, c9, rfl, hX, RR9⟩; have hX2 := hS.ext.trans hX; replace hS := hS.step hX; clear hX; have hRn := Reads.nil wk; replace HX := Lib.hid (HX.out.trans hX2); skip; clear hX2 hS hR; (try clear hF); have hS := Hp.init wk; have hR := hRn; clear hRn; ((try clear hF); refine hfI ?_; intro hF)) | (go_at_call 14; (with_reducible refine (HSQ.out _ _ _ _ _ (RR7.out.ext hS.ext) (RR8.out.ext hS.ext)).mono ?_); rintro e wk ⟨rfl, hX⟩; replace hS := hS.step hX; clear hX; ((try clear hF); refine hfI ?_; intro hF)) | (go_at_call 14; (with_reducible refine (HSQ.out _ _ _ _ _ (RR9.out.ext hS.ext) (RR8.out.ext hS.ext)).mono ?_); rintro e wk ⟨rfl, hX⟩; replace hS := hS.step hX; clear hX; ((try clear hF); refine hfI ?_; intro hF)))
     go_ret
     exact ⟨rfl, HX.out.trans hS.ext⟩
end Go.Proofs.YtlaldfkeaalnhaaGreatDoor
