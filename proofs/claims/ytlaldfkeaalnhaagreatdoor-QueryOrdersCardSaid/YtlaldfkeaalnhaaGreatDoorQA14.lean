/- encode.Encode -/
import Derived.Test.YtlaldfkeaalnhaaGreatDoorQA09
import Derived.Test.YtlaldfkeaalnhaaGreatDoorQA01
import Derived.Deep.DeepCutAuto
namespace Go.Proofs.YtlaldfkeaalnhaaGreatDoor
set_option linter.all false
set_option linter.unusedSimpArgs false
set_option linter.unusedVariables false
open Go.RowKit
open Go.Lib (uvarint zigzag)
/-- a value that may not be in a column of a kind -/
def badIn (kind : Int) (x : GV) : Bool := !rightB x.kind x.num x.text || (x.kind != 0 && x.kind != kind)
set_option maxRecDepth 100000 in
set_option maxHeartbeats 8000000 in
theorem enc1_any (x : GV) (bk : Nat) (kind : Int) (w : World) (h : w.cell? ⟨bk, 0, none⟩ = some (.int .i64 kind)) :
    Calls Tryz.prog 89 #[.agg #[.int .i64 x.kind, .int .i64 x.num, .string x.text], .pointer (some ⟨bk, 0, none⟩)] w fun e w' => e = .returned (.bool (badIn kind x)) ∧ Ext w w' := by
  have hS := Hp.init w
  have hR := Reads.cell h (Reads.nil w)
  clear h
  cases hb : rightB x.kind x.num x.text with
  | false =>
    have e : badIn kind x = true := by unfold badIn; rw [hb]; rfl
    rw [e]
    have HB := Lib.hid (fun W => right_any x.kind x.num x.text W)
    rw [hb] at HB
    clear e hb
    ((try clear hF); refine hfI ?_; intro hF)
    go_enter Tryz.func89, Tryz.ntmps89
    go_wp2_with (first | (refine hab ?_; (try clear hF); clear hS; intro wk hS; (try simp only [List.set_cons_zero, List.set_cons_succ, heap_size, heap_set_size] at hS); ((try clear hF); refine hfI ?_; intro hF)) | (go_at_call 85; (with_reducible refine (HB.out _).mono ?_); rintro e wk ⟨rfl, hX⟩; replace hS := hS.step hX; clear hX; ((try clear hF); refine hfI ?_; intro hF)))
    go_ret
    exact ⟨rfl, hS.ext⟩
  | true =>
    have e : badIn kind x = (x.kind != 0 && x.kind != kind) := by unfold badIn; rw [hb]; rfl
    rw [e]
    have HB := Lib.hid (fun W => right_any x.kind x.num x.text W)
    rw [hb] at HB
    clear e hb
    ((try clear hF); refine hfI ?_; intro hF)
    go_enter Tryz.func89, Tryz.ntmps89
    go_wp2_with (first | (refine hab ?_; (try clear hF); clear hS; intro wk hS; (try simp only [List.set_cons_zero, List.set_cons_succ, heap_size, heap_set_size] at hS); ((try clear hF); refine hfI ?_; intro hF)) | (go_at_call 85; (with_reducible refine (HB.out _).mono ?_); rintro e wk ⟨rfl, hX⟩; replace hS := hS.step hX; clear hX; ((try clear hF); refine hfI ?_; intro hF)))
    all_goals
      go_ret
      refine ⟨?_, hS.ext⟩
      first
        | rfl
        | (have h0 : x.kind = 0 := by assumption
           rw [h0]; rfl)
theorem enc1_pred (bk : Nat) (kind : Int) (w : World) (h : w.cell? ⟨bk, 0, none⟩ = some (.int .i64 kind)) : PredOk w 89 #[.pointer (some ⟨bk, 0, none⟩)] (badIn kind) := fun W hx x => enc1_any x bk kind W (hx.keeps h)
theorem eg_enc1 : ∀ args w, (callFunc 89 args).run Tryz.prog w = .ok (.enter 89 args) w := fun _ _ => by kernel_rfl
def encErr (kind : Int) (l : List GV) : Int := if kind ≠ 1 ∧ kind ≠ 2 ∨ l.any (badIn kind) = true then 1 else if 60 < l.length then 4 else 0
/-- a bit more -/
def setB (bs : List UInt8) (k : Nat) : List UInt8 := bs.set (k / 8) (UInt8.ofNat ((bs.getD (k / 8) 0).toNat ||| 2 ^ (k % 8)))
def bitsF : Nat → List GV → List UInt8 → List UInt8
  | _, [], bs => bs
  | k, x :: l, bs => bitsF (k + 1) l (if x.kind = 0 then setB bs k else bs)
def bitsS (l : List GV) : List UInt8 := bitsF 0 l (List.replicate ((l.length + 7) / 8) 0)
def someS (l : List GV) : List GV := l.filter fun x => !decide (x.kind = 0)
def bestK (kind : Int) (l : List GV) : Nat → Int × List UInt8
  | 0 => (-1, [])
  | k + 1 => if k = 3 ∧ kind = 2 then bestK kind l k else if (bestK kind l k).1 < 0 ∨ (writeS k l).length < (bestK kind l k).2.length then (k, writeS k l) else bestK kind l k
def encOut (kind : Int) (l : List GV) : List UInt8 := uvarint l.length ++ bitsS l ++ [UInt8.ofNat (bestK kind (someS l) 4).1.toNat] ++ (bestK kind (someS l) 4).2
def encRes (kind : Int) (l : List GV) : Value := if encErr kind l = 0 then .tuple #[.string ⟨(encOut kind l).toArray⟩, .nilIface] else .tuple #[.string ⟨#[]⟩, errV (encErr kind l)]
set_option maxRecDepth 100000 in
set_option maxHeartbeats 8000000 in
theorem encode_bad1 (kind : Int) (hk : kind ≠ 1 ∧ kind ≠ 2) (l : List GV) (A : Option Addr) (cap : Nat) (w : World) :
    Calls Tryz.prog 60 #[.int .i64 kind, .slice A l.length cap] w fun e w' => e = .returned (.tuple #[.string ⟨#[]⟩, errV 1]) ∧ Ext w w' := by
  have h1 : (kind != 1) = true := by simp [hk.1]
  have h2 : (kind != 2) = true := by simp [hk.2]
  clear hk
  have hS := Hp.init w
  have hR := Reads.nil w
  go_enter Tryz.func60, Tryz.ntmps60
  go_wp2_with (first | (refine hab ?_; (try clear hF); clear hS; intro wk hS; (try simp only [List.set_cons_zero, List.set_cons_succ, heap_size, heap_set_size] at hS); ((try clear hF); refine hfI ?_; intro hF)) | fail)
  go_ret2
  exact ⟨rfl, hS.ext⟩
set_option maxRecDepth 100000 in
set_option maxHeartbeats 8000000 in
theorem encode_bad2 (kind : Int) (hk : kind = 1 ∨ kind = 2) (l : List GV) (A : Option Addr) (cap : Nat) (w : World) (hr : RV w A l) (hl : l.length ≤ 140737488355328) (hb : l.any (badIn kind) = true ∨ 60 < l.length) :
    Calls Tryz.prog 60 #[.int .i64 kind, .slice A l.length cap] w fun e w' => e = .returned (.tuple #[.string ⟨#[]⟩, errV (if l.any (badIn kind) = true then 1 else 4)]) ∧ Ext w w' := by
  have HC := Lib.hid (fun (W : World) bk hx h => containsFunc_any l A cap 89 #[.pointer (some ⟨bk, 0, none⟩)] (badIn kind) W (hr.ext (w' := W) hx) hl eg_enc1 (enc1_pred bk kind W h))
  obtain ⟨n, hn⟩ : ∃ n, n = l.length := ⟨_, rfl⟩
  rw [← hn] at hl hb HC
  rw [← hn]
  have Hn := Lib.hid hn
  cases hany : l.any (badIn kind) with
  | true =>
    rw [hany] at HC
    clear hb hany hn hr
    have hS := Hp.init w
    have hR := Reads.nil w
    rcases hk with rfl | rfl
    all_goals
      go_enter Tryz.func60, Tryz.ntmps60
      go_wp2_with (first | (refine hab ?_; (try clear hF); clear hS; intro wk hS; (try simp only [List.set_cons_zero, List.set_cons_succ, heap_size, heap_set_size] at hS); ((try clear hF); refine hfI ?_; intro hF)) | (go_at_call 88; (with_reducible refine (HC.out _ _ hS.ext hF.1).mono ?_); rintro e wk ⟨rfl, hX⟩; replace hS := hS.step hX; clear hX; ((try clear hF); refine hfI ?_; intro hF)))
      go_ret2
      exact ⟨rfl, hS.ext⟩
  | false =>
    rw [hany] at HC
    have hb2 : 60 < n := by rcases hb with h | h; · rw [hany] at h; cases h
                            · exact h
    clear hb hany hn hr
    have hS := Hp.init w
    have hR := Reads.nil w
    rcases hk with rfl | rfl
    all_goals
      go_enter Tryz.func60, Tryz.ntmps60
      go_wp2_with (first | (refine hab ?_; (try clear hF); clear hS; intro wk hS; (try simp only [List.set_cons_zero, List.set_cons_succ, heap_size, heap_set_size] at hS); ((try clear hF); refine hfI ?_; intro hF)) | (go_at_call 88; (with_reducible refine (HC.out _ _ hS.ext hF.1).mono ?_); rintro e wk ⟨rfl, hX⟩; replace hS := hS.step hX; clear hX; ((try clear hF); refine hfI ?_; intro hF)))
      go_ret2
      exact ⟨rfl, hS.ext⟩
theorem good_of {kind : Int} {l : List GV} (hi : ∀ x ∈ l, i64 x.num) (h : l.any (badIn kind) = false) : GoodL l := fun x hx => by
  refine ⟨hi x hx, ?_⟩
  have hb := List.any_eq_false.1 h x hx
  unfold badIn at hb
  simp only [Bool.or_eq_true, not_or, Bool.not_eq_true, Bool.not_eq_false'] at hb
  have hr := hb.1
  unfold rightB at hr
  split at hr
  · simp at hr; rw [hr.2]; decide
  · split at hr
    · simp at hr; rw [hr]; decide
    · split at hr
      · simp at hr; omega
      · cases hr
theorem shl8 (c : Nat) (h : c < 8) : IntKind.u8.wrap (2 ^ (((c : Nat) : Int)).toNat) = ((2 ^ c : Nat) : Int) := by
  rcases (by omega : c = 0 ∨ c = 1 ∨ c = 2 ∨ c = 3 ∨ c = 4 ∨ c = 5 ∨ c = 6 ∨ c = 7) with rfl | rfl | rfl | rfl | rfl | rfl | rfl | rfl <;> decide
theorem or8 (b : UInt8) (p : Nat) (h : p < 256) : bits .or .u8 (b.toNat : Int) (p : Int) = ((b.toNat ||| p : Nat) : Int) :=
  (bits_nat .u8 8 (by decide) (fun n h₀ h₁ => by rw [IntKind.wrap_u8]; omega) b.toNat p (by have := b.toNat_lt; omega) h).2
theorem bestK_yes {kind : Int} {so : List GV} {q : Nat} {wy : Int} {bl : List UInt8} (h : bestK kind so q = (wy, bl)) (h3 : ¬(q = 3 ∧ kind = 2)) (hc : wy < 0 ∨ (writeS q so).length < bl.length) : bestK kind so (q + 1) = ((q : Int), writeS q so) := by
  rw [bestK, h, if_neg h3, if_pos hc]
theorem bestK_no {kind : Int} {so : List GV} {q : Nat} {wy : Int} {bl : List UInt8} (h : bestK kind so q = (wy, bl)) (hc : ¬(wy < 0 ∨ (writeS q so).length < bl.length)) : bestK kind so (q + 1) = (wy, bl) := by
  rw [bestK, h, if_neg hc, ite_self]
theorem bestK_skip {kind : Int} {so : List GV} {q : Nat} {wy : Int} {bl : List UInt8} (h : bestK kind so q = (wy, bl)) (h3 : q = 3 ∧ kind = 2) : bestK kind so (q + 1) = (wy, bl) := by
  rw [bestK, h, if_pos h3]
set_option maxRecDepth 100000 in
set_option maxHeartbeats 8000000 in
theorem encode_ok1 (l : List GV) (A : Option Addr) (cap : Nat) (w : World) (hr : RV w A l) (hl : l.length ≤ 60) (hi : ∀ x ∈ l, i64 x.num) (hb : l.any (badIn 1) = false) :
    Calls Tryz.prog 60 #[.int .i64 1, .slice A l.length cap] w fun e w' => e = .returned (.tuple #[.string ⟨(encOut 1 l).toArray⟩, .nilIface]) ∧ Ext w w' := by
  have HC := Lib.hid (fun (W : World) bk hx h => containsFunc_any l A cap 89 #[.pointer (some ⟨bk, 0, none⟩)] (badIn 1) W (hr.ext (w' := W) hx) (by omega) eg_enc1 (enc1_pred bk 1 W h))
  have HG := Lib.hid (good_of hi hb)
  rw [hb] at HC
  clear hb hi
  obtain ⟨n, hn⟩ : ∃ n, n = l.length := ⟨_, rfl⟩
  rw [← hn] at hl HC
  rw [← hn]
  have Hn := Lib.hid hn
  clear hn
  have hS := (Hp.init w).nilRow 5 1
  have hR := Reads.nil w
  · go_enter Tryz.func60, Tryz.ntmps60
    go_wp2_with (first | (refine hab ?_; (try clear hF); clear hS; intro wk hS; (try simp only [List.set_cons_zero, List.set_cons_succ, heap_size, heap_set_size] at hS); ((try clear hF); refine hfI ?_; intro hF)) | (go_at_call 88; (with_reducible refine (HC.out _ _ hS.ext hF.1).mono ?_); rintro e wk ⟨rfl, hX⟩; replace hS := hS.step hX; clear hX; ((try clear hF); refine hfI ?_; intro hF)) | (go_at_call 90; (with_reducible refine Calls.mono (number_any none 0 [] n (by omega) (by simp) (hS.front 1 rfl)) ?_); clear hS; rintro e wk ⟨A0, cap0, p0, rfl, Hl0, hS⟩; (try simp only [List.eraseIdx_cons_zero, List.eraseIdx_cons_succ, List.set_cons_zero, List.set_cons_succ] at hS); ((try clear hF); refine hfI ?_; intro hF)) | (at_make; refine wpList_make_hp Tryz.elem_bytes Tryz.zero_byte rfl rfl (.tmp 38) (.tmp 38) rfl hS .i64 .i64 _ _ rfl rfl (m := (n + 7) / 8) (by omega) (by omega) (by omega) (by omega) ?_; clear hS; intro gb wk hS; ((try clear hF); refine hfI ?_; intro hF)))
    go_loopw [42, 8] (fun i s wr => ∃ (k : Nat) (A : Option Addr) (cap : Nat) (so : List GV) (bs : List UInt8), i = .int .i64 k ∧ k ≤ n ∧ s = .slice A so.length cap ∧ Hid (so = someS (l.take k)) ∧ so.length ≤ k ∧ Hid (bitsS l = bitsF k (l.drop k) bs) ∧ Hid (bs.length = (n + 7) / 8) ∧
      Hp w.heap.size w wr [vRow A cap so, .row 5 1 (some ⟨gb, 0, none⟩) ((n + 7) / 8) ((n + 7) / 8) (bs.map B8), bRow A0 cap0 p0, .blk w.heap.size [.int .i64 1] 3]) (fun i _ _ => n - (intOf i).toNat)
    case atStart => exact ⟨0, none, 0, [], List.replicate ((n + 7) / 8) 0, rfl, Nat.zero_le _, rfl, Lib.hid rfl, Nat.zero_le _, Lib.hid (by unfold bitsS; rw [Hn.out]; rfl), Lib.hid (by simp), by rw [List.map_replicate]; exact hS.nilRow _ _⟩
    case round =>
      clear hS hF
      obtain ⟨k, A1, cap1, so, bs, rfl, hk, rfl, hso, hsl, hbs, hbl, hS⟩ := hrel
      by_cases hlt : k < n
      · have hlt' : k < l.length := by rw [← Hn.out]; exact hlt
        obtain ⟨x, hx'⟩ : ∃ x, l[k]? = some x := ⟨l[k], List.getElem?_eq_getElem hlt'⟩
        obtain ⟨b, o, rfl, c0, c1, c2⟩ := hr k x hx'
        have hR := Reads.cell c0 (Reads.cell c1 (Reads.cell c2 (Reads.nil w)))
        have HD := Lib.hid (drop_at hx')
        have HT := Lib.hid (take_at hx')
        clear hx' hlt' c0 c1 c2 hr
        by_cases hx0 : x.kind = 0
        · have hxb : (x.kind == 0) = true := by simp [hx0]
          have HX0 := Lib.hid hx0
          clear hx0
          have q0 : (0 : Int) ≤ (k : Int) / 8 := by omega
          have q1 : (k : Int) / 8 < ((n : Int) + 7) / 8 := by omega
          have qw : IntKind.i64.wrap ((k : Int) / 8) = (k : Int) / 8 := IntWalk.i64_in _ (by omega)
          have qr : (k : Int).tmod 8 = (k : Int) % 8 := Int.tmod_eq_emod_of_nonneg (by omega)
          obtain ⟨pw, hpw⟩ : ∃ pw : Nat, pw = 2 ^ (k % 8) := ⟨_, rfl⟩
          have qsh := shl8 (k % 8) (by omega)
          rw [show ((k % 8 : Nat) : Int) = (k : Int) % 8 by omega] at qsh
          rw [← hpw] at qsh
          have hpl : pw < 256 := by rw [hpw]; exact Nat.lt_of_lt_of_le (Nat.pow_lt_pow_right (by decide) (show k % 8 < 8 by omega)) (by decide)
          have HPW := Lib.hid hpw
          clear hpw
          obtain ⟨by_, hby⟩ : ∃ c, bs[k / 8]? = some c := ⟨bs[k / 8]'(by rw [hbl.out]; omega), List.getElem?_eq_getElem _⟩
          obtain ⟨nv, hnv⟩ : ∃ v, v = by_.toNat ||| pw := ⟨_, rfl⟩
          have qor := or8 by_ pw hpl
          rw [← hnv] at qor
          have HNV := Lib.hid hnv
          clear hnv
          have HBY := Lib.hid hby
          clear hby
          have qt : ((k : Int) / 8).toNat = k / 8 := by omega
          have q2 : (0 : Int) ≤ (k : Int) % 8 := by omega
          ((try clear hF); refine hfI ?_; intro hF)
          go_wp2_with (first | (refine hab ?_; (try clear hF); clear hS; intro wk hS; (try simp only [List.set_cons_zero, List.set_cons_succ, heap_size, heap_set_size] at hS); ((try clear hF); refine hfI ?_; intro hF)) | fail)
          ((with_reducible refine wp_region_chain_hp [.q, .q, .q, .q, .t, .q, .q, .q, .t, .t, .t] [] (by kernel_rfl) rfl (by kernel_rfl) hS (fun w h => h.sub (by simp)) ?_); clear hS; (repeat ((with_reducible refine Walk.here ?_); (first | ((with_reducible apply Walk.skipQ); (first | rfl | exact wanted_false rfl rfl rfl (by assumption)); (try simp only [Mark.isQ, if_true, Bool.false_eq_true, if_false, Act.put, List.setIfInBounds_toArray, List.set_cons_zero, List.set_cons_succ])) | ((with_reducible apply Walk.val); (first | rfl | exact wanted_true rfl rfl rfl (by assumption)); (rintro w hS; ((try clear hF); refine hfI ?_; intro hF); go_simp; first | with_reducible rfl | (rw [if_neg (by first | omega | (simp only [ByteArray.size_append]; omega) | (simp [ByteArray.size_append]; omega))]; try with_reducible rfl)); (try simp only [Mark.isQ, if_true, Bool.false_eq_true, if_false, Act.put, List.setIfInBounds_toArray, List.set_cons_zero, List.set_cons_succ])) | ((with_reducible apply Walk.tail); (try simp only [Mark.isQ, if_true, Bool.false_eq_true, if_false, Act.put, List.setIfInBounds_toArray, List.set_cons_zero, List.set_cons_succ])) | ((with_reducible apply Walk.guardT); rfl; rfl; rfl; (all_goals intro hg)) | ((with_reducible apply Walk.guardF); rfl; rfl; rfl; (all_goals intro hg))))); refine Walk.done ?_; simp only [chainOf, Mark.isT, if_true, Bool.false_eq_true, if_false])
          refine Chain.val (v := .int .u8 (by_.toNat : Int)) rfl (fun w h => h.sub (by simp)) (fun w hS => ?_) ?_
          · obtain ⟨g', hg', hc, hf⟩ := hS.rowCell 2 rfl (j := k / 8) (u := .int .u8 (by_.toNat : Int)) (by rw [List.getElem?_map, HBY.out]; rfl)
            obtain rfl : gb = g' := by simpa using hg'
            go_simp
          try simp only [Act.put, List.setIfInBounds_toArray, List.set_cons_zero, List.set_cons_succ]
          (refine Chain.val (by (first | rfl | exact wanted_true rfl rfl rfl (by assumption))) (fun w h => h.sub (by simp)) (by rintro w hS; ((try clear hF); refine hfI ?_; intro hF); go_simp; with_reducible rfl) ?_; try simp only [Act.put, List.setIfInBounds_toArray, List.set_cons_zero, List.set_cons_succ])
          (refine Chain.val (by (first | rfl | exact wanted_true rfl rfl rfl (by assumption))) (fun w h => h.sub (by simp)) (by rintro w hS; ((try clear hF); refine hfI ?_; intro hF); go_simp; with_reducible rfl) ?_; try simp only [Act.put, List.setIfInBounds_toArray, List.set_cons_zero, List.set_cons_succ])
          refine Chain.turn (L' := [.row 5 1 (some ⟨gb, 0, none⟩) ((n + 7) / 8) ((n + 7) / 8) ((bs.map B8).set (k / 8) (.int .u8 (nv : Int))), .blk wr.heap.size [.int .i64 x.kind, .int .i64 x.num, .string x.text] 29, vRow A1 cap1 so, bRow A0 cap0 p0, .blk w.heap.size [.int .i64 1] 3]) rfl (fun w hS => ?_) (fun w h => h.sub (by simp)) ?_
          · obtain ⟨g', hg', hc, hf⟩ := hS.rowCell 2 rfl (j := k / 8) (u := .int .u8 (by_.toNat : Int)) (by rw [List.getElem?_map, HBY.out]; rfl)
            obtain rfl : gb = g' := by simpa using hg'
            have hp := (hS.front 2 rfl).putRow (k / 8) (.int .u8 (nv : Int))
            simp only [List.eraseIdx_cons_zero, List.eraseIdx_cons_succ] at hp
            go_simp
            first | done | exact hp
          (refine Chain.done ?_; (try clear hF); intro wk hS; ((try clear hF); refine hfI ?_; intro hF))
          go_wp2_with fail
          go_roundw
          case rel =>
            refine ⟨k + 1, A1, cap1, so, setB bs k, by go_num, by omega, rfl, Lib.hid ?_, by omega, Lib.hid ?_, Lib.hid ?_, ?_⟩
            · rw [HT.out]; unfold someS at *; rw [List.filter_append, ← hso.out]; simp [HX0.out]
            · rw [hbs.out, HD.out, bitsF, if_pos HX0.out]
            · unfold setB; rw [List.length_set]; exact hbl.out
            · have := (hS.front 2 rfl).sub (M := [vRow A1 cap1 so, .row 5 1 (some ⟨gb, 0, none⟩) ((n + 7) / 8) ((n + 7) / 8) ((bs.map B8).set (k / 8) (.int .u8 (nv : Int))), bRow A0 cap0 p0, .blk w.heap.size [.int .i64 1] 3]) (by simp)
              rw [show (setB bs k).map B8 = (bs.map B8).set (k / 8) (.int .u8 (nv : Int)) from ?_]
              · exact this
              · unfold setB
                rw [List.map_set, List.getD_eq_getElem?_getD, HBY.out, Option.getD_some, ← HPW.out, ← HNV.out, ← b8_of nv (by rw [HNV.out]; exact Nat.or_lt_two_pow (n := 8) by_.toNat_lt hpl)]
          case measure => simp [intOf]; omega
        · have hxb : (x.kind == 0) = false := by simp [hx0]
          have HX0 := Lib.hid hx0
          clear hx0
          ((try clear hF); refine hfI ?_; intro hF)
          go_wp2_with (first | (refine hab ?_; (try clear hF); clear hS; intro wk hS; (try simp only [List.set_cons_zero, List.set_cons_succ, heap_size, heap_set_size] at hS); ((try clear hF); refine hfI ?_; intro hF)) | (at_builtin; refine wpList_push_hp Tryz.elem_vals rfl (.tmp 60) (.tmp 62) rfl (hS.second 1 rfl) rfl rfl rfl (by simp [Value.oneCell']) (by omega) (by omega) ?_; clear hS; intro Ak capk wk hS; (try simp only [List.eraseIdx_cons_zero, List.eraseIdx_cons_succ, List.set_cons_zero, List.set_cons_succ] at hS); ((try clear hF); refine hfI ?_; intro hF)))
          go_roundw
          case rel =>
            refine ⟨k + 1, Ak, capk, so ++ [x], bs, by go_num, by omega, by simp, Lib.hid ?_, by simp; omega, Lib.hid ?_, hbl, vRow_push (hS.sub (by simp))⟩
            · rw [HT.out]; unfold someS at *; rw [List.filter_append, ← hso.out]; simp [HX0.out]
            · rw [hbs.out, HD.out, bitsF, if_neg HX0.out]
          case measure => simp [intOf]; omega
      · obtain rfl : k = n := by omega
        have hso2 : so = someS l := by rw [hso.out, Hn.out, List.take_length]
        have hbs2 : bs = bitsS l := by rw [hbs.out, Hn.out, List.drop_length, bitsF]
        have HSO := Lib.hid hso2
        have HBS := Lib.hid hbs2
        clear hso2 hbs2 hso hbs
        have hgs : GoodL so := fun y hy => HG.out y (by rw [HSO.out] at hy; exact (List.mem_filter.1 hy).1)
        have hp0 : p0.length ≤ 10 := by rw [Hl0.out]; have := Lib.uvarint_length64 (x := k) (by omega); simpa using this
        have HGS := Lib.hid hgs
        clear hgs
        obtain ⟨p1, hp1⟩ : ∃ p1 : List UInt8, p1 = p0 ++ bs := ⟨_, rfl⟩
        have hn1 : p0.length + (k + 7) / 8 = p1.length := by rw [hp1, List.length_append, hbl.out]
        have HP1 := Lib.hid hp1
        have HN1 := Lib.hid hn1
        clear hp1 hn1
        ((try clear hF); refine hfI ?_; intro hF)
        go_wp2_with (at_builtin; refine wpList_append_row Tryz.elem_bytes rfl (.tmp 65) (.tmp 66) rfl (hS.front 2 rfl) 1 rfl rfl rfl (by simp [B8, Value.oneCell']) (by omega) (by omega) ?_; clear hS; intro Ab capb wk hS; rw [← List.map_append, ← HP1.out] at hS; (try simp only [List.eraseIdx_cons_zero, List.eraseIdx_cons_succ, List.set_cons_zero, List.set_cons_succ] at hS); ((try clear hF); refine hfI ?_; intro hF))
        obtain ⟨nb, hnb⟩ : ∃ nb, nb = p0.length + (k + 7) / 8 := ⟨_, rfl⟩
        rw [← hnb] at hS
        have HNB := Lib.hid hnb
        have hnb2 : nb ≤ 30 := by omega
        try rw [← hnb]
        have hsl60 : so.length ≤ 60 := by omega
        clear hnb hp0 hlt hk hl hsl HC hr hR
        replace hS := (hS.nilRow 5 1).sub (M := [.row 5 1 none 0 0 [], .row 5 1 Ab nb capb (p1.map B8), vRow A1 cap1 so, .blk w.heap.size [.int .i64 1] 3]) (by simp)
        go_loopw [68, 11, 12] (fun i b v wr => ∃ (q : Nat) (A : Option Addr) (cap : Nat) (bl : List UInt8) (wy : Int), i = .int .i64 q ∧ q ≤ 4 ∧ b = .slice A bl.length cap ∧ v = .int .i64 wy ∧ Hid (bestK 1 so q = (wy, bl)) ∧ -1 ≤ wy ∧ wy ≤ 3 ∧ bl.length ≤ 4000 ∧ (1 ≤ q → 0 ≤ wy) ∧
          Hp w.heap.size w wr [bRow A cap bl, .row 5 1 Ab nb capb (p1.map B8), vRow A1 cap1 so, .blk w.heap.size [.int .i64 1] 3]) (fun i _ _ _ => 4 - (intOf i).toNat)
        case atStart => exact ⟨0, none, 0, [], -1, rfl, by omega, rfl, rfl, Lib.hid rfl, by omega, by omega, by simp, by omega, hS⟩
        case round =>
          clear hS
          obtain ⟨q, A2, cap2, bl, wy, rfl, hq, rfl, rfl, hbk, hw0, hw1, hbll, hw2, hS⟩ := hrel
          have hR := Reads.nil w
          by_cases hq4 : q < 4
          · have HW := Lib.hid (fun (W : World) h => write_any q hq4 so A1 cap1 W h hsl60 HGS.out)
            have HWL := Lib.hid (write_len q hsl60 HGS.out)
            by_cases hq3 : q = 3
            · have b3 : ((q : Int) == 3) = true := by simp; omega
              have HQ3 := Lib.hid hq3
              clear hq3
              ((try clear hF); refine hfI ?_; intro hF)
              go_wp2_with (first | (refine hab ?_; (try clear hF); clear hS; intro wk hS; (try simp only [List.set_cons_zero, List.set_cons_succ, heap_size, heap_set_size] at hS); ((try clear hF); refine hfI ?_; intro hF)) | (go_at_call 91; (with_reducible refine Calls.mono (HW.out _ (hS.rv 2 rfl)) ?_); rintro e wk ⟨Aw, capw, lw, rfl, Hlw, hW⟩; replace hS := hS.join hW; clear hW; simp only [List.cons_append, List.nil_append] at hS; ((try clear hF); refine hfI ?_; intro hF)))
              all_goals
                go_roundw
                case rel => first
                  | exact ⟨q + 1, Aw, capw, lw, q, by go_num, by omega, rfl, rfl, Lib.hid (by rw [bestK_yes hbk.out (by have := HQ3.out; omega) (by rw [← Hlw.out]; omega), Hlw.out]), by omega, by omega, by rw [Hlw.out]; exact HWL.out, by omega, hS.sub (by simp)⟩
                  | exact ⟨q + 1, A2, cap2, bl, wy, by go_num, by omega, rfl, rfl, Lib.hid (bestK_no hbk.out (by rw [← Hlw.out]; omega)), by omega, by omega, by omega, by omega, hS.sub (by simp)⟩
                  | exact ⟨q + 1, A2, cap2, bl, wy, by go_num, by omega, rfl, rfl, Lib.hid (bestK_skip hbk.out ⟨HQ3.out, rfl⟩), by omega, by omega, by omega, by have := HQ3.out; omega, hS⟩
                case measure => simp [intOf]; omega
            · have b3 : ((q : Int) == 3) = false := by simp; omega
              have HQ3 := Lib.hid hq3
              clear hq3
              ((try clear hF); refine hfI ?_; intro hF)
              go_wp2_with (first | (refine hab ?_; (try clear hF); clear hS; intro wk hS; (try simp only [List.set_cons_zero, List.set_cons_succ, heap_size, heap_set_size] at hS); ((try clear hF); refine hfI ?_; intro hF)) | (go_at_call 91; (with_reducible refine Calls.mono (HW.out _ (hS.rv 2 rfl)) ?_); rintro e wk ⟨Aw, capw, lw, rfl, Hlw, hW⟩; replace hS := hS.join hW; clear hW; simp only [List.cons_append, List.nil_append] at hS; ((try clear hF); refine hfI ?_; intro hF)))
              all_goals
                go_roundw
                case rel => first
                  | exact ⟨q + 1, Aw, capw, lw, q, by go_num, by omega, rfl, rfl, Lib.hid (by rw [bestK_yes hbk.out (by have := HQ3.out; omega) (by rw [← Hlw.out]; omega), Hlw.out]), by omega, by omega, by rw [Hlw.out]; exact HWL.out, by omega, hS.sub (by simp)⟩
                  | exact ⟨q + 1, A2, cap2, bl, wy, by go_num, by omega, rfl, rfl, Lib.hid (bestK_no hbk.out (by rw [← Hlw.out]; omega)), by omega, by omega, by omega, by omega, hS.sub (by simp)⟩
                  | exact ⟨q + 1, A2, cap2, bl, wy, by go_num, by omega, rfl, rfl, Lib.hid (bestK_skip hbk.out ⟨HQ3.out, rfl⟩), by omega, by omega, by omega, by have := HQ3.out; omega, hS⟩
                case measure => simp [intOf]; omega
          · obtain rfl : q = 4 := by omega
            have hw3 : 0 ≤ wy := hw2 (by omega)
            have hwz : IntKind.u8.wrap wy = wy := by rw [IntKind.wrap_u8]; omega
            have hwv : Value.int .u8 wy = B8 (UInt8.ofNat wy.toNat) := by rw [← b8_of _ (by omega)]; congr 1; omega
            have HWV := Lib.hid hwv
            have HB := Lib.hid hbk.out
            clear hbk hw2 hwv hq4 hw0
            ((try clear hF); refine hfI ?_; intro hF)
            go_wp2_with (first | (refine hab ?_; (try clear hF); clear hS; intro wk hS; (try simp only [List.set_cons_zero, List.set_cons_succ, heap_size, heap_set_size] at hS); ((try clear hF); refine hfI ?_; intro hF)) | (at_builtin; refine wpList_push_hp Tryz.elem_bytes rfl (.tmp 92) (.tmp 95) rfl (hS.second 1 rfl) rfl rfl rfl (by simp [Value.oneCell']) (by omega) (by omega) ?_; clear hS; intro Ak capk wk hS; (try simp only [List.eraseIdx_cons_zero, List.eraseIdx_cons_succ, List.set_cons_zero, List.set_cons_succ] at hS); ((try clear hF); refine hfI ?_; intro hF)) | (at_builtin; refine wpList_append_row Tryz.elem_bytes rfl (.tmp 96) (.tmp 97) rfl hS 0 rfl rfl rfl (by simp [B8, Value.oneCell']) (by omega) (by omega) ?_; clear hS; intro Af capf wk hS; (try simp only [List.eraseIdx_cons_zero, List.eraseIdx_cons_succ, List.set_cons_zero, List.set_cons_succ] at hS); have hrow : p1.map B8 ++ [Value.int .u8 wy] ++ bl.map B8 = (p1 ++ [UInt8.ofNat wy.toNat] ++ bl).map B8 := (by rw [HWV.out]; simp); have hstr := run_string_own (P := Tryz.prog) Tryz.underlying41 Tryz.underlying5 Tryz.underlying9 (p1 ++ [UInt8.ofNat wy.toNat] ++ bl) (hrow ▸ hS.head); clear hrow; ((try clear hF); refine hfI ?_; intro hF)))
            have he : p1 ++ UInt8.ofNat wy.toNat :: bl = encOut 1 l := by unfold encOut; rw [← HSO.out, HB.out, HP1.out, Hl0.out, HBS.out, ← Hn.out]; simp
            rw [← he]
            go_ret2
            exact ⟨rfl, hS.ext⟩
set_option maxRecDepth 100000 in
set_option maxHeartbeats 8000000 in
theorem encode_ok2 (l : List GV) (A : Option Addr) (cap : Nat) (w : World) (hr : RV w A l) (hl : l.length ≤ 60) (hi : ∀ x ∈ l, i64 x.num) (hb : l.any (badIn 2) = false) :
    Calls Tryz.prog 60 #[.int .i64 2, .slice A l.length cap] w fun e w' => e = .returned (.tuple #[.string ⟨(encOut 2 l).toArray⟩, .nilIface]) ∧ Ext w w' := by
  have HC := Lib.hid (fun (W : World) bk hx h => containsFunc_any l A cap 89 #[.pointer (some ⟨bk, 0, none⟩)] (badIn 2) W (hr.ext (w' := W) hx) (by omega) eg_enc1 (enc1_pred bk 2 W h))
  have HG := Lib.hid (good_of hi hb)
  rw [hb] at HC
  clear hb hi
  obtain ⟨n, hn⟩ : ∃ n, n = l.length := ⟨_, rfl⟩
  rw [← hn] at hl HC
  rw [← hn]
  have Hn := Lib.hid hn
  clear hn
  have hS := (Hp.init w).nilRow 5 1
  have hR := Reads.nil w
  · go_enter Tryz.func60, Tryz.ntmps60
    go_wp2_with (first | (refine hab ?_; (try clear hF); clear hS; intro wk hS; (try simp only [List.set_cons_zero, List.set_cons_succ, heap_size, heap_set_size] at hS); ((try clear hF); refine hfI ?_; intro hF)) | (go_at_call 88; (with_reducible refine (HC.out _ _ hS.ext hF.1).mono ?_); rintro e wk ⟨rfl, hX⟩; replace hS := hS.step hX; clear hX; ((try clear hF); refine hfI ?_; intro hF)) | (go_at_call 90; (with_reducible refine Calls.mono (number_any none 0 [] n (by omega) (by simp) (hS.front 1 rfl)) ?_); clear hS; rintro e wk ⟨A0, cap0, p0, rfl, Hl0, hS⟩; (try simp only [List.eraseIdx_cons_zero, List.eraseIdx_cons_succ, List.set_cons_zero, List.set_cons_succ] at hS); ((try clear hF); refine hfI ?_; intro hF)) | (at_make; refine wpList_make_hp Tryz.elem_bytes Tryz.zero_byte rfl rfl (.tmp 38) (.tmp 38) rfl hS .i64 .i64 _ _ rfl rfl (m := (n + 7) / 8) (by omega) (by omega) (by omega) (by omega) ?_; clear hS; intro gb wk hS; ((try clear hF); refine hfI ?_; intro hF)))
    go_loopw [42, 8] (fun i s wr => ∃ (k : Nat) (A : Option Addr) (cap : Nat) (so : List GV) (bs : List UInt8), i = .int .i64 k ∧ k ≤ n ∧ s = .slice A so.length cap ∧ Hid (so = someS (l.take k)) ∧ so.length ≤ k ∧ Hid (bitsS l = bitsF k (l.drop k) bs) ∧ Hid (bs.length = (n + 7) / 8) ∧
      Hp w.heap.size w wr [vRow A cap so, .row 5 1 (some ⟨gb, 0, none⟩) ((n + 7) / 8) ((n + 7) / 8) (bs.map B8), bRow A0 cap0 p0, .blk w.heap.size [.int .i64 2] 3]) (fun i _ _ => n - (intOf i).toNat)
    case atStart => exact ⟨0, none, 0, [], List.replicate ((n + 7) / 8) 0, rfl, Nat.zero_le _, rfl, Lib.hid rfl, Nat.zero_le _, Lib.hid (by unfold bitsS; rw [Hn.out]; rfl), Lib.hid (by simp), by rw [List.map_replicate]; exact hS.nilRow _ _⟩
    case round =>
      clear hS hF
      obtain ⟨k, A1, cap1, so, bs, rfl, hk, rfl, hso, hsl, hbs, hbl, hS⟩ := hrel
      by_cases hlt : k < n
      · have hlt' : k < l.length := by rw [← Hn.out]; exact hlt
        obtain ⟨x, hx'⟩ : ∃ x, l[k]? = some x := ⟨l[k], List.getElem?_eq_getElem hlt'⟩
        obtain ⟨b, o, rfl, c0, c1, c2⟩ := hr k x hx'
        have hR := Reads.cell c0 (Reads.cell c1 (Reads.cell c2 (Reads.nil w)))
        have HD := Lib.hid (drop_at hx')
        have HT := Lib.hid (take_at hx')
        clear hx' hlt' c0 c1 c2 hr
        by_cases hx0 : x.kind = 0
        · have hxb : (x.kind == 0) = true := by simp [hx0]
          have HX0 := Lib.hid hx0
          clear hx0
          have q0 : (0 : Int) ≤ (k : Int) / 8 := by omega
          have q1 : (k : Int) / 8 < ((n : Int) + 7) / 8 := by omega
          have qw : IntKind.i64.wrap ((k : Int) / 8) = (k : Int) / 8 := IntWalk.i64_in _ (by omega)
          have qr : (k : Int).tmod 8 = (k : Int) % 8 := Int.tmod_eq_emod_of_nonneg (by omega)
          obtain ⟨pw, hpw⟩ : ∃ pw : Nat, pw = 2 ^ (k % 8) := ⟨_, rfl⟩
          have qsh := shl8 (k % 8) (by omega)
          rw [show ((k % 8 : Nat) : Int) = (k : Int) % 8 by omega] at qsh
          rw [← hpw] at qsh
          have hpl : pw < 256 := by rw [hpw]; exact Nat.lt_of_lt_of_le (Nat.pow_lt_pow_right (by decide) (show k % 8 < 8 by omega)) (by decide)
          have HPW := Lib.hid hpw
          clear hpw
          obtain ⟨by_, hby⟩ : ∃ c, bs[k / 8]? = some c := ⟨bs[k / 8]'(by rw [hbl.out]; omega), List.getElem?_eq_getElem _⟩
          obtain ⟨nv, hnv⟩ : ∃ v, v = by_.toNat ||| pw := ⟨_, rfl⟩
          have qor := or8 by_ pw hpl
          rw [← hnv] at qor
          have HNV := Lib.hid hnv
          clear hnv
          have HBY := Lib.hid hby
          clear hby
          have qt : ((k : Int) / 8).toNat = k / 8 := by omega
          have q2 : (0 : Int) ≤ (k : Int) % 8 := by omega
          ((try clear hF); refine hfI ?_; intro hF)
          go_wp2_with (first | (refine hab ?_; (try clear hF); clear hS; intro wk hS; (try simp only [List.set_cons_zero, List.set_cons_succ, heap_size, heap_set_size] at hS); ((try clear hF); refine hfI ?_; intro hF)) | fail)
          ((with_reducible refine wp_region_chain_hp [.q, .q, .q, .q, .t, .q, .q, .q, .t, .t, .t] [] (by kernel_rfl) rfl (by kernel_rfl) hS (fun w h => h.sub (by simp)) ?_); clear hS; (repeat ((with_reducible refine Walk.here ?_); (first | ((with_reducible apply Walk.skipQ); (first | rfl | exact wanted_false rfl rfl rfl (by assumption)); (try simp only [Mark.isQ, if_true, Bool.false_eq_true, if_false, Act.put, List.setIfInBounds_toArray, List.set_cons_zero, List.set_cons_succ])) | ((with_reducible apply Walk.val); (first | rfl | exact wanted_true rfl rfl rfl (by assumption)); (rintro w hS; ((try clear hF); refine hfI ?_; intro hF); go_simp; first | with_reducible rfl | (rw [if_neg (by first | omega | (simp only [ByteArray.size_append]; omega) | (simp [ByteArray.size_append]; omega))]; try with_reducible rfl)); (try simp only [Mark.isQ, if_true, Bool.false_eq_true, if_false, Act.put, List.setIfInBounds_toArray, List.set_cons_zero, List.set_cons_succ])) | ((with_reducible apply Walk.tail); (try simp only [Mark.isQ, if_true, Bool.false_eq_true, if_false, Act.put, List.setIfInBounds_toArray, List.set_cons_zero, List.set_cons_succ])) | ((with_reducible apply Walk.guardT); rfl; rfl; rfl; (all_goals intro hg)) | ((with_reducible apply Walk.guardF); rfl; rfl; rfl; (all_goals intro hg))))); refine Walk.done ?_; simp only [chainOf, Mark.isT, if_true, Bool.false_eq_true, if_false])
          refine Chain.val (v := .int .u8 (by_.toNat : Int)) rfl (fun w h => h.sub (by simp)) (fun w hS => ?_) ?_
          · obtain ⟨g', hg', hc, hf⟩ := hS.rowCell 2 rfl (j := k / 8) (u := .int .u8 (by_.toNat : Int)) (by rw [List.getElem?_map, HBY.out]; rfl)
            obtain rfl : gb = g' := by simpa using hg'
            go_simp
          try simp only [Act.put, List.setIfInBounds_toArray, List.set_cons_zero, List.set_cons_succ]
          (refine Chain.val (by (first | rfl | exact wanted_true rfl rfl rfl (by assumption))) (fun w h => h.sub (by simp)) (by rintro w hS; ((try clear hF); refine hfI ?_; intro hF); go_simp; with_reducible rfl) ?_; try simp only [Act.put, List.setIfInBounds_toArray, List.set_cons_zero, List.set_cons_succ])
          (refine Chain.val (by (first | rfl | exact wanted_true rfl rfl rfl (by assumption))) (fun w h => h.sub (by simp)) (by rintro w hS; ((try clear hF); refine hfI ?_; intro hF); go_simp; with_reducible rfl) ?_; try simp only [Act.put, List.setIfInBounds_toArray, List.set_cons_zero, List.set_cons_succ])
          refine Chain.turn (L' := [.row 5 1 (some ⟨gb, 0, none⟩) ((n + 7) / 8) ((n + 7) / 8) ((bs.map B8).set (k / 8) (.int .u8 (nv : Int))), .blk wr.heap.size [.int .i64 x.kind, .int .i64 x.num, .string x.text] 29, vRow A1 cap1 so, bRow A0 cap0 p0, .blk w.heap.size [.int .i64 2] 3]) rfl (fun w hS => ?_) (fun w h => h.sub (by simp)) ?_
          · obtain ⟨g', hg', hc, hf⟩ := hS.rowCell 2 rfl (j := k / 8) (u := .int .u8 (by_.toNat : Int)) (by rw [List.getElem?_map, HBY.out]; rfl)
            obtain rfl : gb = g' := by simpa using hg'
            have hp := (hS.front 2 rfl).putRow (k / 8) (.int .u8 (nv : Int))
            simp only [List.eraseIdx_cons_zero, List.eraseIdx_cons_succ] at hp
            go_simp
            first | done | exact hp
          (refine Chain.done ?_; (try clear hF); intro wk hS; ((try clear hF); refine hfI ?_; intro hF))
          go_wp2_with fail
          go_roundw
          case rel =>
            refine ⟨k + 1, A1, cap1, so, setB bs k, by go_num, by omega, rfl, Lib.hid ?_, by omega, Lib.hid ?_, Lib.hid ?_, ?_⟩
            · rw [HT.out]; unfold someS at *; rw [List.filter_append, ← hso.out]; simp [HX0.out]
            · rw [hbs.out, HD.out, bitsF, if_pos HX0.out]
            · unfold setB; rw [List.length_set]; exact hbl.out
            · have := (hS.front 2 rfl).sub (M := [vRow A1 cap1 so, .row 5 1 (some ⟨gb, 0, none⟩) ((n + 7) / 8) ((n + 7) / 8) ((bs.map B8).set (k / 8) (.int .u8 (nv : Int))), bRow A0 cap0 p0, .blk w.heap.size [.int .i64 2] 3]) (by simp)
              rw [show (setB bs k).map B8 = (bs.map B8).set (k / 8) (.int .u8 (nv : Int)) from ?_]
              · exact this
              · unfold setB
                rw [List.map_set, List.getD_eq_getElem?_getD, HBY.out, Option.getD_some, ← HPW.out, ← HNV.out, ← b8_of nv (by rw [HNV.out]; exact Nat.or_lt_two_pow (n := 8) by_.toNat_lt hpl)]
          case measure => simp [intOf]; omega
        · have hxb : (x.kind == 0) = false := by simp [hx0]
          have HX0 := Lib.hid hx0
          clear hx0
          ((try clear hF); refine hfI ?_; intro hF)
          go_wp2_with (first | (refine hab ?_; (try clear hF); clear hS; intro wk hS; (try simp only [List.set_cons_zero, List.set_cons_succ, heap_size, heap_set_size] at hS); ((try clear hF); refine hfI ?_; intro hF)) | (at_builtin; refine wpList_push_hp Tryz.elem_vals rfl (.tmp 60) (.tmp 62) rfl (hS.second 1 rfl) rfl rfl rfl (by simp [Value.oneCell']) (by omega) (by omega) ?_; clear hS; intro Ak capk wk hS; (try simp only [List.eraseIdx_cons_zero, List.eraseIdx_cons_succ, List.set_cons_zero, List.set_cons_succ] at hS); ((try clear hF); refine hfI ?_; intro hF)))
          go_roundw
          case rel =>
            refine ⟨k + 1, Ak, capk, so ++ [x], bs, by go_num, by omega, by simp, Lib.hid ?_, by simp; omega, Lib.hid ?_, hbl, vRow_push (hS.sub (by simp))⟩
            · rw [HT.out]; unfold someS at *; rw [List.filter_append, ← hso.out]; simp [HX0.out]
            · rw [hbs.out, HD.out, bitsF, if_neg HX0.out]
          case measure => simp [intOf]; omega
      · obtain rfl : k = n := by omega
        have hso2 : so = someS l := by rw [hso.out, Hn.out, List.take_length]
        have hbs2 : bs = bitsS l := by rw [hbs.out, Hn.out, List.drop_length, bitsF]
        have HSO := Lib.hid hso2
        have HBS := Lib.hid hbs2
        clear hso2 hbs2 hso hbs
        have hgs : GoodL so := fun y hy => HG.out y (by rw [HSO.out] at hy; exact (List.mem_filter.1 hy).1)
        have hp0 : p0.length ≤ 10 := by rw [Hl0.out]; have := Lib.uvarint_length64 (x := k) (by omega); simpa using this
        have HGS := Lib.hid hgs
        clear hgs
        obtain ⟨p1, hp1⟩ : ∃ p1 : List UInt8, p1 = p0 ++ bs := ⟨_, rfl⟩
        have hn1 : p0.length + (k + 7) / 8 = p1.length := by rw [hp1, List.length_append, hbl.out]
        have HP1 := Lib.hid hp1
        have HN1 := Lib.hid hn1
        clear hp1 hn1
        ((try clear hF); refine hfI ?_; intro hF)
        go_wp2_with (at_builtin; refine wpList_append_row Tryz.elem_bytes rfl (.tmp 65) (.tmp 66) rfl (hS.front 2 rfl) 1 rfl rfl rfl (by simp [B8, Value.oneCell']) (by omega) (by omega) ?_; clear hS; intro Ab capb wk hS; rw [← List.map_append, ← HP1.out] at hS; (try simp only [List.eraseIdx_cons_zero, List.eraseIdx_cons_succ, List.set_cons_zero, List.set_cons_succ] at hS); ((try clear hF); refine hfI ?_; intro hF))
        obtain ⟨nb, hnb⟩ : ∃ nb, nb = p0.length + (k + 7) / 8 := ⟨_, rfl⟩
        rw [← hnb] at hS
        have HNB := Lib.hid hnb
        have hnb2 : nb ≤ 30 := by omega
        try rw [← hnb]
        have hsl60 : so.length ≤ 60 := by omega
        clear hnb hp0 hlt hk hl hsl HC hr hR
        replace hS := (hS.nilRow 5 1).sub (M := [.row 5 1 none 0 0 [], .row 5 1 Ab nb capb (p1.map B8), vRow A1 cap1 so, .blk w.heap.size [.int .i64 2] 3]) (by simp)
        go_loopw [68, 11, 12] (fun i b v wr => ∃ (q : Nat) (A : Option Addr) (cap : Nat) (bl : List UInt8) (wy : Int), i = .int .i64 q ∧ q ≤ 4 ∧ b = .slice A bl.length cap ∧ v = .int .i64 wy ∧ Hid (bestK 2 so q = (wy, bl)) ∧ -1 ≤ wy ∧ wy ≤ 3 ∧ bl.length ≤ 4000 ∧ (1 ≤ q → 0 ≤ wy) ∧
          Hp w.heap.size w wr [bRow A cap bl, .row 5 1 Ab nb capb (p1.map B8), vRow A1 cap1 so, .blk w.heap.size [.int .i64 2] 3]) (fun i _ _ _ => 4 - (intOf i).toNat)
        case atStart => exact ⟨0, none, 0, [], -1, rfl, by omega, rfl, rfl, Lib.hid rfl, by omega, by omega, by simp, by omega, hS⟩
        case round =>
          clear hS
          obtain ⟨q, A2, cap2, bl, wy, rfl, hq, rfl, rfl, hbk, hw0, hw1, hbll, hw2, hS⟩ := hrel
          have hR := Reads.nil w
          by_cases hq4 : q < 4
          · have HW := Lib.hid (fun (W : World) h => write_any q hq4 so A1 cap1 W h hsl60 HGS.out)
            have HWL := Lib.hid (write_len q hsl60 HGS.out)
            by_cases hq3 : q = 3
            · have b3 : ((q : Int) == 3) = true := by simp; omega
              have HQ3 := Lib.hid hq3
              clear hq3
              ((try clear hF); refine hfI ?_; intro hF)
              go_wp2_with (first | (refine hab ?_; (try clear hF); clear hS; intro wk hS; (try simp only [List.set_cons_zero, List.set_cons_succ, heap_size, heap_set_size] at hS); ((try clear hF); refine hfI ?_; intro hF)) | (go_at_call 91; (with_reducible refine Calls.mono (HW.out _ (hS.rv 2 rfl)) ?_); rintro e wk ⟨Aw, capw, lw, rfl, Hlw, hW⟩; replace hS := hS.join hW; clear hW; simp only [List.cons_append, List.nil_append] at hS; ((try clear hF); refine hfI ?_; intro hF)))
              all_goals
                go_roundw
                case rel => first
                  | exact ⟨q + 1, Aw, capw, lw, q, by go_num, by omega, rfl, rfl, Lib.hid (by rw [bestK_yes hbk.out (by have := HQ3.out; omega) (by rw [← Hlw.out]; omega), Hlw.out]), by omega, by omega, by rw [Hlw.out]; exact HWL.out, by omega, hS.sub (by simp)⟩
                  | exact ⟨q + 1, A2, cap2, bl, wy, by go_num, by omega, rfl, rfl, Lib.hid (bestK_no hbk.out (by rw [← Hlw.out]; omega)), by omega, by omega, by omega, by omega, hS.sub (by simp)⟩
                  | exact ⟨q + 1, A2, cap2, bl, wy, by go_num, by omega, rfl, rfl, Lib.hid (bestK_skip hbk.out ⟨HQ3.out, rfl⟩), by omega, by omega, by omega, by have := HQ3.out; omega, hS⟩
                case measure => simp [intOf]; omega
            · have b3 : ((q : Int) == 3) = false := by simp; omega
              have HQ3 := Lib.hid hq3
              clear hq3
              ((try clear hF); refine hfI ?_; intro hF)
              go_wp2_with (first | (refine hab ?_; (try clear hF); clear hS; intro wk hS; (try simp only [List.set_cons_zero, List.set_cons_succ, heap_size, heap_set_size] at hS); ((try clear hF); refine hfI ?_; intro hF)) | (go_at_call 91; (with_reducible refine Calls.mono (HW.out _ (hS.rv 2 rfl)) ?_); rintro e wk ⟨Aw, capw, lw, rfl, Hlw, hW⟩; replace hS := hS.join hW; clear hW; simp only [List.cons_append, List.nil_append] at hS; ((try clear hF); refine hfI ?_; intro hF)))
              all_goals
                go_roundw
                case rel => first
                  | exact ⟨q + 1, Aw, capw, lw, q, by go_num, by omega, rfl, rfl, Lib.hid (by rw [bestK_yes hbk.out (by have := HQ3.out; omega) (by rw [← Hlw.out]; omega), Hlw.out]), by omega, by omega, by rw [Hlw.out]; exact HWL.out, by omega, hS.sub (by simp)⟩
                  | exact ⟨q + 1, A2, cap2, bl, wy, by go_num, by omega, rfl, rfl, Lib.hid (bestK_no hbk.out (by rw [← Hlw.out]; omega)), by omega, by omega, by omega, by omega, hS.sub (by simp)⟩
                  | exact ⟨q + 1, A2, cap2, bl, wy, by go_num, by omega, rfl, rfl, Lib.hid (bestK_skip hbk.out ⟨HQ3.out, rfl⟩), by omega, by omega, by omega, by have := HQ3.out; omega, hS⟩
                case measure => simp [intOf]; omega
          · obtain rfl : q = 4 := by omega
            have hw3 : 0 ≤ wy := hw2 (by omega)
            have hwz : IntKind.u8.wrap wy = wy := by rw [IntKind.wrap_u8]; omega
            have hwv : Value.int .u8 wy = B8 (UInt8.ofNat wy.toNat) := by rw [← b8_of _ (by omega)]; congr 1; omega
            have HWV := Lib.hid hwv
            have HB := Lib.hid hbk.out
            clear hbk hw2 hwv hq4 hw0
            ((try clear hF); refine hfI ?_; intro hF)
            go_wp2_with (first | (refine hab ?_; (try clear hF); clear hS; intro wk hS; (try simp only [List.set_cons_zero, List.set_cons_succ, heap_size, heap_set_size] at hS); ((try clear hF); refine hfI ?_; intro hF)) | (at_builtin; refine wpList_push_hp Tryz.elem_bytes rfl (.tmp 92) (.tmp 95) rfl (hS.second 1 rfl) rfl rfl rfl (by simp [Value.oneCell']) (by omega) (by omega) ?_; clear hS; intro Ak capk wk hS; (try simp only [List.eraseIdx_cons_zero, List.eraseIdx_cons_succ, List.set_cons_zero, List.set_cons_succ] at hS); ((try clear hF); refine hfI ?_; intro hF)) | (at_builtin; refine wpList_append_row Tryz.elem_bytes rfl (.tmp 96) (.tmp 97) rfl hS 0 rfl rfl rfl (by simp [B8, Value.oneCell']) (by omega) (by omega) ?_; clear hS; intro Af capf wk hS; (try simp only [List.eraseIdx_cons_zero, List.eraseIdx_cons_succ, List.set_cons_zero, List.set_cons_succ] at hS); have hrow : p1.map B8 ++ [Value.int .u8 wy] ++ bl.map B8 = (p1 ++ [UInt8.ofNat wy.toNat] ++ bl).map B8 := (by rw [HWV.out]; simp); have hstr := run_string_own (P := Tryz.prog) Tryz.underlying41 Tryz.underlying5 Tryz.underlying9 (p1 ++ [UInt8.ofNat wy.toNat] ++ bl) (hrow ▸ hS.head); clear hrow; ((try clear hF); refine hfI ?_; intro hF)))
            have he : p1 ++ UInt8.ofNat wy.toNat :: bl = encOut 2 l := by unfold encOut; rw [← HSO.out, HB.out, HP1.out, Hl0.out, HBS.out, ← Hn.out]; simp
            rw [← he]
            go_ret2
            exact ⟨rfl, hS.ext⟩
theorem encode_any (kind : Int) (l : List GV) (A : Option Addr) (cap : Nat) (w : World) (hr : RV w A l) (hl : l.length ≤ 140737488355328) (hi : ∀ x ∈ l, i64 x.num) :
    Calls Tryz.prog 60 #[.int .i64 kind, .slice A l.length cap] w fun e w' => e = .returned (encRes kind l) ∧ Ext w w' := by
  by_cases hk : kind ≠ 1 ∧ kind ≠ 2
  · have e : encErr kind l = 1 := by unfold encErr; rw [if_pos (Or.inl hk)]
    unfold encRes
    rw [e, if_neg (by decide)]
    exact encode_bad1 kind hk l A cap w
  · have hk' : kind = 1 ∨ kind = 2 := by omega
    cases hb : l.any (badIn kind) with
    | true =>
      have e : encErr kind l = 1 := by unfold encErr; rw [if_pos (Or.inr hb)]
      unfold encRes
      rw [e, if_neg (by decide)]
      have := encode_bad2 kind hk' l A cap w hr hl (.inl hb)
      rw [hb] at this
      exact this
    | false =>
      by_cases h60 : 60 < l.length
      · have e : encErr kind l = 4 := by unfold encErr; rw [if_neg (by rw [hb]; simpa using hk), if_pos h60]
        unfold encRes
        rw [e, if_neg (by decide)]
        have := encode_bad2 kind hk' l A cap w hr hl (.inr h60)
        rw [hb] at this
        exact this
      · have e : encErr kind l = 0 := by unfold encErr; rw [if_neg (by rw [hb]; simpa using hk), if_neg h60]
        unfold encRes
        rw [e, if_pos rfl]
        rcases hk' with rfl | rfl
        · exact encode_ok1 l A cap w hr (by omega) hi hb
        · exact encode_ok2 l A cap w hr (by omega) hi hb
end Go.Proofs.YtlaldfkeaalnhaaGreatDoor
