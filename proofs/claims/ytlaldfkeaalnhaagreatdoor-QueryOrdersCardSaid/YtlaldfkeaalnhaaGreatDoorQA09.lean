/- encode.write: the four ways of writing values. -/
import Derived.Test.YtlaldfkeaalnhaaGreatDoorQA05
import Derived.IntWalk
namespace Go.Proofs.YtlaldfkeaalnhaaGreatDoor
set_option linter.all false
set_option linter.unusedSimpArgs false
set_option linter.unusedVariables false
open Go.RowKit
open Go.Lib (uvarint zigzag)
/-- a value as it may be written: short -/
def GoodV (x : GV) : Prop := i64 x.num ∧ x.text.size ≤ 40
def GoodL (l : List GV) : Prop := ∀ x ∈ l, GoodV x
theorem encV_len {x : GV} (h : GoodV x) : (encV x).length ≤ 50 := by
  obtain ⟨⟨h0, h1⟩, h2⟩ := h
  unfold encV
  split
  · have := Lib.uvarint_length64 (x := zigzag x.num) (Lib.zigzag_lt h0 h1); omega
  · have := Lib.uvarint_length64 (x := x.text.size) (by omega)
    have e : x.text.data.toList.length = x.text.size := rfl
    rw [List.length_append, e]; omega
theorem take_at {l : List GV} {k : Nat} {x : GV} (h : l[k]? = some x) : l.take (k + 1) = l.take k ++ [x] := by
  rw [List.take_add_one, h]; rfl
theorem flat_step {l : List GV} {k : Nat} {x : GV} (f : GV → List UInt8) (h : l[k]? = some x) : (l.take (k + 1)).flatMap f = (l.take k).flatMap f ++ f x := by
  rw [take_at h]; simp
theorem flat_len {f : GV → List UInt8} {c : Nat} : ∀ (l : List GV), (∀ x ∈ l, (f x).length ≤ c) → (l.flatMap f).length ≤ c * l.length
  | [], _ => by simp
  | x :: l, h => by
    have h1 := h x (by simp)
    have h2 := flat_len l (fun y hy => h y (by simp [hy]))
    rw [List.flatMap_cons, List.length_append, List.length_cons, Nat.mul_add]
    omega
set_option maxRecDepth 100000 in
set_option maxHeartbeats 8000000 in
theorem write0_any (l : List GV) (A : Option Addr) (cap : Nat) (w : World) (hr : RV w A l) (hl : l.length ≤ 60) (hg : GoodL l) :
    Calls Tryz.prog 91 #[.int .i64 0, .slice A l.length cap] w (BRes w.heap.size w [] (l.flatMap encV)) := by
  obtain ⟨n, hn⟩ : ∃ n, n = l.length := ⟨_, rfl⟩
  rw [← hn]
  have Hn := Lib.hid hn
  rw [← hn] at hl
  clear hn
  have HG := Lib.hid hg
  clear hg
  have hS := (Hp.init w).nilRow 5 1
  have hR := Reads.nil w
  go_enter Tryz.func91, Tryz.ntmps91
  go_wp2_with (first | (refine hab ?_; (try clear hF); clear hS; intro wk hS; (try simp only [List.set_cons_zero, List.set_cons_succ, heap_size, heap_set_size] at hS); ((try clear hF); refine hfI ?_; intro hF)) | fail)
  go_loopw [25, 5] (fun i b wr => ∃ (k : Nat) (A : Option Addr) (cap : Nat) (p : List UInt8), i = .int .i64 k ∧ k ≤ n ∧ b = .slice A p.length cap ∧ Hid (p = (l.take k).flatMap encV) ∧ Hp w.heap.size w wr [bRow A cap p]) (fun i _ _ => n - (intOf i).toNat)
  case atStart => exact ⟨0, none, 0, [], rfl, Nat.zero_le _, rfl, Lib.hid rfl, hS⟩
  case round =>
    clear hS
    obtain ⟨k, A1, cap1, p, rfl, hk, rfl, hp, hS⟩ := hrel
    by_cases hlt : k < n
    · have hlt' : k < l.length := by rw [← Hn.out]; exact hlt
      obtain ⟨x, hx'⟩ : ∃ x, l[k]? = some x := ⟨l[k], List.getElem?_eq_getElem hlt'⟩
      have hgx := HG.out x (List.mem_of_getElem? hx')
      obtain ⟨b, o, rfl, c0, c1, c2⟩ := hr k x hx'
      have hR := Reads.cell c0 (Reads.cell c1 (Reads.cell c2 (Reads.nil w)))
      have HD := Lib.hid (flat_step encV hx')
      have hpl : p.length ≤ 3000 := by
        rw [hp.out]
        have := flat_len (f := encV) (c := 50) (l.take k) (fun y hy => encV_len (HG.out y (List.mem_of_mem_take hy)))
        have : (l.take k).length ≤ k := List.length_take_le _ _
        omega
      have HO := Lib.hid (fun (W : World) (L : List Item) hS => enc_one_any (w0 := w) (w := W) (B := w.heap.size) (L := L) A1 cap1 p x hgx.1 (by have := hgx.2; omega) (by omega) hS)
      clear hx' hlt' c0 c1 c2 hr hgx
      ((try clear hF); refine hfI ?_; intro hF)
      go_wp2_with (first | (refine hab ?_; (try clear hF); clear hS; intro wk hS; (try simp only [List.set_cons_zero, List.set_cons_succ, heap_size, heap_set_size] at hS); ((try clear hF); refine hfI ?_; intro hF)) | (go_at_call 119; (with_reducible refine Calls.mono (HO.out _ _ (hS.front 1 rfl)) ?_); clear hS; rintro e wk ⟨Ak, capk, p', rfl, Hl, hS⟩; (try simp only [List.eraseIdx_cons_zero, List.eraseIdx_cons_succ, List.set_cons_zero, List.set_cons_succ] at hS); ((try clear hF); refine hfI ?_; intro hF)))
      go_roundw
      case rel => exact ⟨k + 1, Ak, capk, p', by go_num, by omega, rfl, Lib.hid (by rw [Hl.out, hp.out, HD.out]), hS.sub (by simp)⟩
      case measure => simp [intOf]; omega
    · obtain rfl : k = n := by omega
      ((try clear hF); refine hfI ?_; intro hF)
      go_wp2_with (first | (refine hab ?_; (try clear hF); clear hS; intro wk hS; (try simp only [List.set_cons_zero, List.set_cons_succ, heap_size, heap_set_size] at hS); ((try clear hF); refine hfI ?_; intro hF)) | fail)
      go_ret
      exact ⟨A1, cap1, p, rfl, Lib.hid (by rw [hp.out, Hn.out, List.take_length]), hS⟩
theorem len_dropWhile (p : GV → Bool) : ∀ l : List GV, (l.dropWhile p).length ≤ l.length
  | [] => by simp
  | x :: l => by
    rw [List.dropWhile_cons]
    have := len_dropWhile p l
    split <;> simp <;> omega
def runsS : List GV → List UInt8
  | [] => []
  | x :: l => uvarint (1 + (l.takeWhile fun y => eqG y x).length) ++ (encV x ++ runsS (l.dropWhile fun y => eqG y x))
termination_by l => l.length
decreasing_by
  have := len_dropWhile (fun y => eqG y x) l
  simp
  omega
theorem tw_rep {x : GV} {r : List GV} (hr : ∀ y, r[0]? = some y → eqG y x = false) : ∀ m : Nat, (List.replicate m x ++ r).takeWhile (fun y => eqG y x) = List.replicate m x ∧ (List.replicate m x ++ r).dropWhile (fun y => eqG y x) = r
  | 0 => by
    cases r with
    | nil => simp
    | cons y r => have := hr y (by simp); simp [List.takeWhile_cons, List.dropWhile_cons, this]
  | m + 1 => by
    have := tw_rep hr m
    rw [List.replicate_succ, List.cons_append, List.takeWhile_cons, List.dropWhile_cons, if_pos (eqG_self x), if_pos (eqG_self x), this.1, this.2]
    exact ⟨rfl, rfl⟩
theorem runs_step (m : Nat) (x : GV) (r : List GV) (hr : ∀ y, r[0]? = some y → eqG y x = false) : runsS (List.replicate (m + 1) x ++ r) = uvarint (m + 1) ++ (encV x ++ runsS r) := by
  rw [List.replicate_succ, List.cons_append, runsS, (tw_rep hr m).1, (tw_rep hr m).2, List.length_replicate, Nat.add_comm 1 m]
/-- from i on x stands, up to k -/
theorem runs_at {l : List GV} {i k : Nat} {x : GV} (hik : i < k) (hk : k ≤ l.length) (hx : ∀ j, i ≤ j → j < k → l[j]? = some x) (hy : ∀ y, l[k]? = some y → eqG y x = false) :
    runsS (l.drop i) = uvarint (k - i) ++ (encV x ++ runsS (l.drop k)) := by
  have e : l.drop i = List.replicate (k - i - 1 + 1) x ++ l.drop k := by
    apply List.ext_getElem?
    intro j
    rw [List.getElem?_drop, List.getElem?_append, List.length_replicate]
    split
    · rw [hx (i + j) (by omega) (by omega), List.getElem?_replicate, if_pos (by omega)]
    · rw [List.getElem?_drop]; congr 1; omega
  rw [e, runs_step _ _ _ (fun y h => hy y (by rw [List.getElem?_drop] at h; exact h)), show k - i - 1 + 1 = k - i by omega]
theorem runs_len : ∀ (l : List GV), l.length ≤ 1000 → GoodL l → (runsS l).length ≤ 60 * l.length := by
  intro l
  induction h : l.length using Nat.strongRecOn generalizing l with
  | _ n ih =>
    intro hl1 hg
    cases l with
    | nil => simp [runsS]
    | cons x l =>
      have h1 := encV_len (hg x (by simp))
      have h3 := len_dropWhile (fun y => eqG y x) l
      have h4 := ih _ (by rw [← h]; simp; omega) (l.dropWhile fun y => eqG y x) rfl (by have h0 : l.length + 1 = n := (by simpa using h); omega) (fun y hy => hg y (by simp [(List.dropWhile_sublist _).subset hy]))
      rw [runsS]
      have h5 : (l.takeWhile fun y => eqG y x).length ≤ l.length := (List.takeWhile_sublist _).length_le
      simp only [List.length_append, List.length_cons] at *
      have h2 := Lib.uvarint_length64 (x := 1 + (l.takeWhile fun y => eqG y x).length) (by omega)
      omega
set_option maxRecDepth 100000 in
set_option maxHeartbeats 8000000 in
theorem write1_any (l : List GV) (A : Option Addr) (cap : Nat) (w : World) (hr : RV w A l) (hl : l.length ≤ 60) (hg : GoodL l) :
    Calls Tryz.prog 91 #[.int .i64 1, .slice A l.length cap] w (BRes w.heap.size w [] (runsS l)) := by
  obtain ⟨n, hn⟩ : ∃ n, n = l.length := ⟨_, rfl⟩
  rw [← hn]
  have Hn := Lib.hid hn
  rw [← hn] at hl
  clear hn
  have HG := Lib.hid hg
  clear hg
  have hS := (Hp.init w).nilRow 5 1
  have hR := Reads.nil w
  go_enter Tryz.func91, Tryz.ntmps91
  go_wp2_with (first | (refine hab ?_; (try clear hF); clear hS; intro wk hS; (try simp only [List.set_cons_zero, List.set_cons_succ, heap_size, heap_set_size] at hS); ((try clear hF); refine hfI ?_; intro hF)) | fail)
  go_loopw [8, 5] (fun i b wr => ∃ (k : Nat) (A : Option Addr) (cap : Nat) (p : List UInt8), i = .int .i64 k ∧ k ≤ n ∧ b = .slice A p.length cap ∧ Hid (p ++ runsS (l.drop k) = runsS l) ∧ p.length ≤ 60 * k ∧ Hp w.heap.size w wr [bRow A cap p]) (fun i _ _ => n - (intOf i).toNat)
  case atStart => exact ⟨0, none, 0, [], rfl, Nat.zero_le _, rfl, Lib.hid rfl, by simp, hS⟩
  case round =>
    clear hS
    obtain ⟨i, A1, cap1, p, rfl, hk, rfl, hp, hpl, hS⟩ := hrel
    by_cases hlt : i < n
    · have hlt' : i < l.length := by rw [← Hn.out]; exact hlt
      obtain ⟨x, hx'⟩ : ∃ x, l[i]? = some x := ⟨l[i], List.getElem?_eq_getElem hlt'⟩
      have hgx := HG.out x (List.mem_of_getElem? hx')
      obtain ⟨b, o, rfl, c0, c1, c2⟩ := hr i x hx'
      have hR1 := Reads.cell c0 (Reads.cell c1 (Reads.cell c2 (Reads.nil w)))
      have HX := Lib.hid hx'
      have HC := Lib.hid (And.intro c0 (And.intro c1 c2))
      have HO := Lib.hid (fun (W : World) (L : List Item) (A1 : Option Addr) (cap1 : Nat) (q : List UInt8) (hq : q.length ≤ 10000) hS => enc_one_any (w0 := w) (w := W) (B := w.heap.size) (L := L) A1 cap1 q x hgx.1 (by have := hgx.2; omega) (by omega) hS)
      have HE := Lib.hid (encV_len hgx)
      have HR := Lib.hid hr
      clear hx' hlt' c0 c1 c2 hr hgx hR
      obtain ⟨wo, hwo⟩ : ∃ wo : World, wo = wr := ⟨_, rfl⟩
      subst hwo
      go_wp2_with fail
      go_loopw [9] (fun s9 wr => ∃ k : Nat, s9 = .int .i64 k ∧ i ≤ k ∧ k ≤ n ∧ Hid (∀ j, i ≤ j → j < k → l[j]? = some x) ∧ Hp w.heap.size w wr [bRow A1 cap1 p]) (fun s9 _ => n - (intOf s9).toNat)
      case atStart => exact ⟨i, rfl, Nat.le_refl _, by omega, Lib.hid (fun j h1 h2 => by omega), hS⟩
      case round =>
        clear hS
        obtain ⟨k, rfl, hik, hkn, hall, hS⟩ := hrel
        by_cases hkl : k < n
        · obtain ⟨y, hy'⟩ : ∃ x, l[k]? = some x := ⟨l[k]'(by rw [← Hn.out]; exact hkl), List.getElem?_eq_getElem _⟩
          obtain ⟨b2, o2, hbo, d0, d1, d2⟩ := HR.out k y hy'
          obtain ⟨rfl, rfl⟩ : b = b2 ∧ o = o2 := by simpa using hbo
          have HY := Lib.hid hy'
          clear hy' hbo
          have HB5 := Lib.hid (eqlG y x)
          have HDD := Lib.hid (And.intro d0 (And.intro d1 d2))
          clear d0 d1 d2
          cases hc : eqG y x with
          | true =>
            have HYX := Lib.hid ((eqG_iff y x).1 hc)
            have b5 := HB5.out
            rw [hc] at b5
            clear hc
            have hR := Reads.cell HDD.out.1 (Reads.cell HDD.out.2.1 (Reads.cell HDD.out.2.2 hR1))
            ((try clear hF); refine hfI ?_; intro hF)
            go_wp2_with (first | (refine hab ?_; (try clear hF); clear hS; intro wk hS; (try simp only [List.set_cons_zero, List.set_cons_succ, heap_size, heap_set_size] at hS); ((try clear hF); refine hfI ?_; intro hF)) | (first | (with_reducible refine wp_region_hp (draw := true) (by kernel_rfl) (by kernel_rfl) hS ?_) | ((with_reducible refine Fixed.here ?_); (first | ((with_reducible apply Fixed.skip); (first | rfl | exact wanted_false rfl rfl rfl (by assumption)); try simp only [Act.put, List.setIfInBounds_toArray, List.set_cons_zero, List.set_cons_succ]) | ((with_reducible apply Fixed.val); (first | rfl | exact wanted_true rfl rfl rfl (by assumption)); (rintro w hS; ((try clear hF); refine hfI ?_; intro hF); go_simp; with_reducible rfl); try simp only [Act.put, List.setIfInBounds_toArray, List.set_cons_zero, List.set_cons_succ]) | ((with_reducible apply Fixed.guardT); rfl; rfl; rfl; (all_goals intro hg)) | ((with_reducible apply Fixed.guardF); rfl; rfl; rfl; (all_goals intro hg)) | (with_reducible refine Fixed.done ?_; (try clear hF); clear hS; intro wk hS; ((try clear hF); refine hfI ?_; intro hF))))))
            go_roundw
            case rel =>
              refine ⟨k + 1, by go_num, by omega, by omega, Lib.hid (fun j h1 h2 => ?_), hS⟩
              by_cases e : j = k
              · subst e; rw [HY.out, HYX.out]
              · exact hall.out j h1 (by omega)
            case measure => simp [intOf]; omega
          | false =>
            have b5 := HB5.out
            rw [hc] at b5
            have hik' : i < k := by
              rcases Nat.lt_or_ge i k with h | h
              · exact h
              · obtain rfl : k = i := by omega
                have e := Option.some.inj (HY.out.symm.trans HX.out)
                rw [e, eqG_self] at hc
                cases hc
            have HRUN := Lib.hid (runs_at hik' (by rw [← Hn.out]; omega) hall.out (fun z hz => by obtain rfl := Option.some.inj (HY.out.symm.trans hz); exact hc))
            have hwi : IntKind.i64.wrap ((k : Int) - (i : Int)) = (k : Int) - (i : Int) := IntWalk.i64_in _ (by omega)
            have hwz : IntKind.u64.wrap ((k : Int) - (i : Int)) = (k : Int) - (i : Int) := by rw [IntKind.wrap_u64]; omega
            have HK := Lib.hid (show ((k : Int) - (i : Int)).toNat = k - i by omega)
            have HN := Lib.hid (fun (W : World) (L : List Item) hS => number_int (w0 := w) (w := W) (B := w.heap.size) (L := L) A1 cap1 p ((k : Int) - (i : Int)) (by omega) (by omega) (by omega) hS)
            have HNL := Lib.hid (show (uvarint ((k : Int) - (i : Int)).toNat).length ≤ 10 from Lib.uvarint_length64 (by omega))
            clear hc
            have hR := Reads.cell HDD.out.1 (Reads.cell HDD.out.2.1 (Reads.cell HDD.out.2.2 hR1))
            ((try clear hF); refine hfI ?_; intro hF)
            go_wp2_with fail
            ((with_reducible refine wp_region_hp (draw := true) (by kernel_rfl) (by kernel_rfl) hS ?_); (repeat ((with_reducible refine Fixed.here ?_); (first | ((with_reducible apply Fixed.skip); (first | rfl | exact wanted_false rfl rfl rfl (by assumption)); try simp only [Act.put, List.setIfInBounds_toArray, List.set_cons_zero, List.set_cons_succ]) | ((with_reducible apply Fixed.val); (first | rfl | exact wanted_true rfl rfl rfl (by assumption)); (rintro w hS; ((try clear hF); refine hfI ?_; intro hF); go_simp; with_reducible rfl); try simp only [Act.put, List.setIfInBounds_toArray, List.set_cons_zero, List.set_cons_succ])))); (with_reducible refine Fixed.done ?_); (try clear hF); clear hS; intro wk hS; ((try clear hF); refine hfI ?_; intro hF))
            go_wp2_with fail
            ((((with_reducible refine wp_region_chain_hp [.q, .q, .q, .q, .q, .t, .q, .q, .q, .q, .t, .t] [] (by kernel_rfl) rfl (by kernel_rfl) hS (fun w h => h.sub (by simp)) ?_); clear hS; (repeat ((with_reducible refine Walk.here ?_); (first | ((with_reducible apply Walk.skipQ); (first | rfl | exact wanted_false rfl rfl rfl (by assumption)); (try simp only [Mark.isQ, if_true, Bool.false_eq_true, if_false, Act.put, List.setIfInBounds_toArray, List.set_cons_zero, List.set_cons_succ])) | ((with_reducible apply Walk.val); (first | rfl | exact wanted_true rfl rfl rfl (by assumption)); (rintro w hS; ((try clear hF); refine hfI ?_; intro hF); go_simp; first | with_reducible rfl | (rw [if_neg (by first | omega | (simp only [ByteArray.size_append]; omega) | (simp [ByteArray.size_append]; omega))]; try with_reducible rfl)); (try simp only [Mark.isQ, if_true, Bool.false_eq_true, if_false, Act.put, List.setIfInBounds_toArray, List.set_cons_zero, List.set_cons_succ])) | ((with_reducible apply Walk.tail); (try simp only [Mark.isQ, if_true, Bool.false_eq_true, if_false, Act.put, List.setIfInBounds_toArray, List.set_cons_zero, List.set_cons_succ])) | ((with_reducible apply Walk.guardT); rfl; rfl; rfl; (all_goals intro hg)) | ((with_reducible apply Walk.guardF); rfl; rfl; rfl; (all_goals intro hg))))); refine Walk.done ?_; simp only [chainOf, Mark.isT, if_true, Bool.false_eq_true, if_false]); (refine Chain.call (by (first | rfl | exact wanted_true rfl rfl rfl (by assumption))) (by rintro w hS; ((try clear hF); refine hfI ?_; intro hF); go_simp; exact ⟨rfl, rfl⟩) ?_; (intro w hS); (with_reducible refine Calls.mono (HN.out _ _ hS) ?_); clear hS; rintro e wk ⟨Ak, capk, p1, rfl, Hl1, hS⟩; (try simp only [List.eraseIdx_cons_zero, List.eraseIdx_cons_succ, List.set_cons_zero, List.set_cons_succ] at hS); refine ⟨_, _, rfl, hS, (fun w h => h.sub (by simp)), ?_⟩; (clear hS); try simp only [Act.put, List.setIfInBounds_toArray, List.set_cons_zero, List.set_cons_succ]); (refine Chain.call (by (first | rfl | exact wanted_true rfl rfl rfl (by assumption))) (by rintro w hS; ((try clear hF); refine hfI ?_; intro hF); go_simp; exact ⟨rfl, rfl⟩) ?_; (intro w hS); (with_reducible refine Calls.mono (HO.out _ _ Ak capk p1 (by have := congrArg List.length Hl1.out; have := HNL.out; simp at *; omega) hS) ?_); clear hS; rintro e wk ⟨Ak2, capk2, p2, rfl, Hl2, hS⟩; (try simp only [List.eraseIdx_cons_zero, List.eraseIdx_cons_succ, List.set_cons_zero, List.set_cons_succ] at hS); refine ⟨_, _, rfl, hS, (fun w h => h.sub (by simp)), ?_⟩; (clear hS); try simp only [Act.put, List.setIfInBounds_toArray, List.set_cons_zero, List.set_cons_succ]); (refine Chain.val (by (first | rfl | exact wanted_true rfl rfl rfl (by assumption))) (fun w h => h.sub (by simp)) (by rintro w hS; ((try clear hF); refine hfI ?_; intro hF); go_simp; with_reducible rfl) ?_; try simp only [Act.put, List.setIfInBounds_toArray, List.set_cons_zero, List.set_cons_succ]); (refine Chain.done ?_; (try clear hF); intro wk hS; ((try clear hF); refine hfI ?_; intro hF))))
            go_wp2_with fail
            all_goals
              go_roundw
              case rel =>
                refine ⟨k, Ak2, capk2, p2, rfl, by omega, rfl, Lib.hid ?_, ?_, hS⟩
                · rw [Hl2.out, Hl1.out, ← hp.out, HRUN.out, HK.out]; simp
                · have e1 := congrArg List.length Hl2.out
                  have e2 := congrArg List.length Hl1.out
                  have := HE.out
                  have := HNL.out
                  simp only [List.length_append] at e1 e2
                  omega
              case measure => simp [intOf]; omega
        · obtain rfl : k = n := by omega
          have hik' : i < k := by omega
          have HRUN := Lib.hid (runs_at hik' (by rw [← Hn.out]; omega) hall.out (fun z hz => by rw [Hn.out] at hz; simp at hz))
          have hwi : IntKind.i64.wrap ((k : Int) - (i : Int)) = (k : Int) - (i : Int) := IntWalk.i64_in _ (by omega)
          have hwz : IntKind.u64.wrap ((k : Int) - (i : Int)) = (k : Int) - (i : Int) := by rw [IntKind.wrap_u64]; omega
          have HK := Lib.hid (show ((k : Int) - (i : Int)).toNat = k - i by omega)
          have HN := Lib.hid (fun (W : World) (L : List Item) hS => number_int (w0 := w) (w := W) (B := w.heap.size) (L := L) A1 cap1 p ((k : Int) - (i : Int)) (by omega) (by omega) (by omega) hS)
          have HNL := Lib.hid (show (uvarint ((k : Int) - (i : Int)).toNat).length ≤ 10 from Lib.uvarint_length64 (by omega))
          have hR := hR1
          ((try clear hF); refine hfI ?_; intro hF)
          go_wp2_with fail
          ((with_reducible refine wp_region_hp (draw := true) (by kernel_rfl) (by kernel_rfl) hS ?_); (repeat ((with_reducible refine Fixed.here ?_); (first | ((with_reducible apply Fixed.skip); (first | rfl | exact wanted_false rfl rfl rfl (by assumption)); try simp only [Act.put, List.setIfInBounds_toArray, List.set_cons_zero, List.set_cons_succ]) | ((with_reducible apply Fixed.val); (first | rfl | exact wanted_true rfl rfl rfl (by assumption)); (rintro w hS; ((try clear hF); refine hfI ?_; intro hF); go_simp; with_reducible rfl); try simp only [Act.put, List.setIfInBounds_toArray, List.set_cons_zero, List.set_cons_succ])))); (with_reducible refine Fixed.done ?_); (try clear hF); clear hS; intro wk hS; ((try clear hF); refine hfI ?_; intro hF))
          go_wp2_with fail
          ((((with_reducible refine wp_region_chain_hp [.q, .q, .q, .q, .q, .t, .q, .q, .q, .q, .t, .t] [] (by kernel_rfl) rfl (by kernel_rfl) hS (fun w h => h.sub (by simp)) ?_); clear hS; (repeat ((with_reducible refine Walk.here ?_); (first | ((with_reducible apply Walk.skipQ); (first | rfl | exact wanted_false rfl rfl rfl (by assumption)); (try simp only [Mark.isQ, if_true, Bool.false_eq_true, if_false, Act.put, List.setIfInBounds_toArray, List.set_cons_zero, List.set_cons_succ])) | ((with_reducible apply Walk.val); (first | rfl | exact wanted_true rfl rfl rfl (by assumption)); (rintro w hS; ((try clear hF); refine hfI ?_; intro hF); go_simp; first | with_reducible rfl | (rw [if_neg (by first | omega | (simp only [ByteArray.size_append]; omega) | (simp [ByteArray.size_append]; omega))]; try with_reducible rfl)); (try simp only [Mark.isQ, if_true, Bool.false_eq_true, if_false, Act.put, List.setIfInBounds_toArray, List.set_cons_zero, List.set_cons_succ])) | ((with_reducible apply Walk.tail); (try simp only [Mark.isQ, if_true, Bool.false_eq_true, if_false, Act.put, List.setIfInBounds_toArray, List.set_cons_zero, List.set_cons_succ])) | ((with_reducible apply Walk.guardT); rfl; rfl; rfl; (all_goals intro hg)) | ((with_reducible apply Walk.guardF); rfl; rfl; rfl; (all_goals intro hg))))); refine Walk.done ?_; simp only [chainOf, Mark.isT, if_true, Bool.false_eq_true, if_false]); (refine Chain.call (by (first | rfl | exact wanted_true rfl rfl rfl (by assumption))) (by rintro w hS; ((try clear hF); refine hfI ?_; intro hF); go_simp; exact ⟨rfl, rfl⟩) ?_; (intro w hS); (with_reducible refine Calls.mono (HN.out _ _ hS) ?_); clear hS; rintro e wk ⟨Ak, capk, p1, rfl, Hl1, hS⟩; (try simp only [List.eraseIdx_cons_zero, List.eraseIdx_cons_succ, List.set_cons_zero, List.set_cons_succ] at hS); refine ⟨_, _, rfl, hS, (fun w h => h.sub (by simp)), ?_⟩; (clear hS); try simp only [Act.put, List.setIfInBounds_toArray, List.set_cons_zero, List.set_cons_succ]); (refine Chain.call (by (first | rfl | exact wanted_true rfl rfl rfl (by assumption))) (by rintro w hS; ((try clear hF); refine hfI ?_; intro hF); go_simp; exact ⟨rfl, rfl⟩) ?_; (intro w hS); (with_reducible refine Calls.mono (HO.out _ _ Ak capk p1 (by have := congrArg List.length Hl1.out; have := HNL.out; simp at *; omega) hS) ?_); clear hS; rintro e wk ⟨Ak2, capk2, p2, rfl, Hl2, hS⟩; (try simp only [List.eraseIdx_cons_zero, List.eraseIdx_cons_succ, List.set_cons_zero, List.set_cons_succ] at hS); refine ⟨_, _, rfl, hS, (fun w h => h.sub (by simp)), ?_⟩; (clear hS); try simp only [Act.put, List.setIfInBounds_toArray, List.set_cons_zero, List.set_cons_succ]); (refine Chain.val (by (first | rfl | exact wanted_true rfl rfl rfl (by assumption))) (fun w h => h.sub (by simp)) (by rintro w hS; ((try clear hF); refine hfI ?_; intro hF); go_simp; with_reducible rfl) ?_; try simp only [Act.put, List.setIfInBounds_toArray, List.set_cons_zero, List.set_cons_succ]); (refine Chain.done ?_; (try clear hF); intro wk hS; ((try clear hF); refine hfI ?_; intro hF))))
          go_wp2_with fail
          all_goals
              go_roundw
              case rel =>
                refine ⟨k, Ak2, capk2, p2, rfl, by omega, rfl, Lib.hid ?_, ?_, hS⟩
                · rw [Hl2.out, Hl1.out, ← hp.out, HRUN.out, HK.out]; simp
                · have e1 := congrArg List.length Hl2.out
                  have e2 := congrArg List.length Hl1.out
                  have := HE.out
                  have := HNL.out
                  simp only [List.length_append] at e1 e2
                  omega
              case measure => simp [intOf]; omega
    · obtain rfl : i = n := by omega
      ((try clear hF); refine hfI ?_; intro hF)
      go_wp2_with (first | (refine hab ?_; (try clear hF); clear hS; intro wk hS; (try simp only [List.set_cons_zero, List.set_cons_succ, heap_size, heap_set_size] at hS); ((try clear hF); refine hfI ?_; intro hF)) | fail)
      go_ret
      exact ⟨A1, cap1, p, rfl, Lib.hid (by rw [← hp.out, Hn.out, List.drop_length, runsS]; simp), hS⟩
theorem Tryz.elem_vals : Elem Tryz.prog 35 29 3 32 := by
  obtain ⟨i0, hi0, hz0, hz1, hz2⟩ := info_parts (show (Tryz.prog.info? 29).map (fun i => (i.zero, i.size, i.bytes)) = some (some (.agg #[.int .i64 0, .int .i64 0, .string ⟨#[]⟩]), 3, 32) by kernel_rfl)
  exact ⟨Tryz.underlying35, ⟨i0, _, hi0, hz0, hz1, hz2, rfl⟩, by omega⟩
/-- a slice of values that is built -/
abbrev vRow (A : Option Addr) (cap : Nat) (l : List GV) : Item := .row 29 3 A l.length cap (cellsV l)
theorem Hp.rv {B : Nat} {w0 w : World} {L : List Item} {A : Option Addr} {cap n : Nat} {l : List GV} (h : Hp B w0 w L) (i : Nat) (hi : L[i]? = some (.row 29 3 A n cap (cellsV l))) : RV w A l := fun j x hj => by
  obtain ⟨h0, h1, h2⟩ := cellsV_at l j x hj
  obtain ⟨g, rfl, c0, _⟩ := h.rowCell i hi h0
  obtain ⟨g1, e1, c1, _⟩ := h.rowCell i hi h1
  obtain ⟨g2, e2, c2, _⟩ := h.rowCell i hi h2
  obtain rfl : g = g1 := by simpa using e1
  obtain rfl : g = g2 := by simpa using e2
  exact ⟨g, 0, rfl, by simpa using c0, by simpa using c1, by simpa using c2⟩
theorem vRow_push {B : Nat} {w0 w : World} {L : List Item} {A : Option Addr} {cap : Nat} {l : List GV} {x : GV} (h : Hp B w0 w (.row 29 3 A (l.length + 1) cap (cellsV l ++ [.int .i64 x.kind, .int .i64 x.num, .string x.text]) :: L)) : Hp B w0 w (vRow A cap (l ++ [x]) :: L) := by
  unfold vRow
  rw [cellsV_append, List.length_append]
  exact h
def ddF (a : List GV) (v : GV) : List GV := if a.any (eqG v) then a else a ++ [v]
def dedup (l : List GV) : List GV := l.foldl ddF []
theorem dedup_step {l : List GV} {k : Nat} {x : GV} (h : l[k]? = some x) : dedup (l.take (k + 1)) = if (dedup (l.take k)).any (eqG x) then dedup (l.take k) else dedup (l.take k) ++ [x] := by
  rw [take_at h]; unfold dedup; rw [List.foldl_append]; rfl
theorem dedup_fold : ∀ (l a : List GV), (∀ x ∈ a, x ∈ l.foldl ddF a) ∧ (∀ x ∈ l, x ∈ l.foldl ddF a) ∧ (l.foldl ddF a).length ≤ a.length + l.length ∧ (∀ x ∈ l.foldl ddF a, x ∈ a ∨ x ∈ l)
  | [], a => ⟨fun _ h => h, (fun _ h => by cases h), by simp, fun x h => .inl h⟩
  | v :: l, a => by
    rw [List.foldl_cons]
    cases hv : a.any (eqG v) with
    | true =>
      have e : ddF a v = a := by unfold ddF; rw [if_pos hv]
      rw [e]
      obtain ⟨h1, h2, h3, h4⟩ := dedup_fold l a
      refine ⟨h1, fun x hx => ?_, by rw [List.length_cons]; omega, fun x hx => (h4 x hx).imp id (fun h => by simp [h])⟩
      rcases List.mem_cons.1 hx with rfl | hx
      · rw [List.any_eq_true] at hv
        obtain ⟨y, hy, e⟩ := hv
        exact h1 _ (by rw [(eqG_iff x y).1 e]; exact hy)
      · exact h2 x hx
    | false =>
      have e : ddF a v = a ++ [v] := by unfold ddF; rw [if_neg (by rw [hv]; simp)]
      rw [e]
      obtain ⟨h1, h2, h3, h4⟩ := dedup_fold l (a ++ [v])
      refine ⟨fun x hx => h1 x (by simp [hx]), fun x hx => ?_, by rw [List.length_append] at h3; simp only [List.length_cons, List.length_nil] at *; omega, fun x hx => ?_⟩
      · rcases List.mem_cons.1 hx with rfl | hx
        · exact h1 _ (by simp)
        · exact h2 x hx
      · rcases h4 x hx with h | h
        · rcases List.mem_append.1 h with h | h
          · exact .inl h
          · right; simp at h; simp [h]
        · right; simp [h]
theorem dedup_mem {l : List GV} {x : GV} : x ∈ dedup l ↔ x ∈ l := ⟨fun h => ((dedup_fold l []).2.2.2 x h).elim (fun h => by cases h) id, (dedup_fold l []).2.1 x⟩
theorem dedup_len (l : List GV) : (dedup l).length ≤ l.length := by have := (dedup_fold l []).2.2.1; rw [List.length_nil, Nat.zero_add] at this; exact this
theorem idx_mem {l : List GV} {x : GV} (h : x ∈ l) : 0 ≤ idxP (eqG x) 0 l := by
  have := idxP_any (eqG x) l 0
  rw [List.any_eq_true.2 ⟨x, h, eqG_self x⟩] at this
  simpa using this
def wordsS (l : List GV) : List UInt8 := uvarint (dedup l).length ++ (dedup l).flatMap encV ++ l.flatMap fun x => uvarint (idxP (eqG x) 0 (dedup l)).toNat
set_option maxRecDepth 100000 in
set_option maxHeartbeats 8000000 in
theorem write2_any (l : List GV) (A : Option Addr) (cap : Nat) (w : World) (hr : RV w A l) (hl : l.length ≤ 60) (hg : GoodL l) :
    Calls Tryz.prog 91 #[.int .i64 2, .slice A l.length cap] w (BRes w.heap.size w [] (wordsS l)) := by
  obtain ⟨n, hn⟩ : ∃ n, n = l.length := ⟨_, rfl⟩
  rw [← hn]
  have Hn := Lib.hid hn
  rw [← hn] at hl
  clear hn
  have HG := Lib.hid hg
  have HRV := Lib.hid hr
  clear hg
  have hS := ((Hp.init w).nilRow 5 1).nilRow 29 3
  have hR := Reads.nil w
  go_enter Tryz.func91, Tryz.ntmps91
  go_wp2_with (first | (refine hab ?_; (try clear hF); clear hS; intro wk hS; (try simp only [List.set_cons_zero, List.set_cons_succ, heap_size, heap_set_size] at hS); ((try clear hF); refine hfI ?_; intro hF)) | fail)
  go_loopw [73, 10] (fun i v wr => ∃ (k : Nat) (A : Option Addr) (cap : Nat) (al : List GV), i = .int .i64 k ∧ k ≤ n ∧ v = .slice A al.length cap ∧ Hid (al = dedup (l.take k)) ∧ al.length ≤ k ∧ Hp w.heap.size w wr [vRow A cap al, bRow none 0 []]) (fun i _ _ => n - (intOf i).toNat)
  case atStart => exact ⟨0, none, 0, [], rfl, Nat.zero_le _, rfl, Lib.hid rfl, Nat.zero_le _, hS⟩
  case round =>
    clear hS
    obtain ⟨k, A1, cap1, al, rfl, hk, rfl, hp, hal, hS⟩ := hrel
    by_cases hlt : k < n
    · have hlt' : k < l.length := by rw [← Hn.out]; exact hlt
      obtain ⟨x, hx'⟩ : ∃ x, l[k]? = some x := ⟨l[k], List.getElem?_eq_getElem hlt'⟩
      obtain ⟨b, o, rfl, c0, c1, c2⟩ := hr k x hx'
      have hR := Reads.cell c0 (Reads.cell c1 (Reads.cell c2 (Reads.nil w)))
      have HD := Lib.hid (dedup_step hx')
      clear hx' hlt' c0 c1 c2 hr
      ((try clear hF); refine hfI ?_; intro hF)
      go_wp2_with (first | (refine hab ?_; (try clear hF); clear hS; intro wk hS; (try simp only [List.set_cons_zero, List.set_cons_succ, heap_size, heap_set_size] at hS); ((try clear hF); refine hfI ?_; intro hF)) | (go_at_call 120; (with_reducible refine (contains_any al A1 cap1 x _ (hS.rv 1 rfl) (by omega)).mono ?_); rintro e wk ⟨rfl, hX⟩; replace hS := hS.step hX; clear hX; ((try clear hF); refine hfI ?_; intro hF)) | (at_builtin; refine wpList_push_hp Tryz.elem_vals rfl (.tmp 81) (.tmp 83) rfl (hS.second 1 rfl) rfl rfl rfl (by simp [Value.oneCell']) (by omega) (by omega) ?_; clear hS; intro Ak capk wk hS; (try simp only [List.eraseIdx_cons_zero, List.eraseIdx_cons_succ, List.set_cons_zero, List.set_cons_succ] at hS); ((try clear hF); refine hfI ?_; intro hF)))
      · go_roundw
        case rel =>
          have hc : al.any (eqG x) = false := by cases h : al.any (eqG x) <;> simp_all
          refine ⟨k + 1, Ak, capk, al ++ [x], by go_num, by omega, by simp, Lib.hid ?_, by simp; omega, vRow_push (hS.sub (by simp))⟩
          rw [HD.out, ← hp.out, if_neg (by rw [hc]; simp)]
        case measure => simp [intOf]; omega
      · go_roundw
        case rel =>
          have hc : al.any (eqG x) = true := by cases h : al.any (eqG x) <;> simp_all
          refine ⟨k + 1, A1, cap1, al, by go_num, by omega, rfl, Lib.hid ?_, by omega, hS.sub (by simp)⟩
          rw [HD.out, ← hp.out, if_pos hc]
        case measure => simp [intOf]; omega
    · obtain rfl : k = n := by omega
      have hal2 : al = dedup l := by rw [hp.out, Hn.out, List.take_length]
      have HAL := Lib.hid hal2
      have HMEM := Lib.hid (fun (x : GV) (h : x ∈ al) => show x ∈ l from dedup_mem.1 (by rw [← HAL.out]; exact h))
      clear hal2 hr
      ((try clear hF); refine hfI ?_; intro hF)
      go_wp2_with (go_at_call 90; (with_reducible refine Calls.mono (number_any none 0 [] al.length (by omega) (by simp) (hS.front 1 rfl)) ?_); clear hS; rintro e wk ⟨Ak, capk, p0, rfl, Hl0, hS⟩; (try simp only [List.eraseIdx_cons_zero, List.eraseIdx_cons_succ, List.set_cons_zero, List.set_cons_succ] at hS); ((try clear hF); refine hfI ?_; intro hF))
      go_loopw [93, 5] (fun i v wr => ∃ (j : Nat) (A : Option Addr) (cap : Nat) (p : List UInt8), i = .int .i64 j ∧ j ≤ al.length ∧ v = .slice A p.length cap ∧ Hid (p = uvarint al.length ++ (al.take j).flatMap encV) ∧ p.length ≤ 10 + 50 * j ∧ Hp w.heap.size w wr [bRow A cap p, vRow A1 cap1 al]) (fun i _ _ => al.length - (intOf i).toNat)
      case atStart => exact ⟨0, Ak, capk, p0, rfl, Nat.zero_le _, rfl, Lib.hid (by rw [Hl0.out]; simp), by rw [Hl0.out]; have := Lib.uvarint_length64 (x := al.length) (by omega); simp; omega, hS.sub (by simp)⟩
      case round =>
        clear hS hF
        obtain ⟨j, A2, cap2, p, rfl, hj, rfl, hpj, hpl, hS⟩ := hrel
        by_cases hlt2 : j < al.length
        · obtain ⟨x, hx'⟩ : ∃ x, al[j]? = some x := ⟨al[j], List.getElem?_eq_getElem hlt2⟩
          have hgx := HG.out x (HMEM.out x (List.mem_of_getElem? hx'))
          obtain ⟨b, o, rfl, c0, c1, c2⟩ := hS.rv 1 rfl j x hx'
          have HD := Lib.hid (flat_step encV hx')
          have HE := Lib.hid (encV_len hgx)
          have HO := Lib.hid (fun (W : World) (L : List Item) hS => enc_one_any (w0 := w) (w := W) (B := w.heap.size) (L := L) A2 cap2 p x hgx.1 (by have := hgx.2; omega) (by omega) hS)
          clear hx' hgx
          ((try clear hF); refine hfI ?_; intro hF)
          go_wp2_with (first | (refine hab ?_; (try clear hF); clear hS; intro wk hS; (try simp only [List.set_cons_zero, List.set_cons_succ, heap_size, heap_set_size] at hS); ((try clear hF); refine hfI ?_; intro hF)) | (go_at_call 119; (with_reducible refine Calls.mono (HO.out _ _ (hS.front 1 rfl)) ?_); clear hS; rintro e wk ⟨Ak3, capk3, p', rfl, Hl, hS⟩; (try simp only [List.eraseIdx_cons_zero, List.eraseIdx_cons_succ, List.set_cons_zero, List.set_cons_succ] at hS); ((try clear hF); refine hfI ?_; intro hF)))
          go_roundw
          case rel =>
            refine ⟨j + 1, Ak3, capk3, p', by go_num, by omega, rfl, Lib.hid (by rw [Hl.out, hpj.out, HD.out]; simp), ?_, hS.sub (by simp)⟩
            have e1 := congrArg List.length Hl.out
            have := HE.out
            rw [List.length_append] at e1
            omega
          case measure => simp [intOf]; omega
        · obtain rfl : j = al.length := by omega
          have HP0 : Hid (p = uvarint al.length ++ al.flatMap encV) := Lib.hid (by rw [hpj.out, List.take_length])
          clear hpj
          ((try clear hF); refine hfI ?_; intro hF)
          go_wp2_with fail
          go_loopw [103, 5] (fun i v wr => ∃ (q : Nat) (A : Option Addr) (cap : Nat) (p' : List UInt8), i = .int .i64 q ∧ q ≤ k ∧ v = .slice A p'.length cap ∧ Hid (p' = p ++ (l.take q).flatMap fun x => uvarint (idxP (eqG x) 0 al).toNat) ∧ p'.length ≤ 10 + 50 * al.length + 10 * q ∧ Hp w.heap.size w wr [bRow A cap p', vRow A1 cap1 al]) (fun i _ _ => k - (intOf i).toNat)
          case atStart => exact ⟨0, A2, cap2, p, rfl, Nat.zero_le _, rfl, Lib.hid (by simp), by omega, hS⟩
          case round =>
            clear hS hF
            obtain ⟨q, A3, cap3, p', rfl, hq, rfl, hpq, hpl2, hS⟩ := hrel
            by_cases hlt3 : q < k
            · have hlt' : q < l.length := by rw [← Hn.out]; exact hlt3
              obtain ⟨x, hx'⟩ : ∃ x, l[q]? = some x := ⟨l[q], List.getElem?_eq_getElem hlt'⟩
              obtain ⟨b, o, rfl, c0, c1, c2⟩ := HRV.out q x hx'
              have hR := Reads.cell c0 (Reads.cell c1 (Reads.cell c2 (Reads.nil w)))
              have HD := Lib.hid (flat_step (fun x => uvarint (idxP (eqG x) 0 al).toNat) hx')
              have hi0 := idx_mem (l := al) (x := x) (by rw [HAL.out]; exact dedup_mem.2 (List.mem_of_getElem? hx'))
              have hi1 := (idxP_range (eqG x) al 0).2
              obtain ⟨ix, hix⟩ : ∃ v, v = idxP (eqG x) 0 al := ⟨_, rfl⟩
              have HIX := Lib.hid (fun (W : World) h => index_any al A1 cap1 x W h (by omega))
              have HI2 := Lib.hid hix
              rw [← hix] at hi0 hi1
              have HI3 := Lib.hid (show ∀ W, RV W A1 al → Calls Tryz.prog 121 #[.slice A1 al.length cap1, .agg #[.int .i64 x.kind, .int .i64 x.num, .string x.text]] W fun e w' => e = .returned (.int .i64 ix) ∧ Ext W w' from fun W h => by rw [hix]; exact HIX.out W h)
              have hwz : IntKind.u64.wrap ix = ix := by rw [IntKind.wrap_u64]; omega
              have HN := Lib.hid (fun (W : World) (L : List Item) hS => number_int (w0 := w) (w := W) (B := w.heap.size) (L := L) A3 cap3 p' ix hi0 (by omega) (by omega) hS)
              have HNL := Lib.hid (show (uvarint ix.toNat).length ≤ 10 from Lib.uvarint_length64 (by omega))
              clear hx' hlt' c0 c1 c2 hix HIX hi1
              ((try clear hF); refine hfI ?_; intro hF)
              go_wp2_with (first | (refine hab ?_; (try clear hF); clear hS; intro wk hS; (try simp only [List.set_cons_zero, List.set_cons_succ, heap_size, heap_set_size] at hS); ((try clear hF); refine hfI ?_; intro hF)) | (go_at_call 121; (with_reducible refine (HI3.out _ (hS.rv 2 rfl)).mono ?_); rintro e wk ⟨rfl, hX⟩; replace hS := hS.step hX; clear hX; ((try clear hF); refine hfI ?_; intro hF)) | (go_at_call 90; (with_reducible refine Calls.mono (HN.out _ _ (hS.front 1 rfl)) ?_); clear hS; rintro e wk ⟨Ak3, capk3, p2, rfl, Hl, hS⟩; (try simp only [List.eraseIdx_cons_zero, List.eraseIdx_cons_succ, List.set_cons_zero, List.set_cons_succ] at hS); ((try clear hF); refine hfI ?_; intro hF)))
              go_roundw
              case rel =>
                refine ⟨q + 1, Ak3, capk3, p2, by go_num, by omega, rfl, Lib.hid (by rw [Hl.out, hpq.out, HD.out, HI2.out]; simp), ?_, hS.sub (by simp)⟩
                have e1 := congrArg List.length Hl.out
                have := HNL.out
                rw [List.length_append] at e1
                omega
              case measure => simp [intOf]; omega
            · obtain rfl : q = k := by omega
              ((try clear hF); refine hfI ?_; intro hF)
              go_wp2_with fail
              go_ret
              refine ⟨A3, cap3, p', rfl, Lib.hid ?_, hS.sub (by simp)⟩
              rw [hpq.out, HP0.out, HAL.out, Hn.out, List.take_length]
              rfl
/-- each number by how much it is above the one ahead -/
def stepsS : Int → List GV → List UInt8
  | _, [] => []
  | last, x :: l => uvarint (zigzag (wrap64 (x.num - last))) ++ stepsS x.num l
theorem wrap_i64 (n : Int) : i64 (wrap64 n) := by
  unfold i64 wrap64
  omega
set_option maxRecDepth 100000 in
set_option maxHeartbeats 8000000 in
theorem write3_any (l : List GV) (A : Option Addr) (cap : Nat) (w : World) (hr : RV w A l) (hl : l.length ≤ 60) :
    Calls Tryz.prog 91 #[.int .i64 3, .slice A l.length cap] w (BRes w.heap.size w [] (stepsS 0 l)) := by
  obtain ⟨n, hn⟩ : ∃ n, n = l.length := ⟨_, rfl⟩
  rw [← hn]
  have Hn := Lib.hid hn
  rw [← hn] at hl
  clear hn
  have hS := (Hp.init w).nilRow 5 1
  have hR := Reads.nil w
  go_enter Tryz.func91, Tryz.ntmps91
  go_wp2_with (first | (refine hab ?_; (try clear hF); clear hS; intro wk hS; (try simp only [List.set_cons_zero, List.set_cons_succ, heap_size, heap_set_size] at hS); ((try clear hF); refine hfI ?_; intro hF)) | fail)
  go_loopw [118, 5, 17] (fun i b s wr => ∃ (k : Nat) (A : Option Addr) (cap : Nat) (p : List UInt8) (last : Int), i = .int .i64 k ∧ k ≤ n ∧ b = .slice A p.length cap ∧ s = .int .i64 last ∧ Hid (p ++ stepsS last (l.drop k) = stepsS 0 l) ∧ p.length ≤ 10 * k ∧ Hp w.heap.size w wr [bRow A cap p]) (fun i _ _ _ => n - (intOf i).toNat)
  case atStart => exact ⟨0, none, 0, [], 0, rfl, Nat.zero_le _, rfl, rfl, Lib.hid rfl, by simp, hS⟩
  case round =>
    clear hS
    obtain ⟨k, A1, cap1, p, last, rfl, hk, rfl, rfl, hp, hpl, hS⟩ := hrel
    by_cases hlt : k < n
    · have hlt' : k < l.length := by rw [← Hn.out]; exact hlt
      obtain ⟨x, hx'⟩ : ∃ x, l[k]? = some x := ⟨l[k], List.getElem?_eq_getElem hlt'⟩
      obtain ⟨b, o, rfl, c0, c1, c2⟩ := hr k x hx'
      have hR := Reads.cell c0 (Reads.cell c1 (Reads.cell c2 (Reads.nil w)))
      have HD := Lib.hid (drop_at hx')
      have HO := Lib.hid (fun (W : World) (L : List Item) hS => signed_any (w0 := w) (w := W) (B := w.heap.size) (L := L) A1 cap1 p (wrap64 (x.num - last)) (wrap_i64 _) (by omega) hS)
      have HE := Lib.hid (Lib.uvarint_length64 (x := zigzag (wrap64 (x.num - last))) (Lib.zigzag_lt (wrap_i64 _).1 (wrap_i64 _).2))
      clear hx' hlt' c0 c1 c2 hr
      ((try clear hF); refine hfI ?_; intro hF)
      go_wp2_with (first | (refine hab ?_; (try clear hF); clear hS; intro wk hS; (try simp only [List.set_cons_zero, List.set_cons_succ, heap_size, heap_set_size] at hS); ((try clear hF); refine hfI ?_; intro hF)) | (go_at_call 122; (with_reducible refine Calls.mono (HO.out _ _ (hS.front 1 rfl)) ?_); clear hS; rintro e wk ⟨Ak, capk, p', rfl, Hl, hS⟩; (try simp only [List.eraseIdx_cons_zero, List.eraseIdx_cons_succ, List.set_cons_zero, List.set_cons_succ] at hS); ((try clear hF); refine hfI ?_; intro hF)))
      go_roundw
      case rel =>
        refine ⟨k + 1, Ak, capk, p', x.num, by go_num, by omega, rfl, rfl, Lib.hid (by rw [← hp.out, HD.out, Hl.out, stepsS]; simp), ?_, hS.sub (by simp)⟩
        have e1 := congrArg List.length Hl.out
        have := HE.out
        rw [List.length_append] at e1
        omega
      case measure => simp [intOf]; omega
    · obtain rfl : k = n := by omega
      ((try clear hF); refine hfI ?_; intro hF)
      go_wp2_with (first | (refine hab ?_; (try clear hF); clear hS; intro wk hS; (try simp only [List.set_cons_zero, List.set_cons_succ, heap_size, heap_set_size] at hS); ((try clear hF); refine hfI ?_; intro hF)) | fail)
      go_ret
      exact ⟨A1, cap1, p, rfl, Lib.hid (by rw [← hp.out, Hn.out, List.drop_length, stepsS]; simp), hS⟩
/-- the values as written in a way -/
def writeS (way : Nat) (l : List GV) : List UInt8 := if way = 0 then l.flatMap encV else if way = 1 then runsS l else if way = 2 then wordsS l else if way = 3 then stepsS 0 l else []
theorem write_any (way : Nat) (hw : way < 4) (l : List GV) (A : Option Addr) (cap : Nat) (w : World) (hr : RV w A l) (hl : l.length ≤ 60) (hg : GoodL l) :
    Calls Tryz.prog 91 #[.int .i64 way, .slice A l.length cap] w (BRes w.heap.size w [] (writeS way l)) := by
  rcases (by omega : way = 0 ∨ way = 1 ∨ way = 2 ∨ way = 3) with rfl | rfl | rfl | rfl
  · exact write0_any l A cap w hr hl hg
  · exact write1_any l A cap w hr hl hg
  · exact write2_any l A cap w hr hl hg
  · exact write3_any l A cap w hr hl
theorem steps_len : ∀ (l : List GV) (s : Int), (stepsS s l).length ≤ 10 * l.length
  | [], _ => by simp [stepsS]
  | x :: l, s => by
    have h := Lib.uvarint_length64 (x := zigzag (wrap64 (x.num - s))) (Lib.zigzag_lt (wrap_i64 _).1 (wrap_i64 _).2)
    have := steps_len l x.num
    rw [stepsS, List.length_append, List.length_cons]
    omega
theorem words_len {l : List GV} (hl : l.length ≤ 60) (hg : GoodL l) : (wordsS l).length ≤ 10 + 60 * l.length := by
  have h1 := dedup_len l
  have h2 := Lib.uvarint_length64 (x := (dedup l).length) (by omega)
  have h3 := flat_len (f := encV) (c := 50) (dedup l) (fun y hy => encV_len (hg y (dedup_mem.1 hy)))
  have h4 := flat_len (f := fun x => uvarint (idxP (eqG x) 0 (dedup l)).toNat) (c := 10) l (fun y _ => Lib.uvarint_length64 (by have := (idxP_range (eqG y) (dedup l) 0).2; omega))
  unfold wordsS
  rw [List.length_append, List.length_append]
  omega
theorem write_len (way : Nat) {l : List GV} (hl : l.length ≤ 60) (hg : GoodL l) : (writeS way l).length ≤ 4000 := by
  unfold writeS
  split
  · have := flat_len (f := encV) (c := 50) l (fun y hy => encV_len (hg y hy)); omega
  · split
    · have := runs_len l (by omega) hg; omega
    · split
      · have := words_len hl hg; omega
      · split
        · have := steps_len l 0; omega
        · simp
end Go.Proofs.YtlaldfkeaalnhaaGreatDoor
