/- query.plan: the walk. -/
import Derived.Test.YtlaldfkeaalnhaaGreatDoorQA24
import Derived.Deep.DeepCutAuto
namespace Go.Proofs.YtlaldfkeaalnhaaGreatDoor
set_option linter.unusedSimpArgs false
set_option linter.unusedVariables false
open Go.RowKit
set_option linter.all false
theorem byE_snoc (cs : List CG) (n : ByteArray) : ∀ (l : List ByteArray) (ks : List Int), byE cs l = some ks → byE cs (l ++ [n]) = if idxC (nmEq n) 0 cs < 0 then none else some (ks ++ [idxC (nmEq n) 0 cs])
 | [], ks, h => by
  obtain rfl : [] = ks := by simpa [byE] using h
  simp [byE]
 | m :: l, ks, h => by
  rw [byE] at h
  rw [List.cons_append, byE]
  split at h
  ·cases h
  ·rename_i hm
   rw [if_neg hm]
   cases h1 : byE cs l with
   | none => rw [h1] at h; cases h
   | some k2 =>
    rw [h1] at h
    obtain rfl : idxC (nmEq m) 0 cs :: k2 = ks := by simpa using h
    rw [byE_snoc cs n l k2 h1]
    split <;> simp
theorem byE_none (cs : List CG) : ∀ (l m : List ByteArray), byE cs l = none → byE cs (l ++ m) = none
 | [], m, h => by cases h
 | x :: l, m, h => by
  rw [byE] at h
  rw [List.cons_append, byE]
  split
  ·rfl
  ·rename_i hx
   rw [if_neg hx] at h
   cases h1 : byE cs l with
   | none => rw [byE_none cs l m h1]; rfl
   | some k => rw [h1] at h; cases h
theorem itemsE_snoc (cs : List CG) (s : Bool) (bs : List Int) (x : IT) : ∀ (l : List IT) (ks : List Int), itemsE cs s bs l = (0, ks) → itemsE cs s bs (l ++ [x]) = if (placeE cs x).2 ≠ 0 then ((placeE cs x).2, []) else if s = true ∧ x.fn = noS ∧ (placeE cs x).1 ∉ bs then (6, []) else (0, ks ++ [(placeE cs x).1])
 | [], ks, h => by
  obtain rfl : [] = ks := by simpa [itemsE] using h
  rw [List.nil_append, itemsE]
  by_cases h1 : (placeE cs x).2 ≠ 0
  ·rw [if_pos h1, if_pos h1]
  ·rw [if_neg h1, if_neg h1]
   by_cases h2 : s = true ∧ x.fn = noS ∧ (placeE cs x).1 ∉ bs
   ·rw [if_pos h2, if_pos h2]
   ·rw [if_neg h2, if_neg h2]
    simp [itemsE]
 | y :: l, ks, h => by
  rw [itemsE] at h
  rw [List.cons_append, itemsE]
  by_cases h1 : (placeE cs y).2 ≠ 0
  ·rw [if_pos h1] at h
   exact absurd (congrArg Prod.fst h) h1
  ·rw [if_neg h1] at h ⊢
   by_cases h2 : s = true ∧ y.fn = noS ∧ (placeE cs y).1 ∉ bs
   ·rw [if_pos h2] at h
    cases h
   ·rw [if_neg h2] at h ⊢
    by_cases h3 : (itemsE cs s bs l).1 ≠ 0
    ·rw [if_pos h3] at h
     exact absurd (congrArg Prod.fst h) h3
    ·rw [if_neg h3] at h
     have h4 : itemsE cs s bs l = (0, (itemsE cs s bs l).2) := Prod.ext (by simpa using h3) rfl
     have ih := itemsE_snoc cs s bs x l _ h4
     obtain rfl := congrArg Prod.snd h
     rw [ih]
     by_cases k1 : (placeE cs x).2 ≠ 0
     ·rw [if_pos k1, if_pos k1, if_pos k1]
     ·rw [if_neg k1, if_neg k1]
      by_cases k2 : s = true ∧ x.fn = noS ∧ (placeE cs x).1 ∉ bs
      ·rw [if_pos k2, if_pos k2, if_pos (by simp)]
      ·rw [if_neg k2, if_neg k2, if_neg (by simp)]
       rfl
theorem itemsE_pre (cs : List CG) (s : Bool) (bs : List Int) (m : List IT) : ∀ (l : List IT), (itemsE cs s bs l).1 ≠ 0 → itemsE cs s bs (l ++ m) = ((itemsE cs s bs l).1, [])
 | [], h => by simp [itemsE] at h
 | y :: l, h => by
  rw [List.cons_append, itemsE]
  rw [itemsE] at h ⊢
  by_cases h1 : (placeE cs y).2 ≠ 0
  ·rw [if_pos h1, if_pos h1]
  ·rw [if_neg h1] at h
   rw [if_neg h1, if_neg h1]
   by_cases h2 : s = true ∧ y.fn = noS ∧ (placeE cs y).1 ∉ bs
   ·rw [if_pos h2, if_pos h2]
   ·rw [if_neg h2] at h
    rw [if_neg h2, if_neg h2]
    by_cases h3 : (itemsE cs s bs l).1 ≠ 0
    ·rw [if_pos h3]
     rw [itemsE_pre cs s bs m l h3, if_pos h3]
    ·rw [if_neg h3] at h
     exact absurd rfl h
theorem Hp.riQ {B : Nat} {w0 w : World} {L : List Item} {A : Option Addr} {cap n : Nat} {l : List Int} (h : Hp B w0 w L) (i : Nat) (hi : L[i]? = some (.row 3 1 A n cap (intsV l))) : RI w A l := fun j x hj => by
 obtain ⟨g, hg, c0, _⟩ := h.rowCell (j := j) (u := .int .i64 x) i hi (by rw [intsV_get, hj]; rfl)
 exact ⟨g, 0, hg, by rw [Nat.zero_add]; exact c0⟩
/-- where all columns stand, or which error -/
def planE (cs : List CG) (q : QG) : Int × List Int × List Int := match byE cs q.by_ with
 | none => (5, [], [])
 | some bs => if (itemsE cs (someE q) bs q.items).1 ≠ 0 then ((itemsE cs (someE q) bs q.items).1, [], []) else (0, (itemsE cs (someE q) bs q.items).2, bs)
def PlanRes (w : World) (r : Int × List Int × List Int) (e : Ending) (w' : World) : Prop :=
 if r.1 = 0 then ∃ (Ai : Option Addr) (ni ci : Nat) (Ab : Option Addr) (nb cb : Nat), e = .returned (.tuple #[.slice Ai ni ci, .slice Ab nb cb, .nilIface]) ∧ Hid (r.2.1.length = ni ∧ r.2.2.length = nb) ∧ Hp w.heap.size w w' [.row 3 1 Ai ni ci (intsV r.2.1), .row 3 1 Ab nb cb (intsV r.2.2)]
 else e = .returned (.tuple #[.slice none 0 0, .slice none 0 0, .iface 101 (.int .i64 r.1)]) ∧ Ext w w'
set_option maxRecDepth 100000 in
set_option maxHeartbeats 8000000 in
theorem plan_any (cs : List CG) (A : Option Addr) (n cap : Nat) (v : QV) (q : QG) (w : World) (hn : cs.length = n) (hr : RC w A cs) (hl : n ≤ 1000) (hq : QRead w v q) :
  Calls Tryz.prog 46 #[.slice A n cap, qV v] w (PlanRes w (planE cs q)) := by
 have Hn := Lib.hid hn
 have HFI := Lib.hid (fun (W : World) (hx : Ext w W) (nm : ByteArray) => show Calls Tryz.prog 75 #[.slice A n cap, .string nm] W fun e w' => e = .returned (.int .i64 (idxC (nmEq nm) 0 cs)) ∧ Ext W w' from by
  have := find_any cs A cap nm W (hr.ext hx) (by omega)
  rw [hn] at this
  exact this)
 have HPL := Lib.hid (fun (W : World) (hx : Ext w W) (x : IT) => place_any cs A n cap x W hn (hr.ext hx) hl)
 have HCF := Lib.hid (fun (W : World) (hx : Ext w W) => qcontainsFunc_any q.items v.ia v.im v.ic 76 #[] fnB W hq.il (hq.ir.ext hx) hq.ib eg_plan1 (fun W' _ x => plan1_any x W'))
 have HQ := Lib.hid hq
 obtain ⟨R, hRE⟩ : ∃ R, R = planE cs q := ⟨_, rfl⟩
 rw [← hRE]
 have HRE := Lib.hid hRE
 have hbb := hq.bb
 have HBL := Lib.hid hq.bl
 have HML := Lib.hid hq.il
 have hib := hq.ib
 clear hRE hn hr hq
 have hS := Hp.init w
 have hR := Reads.nil w
 obtain ⟨ia, im, ic, wp, ba, bn, bc, oa, om, oc, lim⟩ := v
 simp only at hbb hib HCF HBL HML
 go_enter Tryz.func46, Tryz.ntmps46
 go_wp2_with (first | (refine hab ?_; (try clear hF); clear hS; intro wk hS; (try simp only [List.set_cons_zero, List.set_cons_succ, heap_size, heap_set_size] at hS); ((try clear hF); refine hfI ?_; intro hF)) | fail)
 replace hS := hS.nilRow 3 1
 go_loopw [4, 5, 8, 9, 18] (fun s4 lv _ _ i wr => ∃ (j : Nat) (A' : Option Addr) (c' : Nat) (ks : List Int), s4 = .slice none 0 0 ∧ i = .int .i64 j ∧ j ≤ bn ∧ lv = .slice A' j c' ∧ Hid (byE cs (q.by_.take j) = some ks) ∧ Hid (ks.length = j) ∧ Hp w.heap.size w wr [.row 3 1 A' j c' (intsV ks), .blk w.heap.size [.slice ia im ic, .pointer wp, .slice ba bn bc, .slice oa om oc, .int .i64 lim] 49]) (fun _ _ _ _ i _ => bn - (intOf i).toNat)
 case atStart => exact ⟨0, none, 0, [], rfl, rfl, Nat.zero_le _, rfl, Lib.hid rfl, Lib.hid rfl, hS⟩
 case round =>
  clear hS
  obtain ⟨j, A', c', ks, rfl, rfl, hj, rfl, HBY, HKL, hS⟩ := hrel
  by_cases hlt : j < bn
  ·as_aux_lemma =>
   have hbl := HQ.out.bl
   obtain ⟨nm, hnm⟩ : ∃ x, q.by_[j]? = some x := ⟨q.by_[j]'(by rw [hbl]; exact hlt), List.getElem?_eq_getElem _⟩
   obtain ⟨b, o, hba, h0⟩ := HQ.out.br j nm hnm
   simp only at hba
   subst hba
   have hR := Reads.cell h0 (Reads.nil w)
   have HSN := Lib.hid (show byE cs (q.by_.take (j + 1)) = if idxC (nmEq nm) 0 cs < 0 then none else some (ks ++ [idxC (nmEq nm) 0 cs]) by
    rw [List.take_add_one, hnm]
    exact byE_snoc cs nm _ ks HBY.out)
   have HF1 := Lib.hid (fun (W : World) (hx : Ext w W) => HFI.out W hx nm)
   obtain ⟨k, hk⟩ : ∃ k, k = idxC (nmEq nm) 0 cs := ⟨_, rfl⟩
   rw [← hk] at HSN HF1
   clear hk hnm h0 hbl HFI HPL HCF
   by_cases hk0 : k < 0
   ·have hno : byE cs q.by_ = none := by
     have h1 := HSN.out
     rw [if_pos hk0] at h1
     have := byE_none cs (q.by_.take (j + 1)) (q.by_.drop (j + 1)) h1
     rwa [List.take_append_drop] at this
    have HRR := Lib.hid (show R = (5, [], []) by rw [HRE.out, planE, hno])
    clear hno
    ((try clear hF); refine hfI ?_; intro hF)
    go_wp2_with (first | (refine hab ?_; (try clear hF); clear hS; intro wk hS; (try simp only [List.set_cons_zero, List.set_cons_succ, heap_size, heap_set_size] at hS); ((try clear hF); refine hfI ?_; intro hF)) | (go_at_call 75; (with_reducible refine (HF1.out _ hS.ext).mono ?_); rintro e wk ⟨rfl, hX⟩; replace hS := hS.step hX; clear hX; ((try clear hF); refine hfI ?_; intro hF)))
    go_ret3
    rw [HRR.out]
    exact ⟨rfl, hS.ext⟩
   ·have HB2 := Lib.hid (show byE cs (q.by_.take (j + 1)) = some (ks ++ [k]) by rw [HSN.out, if_neg hk0])
    clear HSN
    ((try clear hF); refine hfI ?_; intro hF)
    go_wp2_with (first | (refine hab ?_; (try clear hF); clear hS; intro wk hS; (try simp only [List.set_cons_zero, List.set_cons_succ, heap_size, heap_set_size] at hS); ((try clear hF); refine hfI ?_; intro hF)) | (go_at_call 75; (with_reducible refine (HF1.out _ hS.ext).mono ?_); rintro e wk ⟨rfl, hX⟩; replace hS := hS.step hX; clear hX; ((try clear hF); refine hfI ?_; intro hF)) | (at_builtin; refine wpList_push_hp Tryz.elem_ints rfl (.tmp 28) (.tmp 30) rfl (hS.second 0 rfl) rfl rfl rfl (by simp [Value.oneCell']) (by omega) (by omega) ?_; clear hS; intro Ak capk wk hS; (try simp only [List.eraseIdx_cons_zero, List.eraseIdx_cons_succ, List.set_cons_zero, List.set_cons_succ] at hS); ((try clear hF); refine hfI ?_; intro hF)))
    go_roundw
    case rel =>
     exact ⟨j + 1, _, _, ks ++ [k], rfl, by go_num, by omega, rfl, HB2, Lib.hid (by rw [List.length_append, HKL.out]; rfl), by rw [show intsV (ks ++ [k]) = intsV ks ++ [.int .i64 k] from List.map_append]; exact hS⟩
    case measure => simp [intOf]; omega
  ·obtain rfl : bn = j := by omega
   have HB2 := Lib.hid (show byE cs q.by_ = some ks by
    have h1 := HBY.out
    rwa [show q.by_.take bn = q.by_ by rw [← HBL.out, List.take_length]] at h1)
   clear hlt HBY hj
   ((try clear hF); refine hfI ?_; intro hF)
   go_upto_region 9 with (first | (refine hab ?_; (try clear hF); clear hS; intro wk hS; (try simp only [List.set_cons_zero, List.set_cons_succ, heap_size, heap_set_size] at hS); ((try clear hF); refine hfI ?_; intro hF)) | fail)
   go_cut [4, 10] (fun s4 s10 wx => s4 = .slice none 0 0 ∧ s10 = .bool (someE q) ∧ Hp w.heap.size w wx [.row 3 1 A' bn c' (intsV ks), .blk w.heap.size [.slice ia im ic, .pointer wp, .slice ba bn bc, .slice oa om oc, .int .i64 lim] 49])
   case first =>
    by_cases hb0 : 0 < bn
    ·as_aux_lemma =>
     have hb1 : decide ((0 : Int) < (bn : Int)) = true := by simp; omega
     have hsm : someE q = true := by unfold someE; rw [HBL.out, decide_eq_true hb0]; rfl
     have HSM := Lib.hid hsm
     clear hsm HRE
     go_wp2_with (first | (refine hab ?_; (try clear hF); clear hS; intro wk hS; (try simp only [List.set_cons_zero, List.set_cons_succ, heap_size, heap_set_size] at hS); ((try clear hF); refine hfI ?_; intro hF)) | fail)
     go_meet
     case rel => exact ⟨rfl, by rw [HSM.out], hS⟩
    ·as_aux_lemma =>
     have hb1 : decide ((0 : Int) < (bn : Int)) = false := by simp; omega
     have hsm : someE q = q.items.any fnB := by unfold someE; rw [HBL.out, decide_eq_false hb0]; rfl
     have HSM := Lib.hid hsm
     clear hsm HRE
     go_wp2_with (first | (refine hab ?_; (try clear hF); clear hS; intro wk hS; (try simp only [List.set_cons_zero, List.set_cons_succ, heap_size, heap_set_size] at hS); ((try clear hF); refine hfI ?_; intro hF)) | (go_at_call 47; (with_reducible refine (HCF.out _ hS.ext).mono ?_); rintro e wk ⟨rfl, hX⟩; replace hS := hS.step hX; clear hX; ((try clear hF); refine hfI ?_; intro hF)))
     go_meet
     case rel => exact ⟨rfl, by rw [HSM.out], hS⟩
   case rest =>
    obtain ⟨rfl, rfl, hS⟩ := hcut
    obtain ⟨sm, hsm⟩ : ∃ x, x = someE q := ⟨_, rfl⟩
    have HRS := Lib.hid (show R = if (itemsE cs sm ks q.items).1 ≠ 0 then ((itemsE cs sm ks q.items).1, [], []) else (0, (itemsE cs sm ks q.items).2, ks) by rw [HRE.out, planE, HB2.out, hsm])
    rw [← hsm]
    clear hsm HRE HB2 HCF
    ((try clear hF); refine hfI ?_; intro hF)
    go_wp2_with (first | (refine hab ?_; (try clear hF); clear hS; intro wk hS; (try simp only [List.set_cons_zero, List.set_cons_succ, heap_size, heap_set_size] at hS); ((try clear hF); refine hfI ?_; intro hF)) | fail)
    replace hS := hS.nilRow 3 1
    go_loopw [4, 5, 12, 13, 14, 44] (fun lv s5 _ _ _ i wr => ∃ (j : Nat) (A2 : Option Addr) (c2 : Nat) (is : List Int), s5 = .slice A' bn c' ∧ i = .int .i64 j ∧ j ≤ im ∧ lv = .slice A2 j c2 ∧ Hid (itemsE cs sm ks (q.items.take j) = (0, is)) ∧ Hid (is.length = j) ∧ Hp w.heap.size w wr [.row 3 1 A2 j c2 (intsV is), .row 3 1 A' bn c' (intsV ks), .blk w.heap.size [.slice ia im ic, .pointer wp, .slice ba bn bc, .slice oa om oc, .int .i64 lim] 49]) (fun _ _ _ _ _ i _ => im - (intOf i).toNat)
    case atStart => exact ⟨0, none, 0, [], rfl, rfl, Nat.zero_le _, rfl, Lib.hid rfl, Lib.hid rfl, hS⟩
    case round =>
     clear hS
     obtain ⟨j, A2, c2, is, rfl, rfl, hj, rfl, HIT, HIL, hS⟩ := hrel
     by_cases hlt : j < im
     ·have hil := HQ.out.il
      obtain ⟨x, hx⟩ : ∃ x, q.items[j]? = some x := ⟨q.items[j]'(by rw [hil]; exact hlt), List.getElem?_eq_getElem _⟩
      obtain ⟨b, o, hba, h0, h1⟩ := HQ.out.ir j x hx
      simp only at hba
      subst hba
      have hR := Reads.cell h0 (Reads.cell h1 (Reads.nil w))
      have HSN := Lib.hid (show itemsE cs sm ks (q.items.take (j + 1)) = if (placeE cs x).2 ≠ 0 then ((placeE cs x).2, []) else if sm = true ∧ x.fn = noS ∧ (placeE cs x).1 ∉ ks then (6, []) else (0, is ++ [(placeE cs x).1]) by
       rw [List.take_add_one, hx]
       exact itemsE_snoc cs sm ks x _ is HIT.out)
      have HPR := Lib.hid (fun (h : (itemsE cs sm ks (q.items.take (j + 1))).1 ≠ 0) => show R = ((itemsE cs sm ks (q.items.take (j + 1))).1, [], []) by
       have := itemsE_pre cs sm ks (q.items.drop (j + 1)) _ h
       rw [List.take_append_drop] at this
       rw [HRS.out, this, if_pos h])
      have HP1 := Lib.hid (fun (W : World) (hx : Ext w W) => HPL.out W hx x)
      obtain ⟨⟨k, er⟩, hpe⟩ : ∃ z, z = placeE cs x := ⟨_, rfl⟩
      rw [← hpe] at HSN HP1
      simp only at HSN HP1
      have HIC := Lib.hid (fun (W : World) (h : RI W A' ks) => icont_any ks A' bn c' k W HKL.out h hbb)
      clear hpe hx h0 h1 hil HPL HFI
      by_cases he : er = 0
      ·subst he
       have HP2 := Lib.hid (fun (W : World) (hx : Ext w W) => show Calls Tryz.prog 77 #[.slice A n cap, .agg #[.string x.fn, .string x.col]] W fun e w' => e = .returned (.tuple #[.int .i64 k, .nilIface]) ∧ Ext W w' from HP1.out W hx)
       have hSN := HSN.out
       rw [if_neg (by simp)] at hSN
       clear HP1 HSN
       have HSQ := Lib.hid hSN
       clear hSN
       cases sm with
       | false => as_aux_lemma =>
        have HI2 := Lib.hid (show itemsE cs false ks (q.items.take (j + 1)) = (0, is ++ [k]) by rw [HSQ.out, if_neg (by simp)])
        clear HSQ HPR
        ((try clear hF); refine hfI ?_; intro hF)
        go_wp2_with (first | (refine hab ?_; (try clear hF); clear hS; intro wk hS; (try simp only [List.set_cons_zero, List.set_cons_succ, heap_size, heap_set_size] at hS); ((try clear hF); refine hfI ?_; intro hF)) | (go_at_call 77; (with_reducible refine (HP2.out _ hS.ext).mono ?_); rintro e wk ⟨rfl, hX⟩; replace hS := hS.step hX; clear hX; ((try clear hF); refine hfI ?_; intro hF)) | (go_at_call 78; (with_reducible refine (HIC.out _ (hS.riQ 2 rfl)).mono ?_); rintro e wk ⟨rfl, hX⟩; replace hS := hS.step hX; clear hX; ((try clear hF); refine hfI ?_; intro hF)) | (at_builtin; refine wpList_push_hp Tryz.elem_ints rfl (.tmp 72) (.tmp 74) rfl (hS.second 1 rfl) rfl rfl rfl (by simp [Value.oneCell']) (by omega) (by omega) ?_; clear hS; intro Ak capk wk hS; (try simp only [List.eraseIdx_cons_zero, List.eraseIdx_cons_succ, List.set_cons_zero, List.set_cons_succ] at hS); ((try clear hF); refine hfI ?_; intro hF)))
        go_roundw
        case rel =>
         exact ⟨j + 1, _, _, is ++ [k], rfl, by go_num, by omega, rfl, HI2, Lib.hid (by rw [List.length_append, HIL.out]; rfl), by rw [show intsV (is ++ [k]) = intsV is ++ [.int .i64 k] from List.map_append]; exact hS.sub (.cons₂ _ (.cons _ (.refl _)))⟩
        case measure => simp [intOf]; omega
       | true =>
        by_cases hf : x.fn = noS
        ·by_cases hk : k ∈ ks
         ·as_aux_lemma =>
          have HI2 := Lib.hid (show itemsE cs true ks (q.items.take (j + 1)) = (0, is ++ [k]) by rw [HSQ.out, if_neg (by simp [hk])])
          have hd : decide (k ∈ ks) = true := decide_eq_true hk
          rw [hd] at HIC
          have hfl : (x.fn.toList == []) = true := by rw [hf, ByteArray.toList_eq]; rfl
          clear HSQ HPR hf hk hd
          ((try clear hF); refine hfI ?_; intro hF)
          go_wp2_with (first | (refine hab ?_; (try clear hF); clear hS; intro wk hS; (try simp only [List.set_cons_zero, List.set_cons_succ, heap_size, heap_set_size] at hS); ((try clear hF); refine hfI ?_; intro hF)) | (go_at_call 77; (with_reducible refine (HP2.out _ hS.ext).mono ?_); rintro e wk ⟨rfl, hX⟩; replace hS := hS.step hX; clear hX; ((try clear hF); refine hfI ?_; intro hF)) | (go_at_call 78; (with_reducible refine (HIC.out _ (hS.riQ 2 rfl)).mono ?_); rintro e wk ⟨rfl, hX⟩; replace hS := hS.step hX; clear hX; ((try clear hF); refine hfI ?_; intro hF)) | (at_builtin; refine wpList_push_hp Tryz.elem_ints rfl (.tmp 72) (.tmp 74) rfl (hS.second 1 rfl) rfl rfl rfl (by simp [Value.oneCell']) (by omega) (by omega) ?_; clear hS; intro Ak capk wk hS; (try simp only [List.eraseIdx_cons_zero, List.eraseIdx_cons_succ, List.set_cons_zero, List.set_cons_succ] at hS); ((try clear hF); refine hfI ?_; intro hF)))
          go_roundw
          case rel =>
           exact ⟨j + 1, _, _, is ++ [k], rfl, by go_num, by omega, rfl, HI2, Lib.hid (by rw [List.length_append, HIL.out]; rfl), by rw [show intsV (is ++ [k]) = intsV is ++ [.int .i64 k] from List.map_append]; exact hS.sub (.cons₂ _ (.cons _ (.refl _)))⟩
          case measure => simp [intOf]; omega
         ·as_aux_lemma =>
          have hI2 : itemsE cs true ks (q.items.take (j + 1)) = (6, []) := by rw [HSQ.out, if_pos ⟨rfl, hf, hk⟩]
          have HRR := Lib.hid (show R = (6, [], []) by
           have := HPR.out (by rw [hI2]; simp)
           rw [this, hI2])
          have hd : decide (k ∈ ks) = false := decide_eq_false hk
          rw [hd] at HIC
          have hfl : (x.fn.toList == []) = true := by rw [hf, ByteArray.toList_eq]; rfl
          clear HSQ HPR hf hk hd hI2
          ((try clear hF); refine hfI ?_; intro hF)
          go_wp2_with (first | (refine hab ?_; (try clear hF); clear hS; intro wk hS; (try simp only [List.set_cons_zero, List.set_cons_succ, heap_size, heap_set_size] at hS); ((try clear hF); refine hfI ?_; intro hF)) | (go_at_call 77; (with_reducible refine (HP2.out _ hS.ext).mono ?_); rintro e wk ⟨rfl, hX⟩; replace hS := hS.step hX; clear hX; ((try clear hF); refine hfI ?_; intro hF)) | (go_at_call 78; (with_reducible refine (HIC.out _ (hS.riQ 2 rfl)).mono ?_); rintro e wk ⟨rfl, hX⟩; replace hS := hS.step hX; clear hX; ((try clear hF); refine hfI ?_; intro hF)))
          go_ret3
          rw [HRR.out]
          exact ⟨rfl, hS.ext⟩
        ·as_aux_lemma =>
         have HI2 := Lib.hid (show itemsE cs true ks (q.items.take (j + 1)) = (0, is ++ [k]) by rw [HSQ.out, if_neg (by simp [hf])])
         have hfl : (x.fn.toList == []) = false := str_ne hf
         clear HSQ HPR hf
         ((try clear hF); refine hfI ?_; intro hF)
         go_wp2_with (first | (refine hab ?_; (try clear hF); clear hS; intro wk hS; (try simp only [List.set_cons_zero, List.set_cons_succ, heap_size, heap_set_size] at hS); ((try clear hF); refine hfI ?_; intro hF)) | (go_at_call 77; (with_reducible refine (HP2.out _ hS.ext).mono ?_); rintro e wk ⟨rfl, hX⟩; replace hS := hS.step hX; clear hX; ((try clear hF); refine hfI ?_; intro hF)) | (go_at_call 78; (with_reducible refine (HIC.out _ (hS.riQ 2 rfl)).mono ?_); rintro e wk ⟨rfl, hX⟩; replace hS := hS.step hX; clear hX; ((try clear hF); refine hfI ?_; intro hF)) | (at_builtin; refine wpList_push_hp Tryz.elem_ints rfl (.tmp 72) (.tmp 74) rfl (hS.second 1 rfl) rfl rfl rfl (by simp [Value.oneCell']) (by omega) (by omega) ?_; clear hS; intro Ak capk wk hS; (try simp only [List.eraseIdx_cons_zero, List.eraseIdx_cons_succ, List.set_cons_zero, List.set_cons_succ] at hS); ((try clear hF); refine hfI ?_; intro hF)))
         go_roundw
         case rel =>
          exact ⟨j + 1, _, _, is ++ [k], rfl, by go_num, by omega, rfl, HI2, Lib.hid (by rw [List.length_append, HIL.out]; rfl), by rw [show intsV (is ++ [k]) = intsV is ++ [.int .i64 k] from List.map_append]; exact hS.sub (.cons₂ _ (.cons _ (.refl _)))⟩
         case measure => simp [intOf]; omega
      ·as_aux_lemma =>
       have HP2 := Lib.hid (fun (W : World) (hx : Ext w W) => show Calls Tryz.prog 77 #[.slice A n cap, .agg #[.string x.fn, .string x.col]] W fun e w' => e = .returned (.tuple #[.int .i64 k, .iface 101 (.int .i64 er)]) ∧ Ext W w' from by
        have := HP1.out W hx
        rwa [show errV er = .iface 101 (.int .i64 er) from if_neg he] at this)
       have hSN := HSN.out
       rw [if_pos he] at hSN
       have HRR := Lib.hid (show R = (er, [], []) by
        have := HPR.out (by rw [hSN]; exact he)
        rw [this, hSN])
       have HER := Lib.hid he
       clear HP1 HSN hSN HPR he
       ((try clear hF); refine hfI ?_; intro hF)
       go_wp2_with (first | (refine hab ?_; (try clear hF); clear hS; intro wk hS; (try simp only [List.set_cons_zero, List.set_cons_succ, heap_size, heap_set_size] at hS); ((try clear hF); refine hfI ?_; intro hF)) | (go_at_call 77; (with_reducible refine (HP2.out _ hS.ext).mono ?_); rintro e wk ⟨rfl, hX⟩; replace hS := hS.step hX; clear hX; ((try clear hF); refine hfI ?_; intro hF)))
       go_ret3
       rw [HRR.out]
       unfold PlanRes
       rw [if_neg HER.out]
       exact ⟨rfl, hS.ext⟩
     ·as_aux_lemma =>
      obtain rfl : im = j := by omega
      have HIT2 := Lib.hid (show itemsE cs sm ks q.items = (0, is) by
       have h1 := HIT.out
       rwa [show q.items.take im = q.items by rw [← HML.out, List.take_length]] at h1)
      have HRR := Lib.hid (show R = (0, is, ks) by rw [HRS.out, HIT2.out, if_neg (by simp)])
      ((try clear hF); refine hfI ?_; intro hF)
      go_wp2_with (first | (refine hab ?_; (try clear hF); clear hS; intro wk hS; (try simp only [List.set_cons_zero, List.set_cons_succ, heap_size, heap_set_size] at hS); ((try clear hF); refine hfI ?_; intro hF)) | fail)
      go_ret3
      rw [HRR.out]
      unfold PlanRes
      rw [if_pos rfl]
      exact ⟨A2, im, c2, A', bn, c', rfl, Lib.hid ⟨HIL.out, HKL.out⟩, hS.sub (.cons₂ _ (.cons₂ _ (.cons _ (.refl _))))⟩
end Go.Proofs.YtlaldfkeaalnhaaGreatDoor
