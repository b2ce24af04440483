/- query: key, sum, place. -/
import Derived.Test.YtlaldfkeaalnhaaGreatDoorQA11
import Derived.Test.YtlaldfkeaalnhaaGreatDoorQA04
import Derived.Test.YtlaldfkeaalnhaaGreatDoorQA10
import Derived.Test.YtlaldfkeaalnhaaGreatDoorQA05
namespace Go.Proofs.YtlaldfkeaalnhaaGreatDoor
set_option linter.unusedSimpArgs false
set_option linter.unusedVariables false
open Go.RowKit
set_option linter.all false
set_option maxRecDepth 100000 in
set_option maxHeartbeats 8000000 in
theorem qkey_any (r : List GV) (A : Option Addr) (n cap : Nat) (ks : List Int) (Ab : Option Addr) (m cb : Nat) (w : World) (hn : r.length = n) (hm : ks.length = m) (hr : RV w A r) (hb : RI w Ab ks) (hl : n ≤ 1000) (hl2 : m ≤ 1000) (hk : ∀ k ∈ ks, 0 ≤ k ∧ k < n) :
    Calls Tryz.prog 49 #[.slice A n cap, .slice Ab m cb] w fun e w' => ∃ A' c', e = .returned (.slice A' m c') ∧ Hp w.heap.size w w' [.row 29 3 A' m c' (cellsV (keyR ks r))] := by
  have Hn := Lib.hid hn
  have Hm := Lib.hid hm
  have HK := Lib.hid hk
  clear hn hm hk
  have hS := Hp.init w
  have hR := Reads.nil w
  go_enter Tryz.func49, Tryz.ntmps49
  go_wp2_with (first | (refine hab ?_; (try clear hF); clear hS; intro wk hS; (try simp only [List.set_cons_zero, List.set_cons_succ, heap_size, heap_set_size] at hS); ((try clear hF); refine hfI ?_; intro hF)) | fail)
  replace hS := hS.nilRow 29 3
  go_loopw [5, 7, 10] (fun lv _ i wr => ∃ (j : Nat) (A' : Option Addr) (c' : Nat), i = .int .i64 j ∧ j ≤ m ∧ lv = .slice A' j c' ∧ Hp w.heap.size w wr [.row 29 3 A' j c' (cellsV (keyR (ks.take j) r))]) (fun _ _ i _ => m - (intOf i).toNat)
  case atStart => exact ⟨0, none, 0, rfl, Nat.zero_le _, rfl, hS⟩
  case round =>
    clear hS
    obtain ⟨j, A', c', rfl, hj, rfl, hS⟩ := hrel
    by_cases hlt : j < m
    · obtain ⟨k, hk'⟩ : ∃ x, ks[j]? = some x := ⟨ks[j]'(by rw [Hm.out]; exact hlt), List.getElem?_eq_getElem _⟩
      obtain ⟨b, o, rfl, h0⟩ := hb j k hk'
      obtain ⟨hk0, hkn⟩ := HK.out k (List.mem_of_getElem? hk')
      obtain ⟨q, rfl⟩ : ∃ q : Nat, k = (q : Int) := ⟨k.toNat, by omega⟩
      have hqn : q < n := by omega
      obtain ⟨v, hv⟩ : ∃ v, r[q]? = some v := ⟨r[q]'(by rw [Hn.out]; exact hqn), List.getElem?_eq_getElem _⟩
      obtain ⟨b1, o1, rfl, d0, d1, d2⟩ := hr q v hv
      have hR := Reads.cell h0 (Reads.cell d0 (Reads.cell d1 (Reads.cell d2 (Reads.nil w))))
      have HT := Lib.hid (show keyR (ks.take (j + 1)) r = keyR (ks.take j) r ++ [v] by
        unfold keyR
        rw [List.take_add_one, hk', List.map_append]
        simp [atR, hv])
      clear hk' hv h0 d0 d1 d2 hr hb hk0 hkn
      ((try clear hF); refine hfI ?_; intro hF)
      go_wp2_with (first | (refine hab ?_; (try clear hF); clear hS; intro wk hS; (try simp only [List.set_cons_zero, List.set_cons_succ, heap_size, heap_set_size] at hS); ((try clear hF); refine hfI ?_; intro hF)) | (at_builtin; refine wpList_push_hp Tryz.elem_vals rfl (.tmp 14) (.tmp 19) rfl (hS.second 0 rfl) rfl rfl rfl (by simp [Value.oneCell']) (by omega) (by omega) ?_; clear hS; intro Ak capk wk hS; (try simp only [List.eraseIdx_cons_zero, List.eraseIdx_cons_succ, List.set_cons_zero, List.set_cons_succ] at hS); ((try clear hF); refine hfI ?_; intro hF)))
      go_roundw
      case rel =>
        refine ⟨j + 1, _, _, by go_num, by omega, rfl, ?_⟩
        rw [HT.out, cellsV_append]
        exact hS
      case measure => simp [intOf]; omega
    · obtain rfl : m = j := by omega
      ((try clear hF); refine hfI ?_; intro hF)
      go_wp2_with (first | (refine hab ?_; (try clear hF); clear hS; intro wk hS; (try simp only [List.set_cons_zero, List.set_cons_succ, heap_size, heap_set_size] at hS); ((try clear hF); refine hfI ?_; intro hF)) | fail)
      go_ret
      refine ⟨A', c', rfl, ?_⟩
      rw [show ks.take m = ks by rw [← Hm.out, List.take_length]] at hS
      exact hS
theorem sumG_take {l : List GV} {j : Nat} {v : GV} (h : l[j]? = some v) : sumG (l.take (j + 1)) = sumStep (sumG (l.take j)) v := by
  unfold sumG
  rw [List.take_add_one, h]
  simp
set_option maxRecDepth 100000 in
set_option maxHeartbeats 8000000 in
theorem qsum_any (l : List GV) (A : Option Addr) (n cap : Nat) (w : World) (hn : l.length = n) (hr : RV w A l) (hl : n ≤ 1000000) :
    Calls Tryz.prog 81 #[.slice A n cap] w fun e w' => e = .returned (.agg #[.int .i64 (sumG l).kind, .int .i64 (sumG l).num, .string (sumG l).text]) ∧ Ext w w' := by
  have Hn := Lib.hid hn
  clear hn
  have hS := Hp.init w
  have hR := Reads.nil w
  go_enter Tryz.func81, Tryz.ntmps81
  go_wp2_with (first | (refine hab ?_; (try clear hF); clear hS; intro wk hS; (try simp only [List.set_cons_zero, List.set_cons_succ, heap_size, heap_set_size] at hS); ((try clear hF); refine hfI ?_; intro hF)) | fail)
  obtain ⟨g3, hg3⟩ := hS.named
  rw [← hg3] at hS hF ⊢
  clear hg3
  go_loopw [5, 9] (fun _ i wr => ∃ (j : Nat), i = .int .i64 j ∧ j ≤ n ∧ Hp w.heap.size w wr [.blk g3 [.int .i64 (sumG (l.take j)).kind, .int .i64 (sumG (l.take j)).num, .string (sumG (l.take j)).text] 29, .blk w.heap.size [.int .i64 0, .int .i64 0, .string ⟨#[]⟩] 29]) (fun _ i _ => n - (intOf i).toNat)
  case atStart => exact ⟨0, rfl, Nat.zero_le _, hS⟩
  case round =>
    clear hS
    obtain ⟨j, rfl, hj, hS⟩ := hrel
    by_cases hlt : j < n
    · obtain ⟨v, hv⟩ : ∃ v, l[j]? = some v := ⟨l[j]'(by rw [Hn.out]; exact hlt), List.getElem?_eq_getElem _⟩
      obtain ⟨b1, o1, rfl, d0, d1, d2⟩ := hr j v hv
      have hR := Reads.cell d0 (Reads.cell d1 (Reads.cell d2 (Reads.nil w)))
      have HT := Lib.hid (sumG_take hv)
      obtain ⟨s, hs⟩ : ∃ s, s = sumG (l.take j) := ⟨_, rfl⟩
      rw [← hs] at hS HT
      clear hv d0 d1 d2 hr hs
      by_cases hk : v.kind = 1
      · have HT2 := Lib.hid (show sumG (l.take (j + 1)) = ⟨1, wrap64 (s.num + v.num), s.text⟩ by rw [HT.out, sumStep, if_pos hk])
        have hkb : (v.kind == 1) = true := by simp [hk]
        clear hk
        ((try clear hF); refine hfI ?_; intro hF)
        go_wp2_with (first | (refine hab ?_; (try clear hF); clear hS; intro wk hS; (try simp only [List.set_cons_zero, List.set_cons_succ, heap_size, heap_set_size] at hS); ((try clear hF); refine hfI ?_; intro hF)) | fail)
        go_roundw
        case rel =>
          refine ⟨j + 1, by go_num, by omega, ?_⟩
          rw [HT2.out]
          exact hS.tail
        case measure => simp [intOf]; omega
      · have HT2 := Lib.hid (show sumG (l.take (j + 1)) = s by rw [HT.out, sumStep, if_neg hk])
        have hkb : (v.kind == 1) = false := by simp [hk]
        clear hk
        ((try clear hF); refine hfI ?_; intro hF)
        go_wp2_with (first | (refine hab ?_; (try clear hF); clear hS; intro wk hS; (try simp only [List.set_cons_zero, List.set_cons_succ, heap_size, heap_set_size] at hS); ((try clear hF); refine hfI ?_; intro hF)) | fail)
        go_roundw
        case rel =>
          refine ⟨j + 1, by go_num, by omega, ?_⟩
          rw [HT2.out]
          exact hS.tail
        case measure => simp [intOf]; omega
    · obtain rfl : n = j := by omega
      have HT := Lib.hid (show l.take n = l by rw [← Hn.out, List.take_length])
      ((try clear hF); refine hfI ?_; intro hF)
      go_wp2_with (first | (refine hab ?_; (try clear hF); clear hS; intro wk hS; (try simp only [List.set_cons_zero, List.set_cons_succ, heap_size, heap_set_size] at hS); ((try clear hF); refine hfI ?_; intro hF)) | fail)
      refine bodyPost_ret (v := .agg #[.int .i64 (sumG (l.take n)).kind, .int .i64 (sumG (l.take n)).num, .string (sumG (l.take n)).text]) (by simp [results, Tryz.results81, go_sem, hF]) rfl ⟨by rw [HT.out], hS.ext⟩
set_option maxRecDepth 100000 in
set_option maxHeartbeats 8000000 in
theorem place_any (cs : List CG) (A : Option Addr) (n cap : Nat) (x : IT) (w : World) (hn : cs.length = n) (hr : RC w A cs) (hl : n ≤ 1000) :
    Calls Tryz.prog 77 #[.slice A n cap, .agg #[.string x.fn, .string x.col]] w fun e w' => e = .returned (.tuple #[.int .i64 (placeE cs x).1, errV (placeE cs x).2]) ∧ Ext w w' := by
  have Hn := Lib.hid hn
  have HFI := Lib.hid (fun (W : World) (hx : Ext w W) => show Calls Tryz.prog 75 #[.slice A n cap, .string x.col] W fun e w' => e = .returned (.int .i64 (idxC (nmEq x.col) 0 cs)) ∧ Ext W w' from by
    have := find_any cs A cap x.col W (hr.ext hx) (by omega)
    rw [hn] at this
    exact this)
  obtain ⟨fn, col⟩ := x
  obtain ⟨E, hE⟩ : ∃ E, E = placeE cs ⟨fn, col⟩ := ⟨_, rfl⟩
  rw [← hE]
  unfold placeE at hE
  simp only at hE HFI
  have hS := Hp.init w
  have hR := Reads.nil w
  clear hn
  by_cases hst : col = starS
  · rw [if_pos hst] at hE
    subst hst hE
    clear HFI hr
    unfold starS
    go_enter Tryz.func77, Tryz.ntmps77
    go_wp2_with (first | (refine hab ?_; (try clear hF); clear hS; intro wk hS; (try simp only [List.set_cons_zero, List.set_cons_succ, heap_size, heap_set_size] at hS); ((try clear hF); refine hfI ?_; intro hF)) | fail)
    go_ret2
    exact ⟨rfl, hS.ext⟩
  · rw [if_neg hst] at hE
    have hcl : (col.toList == [42]) = false := str_ne hst
    clear hst
    obtain ⟨k, hk⟩ : ∃ k, k = idxC (nmEq col) 0 cs := ⟨_, rfl⟩
    rw [← hk] at hE HFI
    have HKK := Lib.hid hk
    clear hk
    by_cases hk0 : k < 0
    · rw [if_pos hk0] at hE
      subst hE
      clear hr
      go_enter Tryz.func77, Tryz.ntmps77
      go_wp2_with (first | (refine hab ?_; (try clear hF); clear hS; intro wk hS; (try simp only [List.set_cons_zero, List.set_cons_succ, heap_size, heap_set_size] at hS); ((try clear hF); refine hfI ?_; intro hF)) | (go_at_call 75; (with_reducible refine (HFI.out _ hS.ext).mono ?_); rintro e wk ⟨rfl, hX⟩; replace hS := hS.step hX; clear hX; ((try clear hF); refine hfI ?_; intro hF)))
      go_ret2
      exact ⟨rfl, hS.ext⟩
    · rw [if_neg hk0] at hE
      obtain ⟨q, c, rfl, hc⟩ : ∃ (q : Nat) (c : CG), k = (q : Int) ∧ cs[q]? = some c := by
        obtain ⟨q, c, h1, h2, _⟩ := idxQ_some (nmEq col) cs 0 (by rw [← HKK.out]; omega)
        exact ⟨q, c, by rw [HKK.out, h1]; simp, h2⟩
      rw [Int.toNat_natCast, hc] at hE
      simp only at hE
      have hqn : q < n := by rw [← Hn.out]; exact (List.getElem?_eq_some_iff.1 hc).1
      obtain ⟨b, o, rfl, c0, c1, c2, c3, c4, c5, c6⟩ := hr q c hc
      have hR := Reads.cell c2 (Reads.nil w)
      clear hk0 hc c0 c1 c2 c3 c4 c5 c6 hr HKK
      by_cases hsm : fn = sumS
      · subst hsm
        by_cases hki : c.kind = 1
        · rw [if_neg (by simp [hki])] at hE
          subst hE
          have hkb : (c.kind != 1) = false := by simp [hki]
          clear hki
          unfold sumS
          ((try clear hF); refine hfI ?_; intro hF)
          go_enter Tryz.func77, Tryz.ntmps77
          go_wp2_with (first | (refine hab ?_; (try clear hF); clear hS; intro wk hS; (try simp only [List.set_cons_zero, List.set_cons_succ, heap_size, heap_set_size] at hS); ((try clear hF); refine hfI ?_; intro hF)) | (go_at_call 75; (with_reducible refine (HFI.out _ hS.ext).mono ?_); rintro e wk ⟨rfl, hX⟩; replace hS := hS.step hX; clear hX; ((try clear hF); refine hfI ?_; intro hF)))
          go_ret2
          exact ⟨rfl, hS.ext⟩
        · rw [if_pos ⟨rfl, hki⟩] at hE
          subst hE
          have hkb : (c.kind != 1) = true := by simp [hki]
          clear hki
          unfold sumS
          ((try clear hF); refine hfI ?_; intro hF)
          go_enter Tryz.func77, Tryz.ntmps77
          go_wp2_with (first | (refine hab ?_; (try clear hF); clear hS; intro wk hS; (try simp only [List.set_cons_zero, List.set_cons_succ, heap_size, heap_set_size] at hS); ((try clear hF); refine hfI ?_; intro hF)) | (go_at_call 75; (with_reducible refine (HFI.out _ hS.ext).mono ?_); rintro e wk ⟨rfl, hX⟩; replace hS := hS.step hX; clear hX; ((try clear hF); refine hfI ?_; intro hF)))
          go_ret2
          exact ⟨rfl, hS.ext⟩
      · rw [if_neg (by simp [hsm])] at hE
        subst hE
        have hsl : (fn.toList == [115, 117, 109]) = false := str_ne hsm
        clear hsm
        ((try clear hF); refine hfI ?_; intro hF)
        go_enter Tryz.func77, Tryz.ntmps77
        go_wp2_with (first | (refine hab ?_; (try clear hF); clear hS; intro wk hS; (try simp only [List.set_cons_zero, List.set_cons_succ, heap_size, heap_set_size] at hS); ((try clear hF); refine hfI ?_; intro hF)) | (go_at_call 75; (with_reducible refine (HFI.out _ hS.ext).mono ?_); rintro e wk ⟨rfl, hX⟩; replace hS := hS.step hX; clear hX; ((try clear hF); refine hfI ?_; intro hF)))
        go_ret2
        exact ⟨rfl, hS.ext⟩
set_option maxRecDepth 100000 in
set_option maxHeartbeats 8000000 in
theorem qof_any (x : IT) (k : Int) (rs : List (List GV)) (A : Option Addr) (n cap : Nat) (w : World) (hn : rs.length = n) (hl : n ≤ 1000) (hr : RR w A rs) (hk : ∀ r ∈ rs, k < r.length) (hk0 : -1 ≤ k) (hne : k < 0 ∨ rs ≠ [] ∨ x.fn = countS ∨ x.fn = minS ∨ x.fn = maxS ∨ x.fn = sumS) :
    Calls Tryz.prog 51 #[.agg #[.string x.fn, .string x.col], .int .i64 k, .slice A n cap] w fun e w' => e = .returned (.agg #[.int .i64 (ofQ x k rs).kind, .int .i64 (ofQ x k rs).num, .string (ofQ x k rs).text]) ∧ Ext w w' := by
  have Hn := Lib.hid hn
  have HK := Lib.hid hk
  clear hk
  obtain ⟨fn, col⟩ := x
  obtain ⟨E, hE⟩ : ∃ E, E = ofQ ⟨fn, col⟩ k rs := ⟨_, rfl⟩
  rw [← hE]
  unfold ofQ at hE
  simp only at hE hne
  have hS := Hp.init w
  have hR := Reads.nil w
  by_cases hk1 : k < 0
  · rw [if_pos hk1, hn] at hE
    subst hE
    clear hn hr hne
    go_enter Tryz.func51, Tryz.ntmps51
    go_wp2_with (first | (refine hab ?_; (try clear hF); clear hS; intro wk hS; (try simp only [List.set_cons_zero, List.set_cons_succ, heap_size, heap_set_size] at hS); ((try clear hF); refine hfI ?_; intro hF)) | fail)
    refine bodyPost_ret (v := .agg #[.int .i64 1, .int .i64 n, .string noS]) (by simp [results, Tryz.results51, go_sem, hF, noS]) rfl ⟨rfl, hS.ext⟩
  rw [if_neg hk1] at hE
  obtain ⟨q, rfl⟩ : ∃ q : Nat, k = (q : Int) := ⟨k.toNat, by omega⟩
  obtain ⟨l, hle⟩ : ∃ l, l = rs.map fun r => atR r (q : Int) := ⟨_, rfl⟩
  rw [← hle] at hE
  have hll : l.length = n := by rw [hle, List.length_map, hn]
  have HLE := Lib.hid hle
  obtain ⟨s, hs⟩ : ∃ s, s = ofS l := ⟨_, rfl⟩
  rw [← hs] at hE
  have HOF := Lib.hid (fun (W : World) (A1 : Option Addr) (c1 : Nat) (h : RV W A1 l) => show Calls Tryz.prog 13 #[.slice A1 n c1] W fun e w' => e = .returned (.agg #[.int .i64 s.count, .int .i64 s.nulls, .int .i64 s.mn.kind, .int .i64 s.mn.num, .string s.mn.text, .int .i64 s.mx.kind, .int .i64 s.mx.num, .string s.mx.text]) ∧ Ext W w' from by
    have := of_any l A1 c1 W h (by omega)
    rw [hll, ← hs] at this
    exact this)
  have hcw : IntKind.i64.wrap (s.count - s.nulls) = s.count - s.nulls := IntWalk.i64_in _ (by
    have h1 := (know_of l).count
    have h2 := (know_of l).nulls
    have h3 := List.length_filter_le (fun v : GV => decide (v.kind = 0)) l
    rw [← hs] at h1 h2
    omega)
  clear hs
  have HSM := Lib.hid (fun (W : World) (A1 : Option Addr) (c1 : Nat) (h : RV W A1 l) => qsum_any l A1 n c1 W hll h (by omega))
  have HLN := Lib.hid hll
  clear hn hle hll hk1
  go_enter Tryz.func51, Tryz.ntmps51
  go_wp2_with (first | (refine hab ?_; (try clear hF); clear hS; intro wk hS; (try simp only [List.set_cons_zero, List.set_cons_succ, heap_size, heap_set_size] at hS); ((try clear hF); refine hfI ?_; intro hF)) | fail)
  replace hS := hS.nilRow 29 3
  obtain ⟨g6, hg6⟩ := (hS.front 1 rfl).named
  rw [← hg6] at hS hF ⊢
  clear hg6
  go_loopw [7, 9, 18] (fun lv _ i wr => ∃ (j : Nat) (A' : Option Addr) (c' : Nat), i = .int .i64 j ∧ j ≤ n ∧ lv = .slice A' j c' ∧ Hp w.heap.size w wr [.row 29 3 A' j c' (cellsV (l.take j)), .blk g6 [.int .i64 0, .int .i64 0, .string ⟨#[]⟩] 29, .blk w.heap.size [.string fn, .string col] 79]) (fun _ _ i _ => n - (intOf i).toNat)
  case atStart => exact ⟨0, none, 0, rfl, Nat.zero_le _, rfl, hS⟩
  case round =>
    clear hS
    obtain ⟨j, A', c', rfl, hj, rfl, hS⟩ := hrel
    by_cases hlt : j < n
    · as_aux_lemma =>
      obtain ⟨r, hr'⟩ : ∃ x, rs[j]? = some x := ⟨rs[j]'(by rw [Hn.out]; exact hlt), List.getElem?_eq_getElem _⟩
      obtain ⟨b, o, A1, c1, rfl, h0, h1⟩ := hr j r hr'
      have hkr : q < r.length := by have := HK.out r (List.mem_of_getElem? hr'); omega
      obtain ⟨v, hv⟩ : ∃ v, r[q]? = some v := ⟨r[q], List.getElem?_eq_getElem hkr⟩
      obtain ⟨b1, o1, rfl, d0, d1, d2⟩ := h1 q v hv
      have hR := Reads.cell h0 (Reads.cell d0 (Reads.cell d1 (Reads.cell d2 (Reads.nil w))))
      have HT := Lib.hid (show l.take (j + 1) = l.take j ++ [v] by
        rw [List.take_add_one]
        have : l[j]? = some v := by rw [HLE.out, List.getElem?_map, hr']; simp [atR, hv]
        rw [this]
        rfl)
      obtain ⟨z, hz⟩ : ∃ z, z = r.length := ⟨_, rfl⟩
      rw [← hz] at hkr hR
      clear hz hr' hv h0 h1 d0 d1 d2 hr
      ((try clear hF); refine hfI ?_; intro hF)
      go_wp2_with (first | (refine hab ?_; (try clear hF); clear hS; intro wk hS; (try simp only [List.set_cons_zero, List.set_cons_succ, heap_size, heap_set_size] at hS); ((try clear hF); refine hfI ?_; intro hF)) | (at_builtin; refine wpList_push_hp Tryz.elem_vals rfl (.tmp 22) (.tmp 27) rfl (hS.second 0 rfl) rfl rfl rfl (by simp [Value.oneCell']) (by omega) (by omega) ?_; clear hS; intro Ak capk wk hS; (try simp only [List.eraseIdx_cons_zero, List.eraseIdx_cons_succ, List.set_cons_zero, List.set_cons_succ] at hS); ((try clear hF); refine hfI ?_; intro hF)))
      go_roundw
      case rel =>
        refine ⟨j + 1, _, _, by go_num, by omega, rfl, ?_⟩
        rw [HT.out, cellsV_append]
        exact hS
      case measure => simp [intOf]; omega
    · obtain rfl : n = j := by omega
      rw [show l.take n = l by rw [← HLN.out, List.take_length]] at hS
      clear hlt
      ((try clear hF); refine hfI ?_; intro hF)
      go_upto_region 10 with (first | (refine hab ?_; (try clear hF); clear hS; intro wk hS; (try simp only [List.set_cons_zero, List.set_cons_succ, heap_size, heap_set_size] at hS); ((try clear hF); refine hfI ?_; intro hF)) | (go_at_call 13; (with_reducible refine (HOF.out _ _ _ (hS.rv 0 rfl)).mono ?_); rintro e wk ⟨rfl, hX⟩; replace hS := hS.step hX; clear hX; ((try clear hF); refine hfI ?_; intro hF)))
      by_cases f1 : fn = countS
      · rw [if_pos f1] at hE
        subst f1 hE
        try unfold countS at hS
        try unfold countS
        ((try clear hF); refine hfI ?_; intro hF)
        go_wp2_with (first | (refine hab ?_; (try clear hF); clear hS; intro wk hS; (try simp only [List.set_cons_zero, List.set_cons_succ, heap_size, heap_set_size] at hS); ((try clear hF); refine hfI ?_; intro hF)) | fail)
        refine bodyPost_ret (v := .agg #[.int .i64 1, .int .i64 (s.count - s.nulls), .string noS]) (by simp [results, Tryz.results51, go_sem, hF, noS]) rfl ⟨rfl, hS.ext⟩
      rw [if_neg f1] at hE
      have q1 : (fn.toList == [99, 111, 117, 110, 116]) = false := str_ne f1
      by_cases f2 : fn = minS
      · rw [if_pos f2] at hE
        subst f2 hE
        try unfold minS at hS
        try unfold minS
        ((try clear hF); refine hfI ?_; intro hF)
        go_wp2_with (first | (refine hab ?_; (try clear hF); clear hS; intro wk hS; (try simp only [List.set_cons_zero, List.set_cons_succ, heap_size, heap_set_size] at hS); ((try clear hF); refine hfI ?_; intro hF)) | fail)
        refine bodyPost_ret (v := .agg #[.int .i64 s.mn.kind, .int .i64 s.mn.num, .string s.mn.text]) (by simp [results, Tryz.results51, go_sem, hF]) rfl ⟨rfl, hS.ext⟩
      rw [if_neg f2] at hE
      have q2 : (fn.toList == [109, 105, 110]) = false := str_ne f2
      by_cases f3 : fn = maxS
      · rw [if_pos f3] at hE
        subst f3 hE
        try unfold maxS at hS
        try unfold maxS
        ((try clear hF); refine hfI ?_; intro hF)
        go_wp2_with (first | (refine hab ?_; (try clear hF); clear hS; intro wk hS; (try simp only [List.set_cons_zero, List.set_cons_succ, heap_size, heap_set_size] at hS); ((try clear hF); refine hfI ?_; intro hF)) | fail)
        refine bodyPost_ret (v := .agg #[.int .i64 s.mx.kind, .int .i64 s.mx.num, .string s.mx.text]) (by simp [results, Tryz.results51, go_sem, hF]) rfl ⟨rfl, hS.ext⟩
      rw [if_neg f3] at hE
      have q3 : (fn.toList == [109, 97, 120]) = false := str_ne f3
      by_cases f4 : fn = sumS
      · rw [if_pos f4] at hE
        subst f4 hE
        try unfold sumS at hS
        try unfold sumS
        ((try clear hF); refine hfI ?_; intro hF)
        go_wp2_with (first | (refine hab ?_; (try clear hF); clear hS; intro wk hS; (try simp only [List.set_cons_zero, List.set_cons_succ, heap_size, heap_set_size] at hS); ((try clear hF); refine hfI ?_; intro hF)) | (go_at_call 81; (with_reducible refine (HSM.out _ _ _ (hS.rv 1 rfl)).mono ?_); rintro e wk ⟨rfl, hX⟩; replace hS := hS.step hX; clear hX; ((try clear hF); refine hfI ?_; intro hF)))
        refine bodyPost_ret (v := .agg #[.int .i64 (sumG l).kind, .int .i64 (sumG l).num, .string (sumG l).text]) (by simp [results, Tryz.results51, go_sem, hF]) rfl ⟨rfl, hS.ext⟩
      rw [if_neg f4] at hE
      have q4 : (fn.toList == [115, 117, 109]) = false := str_ne f4
      have hne2 : rs ≠ [] := by
        rcases hne with h | h | h | h | h | h
        · omega
        · exact h
        · exact absurd h f1
        · exact absurd h f2
        · exact absurd h f3
        · exact absurd h f4
      have hn1 : 0 < n := by rw [← Hn.out]; exact List.length_pos_iff.2 hne2
      obtain ⟨v, hv⟩ : ∃ v, l[0]? = some v := ⟨l[0]'(by rw [HLN.out]; exact hn1), List.getElem?_eq_getElem _⟩
      have hEv : E = v := by
        rw [hE]
        cases l with
        | nil => simp at hv
        | cons a l => simpa using hv
      subst hEv
      have HX := Lib.hid (fun (W : World) (B : Nat) (L : List Item) (a : Item) (h : Hp B w W (a :: .row 29 3 A' n c' (cellsV l) :: L)) => h.rv 1 rfl 0 E hv)
      clear hne hne2 f1 f2 f3 f4 hE hv
      obtain ⟨b1, o1, hA1, d0, d1, d2⟩ := HX.out _ _ _ _ hS
      subst hA1
      rw [Nat.zero_mul, Nat.add_zero] at d0 d1 d2
      have hR := Reads.nil w
      go_wp2_with (first | (refine hab ?_; (try clear hF); clear hS; intro wk hS; (try simp only [List.set_cons_zero, List.set_cons_succ, heap_size, heap_set_size] at hS); ((try clear hF); refine hfI ?_; intro hF)) | fail)
      refine bodyPost_ret (v := .agg #[.int .i64 E.kind, .int .i64 E.num, .string E.text]) (by simp [results, Tryz.results51, go_sem, hF]) rfl ⟨rfl, hS.ext⟩
end Go.Proofs.YtlaldfkeaalnhaaGreatDoor
