/- Texts joined: millpondkeep.all, same: all rows of a file; two lists of rows. what Make makes is right: in plain words. what is read of what Make made: in plain words. millpondkeep.filed: a fact. of a group of which a condition may not hold no row holds it: in plain words. -/
import Derived.Test.YtcpllhjhnfmepaaGreatDoorFW29
import Derived.Test.YtcpllhjhnfmepaaGreatDoorFW27
import Derived.Test.YtcpllhjhnfmepaaGreatDoorFW22
import Derived.Test.YtcpllhjhnfmepaaGreatDoorFW15
import Derived.Test.YtcpllhjhnfmepaaGreatDoorFW26
import Derived.Test.YtcpllhjhnfmepaaGreatDoorFW30
import Derived.Test.YtcpllhjhnfmepaaGreatDoorFW28
import Derived.Test.YtcpllhjhnfmepaaGreatDoorFW01
import Derived.Test.YtcpllhjhnfmepaaGreatDoorFW10
/- millpondkeep.all, same: all rows of a file; two lists of rows. -/
namespace Go.Proofs.YtcpllhjhnfmepaaGreatDoor
set_option linter.unusedSimpArgs false
set_option linter.unusedVariables false
open Go.RowKit
set_option linter.all false
/-- the cells read as rows, as long as the things of K stand -/
structure RBuilt (K : List Item) (cells : List Value) (rs : List (List GV)) : Prop where
  len : cells.length = rs.length
  one : ∀ (i : Nat) (r : List GV), rs[i]? = some r → ∃ (A : Option Addr) (c : Nat), cells[i]? = some (.slice A r.length c) ∧ ∀ (B : Nat) (w : World), (∀ x ∈ K, x.at B w) → RV w A r
theorem RBuilt.nil (K : List Item) : RBuilt K [] [] := ⟨rfl, fun i r h => by simp at h⟩
theorem RBuilt.more {K M : List Item} {cells : List Value} {rs : List (List GV)} (h : RBuilt K cells rs) (hs : ∀ x ∈ K, x ∈ M) : RBuilt M cells rs :=
  ⟨h.len, fun i r hi => by
    obtain ⟨A, c, h0, h1⟩ := h.one i r hi
    exact ⟨A, c, h0, fun B w hM => h1 B w fun x hx => hM x (hs x hx)⟩⟩
theorem RBuilt.append {K : List Item} {cells cells2 : List Value} {rs rs2 : List (List GV)} (h : RBuilt K cells rs) (h2 : RBuilt K cells2 rs2) : RBuilt K (cells ++ cells2) (rs ++ rs2) :=
  ⟨by rw [List.length_append, List.length_append, h.len, h2.len], fun i r hi => by
    have hl := h.len
    rcases Nat.lt_or_ge i rs.length with hlt | hge
    · rw [List.getElem?_append_left hlt] at hi
      obtain ⟨A, c, h0, h1⟩ := h.one i r hi
      exact ⟨A, c, by rw [List.getElem?_append_left (by omega)]; exact h0, h1⟩
    · rw [List.getElem?_append_right hge] at hi
      obtain ⟨A, c, h0, h1⟩ := h2.one _ r hi
      exact ⟨A, c, by rw [List.getElem?_append_right (by omega), hl]; exact h0, h1⟩⟩
theorem RBuilt.rows (xs : List Mx) : RBuilt (xs.map rowI) (xs.map hdV) (xs.map (·.2.2)) :=
  ⟨by rw [List.length_map, List.length_map], fun i r hi => by
    rw [List.getElem?_map] at hi
    cases hx : xs[i]? with
    | none => rw [hx] at hi; cases hi
    | some x =>
      rw [hx] at hi
      obtain rfl : x.2.2 = r := by simpa using hi
      exact ⟨x.1, x.2.1, by rw [List.getElem?_map, hx]; rfl, fun B w hK => (hp_of_at (hK (rowI x) (List.mem_map.2 ⟨x, List.mem_of_getElem? hx, rfl⟩))).rv 0 rfl⟩⟩
theorem Hp.rrb {B : Nat} {w0 w : World} {L K : List Item} {A : Option Addr} {cap n : Nat} {cells : List Value} {rs : List (List GV)} (h : Hp B w0 w L) (i : Nat) (hi : L[i]? = some (.row 57 1 A n cap cells)) (hK : ∀ x ∈ K, x ∈ L) (hg : RBuilt K cells rs) : RR w A rs := fun j r hj => by
  obtain ⟨A1, c1, h0, h1⟩ := hg.one j r hj
  obtain ⟨g0, e0, c0, _⟩ := h.rowCell i hi h0
  subst e0
  exact ⟨g0, 0, A1, c1, rfl, by simpa using c0, h1 B w fun x hx => h.own x (hK x hx)⟩
structure FFine (f : FG) : Prop where
  c : f.cols.length ≤ 1000
  n : f.groups.length ≤ 1000
  g : ∀ g ∈ f.groups, 0 ≤ g.rows ∧ g.rows ≤ 60 ∧ g.bytes.length = f.cols.length ∧ g.stats.length = f.cols.length ∧ ∀ b ∈ g.bytes, b.size ≤ 100000
end Go.Proofs.YtcpllhjhnfmepaaGreatDoor

/- what Make makes is right: in plain words. -/
namespace Go.Proofs.YtcpllhjhnfmepaaGreatDoor
set_option linter.unusedSimpArgs false
set_option linter.unusedVariables false
open Go.RowKit
set_option linter.all false
open Go.Lib (uvarint zigzag)
theorem write_len6 (way : Nat) {l : List GV} (hl : l.length ≤ 6) (hg : GoodL l) : (writeS way l).length ≤ 500 := by
  unfold writeS
  split
  · have := flat_len (f := encV) (c := 50) l (fun y hy => encV_len (hg y hy)); omega
  · split
    · have := runs_len l (by omega) hg; omega
    · split
      · have := words_len (l := l) (by omega) hg; omega
      · split
        · have := steps_len l 0; omega
        · simp
theorem encOut_len' {kind : Int} {l : List GV} (h : encErr kind l = 0) (hi : ∀ x ∈ l, i64 x.num) (h6 : l.length ≤ 6) : (encOut kind l).length ≤ 700 ∧ 0 < (encOut kind l).length := by
  obtain ⟨hk, hb, hl⟩ := encErr_zero h
  obtain ⟨wy, bl, hbk, hbq⟩ := bestK_eq kind hk (someS l) 4 (by omega)
  obtain ⟨m, rfl, hm, rfl, hm3⟩ := hbq (by omega)
  have h1 := Lib.uvarint_length64 (x := l.length) (by omega)
  have h2 := bitsS_len l
  have hsl := some_len l
  have h3 := write_len6 m (l := someS l) (by omega) (fun x hx => good_of hi hb x (List.mem_filter.1 hx).1)
  unfold encOut
  rw [hbk]
  simp only [List.length_append, List.length_cons, List.length_nil]
  omega
theorem rgt_frC {next : Int} : ∀ {l pre : List CG}, rgt next pre l = true → frC pre l = true ∧ ∀ c ∈ l, 1 ≤ c.id ∧ c.id < next
  | [], _, _ => ⟨rfl, fun c h => by cases h⟩
  | d :: l, pre, h => by
    unfold rgt at h
    simp only [Bool.and_eq_true, decide_eq_true_eq, Bool.not_eq_true', List.any_eq_false] at h
    obtain ⟨⟨⟨h1, h2⟩, h3⟩, h4⟩ := h
    obtain ⟨h5, h6⟩ := rgt_frC h4
    unfold colB at h1
    simp only [Bool.and_eq_true, decide_eq_true_eq] at h1
    refine ⟨?_, ?_⟩
    · unfold frC colF
      simp only [Bool.and_eq_true, decide_eq_true_eq, Bool.not_eq_true', List.any_eq_false]
      refine ⟨⟨⟨h1.1.1.2, h1.1.1.1.2⟩, ?_⟩, h5⟩
      intro c hc he
      refine h3 c hc ?_
      unfold idEq at he
      unfold clashC
      rw [he]
      rfl
    · intro c hc
      rcases List.mem_cons.1 hc with rfl | hc
      · exact ⟨h1.1.1.2, h2⟩
      · exact h6 c hc
theorem part_nums {rs : List (List GV)} {cs : List CG} (hv : ∀ r ∈ rs, ∀ x ∈ r, i64 x.num) (hr : ∀ r ∈ rs, rowE cs r = 0) {j k : Nat} (hj : j < cs.length) : ∀ y ∈ colL (partM rs k) j, i64 y.num := by
  intro y hy
  obtain ⟨r, h1, rfl⟩ := colL_mem hy
  have h2 : j < r.length := by rw [row_len (hr r (partM_mem h1))]; exact hj
  refine hv r (partM_mem h1) _ ?_
  rw [List.getD_eq_getElem?_getD, List.getElem?_eq_getElem h2]
  exact List.getElem_mem h2
/-- the columns that are made are right -/
theorem colG_made {cs0 : List CG} {rs : List (List GV)} {k : Nat} (hk : ∀ c ∈ cs0, c.kind = 1 ∨ c.kind = 2) (hv : ∀ r ∈ rs, ∀ x ∈ r, i64 x.num) (hr : ∀ r ∈ rs, rowE cs0 r = 0) : ∀ (cs : List CG) (j : Nat), cs0.drop j = cs →
    colG (partM rs k).length cs (statsM (partM rs k) j cs) (bytesM (partM rs k) j cs) = true ∧ ∀ b ∈ bytesM (partM rs k) j cs, b.size ≤ 700
  | [], j, _ => ⟨rfl, fun b h => by cases h⟩
  | c :: cs, j, hd => by
    have hj : cs0[j]? = some c := by
      have := congrArg (fun l => l[0]?) hd
      simpa using this
    have hjl := (List.getElem?_eq_some_iff.1 hj).1
    have hd2 : cs0.drop (j + 1) = cs := by
      rw [← List.drop_drop, hd]
      rfl
    obtain ⟨h1, h2⟩ := colG_made hk hv hr cs (j + 1) hd2
    have hp : (partM rs k).length ≤ 60 := by rw [partM_len]; omega
    have he := col_enc (part := partM rs k) (fun r h => hr r (partM_mem h)) hj (hk c (List.mem_of_getElem? hj)) hp
    have hn := part_nums (k := k) hv hr hjl
    refine ⟨?_, ?_⟩
    · unfold statsM bytesM colG
      rw [decO_enc he hn, h1]
      simp [colL]
    · intro b hb
      unfold bytesM at hb
      rcases List.mem_cons.1 hb with rfl | hb
      · exact (encOut_len' he hn (by have := partM_len rs k; simp [colL]; omega)).1
      · exact h2 b hb
theorem frG_made {cs : List CG} {rs : List (List GV)} (hk : ∀ c ∈ cs, c.kind = 1 ∨ c.kind = 2) (hv : ∀ r ∈ rs, ∀ x ∈ r, i64 x.num) (hr : ∀ r ∈ rs, rowE cs r = 0) :
    ∀ (m a : Nat), a + m = (rs.length + 5) / 6 → frG cs ((List.range' a m).map fun k => grpM cs (partM rs k)) = true
  | 0, a, h => rfl
  | m + 1, a, h => by
    have hl := partM_len rs a
    rw [List.range'_succ, List.map_cons, frG]
    simp only [Bool.and_eq_true]
    refine ⟨⟨?_, (colG_made hk hv hr cs 0 rfl).1⟩, frG_made hk hv hr m (a + 1) (by omega)⟩
    unfold grH
    simp only [Bool.and_eq_true, decide_eq_true_eq, Bool.or_eq_true]
    refine ⟨⟨⟨⟨?_, ?_⟩, ?_⟩, bytesM_len _ _ _⟩, statsM_len _ _ _⟩
    · show 1 ≤ ((partM rs a).length : Int)
      omega
    · show ((partM rs a).length : Int) ≤ 6
      omega
    · by_cases h0 : m = 0
      · left
        subst h0
        rfl
      · right
        show 6 ≤ ((partM rs a).length : Int)
        omega
theorem wrap_add {a b c : Nat} (h : a + b = c) (hc : c ≤ 1000) : wrap64 ((a : Int) + (b : Int)) = (c : Int) := by
  subst h
  unfold wrap64
  omega
theorem rows_made {cs : List CG} {rs : List (List GV)} (hl : rs.length ≤ 60) (K : Nat) : (((List.range K).map fun k => grpM cs (partM rs k)).foldl (fun n g => wrap64 (n + g.rows)) 0 : Int) = ((min (6 * K) rs.length : Nat) : Int) := by
  induction K with
  | zero => simp
  | succ K ih =>
    have e : (grpM cs (partM rs K)).rows = ((partM rs K).length : Int) := rfl
    have h2 : min (6 * K) rs.length + (partM rs K).length = min (6 * (K + 1)) rs.length := by rw [partM_len]; omega
    have h3 : min (6 * (K + 1)) rs.length ≤ 1000 := by omega
    have h4 := wrap_add h2 h3
    rw [← e] at h4
    rw [List.range_succ, List.map_append, List.foldl_append, ih, List.map_cons, List.map_nil, List.foldl_cons, List.foldl_nil]
    exact h4
theorem make_ok {cs : List CG} {rs : List (List GV)} (h : mkE cs rs = 0) (hv : ∀ r ∈ rs, ∀ x ∈ r, i64 x.num) : FOk (makeF cs rs) ∧ rowsF (makeF cs rs) = rs.length ∧ ∀ g ∈ (makeF cs rs).groups, ∀ b ∈ g.bytes, b.size ≤ 700 := by
  obtain ⟨h1, h2, h3, h4⟩ := mk_good h
  have hk : ∀ c ∈ cs, c.kind = 1 ∨ c.kind = 2 := fun c hc => mk_kind h hc
  have hr := mk_rows h4
  have hrow : rowsF (makeF cs rs) = rs.length := by
    unfold rowsF makeF
    simp only
    rw [rows_made h3]
    omega
  have hb : ∀ g ∈ (makeF cs rs).groups, ∀ b ∈ g.bytes, b.size ≤ 700 := by
    intro g hg
    unfold makeF at hg
    obtain ⟨k, _, rfl⟩ := List.mem_map.1 hg
    exact (colG_made hk hv hr cs 0 rfl).2
  have hg : (makeF cs rs).groups.length = (rs.length + 5) / 6 := by unfold makeF; simp
  unfold rightC at h1
  simp only [Bool.and_eq_true, decide_eq_true_eq] at h1
  obtain ⟨h5, h6, h7⟩ := h1
  obtain ⟨h8, h9⟩ := rgt_frC h5
  have hN := nextM_bound cs 1 (by omega) (by omega)
  refine ⟨⟨⟨h6, h7, by omega, h8, ?_, by omega⟩, by omega, ?_, fun g hg b hb' => by have := hb g hg b hb'; omega⟩, hrow, hb⟩
  · have := frG_made hk hv hr ((rs.length + 5) / 6) 0 (by omega)
    rw [← List.range_eq_range'] at this
    exact this
  · intro c hc
    have h10 := h9 c hc
    have h11 := hk c hc
    have h12 : nextM cs ≤ 1099511627777 := hN.2
    unfold IdOk
    omega
theorem flat_le {α : Type} {f : α → List UInt8} {c : Nat} : ∀ (l : List α), (∀ x ∈ l, (f x).length ≤ c) → (l.flatMap f).length ≤ c * l.length
  | [], _ => by simp
  | x :: l, h => by
    have h1 := h x (by simp)
    have h2 := flat_le l fun y hy => h y (by simp [hy])
    rw [List.flatMap_cons, List.length_append, List.length_cons, Nat.mul_succ]
    omega
theorem made_len {cs : List CG} {rs : List (List GV)} (h : mkE cs rs = 0) (hv : ∀ r ∈ rs, ∀ x ∈ r, i64 x.num) : (writeF (makeF cs rs)).length ≤ 100000 := by
  obtain ⟨hok, _, hb⟩ := make_ok h hv
  obtain ⟨h1, h2, h3, h4⟩ := mk_good h
  have hg : (makeF cs rs).groups.length = (rs.length + 5) / 6 := by unfold makeF; simp
  have u64 : ∀ x : Nat, x < 18446744073709551616 → (uvarint x).length ≤ 10 := fun x hx => Lib.uvarint_length64 hx
  have hc8 := hok.r.c8
  have e1 := flat_le (f := colW) (c := 20) (makeF cs rs).cols fun c hc => by
    have hi := hok.i c hc
    unfold IdOk at hi
    have a1 := u64 c.id.toNat (by omega)
    have a2 := u64 c.kind.toNat (by omega)
    unfold colW
    rw [List.length_append]
    omega
  have e2 := flat_le (f := grpW) (c := 5700) (makeF cs rs).groups fun g hg => by
    obtain ⟨g1, g2, g3, g4, _⟩ := frG_rows hok.r.gs g hg
    have a1 := u64 g.rows.toNat (by omega)
    have a2 := flat_le (f := txtW) (c := 710) g.bytes fun b hb' => by
      have b1 := hb g hg b hb'
      have b2 := u64 b.size (by omega)
      have b3 : b.data.toList.length = b.size := by simp
      unfold txtW
      rw [List.length_append, b3]
      omega
    unfold grpW
    rw [List.length_append]
    omega
  have e3 := u64 (makeF cs rs).cols.length (by omega)
  have e4 := u64 (makeF cs rs).groups.length (by omega)
  unfold writeF
  rw [List.length_append, List.length_append, List.length_append]
  omega
end Go.Proofs.YtcpllhjhnfmepaaGreatDoor

/- what is read of what Make made: in plain words. -/
namespace Go.Proofs.YtcpllhjhnfmepaaGreatDoor
set_option linter.unusedSimpArgs false
set_option linter.unusedVariables false
open Go.RowKit
set_option linter.all false
theorem frC_first : ∀ (l pre : List CG), frC pre l = true → ∀ (k : Nat) (c : CG), l[k]? = some c → (∀ d ∈ pre, idEq c d = false) ∧ ∀ i x, i < k → l[i]? = some x → idEq c x = false
  | [], pre, _, k, c, h => by cases h
  | d :: l, pre, h, 0, c, hc => by
    obtain rfl : d = c := by simpa using hc
    unfold frC at h
    simp only [Bool.and_eq_true, Bool.not_eq_true', List.any_eq_false] at h
    exact ⟨fun e he => by simpa using h.1.2 e he, fun i x hi => absurd hi (Nat.not_lt_zero i)⟩
  | d :: l, pre, h, k + 1, c, hc => by
    unfold frC at h
    simp only [Bool.and_eq_true] at h
    obtain ⟨h1, h2⟩ := frC_first l (pre ++ [d]) h.2 k c (by simpa using hc)
    refine ⟨fun e he => h1 e (by simp [he]), fun i x hi hx => ?_⟩
    cases i with
    | zero =>
      obtain rfl : d = x := by simpa using hx
      exact h1 d (by simp)
    | succ i => exact h2 i x (by omega) (by simpa using hx)
theorem find_col {cs : List CG} (h : frC [] cs = true) {k : Nat} {c : CG} (hk : cs[k]? = some c) : idxC (idEq c) 0 cs = (k : Int) := by
  have := idxC_first (idEq c) cs 0 k c hk (by simp [idEq]) (frC_first cs [] h k c hk).2
  simpa using this
theorem bytesM_get (part : List (List GV)) : ∀ (cs : List CG) (j i : Nat) (c : CG), cs[i]? = some c → (bytesM part j cs)[i]? = some ⟨(encOut c.kind (colL part (j + i))).toArray⟩
  | [], _, _, _, h => by cases h
  | d :: cs, j, 0, c, h => by
    obtain rfl : d = c := by simpa using h
    simp [bytesM]
  | d :: cs, j, i + 1, c, h => by
    have := bytesM_get part cs (j + 1) i c (by simpa using h)
    rw [show j + 1 + i = j + (i + 1) by omega] at this
    simpa [bytesM] using this
theorem colR_made {cs : List CG} {rs : List (List GV)} (h : mkE cs rs = 0) (hv : ∀ r ∈ rs, ∀ x ∈ r, i64 x.num) (k : Nat) {j : Nat} {c : CG} (hj : cs[j]? = some c) : colR (makeF cs rs) (grpM cs (partM rs k)) c = some (colL (partM rs k) j) := by
  have hr := mk_rows (mk_good h).2.2.2
  have hok := (make_ok h hv).1.r.cs
  have hf : idxC (idEq c) 0 (makeF cs rs).cols = (j : Int) := find_col hok hj
  have hp : (partM rs k).length ≤ 60 := by rw [partM_len]; omega
  have he := col_enc (part := partM rs k) (fun r h => hr r (partM_mem h)) hj (mk_kind h (List.mem_of_getElem? hj)) hp
  have hn := part_nums (k := k) hv hr (List.getElem?_eq_some_iff.1 hj).1
  have hb := bytesM_get (partM rs k) cs 0 j c hj
  rw [Nat.zero_add] at hb
  unfold colR
  rw [hf, if_neg (by omega), Int.toNat_natCast, show (makeF cs rs).cols[j]? = some c from hj, show (grpM cs (partM rs k)).bytes[j]? = _ from hb]
  simp only
  rw [decO_enc he hn]
  simp only
  rw [if_pos]
  show (colL (partM rs k) j).length = ((partM rs k).length : Int).toNat
  simp [colL]
theorem readV_made {cs : List CG} {rs : List (List GV)} (h : mkE cs rs = 0) (hv : ∀ r ∈ rs, ∀ x ∈ r, i64 x.num) (k : Nat) : ∀ (l : List CG) (j : Nat), cs.drop j = l → readV (makeF cs rs) (grpM cs (partM rs k)) l = some ((List.range' j l.length).map fun i => colL (partM rs k) i)
  | [], j, _ => rfl
  | c :: l, j, hd => by
    have hj : cs[j]? = some c := by
      have := congrArg (fun l => l[0]?) hd
      simpa using this
    have hd2 : cs.drop (j + 1) = l := by
      rw [← List.drop_drop, hd]
      rfl
    rw [readV, colR_made h hv k hj]
    simp only
    rw [readV_made h hv k l (j + 1) hd2, List.length_cons, List.range'_succ]
    rfl
theorem rowsOf_made {cs : List CG} {part : List (List GV)} (hr : ∀ r ∈ part, r.length = cs.length) : rowsOf part.length ((List.range' 0 cs.length).map fun i => colL part i) = part := by
  unfold rowsOf
  refine List.ext_getElem (by simp) fun i h1 h2 => ?_
  have hl := hr _ (List.getElem_mem h2)
  simp only [List.getElem_map, List.getElem_range, List.map_map]
  refine List.ext_getElem (by simp [hl]) fun j h3 h4 => ?_
  simp only [List.getElem_map, Function.comp_apply, List.getElem_range', Nat.zero_add, Nat.one_mul]
  unfold colL
  rw [List.getD_eq_getElem?_getD, List.getElem?_map, List.getElem?_eq_getElem h2]
  simp [List.getD_eq_getElem?_getD, List.getElem?_eq_getElem h4]
theorem fine_made {cs : List CG} {rs : List (List GV)} (h : mkE cs rs = 0) (hv : ∀ r ∈ rs, ∀ x ∈ r, i64 x.num) : FFine (makeF cs rs) := by
  obtain ⟨hok, _, hb⟩ := make_ok h hv
  refine ⟨Nat.le_trans hok.r.c8 (by decide), Nat.le_trans hok.n (by decide), fun g hg => ?_⟩
  obtain ⟨h1, h2, h3, h4, _⟩ := frG_rows hok.r.gs g hg
  exact ⟨by omega, by omega, h3, h4, fun b hb' => Nat.le_trans (hb g hg b hb') (by decide)⟩
theorem idxC_strip (c : CG) : ∀ (l : List CG) (k : Nat), idxC (idEq c) k (l.map stripC) = idxC (idEq c) k l
  | [], k => rfl
  | d :: l, k => by
    rw [List.map_cons, idxC, idxC, idxC_strip c l (k + 1)]
    rfl
theorem colR_strip (f : FG) (g : GG) (c : CG) : colR (stripF f) g c = colR f g c := by
  unfold colR stripF
  simp only
  rw [idxC_strip, List.getElem?_map]
  cases f.cols[(idxC (idEq c) 0 f.cols).toNat]? <;> cases g.bytes[(idxC (idEq c) 0 f.cols).toNat]? <;> rfl
theorem readV_strip (f : FG) (g : GG) : ∀ l : List CG, readV (stripF f) g l = readV f g l
  | [] => rfl
  | c :: l => by rw [readV, readV, colR_strip, readV_strip f g l]
end Go.Proofs.YtcpllhjhnfmepaaGreatDoor

/- millpondkeep.filed: a fact. -/
namespace Go.Proofs.YtcpllhjhnfmepaaGreatDoor
set_option linter.unusedSimpArgs false
set_option linter.unusedVariables false
open Go.RowKit
set_option linter.all false
theorem flat_mem {α : Type} {f : α → List UInt8} : ∀ {l : List α} {x : α}, x ∈ l → (f x).length ≤ (l.flatMap f).length
  | y :: l, x, h => by
    rw [List.flatMap_cons, List.length_append]
    rcases List.mem_cons.1 h with rfl | h
    · omega
    · have := flat_mem (f := f) h
      omega
/-- a file's bytes are no longer than what it is written as -/
theorem bytes_le (f : FG) : ∀ g ∈ f.groups, ∀ b ∈ g.bytes, b.size ≤ (writeF f).length := fun g hg b hb => by
  have h1 := flat_mem (f := grpW) hg
  have h2 := flat_mem (f := txtW) hb
  have h3 : (txtW b).length = (Go.Lib.uvarint b.size).length + b.size := by unfold txtW; rw [List.length_append]; simp
  have h4 : (grpW g).length = (Go.Lib.uvarint g.rows.toNat).length + (g.bytes.flatMap txtW).length := by unfold grpW; rw [List.length_append]
  unfold writeF
  rw [List.length_append, List.length_append, List.length_append]
  omega
/-- what Write does with a file that is right -/
theorem fwrite_ok {f : FG} {v : Value} {w : World} (hf : RF w v f) (h : FOk f) (hb : (writeF f).length ≤ 100000) :
    Calls Tryz.prog 10 #[v] w fun e w' => e = .returned (.tuple #[.string ⟨(writeF f).toArray⟩, .nilIface]) ∧ Ext w w' :=
  fwrite_good f v w hf (Nat.le_trans h.n (by decide)) (fun g hg b hb' => Nat.le_trans (bytes_le f g hg b hb') hb) (Nat.le_trans h.r.c8 (by decide)) (fun g hg => by
    obtain ⟨_, _, h3, h4, _⟩ := frG_rows h.r.gs g hg
    have := h.r.c8
    omega) (fun c hc => by have := h.i c hc; unfold IdOk at this; omega) ((rightF_iff f).2 h.r)
/-- what is read of a file: its value, taken apart -/
def FilRes (W : World) (f : FG) (nc ng : Nat) (e : Ending) (w' : World) : Prop := ∃ Ac cc Ag cg, e = .returned (.tuple #[.agg #[.slice Ac nc cc, .slice Ag ng cg], .nilIface]) ∧ Ext W w' ∧ Hid (RF w' (.agg #[.slice Ac nc cc, .slice Ag ng cg]) f)
theorem FilRes.of {W w' : World} {f : FG} {nc ng : Nat} {e : Ending} (h1 : f.cols.length = nc) (h2 : f.groups.length = ng) (h : ∃ v, e = .returned (.tuple #[v, .nilIface]) ∧ Ext W w' ∧ RF w' v f) : FilRes W f nc ng e w' := by
  obtain ⟨v, e1, e2, e3⟩ := h
  have e4 := e3
  obtain ⟨Ac, cc, Ag, cg, rfl, _, _, _⟩ := e4
  subst h1 h2
  exact ⟨Ac, cc, Ag, cg, e1, e2, Lib.hid e3⟩
theorem pars_some {s : ByteArray} (hs : s.size ≤ 100000) {f : FG} (h : parseF s.data.toList = some f) {nc ng : Nat} (h1 : f.cols.length = nc) (h2 : f.groups.length = ng) (W : World) :
    Calls Tryz.prog 9 #[.string s] W (FilRes W f nc ng) := by
  have := fparse_any s hs W
  rw [h] at this
  exact this.mono fun e w' h => FilRes.of h1 h2 h
theorem make_some {cs : List CG} {rs : List (List GV)} {A A2 : Option Addr} {n m cap cap2 : Nat} {W : World} {ng : Nat} (hn : cs.length = n) (hm : rs.length = m) (hk : mkE cs rs = 0) (hg : (makeF cs rs).groups.length = ng)
    (h : Calls Tryz.prog 11 #[.slice A cs.length cap, .slice A2 rs.length cap2] W (MkRes W cs rs)) : Calls Tryz.prog 11 #[.slice A n cap, .slice A2 m cap2] W (FilRes W (makeF cs rs) n ng) := by
  subst hm
  have h1 : (makeF cs rs).cols.length = n := hn
  rw [hn] at h
  refine h.mono fun e w' h => ?_
  unfold MkRes at h
  rw [if_pos hk] at h
  exact FilRes.of h1 hg h

def c1F : CG := ⟨1, ⟨#[97]⟩, 1, false, gv00⟩
def r1F : List (List GV) := [[⟨1, 3, ⟨#[]⟩⟩], [gv00]]
theorem f1_mk : mkE [c1F] r1F = 0 := by decide +kernel
theorem f1_nums : ∀ r ∈ r1F, ∀ x ∈ r, i64 x.num := by
  intro r hr x hx
  unfold r1F at hr
  simp only [List.mem_cons, List.not_mem_nil, or_false] at hr
  rcases hr with rfl | rfl <;> simp only [List.mem_cons, List.not_mem_nil, or_false] at hx <;> subst hx <;> exact ⟨by decide, by decide⟩
def g1F : GG := grpM [c1F] r1F
theorem f1_groups : (makeF [c1F] r1F).groups = [g1F] := rfl
theorem f1_known : knownF (stripF (makeF [c1F] r1F)) g1F c1F = ⟨2, 1, ⟨1, 3, ⟨#[]⟩⟩, ⟨1, 3, ⟨#[]⟩⟩⟩ := by decide +kernel
theorem f1_read : readV (stripF (makeF [c1F] r1F)) g1F [c1F] = some [colL r1F 0] := by
  rw [readV_strip]
  exact readV_made f1_mk f1_nums 0 [c1F] 0 rfl
theorem f1_rows : rowsOf 2 [colL r1F 0] = r1F := by decide +kernel
theorem rc_one {W : World} {g : Nat} {t : TypeId} (h : W.heap[g]? = some (.cells #[.int .i64 1, .string ⟨#[97]⟩, .int .i64 1, .bool false, .int .i64 0, .int .i64 0, .string ⟨#[]⟩] t (0, 0))) : RC W (some ⟨g, 0, none⟩) [c1F] := by
  intro i c hi
  cases i with
  | zero =>
    obtain rfl : c1F = c := by simpa using hi
    refine ⟨g, 0, rfl, ?_⟩
    unfold c1F
    simp [World.cell?, h]
  | succ i => simp at hi
theorem rr_two {W : World} {g a b : Nat} {t t1 t2 : TypeId} (h : W.heap[g]? = some (.cells #[.slice (some ⟨a, 0, none⟩) 1 1, .slice (some ⟨b, 0, none⟩) 1 1] t (0, 0))) (ha : W.heap[a]? = some (.cells #[.int .i64 1, .int .i64 3, .string ⟨#[]⟩] t1 (0, 0))) (hb : W.heap[b]? = some (.cells #[.int .i64 0, .int .i64 0, .string ⟨#[]⟩] t2 (0, 0))) :
    RR W (some ⟨g, 0, none⟩) r1F := by
  intro i r hi
  rcases i with _ | _ | i
  · obtain rfl : [⟨1, 3, ⟨#[]⟩⟩] = r := by simpa [r1F] using hi
    exact ⟨g, 0, some ⟨a, 0, none⟩, 1, rfl, by simp [World.cell?, h], RV.block ha rfl⟩
  · obtain rfl : [gv00] = r := by simpa [r1F] using hi
    exact ⟨g, 0, some ⟨b, 0, none⟩, 1, rfl, by simp [World.cell?, h], RV.block hb rfl⟩
  · simp [r1F] at hi
theorem read_one {W : World} {v : Value} {A : Option Addr} (hf : RF W v (stripF (makeF [c1F] r1F))) (hr : RC W A [c1F]) : Calls Tryz.prog 23 #[v, .int .i64 0, .slice A 1 1] W fun e w' => ∃ gm g0 c0, e = .returned (.tuple #[.slice (some ⟨gm, 0, none⟩) 2 2, .nilIface]) ∧ Ext W w' ∧
    w'.cell? ⟨gm, 0, none⟩ = some (.slice (some ⟨g0, 0, none⟩) 1 c0) ∧ w'.cell? ⟨g0, 0, none⟩ = some (.int .i64 1) ∧ w'.cell? ⟨g0, 1, none⟩ = some (.int .i64 3) ∧ w'.cell? ⟨g0, 2, none⟩ = some (.string ⟨#[]⟩) := by
  have hb := (make_ok f1_mk f1_nums).2.2 g1F (by rw [f1_groups]; simp)
  have h := fread_any (stripF (makeF [c1F] r1F)) v 0 g1F [c1F] A 1 W hf hr rfl (by decide) (by decide) rfl (fun b h => Nat.le_trans (hb b h) (by decide)) (by decide) (by decide) (by decide)
  rw [f1_read] at h
  refine h.mono fun e w' ⟨gm, xs, h1, h2, h3, h4⟩ => ?_
  have e2 : xs.length = 2 := h2.out
  have e3 : xs.map (·.2.2) = r1F := h3.out.trans f1_rows
  match xs, e2, e3, h4 with
  | [x0, x1], _, e3, h4 =>
    obtain ⟨A0, c0, l0⟩ := x0
    obtain rfl : l0 = [⟨1, 3, ⟨#[]⟩⟩] := by simpa [r1F] using (List.cons.inj e3).1
    obtain ⟨g, hg1, hc1, _⟩ := h4.rowCell 0 rfl (j := 0) rfl
    obtain rfl : gm = g := by simpa using hg1
    obtain ⟨g0, hg2, k1, _⟩ := h4.rowCell 1 rfl (j := 0) rfl
    obtain ⟨g0', hg2', k2, _⟩ := h4.rowCell 1 rfl (j := 1) rfl
    obtain ⟨g0'', hg2'', k3, _⟩ := h4.rowCell 1 rfl (j := 2) rfl
    simp only at hg2 hg2' hg2''
    subst hg2
    obtain rfl : g0 = g0' := by simpa using hg2'
    obtain rfl : g0 = g0'' := by simpa using hg2''
    exact ⟨gm, g0, c0, h1, h4.ext, hc1, k1, k2, k3⟩
set_option maxRecDepth 100000 in
set_option maxHeartbeats 8000000 in
theorem filed_any (w : World) (hK : KeptAt w) (hE : ErrAt w) : Calls Tryz.prog 8 #[] w fun e w' => e = .returned (.bool true) ∧ Ext w w' := by
  obtain ⟨f1, hf1⟩ : ∃ f, f = makeF [c1F] r1F := ⟨_, rfl⟩
  obtain ⟨f2, hf2⟩ : ∃ f, f = stripF f1 := ⟨_, rfl⟩
  have hok := (make_ok f1_mk f1_nums).1
  have hrow := (make_ok f1_mk f1_nums).2.1
  have hlen := made_len f1_mk f1_nums
  have hnc2 : f2.cols.length = 1 := by rw [hf2, hf1]; rfl
  have hng2 : f2.groups.length = 1 := by rw [hf2, hf1]; rfl
  have hng1 : f1.groups.length = 1 := by rw [hf1]; rfl
  obtain ⟨ts, hts⟩ : ∃ ts : ByteArray, ts = ⟨(writeF f1).toArray⟩ := ⟨_, rfl⟩
  have hsz : ts.size ≤ 100000 := by rw [hts, hf1]; exact hlen
  have HM := Lib.hid (fun (W : World) (gl go ga gb : Nat) (t0 t1 t2 t3 : TypeId) (hx : Ext w W) (h0 : W.heap[gl]? = some (.cells #[.int .i64 1, .string ⟨#[97]⟩, .int .i64 1, .bool false, .int .i64 0, .int .i64 0, .string ⟨#[]⟩] t0 (0, 0)))
    (h1 : W.heap[go]? = some (.cells #[.slice (some ⟨ga, 0, none⟩) 1 1, .slice (some ⟨gb, 0, none⟩) 1 1] t1 (0, 0))) (h2 : W.heap[ga]? = some (.cells #[.int .i64 1, .int .i64 3, .string ⟨#[]⟩] t2 (0, 0))) (h3 : W.heap[gb]? = some (.cells #[.int .i64 0, .int .i64 0, .string ⟨#[]⟩] t3 (0, 0))) =>
    show Calls Tryz.prog 11 #[.slice (some ⟨gl, 0, none⟩) 1 1, .slice (some ⟨go, 0, none⟩) 2 2] W (FilRes W f1 1 1) from hf1 ▸ make_some (cs := [c1F]) (rs := r1F) rfl rfl f1_mk rfl
      (fmake_any [c1F] r1F (some ⟨gl, 0, none⟩) (some ⟨go, 0, none⟩) 1 2 W (rc_one h0) (rr_two h1 h2 h3) (by decide) (by decide) (by decide) (by decide) (by decide) (by decide) (by intro c hc; obtain rfl := List.mem_singleton.1 hc; exact ⟨by decide, by decide⟩) f1_nums (hK.ext hx) (hE.ext hx)))
  have HR := Lib.hid (fun (W : World) (v : Value) (h : RF W v f1) => show Calls Tryz.prog 12 #[v] W (fun e w' => e = .returned (.int .i64 2) ∧ Ext W w') from by
    have := frows_any f1 v W h (by rw [hng1]; decide)
    rw [hf1, hrow] at this
    exact this)
  have HW := Lib.hid (fun (W : World) (v : Value) (h : RF W v f1) => show Calls Tryz.prog 10 #[v] W (fun e w' => e = .returned (.tuple #[.string ts, .nilIface]) ∧ Ext W w') from by
    rw [hts]
    exact fwrite_ok h (hf1 ▸ hok) (hf1 ▸ hlen))
  have HP := Lib.hid (fun W : World => pars_some hsz (show parseF ts.data.toList = some f2 by rw [hts, hf2]; exact parse_enc (hf1 ▸ hok)) hnc2 hng2 W)
  have HRD := Lib.hid (fun (W : World) (v : Value) (A : Option Addr) (h : RF W v f2) (h0 : RC W A [c1F]) => read_one (A := A) (by rw [hf2, hf1] at h; exact h) h0)
  have HKN := Lib.hid (fun (W : World) (v : Value) (h : RF W v f2) => show Calls Tryz.prog 28 #[v, .int .i64 0, .agg #[.int .i64 1, .string ⟨#[97]⟩, .int .i64 1, .bool false, .int .i64 0, .int .i64 0, .string ⟨#[]⟩]] W (fun e w' => e = .returned (.agg #[.int .i64 2, .int .i64 1, .int .i64 1, .int .i64 3, .string ⟨#[]⟩, .int .i64 1, .int .i64 3, .string ⟨#[]⟩]) ∧ Ext W w') from by
    have := fknown_any f2 v 0 g1F c1F W h (by rw [hf2, hf1]; rfl) (by decide) (by decide) (by rw [hf2, hf1]; rfl) (by rw [hnc2]; decide) (by rw [hng2]; decide)
    rw [hf2, hf1, f1_known] at this
    exact this)
  clear hts hsz hf1 hf2 hok hrow hlen hnc2 hng2 hng1 hK hE
  have HX := Lib.hid (Ext.refl w)
  have hS := Hp.init w
  have hR := Reads.nil w
  go_enter Tryz.func8, Tryz.ntmps8
  go_wp2_with (first | ((with_reducible first | refine nhLa ?_ | refine nhLs ?_ | refine nhLd ?_ | refine nhCa ?_ | refine nhCs ?_ | refine nhCd ?_ | refine nhPa ?_ | refine nhPs ?_ | refine nhPd ?_ | refine nhKa ?_ | refine nhKs ?_ | refine nhKd ?_); ((try clear hF); clear hS; intro wk hS; (try simp only [List.set_cons_zero, List.set_cons_succ, heap_size, heap_set_size] at hS); ((try clear hF); (first | have hF := And.intro hS.facts (hR.at hS.ext) | have hF := hS.facts); simp only [HFacts, cellFacts, RFacts, cellOnly, and_true, true_and, Nat.zero_add, Nat.reduceAdd] at hF))) | (go_at_call 30; (with_reducible refine (num_any _ _).mono ?_); rintro e wk ⟨rfl, hX⟩; replace hS := hS.step hX; clear hX; ((try clear hF); (first | have hF := And.intro hS.facts (hR.at hS.ext) | have hF := hS.facts); simp only [HFacts, cellFacts, RFacts, cellOnly, and_true, true_and, Nat.zero_add, Nat.reduceAdd] at hF)) | (go_at_call 11; (with_reducible refine Calls.mono (HM.out _ _ _ _ _ _ _ _ _ (HX.out.trans hS.ext) (hS.blkAt 3 rfl) (hS.blkAt 0 rfl) (hS.blkAt 2 rfl) (hS.blkAt 1 rfl)) ?_); rintro e wk ⟨Ac1, cc1, Ag1, cg1, rfl, hX, F1⟩; have CL := Lib.hid (rc_one ((hS.step hX).blkAt 3 rfl)); have hX2 := hS.ext.trans hX; replace hS := hS.step hX; clear hX; have hRn := Reads.blk (hS.blkAt 3 rfl) (Reads.nil wk); replace HX := Lib.hid (HX.out.trans hX2); skip; clear hX2 hS hR; (try clear hF); have hS := Hp.init wk; have hR := hRn; clear hRn; ((try clear hF); (first | have hF := And.intro hS.facts (hR.at hS.ext) | have hF := hS.facts); simp only [HFacts, cellFacts, RFacts, cellOnly, and_true, true_and, Nat.zero_add, Nat.reduceAdd] at hF)) | (go_at_call 12; (with_reducible refine (HR.out _ _ (F1.out.ext hS.ext)).mono ?_); rintro e wk ⟨rfl, hX⟩; replace hS := hS.step hX; clear hX; ((try clear hF); (first | have hF := And.intro hS.facts (hR.at hS.ext) | have hF := hS.facts); simp only [HFacts, cellFacts, RFacts, cellOnly, and_true, true_and, Nat.zero_add, Nat.reduceAdd] at hF)) | (go_at_call 10; (with_reducible refine (HW.out _ _ (F1.out.ext hS.ext)).mono ?_); rintro e wk ⟨rfl, hX⟩; replace hS := hS.step hX; clear hX; ((try clear hF); (first | have hF := And.intro hS.facts (hR.at hS.ext) | have hF := hS.facts); simp only [HFacts, cellFacts, RFacts, cellOnly, and_true, true_and, Nat.zero_add, Nat.reduceAdd] at hF)) | (go_at_call 9; (with_reducible refine Calls.mono (HP.out _) ?_); rintro e wk ⟨Ac2, cc2, Ag2, cg2, rfl, hX, F2⟩; have hX2 := hS.ext.trans hX; replace hS := hS.step hX; clear hX; have hRn := hR.ext hX2; replace HX := Lib.hid (HX.out.trans hX2); (try replace CL := Lib.hid (CL.out.ext hX2)); clear hX2 hS hR; (try clear hF); have hS := Hp.init wk; have hR := hRn; clear hRn; ((try clear hF); (first | have hF := And.intro hS.facts (hR.at hS.ext) | have hF := hS.facts); simp only [HFacts, cellFacts, RFacts, cellOnly, and_true, true_and, Nat.zero_add, Nat.reduceAdd] at hF)) | (go_at_call 23; (with_reducible refine Calls.mono (HRD.out _ _ _ (F2.out.ext hS.ext) (CL.out.ext hS.ext)) ?_); rintro e wk ⟨gm, gq, cq, rfl, hX, k0, k1, k2, k3⟩; have hX2 := hS.ext.trans hX; replace hS := hS.step hX; clear hX; have hRn := Reads.cell k0 (Reads.cell k1 (Reads.cell k2 (Reads.cell k3 (Reads.blk (hS.blkAt 0 rfl) (hR.ext hX2))))); replace HX := Lib.hid (HX.out.trans hX2); (try replace F2 := Lib.hid (F2.out.ext hX2)); clear hX2 hS hR; (try clear hF); have hS := Hp.init wk; have hR := hRn; clear hRn; ((try clear hF); (first | have hF := And.intro hS.facts (hR.at hS.ext) | have hF := hS.facts); simp only [HFacts, cellFacts, RFacts, cellOnly, and_true, true_and, Nat.zero_add, Nat.reduceAdd] at hF)) | (first | (with_reducible refine wp_region_hp (draw := true) (by kernel_rfl) (by kernel_rfl) hS ?_) | ((with_reducible refine Fixed.here ?_); (first | ((with_reducible apply Fixed.skip); (first | rfl | exact wanted_false rfl rfl rfl (by assumption)); try simp only [Act.put, List.setIfInBounds_toArray, List.set_cons_zero, List.set_cons_succ]) | ((with_reducible apply Fixed.val); (first | rfl | exact wanted_true rfl rfl rfl (by assumption)); (rintro w hS; ((try clear hF); (first | have hF := And.intro hS.facts (hR.at hS.ext) | have hF := hS.facts); simp only [HFacts, cellFacts, RFacts, cellOnly, and_true, true_and, Nat.zero_add, Nat.reduceAdd] at hF); go_simp; with_reducible rfl); try simp only [Act.put, List.setIfInBounds_toArray, List.set_cons_zero, List.set_cons_succ]) | ((with_reducible apply Fixed.call); (first | rfl | exact wanted_true rfl rfl rfl (by assumption)); (rintro w hS; ((try clear hF); (first | have hF := And.intro hS.facts (hR.at hS.ext) | have hF := hS.facts); simp only [HFacts, cellFacts, RFacts, cellOnly, and_true, true_and, Nat.zero_add, Nat.reduceAdd] at hF); go_simp; exact ⟨rfl, rfl⟩); (rintro w hS; first | (with_reducible exact num_any _ w) | (with_reducible exact HKN.out _ _ (F2.out.ext hS.ext))); try simp only [Act.put, List.setIfInBounds_toArray, List.set_cons_zero, List.set_cons_succ]) | ((with_reducible apply Fixed.guardT); rfl; rfl; rfl; (all_goals intro hg)) | ((with_reducible apply Fixed.guardF); rfl; rfl; rfl; (all_goals intro hg)) | (with_reducible refine Fixed.done ?_; (try clear hF); clear hS; intro wk hS; ((try clear hF); (first | have hF := And.intro hS.facts (hR.at hS.ext) | have hF := hS.facts); simp only [HFacts, cellFacts, RFacts, cellOnly, and_true, true_and, Nat.zero_add, Nat.reduceAdd] at hF))))))
  all_goals (go_ret; exact ⟨rfl, HX.out.trans hS.ext⟩)
end Go.Proofs.YtcpllhjhnfmepaaGreatDoor

/- of a group of which a condition may not hold no row holds it: in plain words. -/
namespace Go.Proofs.YtcpllhjhnfmepaaGreatDoor
set_option linter.unusedSimpArgs false
set_option linter.unusedVariables false
open Go.RowKit
set_option linter.all false
theorem evalC_congr {S : ByteArray → Prop} {f g : ByteArray → GV} (h : ∀ s, S s → f s = g s) : ∀ t : CT, GoodC t → AllC S t → evalC f t = evalC g t
  | .nil, _, _ => rfl
  | .node c col x l r, hg, ha => by
    obtain ⟨g1, g2, gl, gr⟩ := hg
    obtain ⟨_, a1, a2⟩ := ha
    by_cases h9 : c < 9
    · rw [evalC, evalC, h col (a1 h9), if_neg (show ¬ c = 11 by omega), if_neg (show ¬ c = 9 by omega), if_neg (show ¬ c = 10 by omega), if_neg (show ¬ c = 11 by omega), if_neg (show ¬ c = 9 by omega), if_neg (show ¬ c = 10 by omega)]
    · obtain ⟨al, ar⟩ := a2 (by omega)
      rw [evalC, evalC, evalC_congr h l gl al, evalC_congr h r gr ar, if_neg (show ¬ c = 7 by omega), if_neg (show ¬ c = 8 by omega), if_neg (show ¬ c = 7 by omega), if_neg (show ¬ c = 8 by omega)]
      by_cases h11 : c = 11
      · rw [if_pos h11, if_pos h11]
      · by_cases h10 : c = 9
        · rw [if_neg h11, if_pos h10, if_neg h11, if_pos h10]
        · rw [if_neg h11, if_neg h10, if_pos (show c = 10 by omega), if_neg h11, if_neg h10, if_pos (show c = 10 by omega)]
theorem mayS_congr {S : ByteArray → Prop} {f g : ByteArray → ST} (h : ∀ s, S s → f s = g s) : ∀ (t : CT) (n : Bool), GoodC t → AllC S t → mayS f n t = mayS g n t
  | .nil, _, _, _ => rfl
  | .node c col x l r, n, hg, ha => by
    obtain ⟨g1, g2, gl, gr⟩ := hg
    obtain ⟨_, a1, a2⟩ := ha
    by_cases h9 : c < 9
    · rw [mayS, mayS, h col (a1 h9), if_neg (show ¬ c = 11 by omega), if_neg (show ¬ (c = 9 ∨ c = 10) by omega), if_neg (show ¬ c = 11 by omega), if_neg (show ¬ (c = 9 ∨ c = 10) by omega)]
    · obtain ⟨al, ar⟩ := a2 (by omega)
      rw [mayS, mayS, mayS_congr h l n gl al, mayS_congr h l (!n) gl al, mayS_congr h r n gr ar]
      by_cases h11 : c = 11
      · rw [if_pos h11, if_pos h11]
      · rw [if_neg h11, if_neg h11, if_pos (show c = 9 ∨ c = 10 by omega), if_pos (show c = 9 ∨ c = 10 by omega)]
/-- what schema.Cond answers -/
def condE (cs : List CG) : CT → Int
  | .nil => 0
  | .node c col x l r => if 9 ≤ c then (if condE cs l = 0 then condE cs r else condE cs l)
    else if idxC (nmEq col) 0 cs < 0 then 5 else if c < 7 ∧ x.kind ≠ 0 ∧ x.kind ≠ (cs.getD (idxC (nmEq col) 0 cs).toNat ⟨0, ⟨#[]⟩, 0, false, gv00⟩).kind then 1 else 0
def NameIn (cs : List CG) (s : ByteArray) : Prop := 0 ≤ idxC (nmEq s) 0 cs
theorem condE_all {cs : List CG} : ∀ t : CT, GoodC t → condE cs t = 0 → AllC (NameIn cs) t
  | .nil, _, _ => trivial
  | .node c col x l r, hg, he => by
    obtain ⟨g1, g2, gl, gr⟩ := hg
    unfold condE at he
    by_cases h9 : 9 ≤ c
    · rw [if_pos h9] at he
      by_cases hl : condE cs l = 0
      · rw [if_pos hl] at he
        exact ⟨g2, fun h => by omega, fun _ => ⟨condE_all l gl hl, condE_all r gr he⟩⟩
      · rw [if_neg hl] at he
        exact absurd he hl
    · rw [if_neg h9] at he
      by_cases hi : idxC (nmEq col) 0 cs < 0
      · rw [if_pos hi] at he
        cases he
      · exact ⟨g2, fun _ => show 0 ≤ idxC (nmEq col) 0 cs by omega, fun h => absurd h h9⟩
/-- the value of a column, by its name, in a row -/
def rowG (cs : List CG) (r : List GV) (s : ByteArray) : GV := r.getD (idxC (nmEq s) 0 cs).toNat gv00
/-- what is known of a column, by its name -/
def knowN (f : FG) (g : GG) (cs : List CG) (s : ByteArray) : ST := if idxC (nmEq s) 0 cs < 0 then ⟨0, 0, zeroV, zeroV⟩ else knownF f g (cs.getD (idxC (nmEq s) 0 cs).toNat ⟨0, ⟨#[]⟩, 0, false, gv00⟩)
theorem statsM_get (part : List (List GV)) : ∀ (cs : List CG) (j i : Nat), i < cs.length → (statsM part j cs)[i]? = some (ofS (colL part (j + i)))
  | [], _, _, h => by simp at h
  | d :: cs, j, 0, _ => by simp [statsM]
  | d :: cs, j, i + 1, h => by
    have := statsM_get part cs (j + 1) i (by simpa using h)
    rw [show j + 1 + i = j + (i + 1) by omega] at this
    simpa [statsM] using this
theorem known_made {cs : List CG} {rs : List (List GV)} (h : mkE cs rs = 0) (hv : ∀ r ∈ rs, ∀ x ∈ r, i64 x.num) (k : Nat) {j : Nat} {c : CG} (hj : cs[j]? = some c) : knownF (makeF cs rs) (grpM cs (partM rs k)) c = ofS (colL (partM rs k) j) := by
  have hok := (make_ok h hv).1.r.cs
  have hf : idxC (idEq c) 0 (makeF cs rs).cols = (j : Int) := find_col hok hj
  unfold knownF
  rw [hf, if_neg (by omega), Int.toNat_natCast, List.getD_eq_getElem?_getD, show (grpM cs (partM rs k)).stats[j]? = _ from statsM_get (partM rs k) cs 0 j (List.getElem?_eq_some_iff.1 hj).1, Nat.zero_add]
  rfl
theorem skip_law {cs : List CG} {rs : List (List GV)} (h : mkE cs rs = 0) (hv : ∀ r ∈ rs, ∀ x ∈ r, i64 x.num) (k : Nat) {t : CT} (hg : GoodC t) (hc : condE cs t = 0) (hm : mayS (knowN (makeF cs rs) (grpM cs (partM rs k)) cs) false t = false) {r : List GV} (hr : r ∈ partM rs k) :
    evalC (rowG cs r) t ≠ 1 := by
  have ha := condE_all t hg hc
  have hrows := mk_rows (mk_good h).2.2.2
  obtain ⟨get, hget⟩ : ∃ g : ByteArray → ST, g = fun s => if idxC (nmEq s) 0 cs < 0 then ofS [zeroV] else knowN (makeF cs rs) (grpM cs (partM rs k)) cs s := ⟨_, rfl⟩
  obtain ⟨col, hcol⟩ : ∃ g : ByteArray → List GV, g = fun s => if idxC (nmEq s) 0 cs < 0 then [zeroV] else colL (partM rs k) (idxC (nmEq s) 0 cs).toNat := ⟨_, rfl⟩
  obtain ⟨row, hrow⟩ : ∃ g : ByteArray → GV, g = fun s => if idxC (nmEq s) 0 cs < 0 then zeroV else rowG cs r s := ⟨_, rfl⟩
  rw [evalC_congr (g := row) (fun s hs => by unfold NameIn at hs; rw [hrow]; simp only; rw [if_neg (by omega)]) t hg ha]
  rw [mayS_congr (g := get) (fun s hs => by unfold NameIn at hs; rw [hget]; simp only; rw [if_neg (by omega)]) t false hg ha] at hm
  refine (may_sound (get := get) (col := col) (row := row) (fun s => ?_) (fun s => ?_) (fun s => ?_) t hg).1 hm
  · rw [hget, hcol]
    simp only
    by_cases hi : idxC (nmEq s) 0 cs < 0
    · rw [if_pos hi, if_pos hi]
      exact know_of _
    · obtain ⟨j, c, e1, e2, _, _⟩ := idxC_some (nmEq s) cs 0 (by omega)
      rw [Nat.zero_add] at e1
      rw [if_neg hi, if_neg hi]
      unfold knowN
      rw [if_neg hi, e1, Int.toNat_natCast, List.getD_eq_getElem?_getD, e2, Option.getD_some, known_made h hv k e2]
      exact know_of _
  · rw [hcol]
    simp only
    by_cases hi : idxC (nmEq s) 0 cs < 0
    · rw [if_pos hi]
      intro x hx y hy hx0
      obtain rfl := List.mem_singleton.1 hx
      exact absurd rfl hx0
    · obtain ⟨j, c, e1, e2, _, _⟩ := idxC_some (nmEq s) cs 0 (by omega)
      rw [Nat.zero_add] at e1
      rw [if_neg hi, e1, Int.toNat_natCast]
      have hk : ∀ x ∈ colL (partM rs k) j, x.kind ≠ 0 → x.kind = c.kind := fun x hx hx0 => by
        obtain ⟨r', h1, rfl⟩ := colL_mem hx
        have h2 := hrows r' (partM_mem h1)
        have h3 : j < r'.length := by rw [row_len h2]; exact (List.getElem?_eq_some_iff.1 e2).1
        have h4 : r'[j]? = some (r'.getD j gv00) := by rw [List.getD_eq_getElem?_getD, List.getElem?_eq_getElem h3]; rfl
        have h5 := row_cell h2 e2 h4
        unfold cellE at h5
        by_cases hb : rightB (r'.getD j gv00).kind (r'.getD j gv00).num (r'.getD j gv00).text = false
        · rw [if_pos hb] at h5
          cases h5
        · rw [if_neg hb, if_neg hx0] at h5
          by_cases he : (r'.getD j gv00).kind = c.kind
          · exact he
          · rw [if_neg he] at h5
            cases h5
      intro x hx y hy hx0 hy0
      rw [hk x hx hx0, hk y hy hy0]
  · rw [hcol, hrow]
    simp only
    by_cases hi : idxC (nmEq s) 0 cs < 0
    · rw [if_pos hi, if_pos hi]
      exact List.mem_singleton.2 rfl
    · rw [if_neg hi, if_neg hi]
      exact List.mem_map.2 ⟨r, hr, rfl⟩
end Go.Proofs.YtcpllhjhnfmepaaGreatDoor
