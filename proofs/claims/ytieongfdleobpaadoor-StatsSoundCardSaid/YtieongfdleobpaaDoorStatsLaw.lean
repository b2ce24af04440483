/- What is known of values, plainly: who is passed by had nothing; two parts are the whole. No program. -/
import Derived.Test.YtieongfdleobpaaDoorOrdLaw
import Derived.Test.YtieongfdleobpaaDoorCond
namespace Go.Proofs.YtieongfdleobpaaDoor

/-- what is known of values -/
structure ST where
  count : Int
  nulls : Int
  mn : GV
  mx : GV
def stepS (s : ST) (v : GV) : ST :=
  if v.kind = 0 then { s with nulls := s.nulls + 1 }
  else { s with mn := if s.mn.kind = 0 ∨ cmpG v s.mn < 0 then v else s.mn, mx := if s.mx.kind = 0 ∨ 0 < cmpG v s.mx then v else s.mx }
def ofS (l : List GV) : ST := l.foldl stepS ⟨l.length, 0, zeroV, zeroV⟩
def bothS (a b : ST) : ST :=
  ⟨a.count + b.count, a.nulls + b.nulls, if a.mn.kind = 0 ∨ (b.mn.kind ≠ 0 ∧ cmpG b.mn a.mn < 0) then b.mn else a.mn, if a.mx.kind = 0 ∨ (b.mx.kind ≠ 0 ∧ 0 < cmpG b.mx a.mx) then b.mx else a.mx⟩
def isG (c : Int) (x y : GV) : Int := isV c x.kind x.num x.text y.kind y.num y.text
def oneS (c : Int) (s : ST) (v : GV) : Bool :=
  if c = 7 then decide (0 < s.nulls) else if c = 8 then decide (s.nulls < s.count)
  else if c = 1 then decide (isG 4 s.mn v = 1) && decide (isG 6 s.mx v = 1)
  else if c = 2 then decide (isG 2 s.mn v = 1) || decide (isG 2 s.mx v = 1)
  else if c = 3 ∨ c = 4 then decide (isG c s.mn v = 1) else decide (isG c s.mx v = 1)
def oppI (c : Int) : Int := if c = 1 then 2 else if c = 2 then 1 else if c = 3 then 6 else if c = 4 then 5 else if c = 5 then 4 else if c = 6 then 3 else if c = 7 then 8 else if c = 8 then 7 else 0
def mayS (get : ByteArray → ST) : Bool → CT → Bool
  | n, .nil => !n
  | n, .node c col x l r =>
    if c = 11 then mayS get (!n) l
    else if c = 9 ∨ c = 10 then (if decide (c = 9) != n then mayS get n l && mayS get n r else mayS get n l || mayS get n r)
    else oneS (if n then oppI c else c) (get col) x

/-- what is known of a list, told by its members -/
structure KnowS (l : List GV) (s : ST) : Prop where
  count : s.count = l.length
  nulls : s.nulls = (l.filter fun v => decide (v.kind = 0)).length
  mn : (∀ v ∈ l, v.kind = 0) ∧ s.mn = zeroV ∨ s.mn ∈ l ∧ s.mn.kind ≠ 0 ∧ ∀ v ∈ l, v.kind ≠ 0 → cmpG s.mn v ≤ 0
  mx : (∀ v ∈ l, v.kind = 0) ∧ s.mx = zeroV ∨ s.mx ∈ l ∧ s.mx.kind ≠ 0 ∧ ∀ v ∈ l, v.kind ≠ 0 → cmpG v s.mx ≤ 0

theorem le_trans' {a b c : GV} (h1 : cmpG a b ≤ 0) (h2 : cmpG b c ≤ 0) : cmpG a c ≤ 0 := by
  have r1 := cmpG_range a b
  have r2 := cmpG_range b c
  rcases r1 with r1 | r1 | r1
  · rcases r2 with r2 | r2 | r2
    · rw [cmpG_trans a b c (by omega)]; omega
    · have := (cmpG_zero b c).1 r2
      rw [← this]; omega
    · omega
  · rw [cmpG_left a b c r1]; exact h2
  · omega
theorem lt_of_le_of_lt' {a b c : GV} (h1 : cmpG a b ≤ 0) (h2 : cmpG b c < 0) : cmpG a c < 0 := by
  have h := le_trans' h1 (Int.le_of_lt h2)
  by_cases e : cmpG a c = 0
  · rw [(cmpG_zero a c).1 e] at h1
    have := cmpG_anti b c
    omega
  · omega
theorem eq_of_le {a b : GV} (h1 : cmpG a b ≤ 0) (h2 : cmpG b a ≤ 0) : a = b := by
  have := cmpG_anti a b
  exact (cmpG_zero a b).1 (by omega)
theorem cmpG_self (a : GV) : cmpG a a = 0 := (cmpG_zero a a).2 rfl

theorem KnowS.uniq {l m : List GV} {s t : ST} (h : KnowS l s) (k : KnowS m t) (hm : ∀ v, v ∈ l ↔ v ∈ m) (hc : s.count = t.count) (hn : s.nulls = t.nulls) : s = t := by
  have e1 : s.mn = t.mn := by
    rcases h.mn with ⟨a, b⟩ | ⟨a, b, c⟩ <;> rcases k.mn with ⟨a', b'⟩ | ⟨a', b', c'⟩
    · rw [b, b']
    · exact absurd (a _ ((hm _).2 a')) b'
    · exact absurd (a' _ ((hm _).1 a)) b
    · exact eq_of_le (c _ ((hm _).2 a') b') (c' _ ((hm _).1 a) b)
  have e2 : s.mx = t.mx := by
    rcases h.mx with ⟨a, b⟩ | ⟨a, b, c⟩ <;> rcases k.mx with ⟨a', b'⟩ | ⟨a', b', c'⟩
    · rw [b, b']
    · exact absurd (a _ ((hm _).2 a')) b'
    · exact absurd (a' _ ((hm _).1 a)) b
    · exact eq_of_le (c' _ ((hm _).1 a) b) (c _ ((hm _).2 a') b')
  cases s; cases t; simp_all

theorem know_step {l : List GV} {s : ST} {v : GV} (h : KnowS l { s with count := l.length }) : KnowS (l ++ [v]) { stepS s v with count := (l ++ [v]).length } := by
  by_cases k0 : v.kind = 0
  · refine ⟨rfl, ?_, ?_, ?_⟩
    · have := h.nulls
      simp only at this
      simp [stepS, k0, this]
    · rcases h.mn with ⟨a, b⟩ | ⟨a, b, c⟩
      · left
        refine ⟨fun x hx => ?_, by simpa [stepS, k0] using b⟩
        rcases List.mem_append.1 hx with hx | hx
        · exact a x hx
        · rw [List.mem_singleton.1 hx]; exact k0
      · right
        simp only [stepS, k0, if_true]
        refine ⟨List.mem_append_left _ a, b, fun x hx hk => ?_⟩
        rcases List.mem_append.1 hx with hx | hx
        · exact c x hx hk
        · rw [List.mem_singleton.1 hx] at hk; exact absurd k0 hk
    · rcases h.mx with ⟨a, b⟩ | ⟨a, b, c⟩
      · left
        refine ⟨fun x hx => ?_, by simpa [stepS, k0] using b⟩
        rcases List.mem_append.1 hx with hx | hx
        · exact a x hx
        · rw [List.mem_singleton.1 hx]; exact k0
      · right
        simp only [stepS, k0, if_true]
        refine ⟨List.mem_append_left _ a, b, fun x hx hk => ?_⟩
        rcases List.mem_append.1 hx with hx | hx
        · exact c x hx hk
        · rw [List.mem_singleton.1 hx] at hk; exact absurd k0 hk
  · refine ⟨rfl, ?_, ?_, ?_⟩
    · have := h.nulls
      simp only at this
      simp [stepS, k0, this]
    · right
      simp only [stepS, k0, if_false]
      by_cases hc : s.mn.kind = 0 ∨ cmpG v s.mn < 0
      · rw [if_pos hc]
        refine ⟨by simp, k0, fun x hx hk => ?_⟩
        rcases List.mem_append.1 hx with hx | hx
        · rcases h.mn with ⟨a, b⟩ | ⟨a, b, c⟩
          · exact absurd (a x hx) hk
          · have hc' : cmpG v s.mn < 0 := hc.resolve_left b
            exact le_trans' (Int.le_of_lt hc') (c x hx hk)
        · rw [List.mem_singleton.1 hx, cmpG_self]; omega
      · rw [if_neg hc]
        obtain ⟨n1, n2⟩ := not_or.1 hc
        rcases h.mn with ⟨a, b⟩ | ⟨a, b, c⟩
        · simp only at b; rw [b] at n1; exact absurd rfl n1
        · refine ⟨List.mem_append_left _ a, b, fun x hx hk => ?_⟩
          rcases List.mem_append.1 hx with hx | hx
          · exact c x hx hk
          · rw [List.mem_singleton.1 hx]
            have := cmpG_anti s.mn v
            omega
    · right
      simp only [stepS, k0, if_false]
      by_cases hc : s.mx.kind = 0 ∨ 0 < cmpG v s.mx
      · rw [if_pos hc]
        refine ⟨by simp, k0, fun x hx hk => ?_⟩
        rcases List.mem_append.1 hx with hx | hx
        · rcases h.mx with ⟨a, b⟩ | ⟨a, b, c⟩
          · exact absurd (a x hx) hk
          · have hc' : 0 < cmpG v s.mx := hc.resolve_left b
            have := cmpG_anti s.mx v
            have h3 : cmpG s.mx v ≤ 0 := by omega
            exact le_trans' (c x hx hk) h3
        · rw [List.mem_singleton.1 hx, cmpG_self]; omega
      · rw [if_neg hc]
        obtain ⟨n1, n2⟩ := not_or.1 hc
        rcases h.mx with ⟨a, b⟩ | ⟨a, b, c⟩
        · simp only at b; rw [b] at n1; exact absurd rfl n1
        · refine ⟨List.mem_append_left _ a, b, fun x hx hk => ?_⟩
          rcases List.mem_append.1 hx with hx | hx
          · exact c x hx hk
          · rw [List.mem_singleton.1 hx]; omega
theorem stepS_count (s : ST) (v : GV) (n : Int) : { stepS s v with count := n } = stepS { s with count := n } v := by
  unfold stepS; split <;> rfl
theorem know_fold : ∀ (m l : List GV) (s : ST), KnowS l { s with count := l.length } → KnowS (l ++ m) { m.foldl stepS s with count := (l ++ m).length }
  | [], l, s, h => by simpa using h
  | v :: m, l, s, h => by
    have := know_fold m (l ++ [v]) (stepS s v) (know_step h)
    simpa using this
theorem fold_count : ∀ (m : List GV) (s : ST), (m.foldl stepS s).count = s.count
  | [], _ => rfl
  | v :: m, s => by rw [List.foldl_cons, fold_count m]; unfold stepS; split <;> rfl
theorem know_of (l : List GV) : KnowS l (ofS l) := by
  have h := know_fold l [] ⟨l.length, 0, zeroV, zeroV⟩ ⟨rfl, rfl, .inl ⟨(fun v hv => by cases hv), rfl⟩, .inl ⟨(fun v hv => by cases hv), rfl⟩⟩
  have hc : ({ l.foldl stepS ⟨l.length, 0, zeroV, zeroV⟩ with count := (([] : List GV) ++ l).length } : ST) = ofS l := by
    have := fold_count l ⟨l.length, 0, zeroV, zeroV⟩
    unfold ofS
    generalize l.foldl stepS ⟨l.length, 0, zeroV, zeroV⟩ = z at *
    cases z; simp_all
  rw [hc] at h
  simpa using h
theorem know_both {l m : List GV} {s t : ST} (h : KnowS l s) (k : KnowS m t) : KnowS (l ++ m) (bothS s t) := by
  refine ⟨by simp [bothS, h.count, k.count], by simp [bothS, h.nulls, k.nulls], ?_, ?_⟩
  · simp only [bothS]
    rcases h.mn with ⟨a, b⟩ | ⟨a, b, c⟩ <;> rcases k.mn with ⟨a', b'⟩ | ⟨a', b', c'⟩
    · left
      rw [b, b']
      exact ⟨fun x hx => by rcases List.mem_append.1 hx with hx | hx; exact a x hx; exact a' x hx, by simp⟩
    · right
      rw [if_pos (.inl (by rw [b]; rfl))]
      refine ⟨List.mem_append_right _ a', b', fun x hx hk => ?_⟩
      rcases List.mem_append.1 hx with hx | hx
      · exact absurd (a x hx) hk
      · exact c' x hx hk
    · right
      rw [if_neg (by rw [b']; rintro (h | ⟨h, _⟩); exact b h; exact h rfl)]
      refine ⟨List.mem_append_left _ a, b, fun x hx hk => ?_⟩
      rcases List.mem_append.1 hx with hx | hx
      · exact c x hx hk
      · exact absurd (a' x hx) hk
    · right
      by_cases hlt : cmpG t.mn s.mn < 0
      · rw [if_pos (.inr ⟨b', hlt⟩)]
        refine ⟨List.mem_append_right _ a', b', fun x hx hk => ?_⟩
        rcases List.mem_append.1 hx with hx | hx
        · exact le_trans' (Int.le_of_lt hlt) (c x hx hk)
        · exact c' x hx hk
      · rw [if_neg (by rintro (h | ⟨_, h⟩); exact b h; exact hlt h)]
        refine ⟨List.mem_append_left _ a, b, fun x hx hk => ?_⟩
        rcases List.mem_append.1 hx with hx | hx
        · exact c x hx hk
        · have := cmpG_anti t.mn s.mn
          exact le_trans' (by omega) (c' x hx hk)
  · simp only [bothS]
    rcases h.mx with ⟨a, b⟩ | ⟨a, b, c⟩ <;> rcases k.mx with ⟨a', b'⟩ | ⟨a', b', c'⟩
    · left
      rw [b, b']
      exact ⟨fun x hx => by rcases List.mem_append.1 hx with hx | hx; exact a x hx; exact a' x hx, by simp⟩
    · right
      rw [if_pos (.inl (by rw [b]; rfl))]
      refine ⟨List.mem_append_right _ a', b', fun x hx hk => ?_⟩
      rcases List.mem_append.1 hx with hx | hx
      · exact absurd (a x hx) hk
      · exact c' x hx hk
    · right
      rw [if_neg (by rw [b']; rintro (h | ⟨h, _⟩); exact b h; exact h rfl)]
      refine ⟨List.mem_append_left _ a, b, fun x hx hk => ?_⟩
      rcases List.mem_append.1 hx with hx | hx
      · exact c x hx hk
      · exact absurd (a' x hx) hk
    · right
      by_cases hlt : 0 < cmpG t.mx s.mx
      · rw [if_pos (.inr ⟨b', hlt⟩)]
        have := cmpG_anti s.mx t.mx
        refine ⟨List.mem_append_right _ a', b', fun x hx hk => ?_⟩
        rcases List.mem_append.1 hx with hx | hx
        · exact le_trans' (c x hx hk) (by omega)
        · exact c' x hx hk
      · rw [if_neg (by rintro (h | ⟨_, h⟩); exact b h; exact hlt h)]
        refine ⟨List.mem_append_left _ a, b, fun x hx hk => ?_⟩
        rcases List.mem_append.1 hx with hx | hx
        · exact c x hx hk
        · exact le_trans' (c' x hx hk) (by omega)
theorem both_take (l : List GV) (k : Nat) : bothS (ofS (l.take k)) (ofS (l.drop k)) = ofS l := by
  have h := know_both (know_of (l.take k)) (know_of (l.drop k))
  rw [List.take_append_drop] at h
  exact h.uniq (know_of l) (fun _ => Iff.rfl) (by rw [h.count, (know_of l).count]) (by rw [h.nulls, (know_of l).nulls])
theorem both_drop (l : List GV) (k : Nat) : bothS (ofS (l.drop k)) (ofS (l.take k)) = ofS l := by
  have h := know_both (know_of (l.drop k)) (know_of (l.take k))
  refine h.uniq (know_of l) (fun v => ?_) ?_ ?_
  · conv => rhs; rw [← List.take_append_drop k l]
    simp only [List.mem_append]; exact Or.comm
  · rw [h.count, (know_of l).count]
    have := congrArg List.length (List.take_append_drop k l)
    simp only [List.length_append] at this ⊢
    omega
  · rw [h.nulls, (know_of l).nulls]
    have := congrArg (fun l => (List.filter (fun v : GV => decide (v.kind = 0)) l).length) (List.take_append_drop k l)
    simp only [List.filter_append, List.length_append] at this ⊢
    omega

/-- all that is not nothing is of one kind -/
def Alone (l : List GV) : Prop := ∀ x ∈ l, ∀ y ∈ l, x.kind ≠ 0 → y.kind ≠ 0 → x.kind = y.kind
theorem isG_one {c : Int} {x v : GV} : isG c x v = 1 ↔ x.kind ≠ 0 ∧ x.kind = v.kind ∧ isCode c (cmpG x v) = 1 := by
  unfold isG isV
  by_cases h : x.kind = 0 ∨ x.kind ≠ v.kind
  · rw [if_pos h]
    constructor
    · intro h; omega
    · rintro ⟨a, b, _⟩; exact absurd h (by rintro (h | h); exact a h; exact h b)
  · rw [if_neg h]
    obtain ⟨h1, h2⟩ := not_or.1 h
    exact ⟨fun e => ⟨h1, Decidable.not_not.1 h2, e⟩, fun e => e.2.2⟩
/-- a row of which nothing may be so is not so -/
theorem one_sound {l : List GV} {s : ST} (hs : KnowS l s) (ha : Alone l) {c : Int} (hc : 1 ≤ c ∧ c ≤ 8) {v x : GV} (hx : x ∈ l) (h : oneS c s v = false) :
    (c = 7 → x.kind ≠ 0) ∧ (c = 8 → x.kind = 0) ∧ (c ≤ 6 → isG c x v ≠ 1) := by
  refine ⟨?_, ?_, ?_⟩
  · rintro rfl hk
    simp only [oneS, if_true] at h
    have hn := hs.nulls
    have : x ∈ l.filter fun v => decide (v.kind = 0) := List.mem_filter.2 ⟨hx, by simp [hk]⟩
    have := List.length_pos_of_mem this
    have := of_decide_eq_false h
    omega
  · rintro rfl
    have h := of_decide_eq_false (show decide (s.nulls < s.count) = false from h)
    rw [hs.nulls, hs.count] at h
    have hle := List.length_filter_le (fun v : GV => decide (v.kind = 0)) l
    have heq : (l.filter fun v => decide (v.kind = 0)).length = l.length := by omega
    have := List.length_filter_eq_length_iff.1 heq x hx
    exact of_decide_eq_true this
  · intro hc6 hone
    obtain ⟨hk, hkv, hcd⟩ := isG_one.1 hone
    rcases hs.mn with ⟨a, b⟩ | ⟨a, b, lo⟩
    · exact absurd (a x hx) hk
    rcases hs.mx with ⟨a', b'⟩ | ⟨a', b', hi⟩
    · exact absurd (a' x hx) hk
    have k1 : s.mn.kind = v.kind := (ha _ a _ hx b hk).trans hkv
    have k2 : s.mx.kind = v.kind := (ha _ a' _ hx b' hk).trans hkv
    have l1 := lo x hx hk
    have l2 := hi x hx hk
    have n1 : ∀ d, isCode d (cmpG s.mn v) ≠ 1 → isG d s.mn v ≠ 1 := fun d q e => q (isG_one.1 e).2.2
    have p1 : ∀ d, isCode d (cmpG s.mn v) = 1 → isG d s.mn v = 1 := fun d q => isG_one.2 ⟨b, k1, q⟩
    have p2 : ∀ d, isCode d (cmpG s.mx v) = 1 → isG d s.mx v = 1 := fun d q => isG_one.2 ⟨b', k2, q⟩
    have r := cmpG_range x v
    have rv : cmpG v x = - cmpG x v := cmpG_anti x v
    have rm : cmpG v s.mx = - cmpG s.mx v := cmpG_anti s.mx v
    have lts : cmpG x v < 0 → cmpG s.mn v < 0 := fun q => lt_of_le_of_lt' l1 q
    have les : cmpG x v ≤ 0 → cmpG s.mn v ≤ 0 := fun q => le_trans' l1 q
    have ges : 0 ≤ cmpG x v → 0 ≤ cmpG s.mx v := fun q => by
      have := le_trans' (a := v) (b := x) (c := s.mx) (by omega) l2
      omega
    have gts : 0 < cmpG x v → 0 < cmpG s.mx v := fun q => by
      have h1 : cmpG v x < 0 := by omega
      have h2 := ges (by omega)
      by_cases e : cmpG s.mx v = 0
      · have e' := (cmpG_zero _ _).1 e
        rw [e'] at l2
        omega
      · omega
    have q1 : ∀ n : Int, isCode 1 n = 1 ↔ n = 0 := fun n => by unfold isCode; split <;> omega
    have q2 : ∀ n : Int, isCode 2 n = 1 ↔ n ≠ 0 := fun n => by unfold isCode; split <;> omega
    have q3 : ∀ n : Int, isCode 3 n = 1 ↔ n < 0 := fun n => by unfold isCode; split <;> omega
    have q4 : ∀ n : Int, isCode 4 n = 1 ↔ n ≤ 0 := fun n => by unfold isCode; split <;> omega
    have q5 : ∀ n : Int, isCode 5 n = 1 ↔ 0 < n := fun n => by unfold isCode; split <;> omega
    have q6 : ∀ n : Int, isCode 6 n = 1 ↔ 0 ≤ n := fun n => by unfold isCode; split <;> omega
    have hcases : c = 1 ∨ c = 2 ∨ c = 3 ∨ c = 4 ∨ c = 5 ∨ c = 6 := by omega
    rcases hcases with rfl | rfl | rfl | rfl | rfl | rfl
    · have z := (q1 _).1 hcd
      simp [oneS, p1 4 ((q4 _).2 (les (by omega))), p2 6 ((q6 _).2 (ges (by omega)))] at h
    · have z := (q2 _).1 hcd
      rcases r with r | r | r
      · simp [oneS, p1 2 ((q2 _).2 (by have := lts (by omega); omega))] at h
      · omega
      · simp [oneS, p2 2 ((q2 _).2 (by have := gts (by omega); omega))] at h
    · simp [oneS, p1 3 ((q3 _).2 (lts ((q3 _).1 hcd)))] at h
    · simp [oneS, p1 4 ((q4 _).2 (les ((q4 _).1 hcd)))] at h
    · simp [oneS, p2 5 ((q5 _).2 (gts ((q5 _).1 hcd)))] at h
    · simp [oneS, p2 6 ((q6 _).2 (ges ((q6 _).1 hcd)))] at h

/-- codes of a condition are such as may be -/
def GoodC : CT → Prop
  | .nil => True
  | .node c _ _ l r => 1 ≤ c ∧ c ≤ 11 ∧ GoodC l ∧ GoodC r
theorem may_sound {get : ByteArray → ST} {col : ByteArray → List GV} {row : ByteArray → GV} (hs : ∀ s, KnowS (col s) (get s)) (ha : ∀ s, Alone (col s)) (hr : ∀ s, row s ∈ col s) :
    ∀ (t : CT), GoodC t → (mayS get false t = false → evalC row t ≠ 1) ∧ (mayS get true t = false → evalC row t ≠ 0)
  | .nil, _ => ⟨fun h => by simp [mayS] at h, fun _ => by simp [evalC]⟩
  | .node c cn x l r, hg => by
    obtain ⟨g1, g2, gl, gr⟩ := hg
    obtain ⟨l1, l0⟩ := may_sound hs ha hr l gl
    obtain ⟨r1, r0⟩ := may_sound hs ha hr r gr
    have el := evalC_range row l
    have er := evalC_range row r
    by_cases c11 : c = 11
    · subst c11
      have f : evalC row (.node 11 cn x l r) = if evalC row l < 0 then evalC row l else 1 - evalC row l := by simp [evalC]
      rw [f]
      constructor
      · intro h
        have := l0 (by simpa [mayS] using h)
        split <;> omega
      · intro h
        have := l1 (by simpa [mayS] using h)
        split <;> omega
    by_cases c9 : c = 9
    · subst c9
      have f : evalC row (.node 9 cn x l r) = if evalC row l = 0 ∨ evalC row r = 0 then 0 else if evalC row l < 0 ∨ evalC row r < 0 then -1 else 1 := by simp [evalC]
      rw [f]
      constructor
      · intro h
        have h : mayS get false l = false ∨ mayS get false r = false := by
          rw [show mayS get false (.node 9 cn x l r) = (mayS get false l && mayS get false r) by simp [mayS]] at h
          exact Bool.and_eq_false_iff.1 h
        rcases h with h | h
        · have := l1 h
          repeat' split
          all_goals omega
        · have := r1 h
          repeat' split
          all_goals omega
      · intro h
        have h : mayS get true l = false ∧ mayS get true r = false := by simpa [mayS] using h
        have := l0 h.1
        have := r0 h.2
        repeat' split
        all_goals omega
    by_cases c10 : c = 10
    · subst c10
      have f : evalC row (.node 10 cn x l r) = if evalC row l = 1 ∨ evalC row r = 1 then 1 else if evalC row l < 0 ∨ evalC row r < 0 then -1 else 0 := by simp [evalC]
      rw [f]
      constructor
      · intro h
        have h : mayS get false l = false ∧ mayS get false r = false := by simpa [mayS] using h
        have := l1 h.1
        have := r1 h.2
        repeat' split
        all_goals omega
      · intro h
        have h : mayS get true l = false ∨ mayS get true r = false := by
          rw [show mayS get true (.node 10 cn x l r) = (mayS get true l && mayS get true r) by simp [mayS]] at h
          exact Bool.and_eq_false_iff.1 h
        rcases h with h | h
        · have := l0 h
          repeat' split
          all_goals omega
        · have := r0 h
          repeat' split
          all_goals omega
    have m : ∀ n, mayS get n (.node c cn x l r) = oneS (if n then oppI c else c) (get cn) x := fun n => by simp [mayS, c11, c9, c10]
    rw [m, m]
    simp only [Bool.false_eq_true, if_false, if_true]
    constructor
    · intro h
      obtain ⟨h7, h8, h6⟩ := one_sound (hs cn) (ha cn) ⟨g1, by omega⟩ (hr cn) h
      unfold evalC
      split
      · rw [if_neg (h7 (by assumption))]; omega
      · split
        · rw [if_pos (h8 (by assumption))]; omega
        · exact h6 (by omega)
    · intro h
      have ho : 1 ≤ oppI c ∧ oppI c ≤ 8 := by unfold oppI; repeat' split <;> omega
      obtain ⟨h7, h8, h6⟩ := one_sound (hs cn) (ha cn) ho (hr cn) h
      unfold evalC
      split
      · rename_i e
        rw [if_pos (h8 (by rw [e]; rfl))]; omega
      · split
        · rename_i e
          rw [if_neg (h7 (by rw [e]; rfl))]; omega
        · have hcases : c = 1 ∨ c = 2 ∨ c = 3 ∨ c = 4 ∨ c = 5 ∨ c = 6 := by omega
          have := h6 (by rcases hcases with rfl | rfl | rfl | rfl | rfl | rfl <;> decide)
          intro e
          apply this
          unfold isV at e
          unfold isG isV
          split at e
          · omega
          · rename_i hh
            rw [if_neg hh]
            have r := cmpG_range (row cn) x
            unfold cmpG at r
            generalize cmpV (row cn).kind (row cn).num (row cn).text x.kind x.num x.text = n at *
            rcases hcases with rfl | rfl | rfl | rfl | rfl | rfl <;> rcases r with rfl | rfl | rfl <;> revert e <;> decide
theorem good_op {c : Int} (h : 1 ≤ c ∧ c ≤ 11) {l r : CT} (hl : GoodC l) (hr : GoodC r) : GoodC (opC c l r) := ⟨h.1, h.2, hl, hr⟩
theorem good_step {st : List CT} {x : PG} (h : ∀ t ∈ st, GoodC t) : ∀ t ∈ stepC st x, GoodC t := by
  have hg : ∀ i, GoodC (st.getD i .nil) := fun i => by
    rw [List.getD_eq_getElem?_getD]
    rcases hi : st[i]? with _ | t
    · exact trivial
    · exact h t (List.mem_of_getElem? hi)
  unfold stepC
  intro t ht
  split at ht
  · rcases List.mem_append.1 ht with ht | ht
    · exact h t (List.mem_of_mem_take ht)
    · rw [List.mem_singleton.1 ht]; exact good_op (by omega) (hg _) trivial
  · split at ht
    · rename_i hc
      rcases List.mem_append.1 ht with ht | ht
      · exact h t (List.mem_of_mem_take ht)
      · rw [List.mem_singleton.1 ht]; exact good_op (by omega) (hg _) (hg _)
    · split at ht
      · rename_i hc
        rcases List.mem_append.1 ht with ht | ht
        · exact h t ht
        · rw [List.mem_singleton.1 ht]; exact ⟨hc.1, by omega, trivial, trivial⟩
      · split at ht
        · rename_i hc
          rcases List.mem_append.1 ht with ht | ht
          · exact h t ht
          · rw [List.mem_singleton.1 ht]; exact ⟨by omega, by omega, trivial, trivial⟩
        · exact h t ht
theorem good_fold : ∀ (l : List PG) (st : List CT), (∀ t ∈ st, GoodC t) → ∀ t ∈ l.foldl stepC st, GoodC t
  | [], _, h => h
  | x :: l, st, h => good_fold l (stepC st x) (good_step h)
theorem good_foldC : ∀ (rest : List CT) (c : CT), GoodC c → (∀ t ∈ rest, GoodC t) → GoodC (rest.foldl (fun a b => opC 9 a b) c)
  | [], _, h, _ => h
  | t :: rest, c, h, hr => good_foldC rest _ (good_op (by omega) h (hr t (by simp))) fun u hu => hr u (by simp [hu])
theorem good_cond (l : List PG) : GoodC (condT l) := by
  have h : ∀ t ∈ stackC l, GoodC t := good_fold _ [] (by simp)
  unfold condT
  cases hs : stackC l with
  | nil => exact trivial
  | cons c rest =>
    rw [hs] at h
    exact good_foldC rest c (h c (by simp)) fun t ht => h t (by simp [ht])
end Go.Proofs.YtieongfdleobpaaDoor
