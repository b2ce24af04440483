/- columns keep their numbers: the plain law of SchemaNumbers. -/
import Derived.Test.YthikjhdobnllhaaDoorSch6
namespace Go.Proofs.YthikjhdobnllhaaDoor
set_option linter.unusedSimpArgs false
set_option linter.unusedVariables false
open Go.RowKit
/-- columns that may be a table's, by next -/
structure Inv (l : List CG) (next : Int) : Prop where
  len1 : 1 ≤ l.length
  len8 : l.length ≤ 8
  ok : ∀ c ∈ l, colB c = true
  idlt : ∀ c ∈ l, c.id < next
  apart : ∀ (i j : Nat) (ci cj : CG), i < j → l[i]? = some ci → l[j]? = some cj → clashC cj ci = false
theorem clash_symm (a b : CG) : clashC a b = clashC b a := by
  unfold clashC
  rw [show (b.id == a.id) = (a.id == b.id) from Bool.beq_comm, show (b.name.toList == a.name.toList) = (a.name.toList == b.name.toList) from Bool.beq_comm]
theorem rgt_inv (next : Int) : ∀ (l pre : List CG), (∀ c ∈ l, colB c = true) → (∀ c ∈ l, c.id < next) → (∀ (i j : Nat) (ci cj : CG), i < j → (pre ++ l)[i]? = some ci → (pre ++ l)[j]? = some cj → clashC cj ci = false) → rgt next pre l = true
  | [], _, _, _, _ => rfl
  | c :: l, pre, h1, h2, h3 => by
    rw [rgt, h1 c (by simp), decide_eq_true (h2 c (by simp))]
    have hp : pre.any (clashC c) = false := by
      rw [List.any_eq_false]
      intro d hd
      obtain ⟨i, hi⟩ := List.getElem?_of_mem hd
      have hil := (List.getElem?_eq_some_iff.1 hi).1
      rw [h3 i pre.length d c hil (by rw [List.getElem?_append_left hil]; exact hi) (by simp)]
      decide
    rw [hp, rgt_inv next l (pre ++ [c]) (fun x hx => h1 x (by simp [hx])) (fun x hx => h2 x (by simp [hx])) (by simpa using h3)]
    rfl
theorem right_inv {l : List CG} {next : Int} (h : Inv l next) : rightC l next = true := by
  unfold rightC
  rw [rgt_inv next l [] h.ok h.idlt (by simpa using h.apart), decide_eq_true h.len1, decide_eq_true h.len8]
  rfl
theorem idxC_first (p : CG → Bool) : ∀ (l : List CG) (j k : Nat) (c : CG), l[k]? = some c → p c = true → (∀ i x, i < k → l[i]? = some x → p x = false) → idxC p j l = ((j + k : Nat) : Int)
  | [], _, _, _, h, _, _ => by cases h
  | x :: l, j, 0, c, h, hp, _ => by
    simp at h; subst h
    rw [idxC, if_pos hp, Nat.add_zero]
  | x :: l, j, k + 1, c, h, hp, hn => by
    rw [idxC, if_neg (by rw [hn 0 x (by omega) rfl]; decide), idxC_first p l (j + 1) k c (by simpa using h) hp (fun i y hi hy => hn (i + 1) y (by omega) (by simpa using hy))]
    congr 1; omega
theorem idxC_some (p : CG → Bool) : ∀ (l : List CG) (j : Nat), 0 ≤ idxC p j l → ∃ k c, idxC p j l = ((j + k : Nat) : Int) ∧ l[k]? = some c ∧ p c = true ∧ ∀ i x, i < k → l[i]? = some x → p x = false
  | [], j, h => by simp [idxC] at h
  | x :: l, j, h => by
    unfold idxC at h ⊢
    split
    · rename_i hp
      exact ⟨0, x, by simp, rfl, hp, fun i y hi => by omega⟩
    · rename_i hp
      rw [if_neg hp] at h
      obtain ⟨k, c, h1, h2, h3, h4⟩ := idxC_some p l (j + 1) h
      refine ⟨k + 1, c, by rw [h1]; congr 1; omega, by simpa using h2, h3, fun i y hi hy => ?_⟩
      cases i with
      | zero => simp at hy; subst hy; simpa using hp
      | succ i => exact h4 i y (by omega) (by simpa using hy)
theorem idxC_none {p : CG → Bool} {l : List CG} (h : idxC p 0 l < 0) : ∀ c ∈ l, p c = false := fun c hc => by
  have h1 := idxC_any p l 0
  rw [decide_eq_false (by omega)] at h1
  simpa using List.any_eq_false.1 h1.symm c hc
theorem idxC_neg {p : CG → Bool} {l : List CG} (h : ∀ c ∈ l, p c = false) : idxC p 0 l < 0 := by
  have h1 := idxC_any p l 0
  rw [List.any_eq_false.2 (fun c hc => by rw [h c hc]; decide)] at h1
  simpa using h1
theorem find_inv {l : List CG} {next : Int} (h : Inv l next) {k : Nat} {c : CG} (hk : l[k]? = some c) : idxC (nmEq c.name) 0 l = (k : Int) := by
  have := idxC_first (nmEq c.name) l 0 k c hk (by unfold nmEq; simp) (fun i x hi hx => by
    have := h.apart i k x c hi hx hk
    unfold clashC at this
    rw [Bool.or_eq_false_iff] at this
    exact this.2)
  rw [this, Nat.zero_add]
theorem inv_more {l : List CG} {next : Int} {c : CG} (h : Inv l next) (he : morE l next c = 0) : Inv (l ++ [morC c next]) (next + 1) := by
  unfold morE at he
  split at he
  · omega
  · rename_i h1
    split at he
    · omega
    · rename_i h2
      split at he
      · omega
      · rename_i h3
        have hno := idxC_none (p := nmEq c.name) (l := l) (by omega)
        simp only [Bool.or_eq_true, not_or, Bool.not_eq_true, Bool.not_eq_false'] at h3
        refine ⟨by simp, by rw [List.length_append]; simp; omega, fun x hx => ?_, fun x hx => ?_, fun i j ci cj hij hi hj => ?_⟩
        · rcases List.mem_append.1 hx with hx | hx
          · exact h.ok x hx
          · simp at hx; subst hx; exact h3.1
        · rcases List.mem_append.1 hx with hx | hx
          · have := h.idlt x hx; omega
          · simp at hx; subst hx; show next < next + 1; omega
        · have hjl : j < l.length + 1 := by have := (List.getElem?_eq_some_iff.1 hj).1; simpa using this
          rw [List.getElem?_append_left (by omega)] at hi
          by_cases hj2 : j < l.length
          · rw [List.getElem?_append_left hj2] at hj
            exact h.apart i j ci cj hij hi hj
          · obtain rfl : j = l.length := by omega
            simp at hj
            subst hj
            have hm := List.mem_of_getElem? hi
            have h5 := h.idlt ci hm
            have h6 := hno ci hm
            unfold clashC
            show (ci.id == next || ci.name.toList == c.name.toList) = false
            unfold nmEq at h6
            rw [h6, Bool.or_false, beq_eq_false_iff_ne]
            omega
theorem inv_less {l : List CG} {next : Int} {nm : ByteArray} (h : Inv l next) (he : lessE l nm = 0) : Inv (lessL l nm) next := by
  unfold lessE at he
  split at he
  · omega
  · rename_i h1
    split at he
    · omega
    · rename_i h2
      unfold lessL
      have hr := idxC_range (nmEq nm) l 0
      obtain ⟨k, hk⟩ := Int.eq_ofNat_of_zero_le (by omega : 0 ≤ idxC (nmEq nm) 0 l)
      rw [hk] at hr ⊢
      have hkl : k < l.length := by omega
      have e : ((k : Int)).toNat = k := rfl
      rw [e]
      have h0 := h.len1
      have h8 := h.len8
      have hlen : (l.eraseIdx k).length = l.length - 1 := by rw [List.length_eraseIdx, if_pos hkl]
      have hsub : ∀ x ∈ l.eraseIdx k, x ∈ l := fun x hx => (List.eraseIdx_sublist l k).subset hx
      refine ⟨by omega, by omega, fun x hx => h.ok x (hsub x hx), fun x hx => h.idlt x (hsub x hx), fun i j ci cj hij hi hj => ?_⟩
      rw [List.getElem?_eraseIdx] at hi hj
      split at hi <;> split at hj
      · exact h.apart i j ci cj hij hi hj
      · exact h.apart i (j + 1) ci cj (by omega) hi hj
      · omega
      · exact h.apart (i + 1) (j + 1) ci cj (by omega) hi hj
theorem nm_of {nm : ByteArray} {c : CG} (h : nmEq nm c = true) : c.name = nm := by
  unfold nmEq at h
  have h := of_decide_eq_true (by simpa using h : decide (c.name.toList = nm.toList) = true)
  rw [Lib.toList_data, Lib.toList_data] at h
  exact ByteArray.ext (Array.toList_inj.1 h)
theorem ren_parts {l : List CG} {nm to : ByteArray} (he : renE l nm to = 0) : ∃ (k : Nat) (c : CG), idxC (nmEq nm) 0 l = (k : Int) ∧ l[k]? = some c ∧ c.name = nm ∧ renL l nm to = l.set k (renC c to) ∧ nameB to = true ∧ keptB to = false ∧ ∀ d ∈ l, nmEq to d = false := by
  unfold renE at he
  split at he
  · omega
  · rename_i h1
    split at he
    · omega
    · rename_i h2
      split at he
      · omega
      · rename_i h3
        obtain ⟨k, c, e1, e2, e3, _⟩ := idxC_some (nmEq nm) l 0 (by omega)
        rw [Nat.zero_add] at e1
        simp only [Bool.or_eq_true, not_or, Bool.not_eq_true, Bool.not_eq_false'] at h2
        refine ⟨k, c, e1, e2, nm_of e3, ?_, h2.1, h2.2, idxC_none (by omega)⟩
        unfold renL
        rw [e1, show ((k : Int)).toNat = k from rfl, e2]
theorem colB_parts {c : CG} (h : colB c = true) : nameB c.name = true ∧ keptB c.name = false := by
  unfold colB at h
  simp only [Bool.and_eq_true, Bool.not_eq_true'] at h
  exact ⟨h.1.1.1.1.1, h.1.1.1.1.2⟩
theorem colB_ren {c : CG} {to : ByteArray} (h : colB c = true) (h1 : nameB to = true) (h2 : keptB to = false) : colB (renC c to) = true := by
  unfold colB at h ⊢
  unfold renC
  simp only [Bool.and_eq_true, Bool.not_eq_true'] at h ⊢
  exact ⟨⟨⟨⟨⟨h1, h2⟩, h.1.1.1.2⟩, h.1.1.2⟩, h.1.2⟩, h.2⟩
theorem inv_ren {l : List CG} {next : Int} {nm to : ByteArray} (h : Inv l next) (he : renE l nm to = 0) : Inv (renL l nm to) next := by
  obtain ⟨k, c, e1, e2, e3, e4, h1, h2, hno⟩ := ren_parts he
  rw [e4]
  have hmc := List.mem_of_getElem? e2
  have hm : ∀ x ∈ l.set k (renC c to), x = renC c to ∨ x ∈ l := fun x hx => (List.mem_or_eq_of_mem_set hx).symm
  refine ⟨by rw [List.length_set]; exact h.len1, by rw [List.length_set]; exact h.len8, fun x hx => ?_, fun x hx => ?_, fun i j ci cj hij hi hj => ?_⟩
  · rcases hm x hx with rfl | hx
    · exact colB_ren (h.ok c hmc) h1 h2
    · exact h.ok x hx
  · rcases hm x hx with rfl | hx
    · exact h.idlt c hmc
    · exact h.idlt x hx
  · rw [List.getElem?_set] at hi hj
    have hkl : k < l.length := (List.getElem?_eq_some_iff.1 e2).1
    have hclash : ∀ d ∈ l, clashC c d = false → clashC (renC c to) d = false := fun d hd hc => by
      have := hno d hd
      unfold nmEq at this
      unfold clashC at hc ⊢
      rw [Bool.or_eq_false_iff] at hc
      show (d.id == c.id || d.name.toList == to.toList) = false
      rw [hc.1, this]; rfl
    split at hi
    · rename_i hki
      subst hki
      (try rw [if_pos hkl] at hi)
      cases hi
      rw [if_neg (by omega)] at hj
      rw [clash_symm]
      exact hclash cj (List.mem_of_getElem? hj) (by rw [clash_symm]; exact h.apart k j c cj hij e2 hj)
    · split at hj
      · rename_i hkj
        subst hkj
        (try rw [if_pos hkl] at hj)
        cases hj
        exact hclash ci (List.mem_of_getElem? hi) (h.apart i k ci c hij hi e2)
      · exact h.apart i j ci cj hij hi hj
theorem ren_back {l : List CG} {next : Int} {nm to : ByteArray} (h : Inv l next) (he : renE l nm to = 0) : renE (renL l nm to) to nm = 0 ∧ renL (renL l nm to) to nm = l := by
  obtain ⟨k, c, e1, e2, e3, e4, h1, h2, hno⟩ := ren_parts he
  have hkl : k < l.length := (List.getElem?_eq_some_iff.1 e2).1
  have hmc := List.mem_of_getElem? e2
  have hset : (l.set k (renC c to))[k]? = some (renC c to) := by rw [List.getElem?_set, if_pos rfl, if_pos hkl]
  have hto : nmEq to (renC c to) = true := by unfold nmEq renC; simp
  have f1 : idxC (nmEq to) 0 (l.set k (renC c to)) = (k : Int) := by
    have := idxC_first (nmEq to) (l.set k (renC c to)) 0 k (renC c to) hset hto (fun i x hi hx => by
      rw [List.getElem?_set, if_neg (by omega)] at hx
      exact hno x (List.mem_of_getElem? hx))
    rw [this, Nat.zero_add]
  have f2 : idxC (nmEq nm) 0 (l.set k (renC c to)) < 0 := idxC_neg fun d hd => by
    obtain ⟨i, hi⟩ := List.getElem?_of_mem hd
    rw [List.getElem?_set] at hi
    split at hi
    · (try rw [if_pos hkl] at hi)
      cases hi
      have := hno c hmc
      unfold nmEq at this ⊢
      rw [e3] at this
      show (to.toList == nm.toList) = false
      rw [Bool.beq_comm]
      exact this
    · rename_i hne
      have hc : clashC c d = false := by
        rcases Nat.lt_or_ge i k with hlt | hge
        · exact h.apart i k d c hlt hi e2
        · rw [clash_symm]; exact h.apart k i c d (by omega) e2 hi
      unfold clashC at hc
      rw [Bool.or_eq_false_iff] at hc
      unfold nmEq
      rw [← e3]
      exact hc.2
  have hp := colB_parts (h.ok c hmc)
  rw [e3] at hp
  rw [e4]
  constructor
  · unfold renE
    rw [f1, if_neg (by omega), if_neg (by rw [hp.1, hp.2]; decide), if_neg (by omega)]
  · unfold renL
    rw [f1, show ((k : Int)).toNat = k from rfl, hset]
    simp only [List.set_set]
    have e5 : renC (renC c to) nm = c := by unfold renC; rw [← e3]
    rw [e5]
    rw [List.getElem?_eq_some_iff] at e2
    obtain ⟨_, e6⟩ := e2
    rw [← e6, List.set_getElem_self]
end Go.Proofs.YthikjhdobnllhaaDoor
