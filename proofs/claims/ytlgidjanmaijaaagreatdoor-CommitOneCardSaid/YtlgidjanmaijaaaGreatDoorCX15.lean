/- Texts joined: commit.Try's closure, at a version that is not there; shapes of what is owned. commit.Try: a commit is made behind what is there, or not at all. millpondkeep.committed: a fact: two who write. CommitOne: what is kept from turn to turn. -/
import Derived.Test.YtlgidjanmaijaaaGreatDoorCX14
import Derived.Test.YtlgidjanmaijaaaGreatDoorCX11
import Derived.Test.YtlgidjanmaijaaaGreatDoorCX08
import Derived.Test.YtlgidjanmaijaaaGreatDoorCX05
import Derived.Test.YtlgidjanmaijaaaGreatDoorCX12
import Derived.Test.YtlgidjanmaijaaaGreatDoorCX04
/- commit.Try's closure, at a version that is not there; shapes of what is owned. -/
namespace Go.Proofs.YtlgidjanmaijaaaGreatDoor
set_option linter.unusedSimpArgs false
set_option linter.unusedVariables false
open Go.RowKit
set_option linter.all false
section
variable {B : Nat} {w0 W : World} {a b c d e : Item} {C X M I : List Item}
theorem rePut (h : Hp B w0 W (a :: b :: c :: d :: e :: (X ++ (M ++ I)))) : Hp B w0 W ((a :: b :: c :: d :: e :: (X ++ M)) ++ I) := by
  simpa [List.append_assoc] using h
theorem unPut (h : Hp B w0 W ((a :: b :: c :: d :: e :: (X ++ M)) ++ I)) : Hp B w0 W (a :: b :: c :: d :: e :: (X ++ (M ++ I))) := by
  simpa [List.append_assoc] using h
theorem toTh (h : Hp B w0 W (a :: b :: c :: d :: e :: (X ++ (M ++ I)))) : Hp B w0 W (e :: ((a :: b :: c :: d :: (X ++ M)) ++ I)) := by
  have h1 := h.front 4 rfl
  simp only [List.eraseIdx_cons_zero, List.eraseIdx_cons_succ] at h1
  simpa [List.append_assoc] using h1
theorem Hp.pull4 (h : Hp B w0 W (C ++ (a :: b :: c :: d :: X))) : Hp B w0 W (a :: b :: c :: d :: (C ++ X)) :=
  h.perm (List.perm_append_comm_assoc C [a, b, c, d] X).symm
theorem Hp.pull5 (h : Hp B w0 W (C ++ (a :: b :: c :: d :: e :: X))) : Hp B w0 W (a :: b :: c :: d :: e :: (C ++ X)) :=
  h.perm (List.perm_append_comm_assoc C [a, b, c, d, e] X).symm
theorem Hp.pull6 {f : Item} (h : Hp B w0 W (C ++ (a :: b :: c :: d :: e :: f :: X))) : Hp B w0 W (a :: b :: c :: d :: e :: f :: (C ++ X)) :=
  h.perm (List.perm_append_comm_assoc C [a, b, c, d, e, f] X).symm
theorem ofTh (h : Hp B w0 W (C ++ (e :: ((a :: b :: c :: d :: (X ++ M)) ++ I)))) : Hp B w0 W (a :: b :: c :: d :: e :: (C ++ (X ++ (M ++ I)))) := by
  have h1 : Hp B w0 W (C ++ (e :: a :: b :: c :: d :: (X ++ (M ++ I)))) := by simpa [List.append_assoc] using h
  have h2 := h1.pull5
  exact h2.perm (List.perm_append_comm_assoc [e] [a, b, c, d] (C ++ (X ++ (M ++ I)))).symm
theorem Hp.pull4a (h : Hp B w0 W (C ++ (a :: b :: c :: d :: (X ++ (M ++ I))))) : Hp B w0 W (a :: b :: c :: d :: ((C ++ X) ++ (M ++ I))) := by
  rw [List.append_assoc]
  exact h.pull4
theorem Hp.pull6a {f : Item} (h : Hp B w0 W (C ++ (a :: b :: c :: d :: e :: f :: (X ++ (M ++ I))))) : Hp B w0 W (a :: b :: c :: d :: e :: f :: ((C ++ X) ++ (M ++ I))) := by
  rw [List.append_assoc]
  exact h.pull6
theorem ofThA (h : Hp B w0 W (C ++ (e :: ((a :: b :: c :: d :: (X ++ M)) ++ I)))) : Hp B w0 W (a :: b :: c :: d :: e :: ((C ++ X) ++ (M ++ I))) := by
  rw [List.append_assoc]
  exact ofTh h
theorem un5 (h : Hp B w0 W (e :: ((a :: b :: c :: d :: (X ++ M)) ++ I))) : Hp B w0 W (a :: b :: c :: d :: e :: (X ++ (M ++ I))) := ofTh (C := []) h
theorem sub1M : M.Sublist (a :: b :: c :: (M ++ I)) := .cons _ (.cons _ (.cons _ (List.sublist_append_left _ _)))
theorem subXM : (X ++ M).Sublist (a :: b :: c :: d :: (X ++ (M ++ I))) := by
  refine .cons _ (.cons _ (.cons _ (.cons _ ?_)))
  rw [← List.append_assoc]
  exact List.sublist_append_left _ _
theorem sub6XM {f : Item} : (X ++ M).Sublist (a :: b :: c :: d :: e :: f :: (X ++ (M ++ I))) := .cons _ (.cons _ subXM)
end
set_option maxRecDepth 100000 in
set_option maxHeartbeats 8000000 in
theorem there_none {w W : World} {M I : List Item} {gb gB nD : Nat} {D : DataW Unit} {F : List Int} {j : Nat} (hj : j ≤ 300)
    (hno : bhas D (keyS (j + 1)) = false) (hB : Bkt gb D nD F I) (hT : TabsC w) (hS : Hp w.heap.size w W (.blk gB [.pointer (some ⟨gb, 0, none⟩)] 25 :: (M ++ I))) :
    Calls Tryz.prog 20 #[.int .i64 ((j : Int) + 1), .pointer (some ⟨gB, 0, none⟩)] W fun e w' => e = .returned (.tuple #[.string ⟨#[]⟩, .agg #[.string ⟨#[]⟩, .bool false, .slice none 0 0], .iface 64 (.int .i64 14)]) ∧ Hp w.heap.size w w' (.blk gB [.pointer (some ⟨gb, 0, none⟩)] 25 :: (M ++ I)) := by
  have HKY := Lib.hid (fun (X : World) (hx : Ext w X) => show Calls Tryz.prog 11 #[.int .i64 ((j : Int) + 1)] X (fun e w' => e = .returned (.string (keyS (j + 1))) ∧ Ext X w') from key_any (j + 1) X (by omega) (hT.ext hx).2.1)
  have HG1 := Lib.hid (fun (N : List Item) (X : World) (h : Hp w.heap.size w X (N ++ I)) => show Calls Tryz.prog 10 #[.pointer (some ⟨gb, 0, none⟩), .string (keyS (j + 1))] X fun e w' => e = .returned (.tuple #[.string (bget D (keyS (j + 1))), .iface 64 (.int .i64 7)]) ∧ Ext X w' from by
    have := bget_any (keyS (j + 1)) (by have := (keyS_size (n := j + 1) (by omega)).1; unfold maxLen; omega) hB h
    rw [hno] at this
    exact this)
  clear hT hB hno
  have hR := Reads.nil w
  go_enter Tryz.func20, Tryz.ntmps20
  go_wp2_with (first | (refine hab ?_; (try clear hF); clear hS; intro wk hS; (try simp only [List.set_cons_zero, List.set_cons_succ, heap_size, heap_set_size] at hS); ((try clear hF); refine hfI ?_; intro hF)) | fail)
  obtain ⟨g4, hg4⟩ := hS.nameAt 0 rfl
  rw [← hg4] at hS hF ⊢
  clear hg4
  ((with_reducible refine wp_region_hp (draw := true) (by kernel_rfl) (by kernel_rfl) hS ?_); (repeat ((with_reducible refine Fixed.here ?_); (first | ((with_reducible apply Fixed.skip); (first | rfl | exact wanted_false rfl rfl rfl (by assumption)); try simp only [Act.put, List.setIfInBounds_toArray, List.set_cons_zero, List.set_cons_succ]) | ((with_reducible apply Fixed.val); (first | rfl | exact wanted_true rfl rfl rfl (by assumption)); (rintro w hS; ((try clear hF); refine hfI ?_; intro hF); go_simp; with_reducible rfl); try simp only [Act.put, List.setIfInBounds_toArray, List.set_cons_zero, List.set_cons_succ]) | ((with_reducible apply Fixed.call); (first | rfl | exact wanted_true rfl rfl rfl (by assumption)); (rintro w hS; ((try clear hF); refine hfI ?_; intro hF); go_simp; exact ⟨rfl, rfl⟩); (rintro w hS; first | (with_reducible exact HKY.out _ hS.ext) | (with_reducible exact HG1.out _ _ (reT hS))); try simp only [Act.put, List.setIfInBounds_toArray, List.set_cons_zero, List.set_cons_succ])))); (with_reducible refine Fixed.done ?_); (try clear hF); clear hS; intro wk hS; ((try clear hF); refine hfI ?_; intro hF))
  go_wp2_with (first | (refine hab ?_; (try clear hF); clear hS; intro wk hS; (try simp only [List.set_cons_zero, List.set_cons_succ, heap_size, heap_set_size] at hS); ((try clear hF); refine hfI ?_; intro hF)) | fail)
  refine bodyPost_ret (v := .tuple #[.string ⟨#[]⟩, .agg #[.string ⟨#[]⟩, .bool false, .slice none 0 0], .iface 64 (.int .i64 14)]) (by simp [results, Tryz.results20, go_sem, hF]) rfl (by exact ⟨rfl, hS.tail⟩)
/-- the same, by the version's own word -/
theorem there_atV {w W : World} {M I : List Item} {gb gB nD : Nat} {D : DataW Unit} {F : List Int} {cs : List CO} {ss : List SN} {j : Nat} {c : CO} {V : Int} {T : ByteArray} (hV : V = (j : Int) + 1) (hTx : bget D (keyS (j + 1)) = T) (hc : cs[j]? = some c)
    (hL : LogR D cs ss) (hB : Bkt gb D nD F I) (hT : TabsC w) (hS : Hp w.heap.size w W (.blk gB [.pointer (some ⟨gb, 0, none⟩)] 25 :: (M ++ I))) :
    Calls Tryz.prog 20 #[.int .i64 V, .pointer (some ⟨gB, 0, none⟩)] W fun e w' => ∃ (l : List (AN × AV)) (A : Option Addr) (n cap : Nat) (C : List Item), Hid (l.map (·.1) = c.al) ∧ e = .returned (.tuple #[.string T, coV c.tx c.rd A n cap, .nilIface]) ∧ Hp w.heap.size w w' (C ++ (.blk gB [.pointer (some ⟨gb, 0, none⟩)] 25 :: (M ++ I))) ∧ Hid (∀ (B : Nat) (w0 W : World), Hp B w0 W C → CmAt W ⟨c.tx, c.rd, l, A, n, cap⟩) ∧ Hid (∀ a v, (a, v) ∈ l → PrOk a v) := by
  subst hV hTx
  exact there_any hc hL hB hT hS
theorem there_noV {w W : World} {M I : List Item} {gb gB nD : Nat} {D : DataW Unit} {F : List Int} {j : Nat} {V : Int} (hV : V = (j : Int) + 1) (hj : j ≤ 300)
    (hno : bhas D (keyS (j + 1)) = false) (hB : Bkt gb D nD F I) (hT : TabsC w) (hS : Hp w.heap.size w W (.blk gB [.pointer (some ⟨gb, 0, none⟩)] 25 :: (M ++ I))) :
    Calls Tryz.prog 20 #[.int .i64 V, .pointer (some ⟨gB, 0, none⟩)] W fun e w' => e = .returned (.tuple #[.string ⟨#[]⟩, .agg #[.string ⟨#[]⟩, .bool false, .slice none 0 0], .iface 64 (.int .i64 14)]) ∧ Hp w.heap.size w w' (.blk gB [.pointer (some ⟨gb, 0, none⟩)] 25 :: (M ++ I)) := by
  subst hV
  exact there_none hj hno hB hT hS
theorem key_V {V : Int} {n : Nat} (hV : V = (n : Int) + 1) (w : World) (hn : n ≤ 300) (ht : TabAt w) : Calls Tryz.prog 11 #[.int .i64 V] w fun e w' => e = .returned (.string (keyS (n + 1))) ∧ Ext w w' := by
  subst hV
  exact key_any (n + 1) w (by omega) ht
end Go.Proofs.YtlgidjanmaijaaaGreatDoor

/- commit.Try: a commit is made behind what is there, or not at all. -/
namespace Go.Proofs.YtlgidjanmaijaaaGreatDoor
set_option linter.unusedSimpArgs false
set_option linter.unusedVariables false
open Go.RowKit
set_option linter.all false
/-- it fights what is next -/
def Fgt (cs : List CO) (ss : List SN) (q : Nat) (c : CO) : Prop := ∃ c0 s s1 t, cs[q]? = some c0 ∧ ss[q]? = some s ∧ applyR s c.tx c.al = .ok s1 ∧ printC c.tx c.rd c.al = some t ∧ fightB c.rd c.al c0.al = true
/-- nothing is in its way -/
def Fine (F : List Int) (cs : List CO) (ss : List SN) (q : Nat) (c : CO) : Prop := F = [] ∧ q = cs.length ∧ cs.length < 200 ∧ ∃ s s1 t, ss[q]? = some s ∧ applyR s c.tx c.al = .ok s1 ∧ printC c.tx c.rd c.al = some t
/-- what Try answers: its version, and the log has it; or an error, and the log is as it was -/
def TryRes (w : World) (gb nD : Nat) (D : DataW Unit) (F : List Int) (M : List Item) (cs : List CO) (ss : List SN) (q : Nat) (c : CO) (e : Ending) (w' : World) : Prop :=
  ∃ (X I' : List Item) (F' : List Int), Hp w.heap.size w w' (X ++ (M ++ I')) ∧
    ((∃ (D' : DataW Unit) (s' : SN), e = .returned (.tuple #[.int .i64 ((cs.length : Int) + 1), .nilIface]) ∧ LogR D' (cs ++ [c]) (ss ++ [s']) ∧ Bkt gb D' (nD + 1) F' I' ∧ ¬ Fgt cs ss q c) ∨
     (∃ tp pv, e = .returned (.tuple #[.int .i64 0, .iface tp pv]) ∧ Bkt gb D (nD + 1) F' I' ∧ (Fgt cs ss q c → tp = 64 ∧ pv = .int .i64 6) ∧ ¬ Fine F cs ss q c))
def verPt (v : Value) (w : World) : Nat := match v with
  | .pointer (some a) => match w.cell? a with
    | some (.int _ v) => v.toNat
    | _ => 0
  | _ => 0
theorem verPt_of {B : Nat} {w0 W : World} {g : Nat} {s : SN} {v : SV} {L : List Item} (h : Hp B w0 W (.blk g (snC s v) 33 :: L)) : verPt (.pointer (some ⟨g, 0, none⟩)) W = s.ver.toNat := by
  have hF := h.facts
  simp only [HFacts, cellFacts, RFacts, cellOnly, and_true, true_and, Nat.zero_add, Nat.reduceAdd] at hF
  unfold verPt
  simp only
  rw [hF.1.1.1]
section
variable {w W : World} {gb nD q : Nat} {D D' : DataW Unit} {F F' : List Int} {M X I : List Item} {cs : List CO} {ss : List SN} {c : CO}
theorem TryRes.no {tp : TypeId} {pv : Value} (hB : Bkt gb D (nD + 1) F' I) (h1 : Fgt cs ss q c → tp = 64 ∧ pv = .int .i64 6) (h2 : ¬ Fine F cs ss q c) (hS : Hp w.heap.size w W (X ++ (M ++ I))) : TryRes w gb nD D F M cs ss q c (.returned (.tuple #[.int .i64 0, .iface tp pv])) W :=
  ⟨X, I, F', hS, .inr ⟨tp, pv, rfl, hB, h1, h2⟩⟩
theorem TryRes.yes {s' : SN} {n : Int} (hn : n = (cs.length : Int) + 1) (hL : LogR D' (cs ++ [c]) (ss ++ [s'])) (hB : Bkt gb D' (nD + 1) F' I) (h1 : ¬ Fgt cs ss q c) (hS : Hp w.heap.size w W (X ++ (M ++ I))) : TryRes w gb nD D F M cs ss q c (.returned (.tuple #[.int .i64 n, .nilIface])) W :=
  ⟨X, I, F', hS, .inl ⟨D', s', by rw [hn], hL, hB, h1⟩⟩
theorem Fgt.not_end (hq : cs.length ≤ q) : ¬ Fgt cs ss q c := fun ⟨c0, _, _, _, h, _⟩ => by rw [List.getElem?_eq_none hq] at h; cases h
theorem Fgt.not_print (h : printC c.tx c.rd c.al = none) : ¬ Fgt cs ss q c := fun ⟨_, _, _, _, _, _, _, h1, _⟩ => by rw [h] at h1; cases h1
theorem Fine.not_print (h : printC c.tx c.rd c.al = none) : ¬ Fine F cs ss q c := fun ⟨_, _, _, _, _, _, _, _, h1⟩ => by rw [h] at h1; cases h1
end
theorem mem_acts {c : CM} {a : AN} (ha : a ∈ c.l) : ∃ v, (a, v) ∈ c.acts := by
  obtain ⟨⟨a', v⟩, hm, rfl⟩ := List.mem_map.1 ha
  exact ⟨v, hm⟩
/-- Put, where nothing is: what becomes of it -/
def PutAt (w : World) (gb nD : Nat) (D2 : DataW Unit) (I : List Item) (key t : ByteArray) (ev : Value) : Prop := ∃ F', ∀ (a b c d e : Item) (Y M : List Item) (X : World), Hp w.heap.size w X (a :: b :: c :: d :: e :: (Y ++ (M ++ I))) → Calls Tryz.prog 21 #[.pointer (some ⟨gb, 0, none⟩), .string key, .string t] X fun en w' => en = .returned ev ∧ ∃ I', Bkt gb D2 (nD + 1) F' I' ∧ Hp w.heap.size w w' (a :: b :: c :: d :: e :: (Y ++ (M ++ I')))
theorem PutAt.of {w : World} {gb nD : Nat} {D2 : DataW Unit} {I : List Item} {key t : ByteArray} {ev : Value} {F' : List Int} (hp : ∀ (N : List Item) (X : World), Hp w.heap.size w X (N ++ I) → Calls Tryz.prog 21 #[.pointer (some ⟨gb, 0, none⟩), .string key, .string t] X fun e w' => e = .returned ev ∧ ∃ I', Bkt gb D2 (nD + 1) F' I' ∧ Hp w.heap.size w w' (N ++ I')) : PutAt w gb nD D2 I key t ev :=
  ⟨F', fun a b c d e Y M X h => (hp _ _ (rePut h)).mono fun en w' hr => by
    obtain ⟨h1, I', h2, h3⟩ := hr
    exact ⟨h1, I', h2, unPut h3⟩⟩
theorem put_ways {w : World} {gb nD : Nat} {D : DataW Unit} {F : List Int} {I : List Item} {key t : ByteArray} (hk : badK key = false) (hb : bhas D key = false) (ht : t.size ≤ maxLen) (hnD : nD < maxLen) (hB : Bkt gb D nD F I) :
    PutAt w gb nD (D.put (sk key) (sv t)) I key t .nilIface ∨ (F ≠ [] ∧ (PutAt w gb nD D I key t (.iface 64 (.int .i64 14)) ∨ PutAt w gb nD (D.put (sk key) (sv t)) I key t (.iface 64 (.int .i64 14)))) := by
  cases F with
  | nil => exact .inl (PutAt.of (F' := []) fun N X h => bput_new0 (F := []) key t ht hnD hk hb hB h)
  | cons f F =>
    by_cases h1 : f = 1
    · subst h1
      exact .inr ⟨by simp, .inl (PutAt.of (F' := F) fun N X h => bput_lost key t ht hnD hk hb hB h)⟩
    · by_cases h2 : f = 2
      · subst h2
        exact .inr ⟨by simp, .inr (PutAt.of (F' := F) fun N X h => bput_done key t ht hnD hk hb hB h)⟩
      · exact .inl (PutAt.of (F' := F) fun N X h => bput_fine (by simpa using h1) (by simpa using h2) key t ht hnD hk hb hB h)
theorem sub4X {a b c d : Item} {X Z : List Item} : (X ++ Z).Sublist (a :: b :: c :: d :: (X ++ Z)) := .cons _ (.cons _ (.cons _ (.cons _ (.refl _))))
theorem sub5X {a b c d e : Item} {X Z : List Item} : (X ++ Z).Sublist (a :: b :: c :: d :: e :: (X ++ Z)) := .cons _ sub4X
theorem sub6X {a b c d e f : Item} {X Z : List Item} : (X ++ Z).Sublist (a :: b :: c :: d :: e :: f :: (X ++ Z)) := .cons _ sub5X
set_option maxRecDepth 100000 in
set_option maxHeartbeats 8000000 in
theorem try_any {w W : World} {M I : List Item} {gb nD : Nat} {D : DataW Unit} {F : List Int} {cs : List CO} {ss : List SN} (q : Nat) (s : SN) (v : SV) (c : CM) (hs : ss[q]? = some s) (hq : q ≤ cs.length) (hT : Tb w M s v) (hc : ∀ W, Hp w.heap.size w W M → CmAt W c)
    (hsh : shortCo c.tx c.l = true) (hi : CmJ c) (hL : LogR D cs ss) (hB : Bkt gb D nD F I) (hnD : nD < maxLen) (hTC : TabsC w) (hS : Hp w.heap.size w W (M ++ I)) :
    Calls Tryz.prog 9 #[.pointer (some ⟨gb, 0, none⟩), snV s v, cmV c] W (TryRes w gb nD D F M cs ss q ⟨c.tx, c.rd, c.l⟩) := by
  have HTC := Lib.hid hTC
  have HLR := Lib.hid hL
  have HB := Lib.hid hB
  have HI := Lib.hid hi
  have HCJ := Lib.hid hc
  have HSH := Lib.hid hsh
  have HND := Lib.hid hnD
  have hn := hL.few
  have HTL := Lib.hid (fun (e : Int) (X : World) (hx : Ext w X) => tell_any e X (hTC.ext hx).2.2.2.2.2)
  obtain ⟨Dp, hDp⟩ : ∃ x, x = printC c.tx c.rd c.l := ⟨_, rfl⟩
  have HDP := Lib.hid hDp
  have HPR := Lib.hid (fun (X : World) (h : Hp w.heap.size w X M) => show Calls Tryz.prog 19 #[.agg #[.string c.tx, .bool c.rd, .slice c.a c.n c.cap]] X fun e w' => PrRes Dp e ∧ Ext X w' from by
    rw [hDp]
    exact cprint_any c X (short_pr (hc X h) hi hsh) (hTC.ext h.ext).2.1 (hTC.ext h.ext).1)
  have HAP := Lib.hid (fun (i : Nat) (si : SN) (vi : SV) (hsi : ss[i]? = some si) (X : List Item) (hTi : Tb w (X ++ M) si vi) (s1 : SN) (hD : applyR si c.tx c.l = .ok s1) (a b d f : Item) (Z : World) (h : Hp w.heap.size w Z (a :: b :: d :: f :: (X ++ (M ++ I)))) =>
    show Calls Tryz.prog 18 #[snV si vi, .agg #[.string c.tx, .bool c.rd, .slice c.a c.n c.cap]] Z fun e w' => ∃ v1 M1, e = .returned (.tuple #[snV s1 v1, .nilIface]) ∧ Hp w.heap.size w w' (M1 ++ (a :: b :: d :: f :: (X ++ (M ++ I)))) ∧ Tb w (M1 ++ (X ++ M)) s1 v1 from
    applyJ_ok (c := c) (J := X ++ M) hTi (fun W h => hc W (h.sub (List.sublist_append_right X M))) hTC.1 hsh (by have := (hL.good i si hsi).2; omega) (by have := (hL.good i si hsi).2; have := (List.getElem?_eq_some_iff.1 hsi).1; have := hL.len; omega) hD subXM h)
  have HAN := Lib.hid (fun (i : Nat) (si : SN) (vi : SV) (hsi : ss[i]? = some si) (X : List Item) (hTi : Tb w (X ++ M) si vi) (er : Int × Option Nat) (hD : applyR si c.tx c.l = .error er) (a b d f : Item) (Z : World) (h : Hp w.heap.size w Z (a :: b :: d :: f :: (X ++ (M ++ I)))) =>
    show Calls Tryz.prog 18 #[snV si vi, .agg #[.string c.tx, .bool c.rd, .slice c.a c.n c.cap]] Z fun e w' => ∃ (tp : TypeId) (pv : Value), e = .returned (.tuple #[sn0V, .iface tp pv]) ∧ Hp w.heap.size w w' (a :: b :: d :: f :: (X ++ (M ++ I))) from
    applyJ_no (c := c) (J := X ++ M) hTi (fun W h => hc W (h.sub (List.sublist_append_right X M))) hTC.1 hsh (by have := (hL.good i si hsi).2; omega) (by have := (hL.good i si hsi).2; have := (List.getElem?_eq_some_iff.1 hsi).1; have := hL.len; omega) hD subXM h)
  have HS := Lib.hid hs
  have HT := Lib.hid hT
  have hB1 := Lib.hid (hB.mono (Nat.le_succ nD))
  clear hTC hL hB hi hc hsh hDp hs hT hnD
  unfold cmV coV
  have hR := Reads.nil w
  go_enter Tryz.func9, Tryz.ntmps9
  cases Dp with
  | none => as_aux_lemma =>
    go_wp2_with (first | (refine hab ?_; (try clear hF); clear hS; intro wk hS; (try simp only [List.set_cons_zero, List.set_cons_succ, heap_size, heap_set_size] at hS); ((try clear hF); refine hfI ?_; intro hF)) | (go_at_call 19; (with_reducible refine (HPR.out _ (hS.sub sub1M)).mono ?_); rintro e wk ⟨rfl, hX⟩; replace hS := hS.step hX; clear hX; ((try clear hF); refine hfI ?_; intro hF)))
    go_ret2
    exact TryRes.no (X := [_, _, _]) hB1.out (fun h => absurd h (Fgt.not_print HDP.out.symm)) (Fine.not_print HDP.out.symm) hS
  | some t =>
  have hTZ := print_size HDP.out.symm HSH.out (fun a ha => by
    obtain ⟨v, hm⟩ := mem_acts ha
    obtain ⟨_, h2, _, h4⟩ := HI.out a v hm
    exact ⟨h4, h2⟩)
  have HCO := Lib.hid (show CoOk ⟨c.tx, c.rd, c.l⟩ t from ⟨HDP.out.symm, hTZ.1, HSH.out, fun a ha => by
    obtain ⟨v, hm⟩ := mem_acts ha
    obtain ⟨_, h2, _, h4⟩ := HI.out a v hm
    exact ⟨h4, fun x hx => (h2 x hx).2.2⟩⟩)
  have htz := hTZ.1
  clear hTZ
  go_wp2_with (first | (refine hab ?_; (try clear hF); clear hS; intro wk hS; (try simp only [List.set_cons_zero, List.set_cons_succ, heap_size, heap_set_size] at hS); ((try clear hF); refine hfI ?_; intro hF)) | (go_at_call 19; (with_reducible refine (HPR.out _ (hS.sub sub1M)).mono ?_); rintro e wk ⟨rfl, hX⟩; replace hS := hS.step hX; clear hX; ((try clear hF); refine hfI ?_; intro hF)))
  obtain ⟨g11, hg11⟩ := hS.nameAt 0 rfl
  rw [← hg11] at hS hF ⊢
  clear hg11
  obtain ⟨g5, hg5⟩ := hS.nameAt 1 rfl
  rw [← hg5] at hS hF ⊢
  clear hg5
  obtain ⟨g4, hg4⟩ := hS.nameAt 2 rfl
  rw [← hg4] at hS hF ⊢
  clear hg4
  obtain ⟨g3, hg3⟩ := hS.nameAt 3 rfl
  rw [← hg3] at hS hF ⊢
  clear hg3 HPR
  go_loopw [11, 12, 13, 14, 15, 16] (fun s11 _ _ _ _ _ wr => ∃ (i g : Nat) (si : SN) (vi : SV) (X : List Item), s11 = .pointer (some ⟨g, 0, none⟩) ∧ q ≤ i ∧ i ≤ cs.length ∧ Hid (ss[i]? = some si) ∧ Hid (Tb w (X ++ M) si vi) ∧ Hid (q < i → ¬ Fgt cs ss q ⟨c.tx, c.rd, c.l⟩) ∧ Hp w.heap.size w wr (.blk g (snC si vi) 33 :: .blk g5 [.string c.tx, .bool c.rd, .slice c.a c.n c.cap] 38 :: .blk g4 (snC s v) 33 :: .blk g3 [.pointer (some ⟨gb, 0, none⟩)] 25 :: (X ++ (M ++ I)))) (fun s11 _ _ _ _ _ wr => cs.length + 1 - verPt s11 wr)
  case atStart => exact ⟨q, g11, s, v, [], rfl, Nat.le_refl _, hq, HS, HT, Lib.hid (fun h => absurd h (Nat.lt_irrefl _)), hS⟩
  case round =>
    clear hS
    obtain ⟨i, g, si, vi, X, rfl, hqi, hi, HSI, HTI, HFG, hS⟩ := hrel
    obtain ⟨hgd, hsv⟩ := HLR.out.good i si HSI.out
    have HGD := Lib.hid hgd
    have HMS := Lib.hid (verPt_of hS)
    have HSV := Lib.hid hsv
    clear hgd hsv
    obtain ⟨Da, hDa⟩ : ∃ x, x = applyR si c.tx c.l := ⟨_, rfl⟩
    cases Da with
    | error er => as_aux_lemma =>
      have HA := Lib.hid (HAN.out i _ vi HSI.out X HTI.out er hDa.symm)
      have HFa := Lib.hid (show ¬ Fgt cs ss q ⟨c.tx, c.rd, c.l⟩ from by
        rcases Nat.lt_or_ge q i with h | h
        · exact HFG.out h
        · rintro ⟨c0, s0, s1, t, h1, h2, h3, _⟩
          obtain rfl : q = i := by omega
          obtain rfl := Option.some.inj (HSI.out.symm.trans h2)
          rw [h3] at hDa; cases hDa)
      have HNF := Lib.hid (show ¬ Fine F cs ss q ⟨c.tx, c.rd, c.l⟩ from by
        rintro ⟨_, h1, _, s0, s1, t, h2, h3, _⟩
        obtain rfl : q = i := by omega
        obtain rfl := Option.some.inj (HSI.out.symm.trans h2)
        rw [h3] at hDa; cases hDa)
      clear hDa
      ((try clear hF); refine hfI ?_; intro hF)
      go_wp2_with (first | (refine hab ?_; (try clear hF); clear hS; intro wk hS; (try simp only [List.set_cons_zero, List.set_cons_succ, heap_size, heap_set_size] at hS); ((try clear hF); refine hfI ?_; intro hF)) | (go_at_call 18; (with_reducible refine Calls.mono (HA.out _ _ _ _ _ hS) ?_); clear hS; rintro e wk ⟨tp, pv, rfl, hS⟩; ((try clear hF); refine hfI ?_; intro hF)))
      go_ret2
      exact TryRes.no hB1.out (fun h => absurd h HFa.out) HNF.out (hS.sub sub5X)
    | ok s1 =>
      have HA := Lib.hid (HAP.out i _ vi HSI.out X HTI.out s1 hDa.symm)
      have hv1 : s1.ver = (i : Int) + 1 := by rw [(apply_good HGD.out hDa.symm).2, HSV.out]
      have HDA := Lib.hid hDa.symm
      have HV1 := Lib.hid hv1
      clear hDa HAP HAN
      by_cases h200 : i = 200
      · as_aux_lemma =>
        have hgt : (200 : Int) < s1.ver := by omega
        have HFa := Lib.hid (show ¬ Fgt cs ss q ⟨c.tx, c.rd, c.l⟩ from by
          rcases Nat.lt_or_ge q i with h | h
          · exact HFG.out h
          · exact Fgt.not_end (by omega))
        have HNF := Lib.hid (show ¬ Fine F cs ss q ⟨c.tx, c.rd, c.l⟩ from by
          rintro ⟨_, h1, h2, _⟩
          omega)
        clear hv1 h200
        ((try clear hF); refine hfI ?_; intro hF)
        go_wp2_with (first | (refine hab ?_; (try clear hF); clear hS; intro wk hS; (try simp only [List.set_cons_zero, List.set_cons_succ, heap_size, heap_set_size] at hS); ((try clear hF); refine hfI ?_; intro hF)) | (go_at_call 18; (with_reducible refine Calls.mono (HA.out _ _ _ _ _ hS) ?_); clear hS; rintro e wk ⟨v1, M1, rfl, hS, hT1⟩; clear hT1; replace hS := hS.pull4a; ((try clear hF); refine hfI ?_; intro hF)))
        go_ret2
        exact TryRes.no hB1.out (fun h => absurd h HFa.out) HNF.out (hS.sub sub5X)
      have hgt : ¬ (200 : Int) < s1.ver := by omega
      have hgt' : decide ((200 : Int) < s1.ver) = false := decide_eq_false hgt
      have HKY := Lib.hid (fun (Z : World) (hx : Ext w Z) => key_V hv1 Z (by omega) (HTC.out.ext hx).2.1)
      have htm : t.size ≤ maxLen := by unfold maxLen; omega
      by_cases hlt : i < cs.length
      · as_aux_lemma =>
        obtain ⟨c0, hc0⟩ : ∃ x, cs[i]? = some x := ⟨_, List.getElem?_eq_getElem hlt⟩
        obtain ⟨s1', s2, h1, h2, ha⟩ := HLR.out.step i c0 hc0
        obtain rfl := Option.some.inj (HSI.out.symm.trans h1)
        have HPT := Lib.hid (fun (N : List Item) (Z : World) (h : Hp w.heap.size w Z (N ++ I)) => show Calls Tryz.prog 21 #[.pointer (some ⟨gb, 0, none⟩), .string (keyS (i + 1)), .string t] Z fun e w' => e = .returned (.iface 64 (.int .i64 9)) ∧ Ext Z w' from bput_has (keyS (i + 1)) t (keyS_good (by omega)) (HLR.out.text i c0 hc0).2 HB.out h)
        obtain ⟨T, hTt⟩ : ∃ T, bget D (keyS (i + 1)) = T := ⟨_, rfl⟩
        have HTH := Lib.hid (fun (N : List Item) (Z : World) (h : Hp w.heap.size w Z (.blk g3 [.pointer (some ⟨gb, 0, none⟩)] 25 :: (N ++ I))) => there_atV hv1 hTt hc0 HLR.out HB.out HTC.out h)
        have HFT := Lib.hid (fun (l : List (AN × AV)) (A : Option Addr) (nn cap : Nat) (C : List Item) (hl : Hid (l.map (·.1) = c0.al)) (hC : Hid (∀ (B : Nat) (w0 W : World), Hp B w0 W C → CmAt W ⟨c0.tx, c0.rd, l, A, nn, cap⟩)) (Z : World) (hM : Hp w.heap.size w Z M) (hCC : Hp w.heap.size w Z C) =>
          show Calls Tryz.prog 22 #[.agg #[.string c.tx, .bool c.rd, .slice c.a c.n c.cap], .agg #[.string c0.tx, .bool c0.rd, .slice A nn cap]] Z fun e w' => e = .returned (.bool (fightB c.rd c.l c0.al)) ∧ Ext Z w' from by
            have k1 := HCJ.out Z hM
            have k2 := hC.out _ _ Z hCC
            obtain ⟨_, z1, _⟩ := shortCo_out HSH.out
            obtain ⟨_, z2, _⟩ := shortCo_out (HLR.out.text i c0 hc0).1.2.2.1
            have e1 : c.l.length = c.n := by unfold CM.l; rw [List.length_map]; exact k1.len
            have e2 : c0.al.length = nn := by rw [← hl.out, List.length_map]; exact k2.len
            have := fights_any c.tx c0.tx c.rd c0.rd c.acts l c.a A c.n c.cap nn cap Z k1.len k2.len (by omega) (by omega) k1.ra k2.ra
            rw [hl.out] at this
            exact this)
        obtain ⟨fb, hfb⟩ : ∃ x, x = fightB c.rd c.l c0.al := ⟨_, rfl⟩
        rw [← hfb] at HFT
        have HSO := Lib.hid (HLR.out.text i c0 hc0).1.2.2.1
        have HAPL := Lib.hid ha
        have HS2 := Lib.hid h2
        have HV2 := Lib.hid (HLR.out.good (i + 1) s2 h2).2
        have HNF := Lib.hid (show ¬ Fine F cs ss q ⟨c.tx, c.rd, c.l⟩ from by
          rintro ⟨_, h1, _⟩
          omega)
        have HFN := Lib.hid (show fb = false → ¬ Fgt cs ss q ⟨c.tx, c.rd, c.l⟩ from fun hf => by
          rcases Nat.lt_or_ge q i with h | h
          · exact HFG.out h
          · rintro ⟨c1, _, _, _, k1, _, _, _, k2⟩
            obtain rfl : q = i := by omega
            obtain rfl := Option.some.inj (hc0.symm.trans k1)
            have : fightB c.rd c.l c0.al = true := k2
            rw [← hfb, hf] at this
            cases this)
        clear h1 h2 ha hc0 hTt hfb hv1 HGD HDA
        ((try clear hF); refine hfI ?_; intro hF)
        go_upto_region 11 with (first | (refine hab ?_; (try clear hF); clear hS; intro wk hS; (try simp only [List.set_cons_zero, List.set_cons_succ, heap_size, heap_set_size] at hS); ((try clear hF); refine hfI ?_; intro hF)) | (go_at_call 18; (with_reducible refine Calls.mono (HA.out _ _ _ _ _ hS) ?_); clear hS; rintro e wk ⟨v1, M1, rfl, hS, hT1⟩; clear hT1; replace hS := hS.pull4a; ((try clear hF); refine hfI ?_; intro hF)))
        obtain ⟨g12, hg12⟩ := hS.nameAt 0 rfl
        rw [← hg12] at hS hF ⊢
        clear hg12
        have HTI1 := Lib.hid (show Tb w ((M1 ++ X) ++ M) si vi from HTI.out.more fun W h => h.sub ((List.sublist_append_right M1 X).append_right M))
        obtain ⟨X1, hX1⟩ : ∃ x, x = M1 ++ X := ⟨_, rfl⟩
        rw [← hX1] at hS HTI1
        clear hX1
        ((with_reducible refine wp_region_hp (draw := true) (by kernel_rfl) (by kernel_rfl) hS ?_); (repeat ((with_reducible refine Fixed.here ?_); (first | ((with_reducible apply Fixed.skip); (first | rfl | exact wanted_false rfl rfl rfl (by assumption)); try simp only [Act.put, List.setIfInBounds_toArray, List.set_cons_zero, List.set_cons_succ]) | ((with_reducible apply Fixed.val); (first | rfl | exact wanted_true rfl rfl rfl (by assumption)); (rintro w hS; ((try clear hF); refine hfI ?_; intro hF); go_simp; with_reducible rfl); try simp only [Act.put, List.setIfInBounds_toArray, List.set_cons_zero, List.set_cons_succ]) | ((with_reducible apply Fixed.call); (first | rfl | exact wanted_true rfl rfl rfl (by assumption)); (rintro w hS; ((try clear hF); refine hfI ?_; intro hF); go_simp; exact ⟨rfl, rfl⟩); (rintro w hS; first | (with_reducible exact HKY.out _ hS.ext) | (with_reducible exact HPT.out _ _ (rePut hS))); try simp only [Act.put, List.setIfInBounds_toArray, List.set_cons_zero, List.set_cons_succ])))); (with_reducible refine Fixed.done ?_); (try clear hF); clear hS; intro wk hS; ((try clear hF); refine hfI ?_; intro hF))
        go_upto_region 19 with (first | (refine hab ?_; (try clear hF); clear hS; intro wk hS; (try simp only [List.set_cons_zero, List.set_cons_succ, heap_size, heap_set_size] at hS); ((try clear hF); refine hfI ?_; intro hF)) | (go_at_call 20; (with_reducible refine Calls.mono (HTH.out _ _ (toTh hS)) ?_); clear hS; rintro e wk ⟨l, A, nn, cap, C, hl, rfl, hS, hCm, hPr⟩; replace hS := ofThA hS; ((try clear hF); refine hfI ?_; intro hF)) | (go_at_call 15; (with_reducible refine (HTL.out 9 _ hS.ext).mono ?_); rintro e wk ⟨rfl, hX⟩; replace hS := hS.step hX; clear hX; ((try clear hF); refine hfI ?_; intro hF)))
        obtain ⟨g15, hg15⟩ := hS.nameAt 0 rfl
        rw [← hg15] at hS hF ⊢
        clear hg15
        have HF1 := Lib.hid (HFT.out l A nn cap C hl hCm)
        have HA2 := Lib.hid (fun (a b d f e' k : Item) (Z : World) (h : Hp w.heap.size w Z (a :: b :: d :: f :: e' :: k :: ((C ++ X1) ++ (M ++ I)))) =>
          show Calls Tryz.prog 18 #[snV si vi, .agg #[.string c0.tx, .bool c0.rd, .slice A nn cap]] Z fun e w' => ∃ v1 M1, e = .returned (.tuple #[snV s2 v1, .nilIface]) ∧ Hp w.heap.size w w' (M1 ++ (a :: b :: d :: f :: e' :: k :: ((C ++ X1) ++ (M ++ I)))) ∧ Tb w (M1 ++ ((C ++ X1) ++ M)) s2 v1 from
          applyJ_ok (c := ⟨c0.tx, c0.rd, l, A, nn, cap⟩) (J := (C ++ X1) ++ M) (HTI1.out.more fun W h => h.sub ((List.sublist_append_right C X1).append_right M)) (fun W h => hCm.out _ _ W (h.sub ((List.sublist_append_left C X1).trans (List.sublist_append_left _ _)))) HTC.out.1 (by show shortCo c0.tx (l.map (·.1)) = true; rw [hl.out]; exact HSO.out) (by rw [HSV.out]; omega) (by rw [HSV.out]; omega) (by show applyR _ c0.tx (l.map (·.1)) = _; rw [hl.out]; exact HAPL.out) sub6XM h)
        have subF : M.Sublist ((C ++ X1) ++ (M ++ I)) := (List.sublist_append_left M I).trans (List.sublist_append_right _ _)
        have subC : C.Sublist ((C ++ X1) ++ (M ++ I)) := (List.sublist_append_left C X1).trans (List.sublist_append_left _ _)
        have HF2 := Lib.hid (fun (a b d f e' k : Item) (Z : World) (h : Hp w.heap.size w Z (a :: b :: d :: f :: e' :: k :: ((C ++ X1) ++ (M ++ I)))) => HF1.out Z (h.sub (.cons _ (.cons _ (.cons _ (.cons _ (.cons _ (.cons _ subF))))))) (h.sub (.cons _ (.cons _ (.cons _ (.cons _ (.cons _ (.cons _ subC))))))))
        clear subF subC HF1 HFT hl hCm hPr HTH HPT HKY HTI HTI1
        cases fb with
        | true =>
          go_wp2_with (first | (refine hab ?_; (try clear hF); clear hS; intro wk hS; (try simp only [List.set_cons_zero, List.set_cons_succ, heap_size, heap_set_size] at hS); ((try clear hF); refine hfI ?_; intro hF)) | (go_at_call 22; (with_reducible refine (HF2.out _ _ _ _ _ _ _ hS).mono ?_); rintro e wk ⟨rfl, hX⟩; replace hS := hS.step hX; clear hX; ((try clear hF); refine hfI ?_; intro hF)))
          go_ret2
          exact TryRes.no hB1.out (fun _ => ⟨rfl, rfl⟩) HNF.out (hS.sub sub6X)
        | false =>
          have HFO := Lib.hid (HFN.out rfl)
          clear HFN
          go_wp2_with (first | (refine hab ?_; (try clear hF); clear hS; intro wk hS; (try simp only [List.set_cons_zero, List.set_cons_succ, heap_size, heap_set_size] at hS); ((try clear hF); refine hfI ?_; intro hF)) | (go_at_call 22; (with_reducible refine (HF2.out _ _ _ _ _ _ _ hS).mono ?_); rintro e wk ⟨rfl, hX⟩; replace hS := hS.step hX; clear hX; ((try clear hF); refine hfI ?_; intro hF)) | (go_at_call 18; (with_reducible refine Calls.mono (HA2.out _ _ _ _ _ _ _ hS) ?_); clear hS; rintro e wk ⟨v2, M2, rfl, hS, hT2⟩; replace hS := hS.pull6a; rw [← List.append_assoc M2 (C ++ X1) M] at hT2; ((try clear hF); refine hfI ?_; intro hF)))
          have hS4 := (((hS.put (i := 0) (j := 0) (u := .int .i64 s2.ver) rfl).put (i := 0) (j := 1) (u := .slice v2.ca v2.cn v2.cc) rfl).put (i := 0) (j := 2) (u := .int .i64 s2.next) rfl).put (i := 0) (j := 3) (u := .slice v2.fa v2.fn v2.fc) rfl
          simp only [List.set_cons_zero, List.set_cons_succ] at hS4
          have HM2 := Lib.hid (verPt_of hS4)
          go_roundw
          case rel => exact ⟨i + 1, _, s2, v2, M2 ++ (C ++ X1), rfl, by omega, by omega, HS2, Lib.hid hT2, Lib.hid (fun _ => HFO.out), hS4.sub (.cons₂ _ (.cons _ (.cons _ (.cons _ (.refl _)))))⟩
          case measure =>
            rw [HM2.out, HMS.out, HV2.out, HSV.out]
            show cs.length + 1 - (i + 1) < cs.length + 1 - i
            omega
      · obtain rfl : i = cs.length := by omega
        have HNO := Lib.hid (HLR.out.none (cs.length + 1) (by omega))
        have HFa := Lib.hid (show ¬ Fgt cs ss q ⟨c.tx, c.rd, c.l⟩ from by
          rcases Nat.lt_or_ge q cs.length with h | h
          · exact HFG.out h
          · exact Fgt.not_end h)
        have hPW := put_ways (w := w) (t := t) (keyS_good (n := cs.length + 1) (by omega)) HNO.out htm HND.out HB.out
        have HPUSH := Lib.hid (HLR.out.push (c := ⟨c.tx, c.rd, c.l⟩) (t := t) HSI.out HDA.out (by omega) HCO.out)
        have HTX := Lib.hid (show bget (D.put (sk (keyS (cs.length + 1))) (sv t)) (keyS (cs.length + 1)) = t from bget_put_same HLR.out.isMap _ _)
        have h300 : cs.length ≤ 300 := by omega
        have HTN := Lib.hid (fun (I' : List Item) (F' : List Int) (hB' : Bkt gb D (nD + 1) F' I') (N : List Item) (Z : World) (h : Hp w.heap.size w Z (.blk g3 [.pointer (some ⟨gb, 0, none⟩)] 25 :: (N ++ I'))) => there_noV hv1 h300 HNO.out hB' HTC.out h)
        have HTH := Lib.hid (fun (I' : List Item) (F' : List Int) (hB' : Bkt gb (D.put (sk (keyS (cs.length + 1))) (sv t)) (nD + 1) F' I') (N : List Item) (Z : World) (h : Hp w.heap.size w Z (.blk g3 [.pointer (some ⟨gb, 0, none⟩)] 25 :: (N ++ I'))) => there_atV (c := ⟨c.tx, c.rd, c.l⟩) hv1 HTX.out (by simp) HPUSH.out hB' HTC.out h)
        clear hv1 h200 hlt hi hqi
        rcases hPW with ⟨F', hp⟩ | ⟨hF0, ⟨F', hp⟩ | ⟨F', hp⟩⟩
        · as_aux_lemma =>
          have HPT := Lib.hid hp
          clear hp HTN HTH
          ((try clear hF); refine hfI ?_; intro hF)
          go_upto_region 11 with (first | (refine hab ?_; (try clear hF); clear hS; intro wk hS; (try simp only [List.set_cons_zero, List.set_cons_succ, heap_size, heap_set_size] at hS); ((try clear hF); refine hfI ?_; intro hF)) | (go_at_call 18; (with_reducible refine Calls.mono (HA.out _ _ _ _ _ hS) ?_); clear hS; rintro e wk ⟨v1, M1, rfl, hS, hT1⟩; clear hT1; replace hS := hS.pull4a; ((try clear hF); refine hfI ?_; intro hF)))
          obtain ⟨g12, hg12⟩ := hS.nameAt 0 rfl
          rw [← hg12] at hS hF ⊢
          clear hg12
          ((with_reducible refine wp_region_braidz_hp [.q, .q, .q, .q, .q, .t, .t] 5 [.blk g12 (snC s1 v1) 33, .blk g3 [.pointer (some ⟨gb, 0, none⟩)] 25] (by kernel_rfl) rfl (by kernel_rfl) hS (fun w h => h.sub (by simp)) ?_); clear hS; (repeat ((with_reducible refine Walk.here ?_); (first | ((with_reducible apply Walk.skipQ); (first | rfl | exact wanted_false rfl rfl rfl (by assumption)); (try simp only [Mark.isQ, if_true, Bool.false_eq_true, if_false, Act.put, List.setIfInBounds_toArray, List.set_cons_zero, List.set_cons_succ])) | ((with_reducible apply Walk.val); (first | rfl | exact wanted_true rfl rfl rfl (by assumption)); (rintro w hS; ((try clear hF); refine hfI ?_; intro hF); go_simp; first | with_reducible rfl | (rw [if_neg (by first | omega | (simp only [ByteArray.size_append]; omega) | (simp [ByteArray.size_append]; omega))]; try with_reducible rfl)); (try simp only [Mark.isQ, if_true, Bool.false_eq_true, if_false, Act.put, List.setIfInBounds_toArray, List.set_cons_zero, List.set_cons_succ])) | ((with_reducible apply Walk.call); (first | rfl | exact wanted_true rfl rfl rfl (by assumption)); (rintro w hS; ((try clear hF); refine hfI ?_; intro hF); go_simp; exact ⟨rfl, rfl⟩); (rintro w hS; first | (with_reducible exact HKY.out _ hS.ext)); (try simp only [Mark.isQ, if_true, Bool.false_eq_true, if_false, Act.put, List.setIfInBounds_toArray, List.set_cons_zero, List.set_cons_succ])) | ((with_reducible apply Walk.tail); (try simp only [Mark.isQ, if_true, Bool.false_eq_true, if_false, Act.put, List.setIfInBounds_toArray, List.set_cons_zero, List.set_cons_succ])) | ((with_reducible apply Walk.guardT); rfl; rfl; rfl; (all_goals intro hg)) | ((with_reducible apply Walk.guardF); rfl; rfl; rfl; (all_goals intro hg))))); refine Walk.done ?_; show BraidZ _ _ _ _ 5 2 [5, 6] _ _)
          (refine BraidZ.next1 (i := 5) (by kernel_rfl) (by kernel_rfl) rfl ?_; (try simp only [List.getElem_toArray, List.getElem_cons_succ, List.getElem_cons_zero]))
          (refine ZStep.call (by (first | rfl | exact wanted_true rfl rfl rfl (by assumption))) (by rintro w hS; ((try clear hF); refine hfI ?_; intro hF); go_simp; exact ⟨rfl, rfl⟩) ?_; (intro w hS); (with_reducible refine Calls.mono (HPT.out _ _ _ _ _ _ _ _ hS) ?_); clear hS; rintro e wk ⟨rfl, I', hB', hS⟩; refine ⟨_, _, rfl, hS, (fun w h => h.sub (by first | simp | ((try simp only [List.eraseIdx_cons_zero, List.eraseIdx_cons_succ]); (repeat (first | exact List.nil_sublist _ | exact List.Sublist.refl _ | with_reducible apply List.Sublist.cons₂ | apply List.Sublist.cons))))), ?_⟩; (clear hS); try simp only [Act.put, List.setIfInBounds_toArray, List.set_cons_zero, List.set_cons_succ])
          (refine BraidZ.next1 (i := 6) (by kernel_rfl) (by kernel_rfl) rfl ?_; (try simp only [List.getElem_toArray, List.getElem_cons_succ, List.getElem_cons_zero]))
          (refine ZStep.val (by (first | rfl | exact wanted_true rfl rfl rfl (by assumption))) (fun w h => h.sub (by first | simp | ((try simp only [List.eraseIdx_cons_zero, List.eraseIdx_cons_succ]); (repeat (first | exact List.nil_sublist _ | exact List.Sublist.refl _ | with_reducible apply List.Sublist.cons₂ | apply List.Sublist.cons))))) (by rintro w hS; ((try clear hF); refine hfI ?_; intro hF); go_simp; with_reducible rfl) ?_; try simp only [Act.put, List.setIfInBounds_toArray, List.set_cons_zero, List.set_cons_succ])
          (refine BraidZ.last (by kernel_rfl) ?_; (try clear hF); intro wk hS; ((try clear hF); refine hfI ?_; intro hF))
          go_wp2_with (first | (refine hab ?_; (try clear hF); clear hS; intro wk hS; (try simp only [List.set_cons_zero, List.set_cons_succ, heap_size, heap_set_size] at hS); ((try clear hF); refine hfI ?_; intro hF)) | fail)
          go_ret2
          exact TryRes.yes HV1.out HPUSH.out hB' HFa.out (hS.sub sub5X)
        · as_aux_lemma =>
          have HPT := Lib.hid hp
          have HF0 := Lib.hid hF0
          clear hp HTH hF0
          ((try clear hF); refine hfI ?_; intro hF)
          go_upto_region 11 with (first | (refine hab ?_; (try clear hF); clear hS; intro wk hS; (try simp only [List.set_cons_zero, List.set_cons_succ, heap_size, heap_set_size] at hS); ((try clear hF); refine hfI ?_; intro hF)) | (go_at_call 18; (with_reducible refine Calls.mono (HA.out _ _ _ _ _ hS) ?_); clear hS; rintro e wk ⟨v1, M1, rfl, hS, hT1⟩; clear hT1; replace hS := hS.pull4a; ((try clear hF); refine hfI ?_; intro hF)))
          obtain ⟨g12, hg12⟩ := hS.nameAt 0 rfl
          rw [← hg12] at hS hF ⊢
          clear hg12
          ((with_reducible refine wp_region_braidz_hp [.q, .q, .q, .q, .q, .t, .t] 5 [.blk g12 (snC s1 v1) 33, .blk g3 [.pointer (some ⟨gb, 0, none⟩)] 25] (by kernel_rfl) rfl (by kernel_rfl) hS (fun w h => h.sub (by simp)) ?_); clear hS; (repeat ((with_reducible refine Walk.here ?_); (first | ((with_reducible apply Walk.skipQ); (first | rfl | exact wanted_false rfl rfl rfl (by assumption)); (try simp only [Mark.isQ, if_true, Bool.false_eq_true, if_false, Act.put, List.setIfInBounds_toArray, List.set_cons_zero, List.set_cons_succ])) | ((with_reducible apply Walk.val); (first | rfl | exact wanted_true rfl rfl rfl (by assumption)); (rintro w hS; ((try clear hF); refine hfI ?_; intro hF); go_simp; first | with_reducible rfl | (rw [if_neg (by first | omega | (simp only [ByteArray.size_append]; omega) | (simp [ByteArray.size_append]; omega))]; try with_reducible rfl)); (try simp only [Mark.isQ, if_true, Bool.false_eq_true, if_false, Act.put, List.setIfInBounds_toArray, List.set_cons_zero, List.set_cons_succ])) | ((with_reducible apply Walk.call); (first | rfl | exact wanted_true rfl rfl rfl (by assumption)); (rintro w hS; ((try clear hF); refine hfI ?_; intro hF); go_simp; exact ⟨rfl, rfl⟩); (rintro w hS; first | (with_reducible exact HKY.out _ hS.ext)); (try simp only [Mark.isQ, if_true, Bool.false_eq_true, if_false, Act.put, List.setIfInBounds_toArray, List.set_cons_zero, List.set_cons_succ])) | ((with_reducible apply Walk.tail); (try simp only [Mark.isQ, if_true, Bool.false_eq_true, if_false, Act.put, List.setIfInBounds_toArray, List.set_cons_zero, List.set_cons_succ])) | ((with_reducible apply Walk.guardT); rfl; rfl; rfl; (all_goals intro hg)) | ((with_reducible apply Walk.guardF); rfl; rfl; rfl; (all_goals intro hg))))); refine Walk.done ?_; show BraidZ _ _ _ _ 5 2 [5, 6] _ _)
          (refine BraidZ.next1 (i := 5) (by kernel_rfl) (by kernel_rfl) rfl ?_; (try simp only [List.getElem_toArray, List.getElem_cons_succ, List.getElem_cons_zero]))
          (refine ZStep.call (by (first | rfl | exact wanted_true rfl rfl rfl (by assumption))) (by rintro w hS; ((try clear hF); refine hfI ?_; intro hF); go_simp; exact ⟨rfl, rfl⟩) ?_; (intro w hS); (with_reducible refine Calls.mono (HPT.out _ _ _ _ _ _ _ _ hS) ?_); clear hS; rintro e wk ⟨rfl, I', hB', hS⟩; refine ⟨_, _, rfl, hS, (fun w h => h.sub (by first | simp | ((try simp only [List.eraseIdx_cons_zero, List.eraseIdx_cons_succ]); (repeat (first | exact List.nil_sublist _ | exact List.Sublist.refl _ | with_reducible apply List.Sublist.cons₂ | apply List.Sublist.cons))))), ?_⟩; (clear hS); try simp only [Act.put, List.setIfInBounds_toArray, List.set_cons_zero, List.set_cons_succ])
          (refine BraidZ.next1 (i := 6) (by kernel_rfl) (by kernel_rfl) rfl ?_; (try simp only [List.getElem_toArray, List.getElem_cons_succ, List.getElem_cons_zero]))
          (refine ZStep.val (by (first | rfl | exact wanted_true rfl rfl rfl (by assumption))) (fun w h => h.sub (by first | simp | ((try simp only [List.eraseIdx_cons_zero, List.eraseIdx_cons_succ]); (repeat (first | exact List.nil_sublist _ | exact List.Sublist.refl _ | with_reducible apply List.Sublist.cons₂ | apply List.Sublist.cons))))) (by rintro w hS; ((try clear hF); refine hfI ?_; intro hF); go_simp; with_reducible rfl) ?_; try simp only [Act.put, List.setIfInBounds_toArray, List.set_cons_zero, List.set_cons_succ])
          (refine BraidZ.last (by kernel_rfl) ?_; (try clear hF); intro wk hS; ((try clear hF); refine hfI ?_; intro hF))
          go_wp2_with (first | (refine hab ?_; (try clear hF); clear hS; intro wk hS; (try simp only [List.set_cons_zero, List.set_cons_succ, heap_size, heap_set_size] at hS); ((try clear hF); refine hfI ?_; intro hF)) | (go_at_call 20; (with_reducible refine Calls.mono (HTN.out _ _ hB' _ _ (toTh hS)) ?_); clear hS; rintro e wk ⟨rfl, hS⟩; replace hS := un5 hS; ((try clear hF); refine hfI ?_; intro hF)))
          go_ret2
          exact TryRes.no hB' (fun h => absurd h HFa.out) (fun h => HF0.out h.1) (hS.sub sub6X)
        · as_aux_lemma =>
          have HPT := Lib.hid hp
          clear hp HTN hF0
          ((try clear hF); refine hfI ?_; intro hF)
          go_upto_region 11 with (first | (refine hab ?_; (try clear hF); clear hS; intro wk hS; (try simp only [List.set_cons_zero, List.set_cons_succ, heap_size, heap_set_size] at hS); ((try clear hF); refine hfI ?_; intro hF)) | (go_at_call 18; (with_reducible refine Calls.mono (HA.out _ _ _ _ _ hS) ?_); clear hS; rintro e wk ⟨v1, M1, rfl, hS, hT1⟩; clear hT1; replace hS := hS.pull4a; ((try clear hF); refine hfI ?_; intro hF)))
          obtain ⟨g12, hg12⟩ := hS.nameAt 0 rfl
          rw [← hg12] at hS hF ⊢
          clear hg12
          ((with_reducible refine wp_region_braidz_hp [.q, .q, .q, .q, .q, .t, .t] 5 [.blk g12 (snC s1 v1) 33, .blk g3 [.pointer (some ⟨gb, 0, none⟩)] 25] (by kernel_rfl) rfl (by kernel_rfl) hS (fun w h => h.sub (by simp)) ?_); clear hS; (repeat ((with_reducible refine Walk.here ?_); (first | ((with_reducible apply Walk.skipQ); (first | rfl | exact wanted_false rfl rfl rfl (by assumption)); (try simp only [Mark.isQ, if_true, Bool.false_eq_true, if_false, Act.put, List.setIfInBounds_toArray, List.set_cons_zero, List.set_cons_succ])) | ((with_reducible apply Walk.val); (first | rfl | exact wanted_true rfl rfl rfl (by assumption)); (rintro w hS; ((try clear hF); refine hfI ?_; intro hF); go_simp; first | with_reducible rfl | (rw [if_neg (by first | omega | (simp only [ByteArray.size_append]; omega) | (simp [ByteArray.size_append]; omega))]; try with_reducible rfl)); (try simp only [Mark.isQ, if_true, Bool.false_eq_true, if_false, Act.put, List.setIfInBounds_toArray, List.set_cons_zero, List.set_cons_succ])) | ((with_reducible apply Walk.call); (first | rfl | exact wanted_true rfl rfl rfl (by assumption)); (rintro w hS; ((try clear hF); refine hfI ?_; intro hF); go_simp; exact ⟨rfl, rfl⟩); (rintro w hS; first | (with_reducible exact HKY.out _ hS.ext)); (try simp only [Mark.isQ, if_true, Bool.false_eq_true, if_false, Act.put, List.setIfInBounds_toArray, List.set_cons_zero, List.set_cons_succ])) | ((with_reducible apply Walk.tail); (try simp only [Mark.isQ, if_true, Bool.false_eq_true, if_false, Act.put, List.setIfInBounds_toArray, List.set_cons_zero, List.set_cons_succ])) | ((with_reducible apply Walk.guardT); rfl; rfl; rfl; (all_goals intro hg)) | ((with_reducible apply Walk.guardF); rfl; rfl; rfl; (all_goals intro hg))))); refine Walk.done ?_; show BraidZ _ _ _ _ 5 2 [5, 6] _ _)
          (refine BraidZ.next1 (i := 5) (by kernel_rfl) (by kernel_rfl) rfl ?_; (try simp only [List.getElem_toArray, List.getElem_cons_succ, List.getElem_cons_zero]))
          (refine ZStep.call (by (first | rfl | exact wanted_true rfl rfl rfl (by assumption))) (by rintro w hS; ((try clear hF); refine hfI ?_; intro hF); go_simp; exact ⟨rfl, rfl⟩) ?_; (intro w hS); (with_reducible refine Calls.mono (HPT.out _ _ _ _ _ _ _ _ hS) ?_); clear hS; rintro e wk ⟨rfl, I', hB', hS⟩; refine ⟨_, _, rfl, hS, (fun w h => h.sub (by first | simp | ((try simp only [List.eraseIdx_cons_zero, List.eraseIdx_cons_succ]); (repeat (first | exact List.nil_sublist _ | exact List.Sublist.refl _ | with_reducible apply List.Sublist.cons₂ | apply List.Sublist.cons))))), ?_⟩; (clear hS); try simp only [Act.put, List.setIfInBounds_toArray, List.set_cons_zero, List.set_cons_succ])
          (refine BraidZ.next1 (i := 6) (by kernel_rfl) (by kernel_rfl) rfl ?_; (try simp only [List.getElem_toArray, List.getElem_cons_succ, List.getElem_cons_zero]))
          (refine ZStep.val (by (first | rfl | exact wanted_true rfl rfl rfl (by assumption))) (fun w h => h.sub (by first | simp | ((try simp only [List.eraseIdx_cons_zero, List.eraseIdx_cons_succ]); (repeat (first | exact List.nil_sublist _ | exact List.Sublist.refl _ | with_reducible apply List.Sublist.cons₂ | apply List.Sublist.cons))))) (by rintro w hS; ((try clear hF); refine hfI ?_; intro hF); go_simp; with_reducible rfl) ?_; try simp only [Act.put, List.setIfInBounds_toArray, List.set_cons_zero, List.set_cons_succ])
          (refine BraidZ.last (by kernel_rfl) ?_; (try clear hF); intro wk hS; ((try clear hF); refine hfI ?_; intro hF))
          go_wp2_with (first | (refine hab ?_; (try clear hF); clear hS; intro wk hS; (try simp only [List.set_cons_zero, List.set_cons_succ, heap_size, heap_set_size] at hS); ((try clear hF); refine hfI ?_; intro hF)) | (go_at_call 20; (with_reducible refine Calls.mono (HTH.out _ _ hB' _ _ (toTh hS)) ?_); clear hS; rintro e wk ⟨l, A, nn, cap, C, hl, rfl, hS, hCm, hPr⟩; replace hS := ofThA hS; ((try clear hF); refine hfI ?_; intro hF)) | (go_at_call 15; (with_reducible refine (HTL.out 14 _ hS.ext).mono ?_); rintro e wk ⟨rfl, hX⟩; replace hS := hS.step hX; clear hX; ((try clear hF); refine hfI ?_; intro hF)))
          go_ret2
          exact TryRes.yes HV1.out HPUSH.out hB' HFa.out (hS.sub sub6X)
end Go.Proofs.YtlgidjanmaijaaaGreatDoor

/- millpondkeep.committed: a fact: two who write. -/
namespace Go.Proofs.YtlgidjanmaijaaaGreatDoor
set_option linter.unusedSimpArgs false
set_option linter.unusedVariables false
open Go.RowKit
set_option linter.all false
abbrev txU : ByteArray := ⟨#[117]⟩
def sC : SN := ⟨1, [c1L], 2, []⟩
def cT : CO := ⟨txL, false, [a1L]⟩
def cmC (tx : ByteArray) (ga gc : Nat) : CM := ⟨tx, false, [(a1L, ⟨none, 0, 0, some ⟨gc, 0, none⟩, 1, 1⟩)], some ⟨ga, 0, none⟩, 1, 1⟩
theorem nameU : nameB txU = true := by decide +kernel
theorem apply_C {tx : ByteArray} (h : nameB tx = true) : applyR s0N tx [a1L] = .ok sC := by
  unfold applyR
  rw [if_pos h]
  have h : runA 0 { s0N with ver := s0N.ver + 1 } [a1L] = .ok sC := by
    rw [runA_cons, if_pos (show actE { s0N with ver := s0N.ver + 1 } a1L = 0 from act1L)]
    rw [show actS { s0N with ver := s0N.ver + 1 } a1L = ⟨1, [c1L], 2, []⟩ from rfl]
    rfl
  rw [h]
theorem print_T : ∃ t, printC txL false [a1L] = some t := Option.isSome_iff_exists.1 (by decide +kernel)
theorem print_U : ∃ t, printC txU false [a1L] = some t := Option.isSome_iff_exists.1 (by decide +kernel)
theorem short_T : shortCo txL [a1L] = true := by decide +kernel
theorem short_U : shortCo txU [a1L] = true := by decide +kernel
theorem fight_C : fightB false [a1L] [a1L] = true := by decide +kernel
theorem cmj_C (tx : ByteArray) (ga gc : Nat) : CmJ (cmC tx ga gc) := by
  intro a v hm
  obtain ⟨rfl, rfl⟩ : a = a1L ∧ v = ⟨none, 0, 0, some ⟨gc, 0, none⟩, 1, 1⟩ := by simpa [cmC] using hm
  exact ⟨fun x hx => (by cases hx), fun c hc => by obtain rfl := List.mem_singleton.1 hc; unfold i64 c1L; decide, by unfold i64 a1L; decide, by unfold i64 a1L; decide⟩
abbrev actCl (gc : Nat) : List Value := [.int .i64 4, .string ⟨#[]⟩, .int .i64 0, .slice none 0 0, .slice (some ⟨gc, 0, none⟩) 1 1, .int .i64 2]
abbrev colCl : List Value := [.int .i64 1, .string ⟨#[97]⟩, .int .i64 1, .bool false, .int .i64 0, .int .i64 0, .string ⟨#[]⟩]
theorem cm_C {W : World} {tx : ByteArray} {ga gc : Nat} {t1 t2 : TypeId} (h1 : W.heap[ga]? = some (.cells (actCl gc).toArray t1 (0, 0))) (h2 : W.heap[gc]? = some (.cells colCl.toArray t2 (0, 0))) : CmAt W (cmC tx ga gc) := by
  refine ⟨rfl, fun k a v hk => ?_, fun a v hm => ?_⟩
  · match k, hk with
    | 0, hk =>
      obtain ⟨rfl, rfl⟩ : a1L = a ∧ (⟨none, 0, 0, some ⟨gc, 0, none⟩, 1, 1⟩ : AV) = v := by simpa [cmC] using hk
      refine ⟨ga, 0, rfl, ?_⟩
      unfold a1L
      simp [World.cell?, h1]
    | k + 1, hk => simp [cmC] at hk
  · obtain ⟨rfl, rfl⟩ : a = a1L ∧ v = ⟨none, 0, 0, some ⟨gc, 0, none⟩, 1, 1⟩ := by simpa [cmC] using hm
    exact ⟨rfl, fun _ => rfl, ri_nilL _ _, rfl, by simp, rc_oneL h2⟩
section
variable {w : World}
theorem try_1 {ga gc gb : Nat} {M I : List Item} (hc : ∀ W, Hp w.heap.size w W M → CmAt W (cmC txL ga gc)) (hB : Bkt gb (.map []) 0 [] I) (hT : TabsC w) {W : World} (hS : Hp w.heap.size w W (M ++ I)) :
    Calls Tryz.prog 9 #[.pointer (some ⟨gb, 0, none⟩), .agg #[.int .i64 0, .slice none 0 0, .int .i64 0, .slice none 0 0], .agg #[.string txL, .bool false, .slice (some ⟨ga, 0, none⟩) 1 1]] W fun e w' => ∃ X I' F' D', e = .returned (.tuple #[.int .i64 1, .nilIface]) ∧ Hp w.heap.size w w' (X ++ (M ++ I')) ∧ LogR D' [cT] [s0N, sC] ∧ Bkt gb D' 1 F' I' := by
  refine (try_any (F := []) 0 s0N v0N (cmC txL ga gc) rfl (Nat.le_refl _) (tb0 w M) hc short_T (cmj_C _ _ _) LogR.nil hB (by unfold maxLen; omega) hT hS).mono fun e w' hr => ?_
  obtain ⟨X, I', F', hS', ⟨D', s', rfl, hL, hB', _⟩ | ⟨tp, pv, _, _, _, hF⟩⟩ := hr
  · obtain ⟨s, s2, h1, h2, h3⟩ := hL.step 0 cT rfl
    obtain rfl : s0N = s := by simpa using h1
    obtain rfl : s' = s2 := by simpa using h2
    have : Except.ok sC = Except.ok s' := (apply_C name1L).symm.trans h3
    obtain rfl : sC = s' := by simpa using this
    exact ⟨X, I', F', D', rfl, hS', hL, hB'⟩
  · obtain ⟨t, ht⟩ := print_T
    exact absurd ⟨rfl, rfl, by decide, s0N, sC, t, rfl, apply_C name1L, ht⟩ hF
theorem try_2 {ga gc gb : Nat} {M I : List Item} {D : DataW Unit} {F : List Int} (hc : ∀ W, Hp w.heap.size w W M → CmAt W (cmC txU ga gc)) (hL : LogR D [cT] [s0N, sC]) (hB : Bkt gb D 1 F I) (hT : TabsC w) {W : World} (hS : Hp w.heap.size w W (M ++ I)) :
    Calls Tryz.prog 9 #[.pointer (some ⟨gb, 0, none⟩), .agg #[.int .i64 0, .slice none 0 0, .int .i64 0, .slice none 0 0], .agg #[.string txU, .bool false, .slice (some ⟨ga, 0, none⟩) 1 1]] W fun e w' => ∃ X I' F', e = .returned (.tuple #[.int .i64 0, .iface 64 (.int .i64 6)]) ∧ Hp w.heap.size w w' (X ++ (M ++ I')) ∧ Bkt gb D 2 F' I' := by
  refine (try_any (F := F) 0 s0N v0N (cmC txU ga gc) rfl (Nat.zero_le _) (tb0 w M) hc short_U (cmj_C _ _ _) hL hB (by unfold maxLen; omega) hT hS).mono fun e w' hr => ?_
  obtain ⟨t, ht⟩ := print_U
  have hf : Fgt [cT] [s0N, sC] 0 ⟨txU, false, [a1L]⟩ := ⟨cT, s0N, sC, t, rfl, rfl, apply_C nameU, ht, fight_C⟩
  obtain ⟨X, I', F', hS', ⟨D', s', _, _, _, hF⟩ | ⟨tp, pv, rfl, hB', h6, _⟩⟩ := hr
  · exact absurd hf hF
  · obtain ⟨rfl, rfl⟩ := h6 hf
    exact ⟨X, I', F', rfl, hS', hB'⟩
theorem load_C {gb : Nat} {M I : List Item} {D : DataW Unit} {F : List Int} (hL : LogR D [cT] [s0N, sC]) (hB : Bkt gb D 2 F I) (hT : TabsC w) {W : World} (hS : Hp w.heap.size w W (M ++ I)) :
    Calls Tryz.prog 8 #[.pointer (some ⟨gb, 0, none⟩), .int .i64 (-1)] W fun e w' => ∃ (ca fa : Option Addr) (cc fn fc : Nat) (K : List Item), e = .returned (.tuple #[.agg #[.int .i64 1, .slice ca 1 cc, .int .i64 2, .slice fa fn fc], .nilIface]) ∧ Hp w.heap.size w w' (K ++ (M ++ I)) := by
  refine (load_any (-1) 1 (Nat.le_refl _) (.inl ⟨rfl, rfl⟩) sC rfl hL hB hT hS).mono fun e w' hr => ?_
  obtain ⟨v, K, rfl, hS', ht⟩ := hr
  have hcl := ht.ok.k.cl
  have e1 : v.cn = 1 := by simpa [sC, eq_comm] using hcl
  exact ⟨v.ca, v.fa, v.cc, v.fn, v.fc, K, by rw [snV, e1]; rfl, hS'⟩
end
theorem re3 {B : Nat} {w0 W : World} {a b c : Item} {X I : List Item} (h : Hp B w0 W (a :: b :: c :: (X ++ I))) : Hp B w0 W ((a :: b :: c :: X) ++ I) := h
theorem re5 {B : Nat} {w0 W : World} {a b c : Item} {Y X I : List Item} (h : Hp B w0 W (a :: b :: c :: (Y ++ (X ++ I)))) : Hp B w0 W ((a :: b :: c :: (Y ++ X)) ++ I) := by
  simpa [List.append_assoc] using h
set_option maxRecDepth 100000 in
set_option maxHeartbeats 8000000 in
theorem committed_any (w : World) (hT : TabsC w) : Calls Tryz.prog 4 #[] w fun e w' => e = .returned (.bool true) ∧ Ext w w' := by
  have HT := Lib.hid hT
  have HTL := Lib.hid (fun (e : Int) (X : World) (hx : Ext w X) => tell_any e X (hT.ext hx).2.2.2.2.2)
  clear hT
  have hS := Hp.init w
  have hR := Reads.nil w
  go_enter Tryz.func4, Tryz.ntmps4
  go_upto_region 3 with (first | (refine hab ?_; (try clear hF); clear hS; intro wk hS; (try simp only [List.set_cons_zero, List.set_cons_succ, heap_size, heap_set_size] at hS); ((try clear hF); refine hfI ?_; intro hF)) | fail)
  obtain ⟨g2, hg2⟩ := hS.nameAt 0 rfl
  rw [← hg2] at hS hF ⊢
  clear hg2
  obtain ⟨ga, hga⟩ := hS.nameAt 1 rfl
  rw [← hga] at hS hF ⊢
  clear hga
  obtain ⟨gc, hgc⟩ := hS.nameAt 2 rfl
  rw [← hgc] at hS hF ⊢
  clear hgc
  obtain ⟨I, hB, hS⟩ := bkt_new (hS.front 3 rfl)
  simp only [List.eraseIdx_cons_zero, List.eraseIdx_cons_succ, List.cons_append, List.nil_append] at hS
  have H1 := Lib.hid (fun (W : World) (h : Hp w.heap.size w W (_ :: _ :: _ :: I)) => try_1 (ga := ga) (gc := gc) (M := [.blk g2 [.string ⟨#[116]⟩, .bool false, .slice (some ⟨ga, 0, none⟩) 1 1] 38, .blk ga (actCl gc) 63, .blk gc colCl 61]) (fun W h => cm_C (h.blkAt 1 rfl) (h.blkAt 2 rfl)) hB HT.out h)
  clear hB
  ((try clear hF); refine hfI ?_; intro hF)
  go_upto_region 6 with (first | (refine hab ?_; (try clear hF); clear hS; intro wk hS; (try simp only [List.set_cons_zero, List.set_cons_succ, heap_size, heap_set_size] at hS); ((try clear hF); refine hfI ?_; intro hF)) | (go_at_call 9; (with_reducible refine Calls.mono (H1.out _ hS) ?_); clear hS; rintro e wk ⟨X, I1, F1, D1, rfl, hS, hL1, hB1⟩; (have hS9 : Hp w.heap.size w wk (_ :: _ :: _ :: (X ++ I1)) := hS.pull3); clear hS; (have hS := hS9); clear hS9; ((try clear hF); refine hfI ?_; intro hF)))
  have H2 := Lib.hid (fun (W : World) (h : Hp w.heap.size w W (.blk g2 [.string ⟨#[116]⟩, .bool false, .slice (some ⟨ga, 0, none⟩) 1 1] 38 :: .blk ga (actCl gc) 63 :: .blk gc colCl 61 :: (X ++ I1))) => try_2 (ga := ga) (gc := gc) (fun W h => cm_C (h.blkAt 1 rfl) (h.blkAt 2 rfl)) hL1 hB1 HT.out (re3 h))
  have HL1 := Lib.hid hL1
  clear hL1 hB1 H1
  go_upto_region 9 with (first | (refine hab ?_; (try clear hF); clear hS; intro wk hS; (try simp only [List.set_cons_zero, List.set_cons_succ, heap_size, heap_set_size] at hS); ((try clear hF); refine hfI ?_; intro hF)) | (go_at_call 9; (with_reducible refine Calls.mono (H2.out _ hS) ?_); clear hS; rintro e wk ⟨X2, I2, F2, rfl, hS, hB2⟩; (have hS9 : Hp w.heap.size w wk (_ :: _ :: _ :: (X2 ++ (X ++ I2))) := hS.pull3); clear hS; (have hS := hS9); clear hS9; ((try clear hF); refine hfI ?_; intro hF)) | (go_at_call 15; (with_reducible refine (HTL.out 6 _ hS.ext).mono ?_); rintro e wk ⟨rfl, hX⟩; replace hS := hS.step hX; clear hX; ((try clear hF); refine hfI ?_; intro hF)))
  have H3 := Lib.hid (fun (W : World) (a b c : Item) (h : Hp w.heap.size w W (a :: b :: c :: (X2 ++ (X ++ I2)))) => load_C HL1.out hB2 HT.out (re5 h))
  clear hB2 H2
  go_wp2_with (first | (refine hab ?_; (try clear hF); clear hS; intro wk hS; (try simp only [List.set_cons_zero, List.set_cons_succ, heap_size, heap_set_size] at hS); ((try clear hF); refine hfI ?_; intro hF)) | (go_at_call 8; (with_reducible refine Calls.mono (H3.out _ _ _ _ hS) ?_); clear hS; rintro e wk ⟨ca, fa, cc, fn, fc, K, rfl, hS⟩; replace hS := hS.pull3; ((try clear hF); refine hfI ?_; intro hF)))
  go_ret
  exact ⟨rfl, hS.ext⟩
end Go.Proofs.YtlgidjanmaijaaaGreatDoor

/- CommitOne: what is kept from turn to turn. -/
namespace Go.Proofs.YtlgidjanmaijaaaGreatDoor
set_option linter.unusedSimpArgs false
set_option linter.unusedVariables false
open Go.RowKit
set_option linter.all false
/-- a table that was seen -/
def SeenOk (w : World) (K : List Item) (cs : List CO) (ss : List SN) (z : SN) (y : SV) : Prop := (∃ q, q ≤ cs.length ∧ ss[q]? = some z) ∧ Tb w K z y
theorem SeenOk.more {w : World} {K K' : List Item} {cs : List CO} {ss : List SN} {z : SN} {y : SV} (h : SeenOk w K cs ss z y) (hK : ∀ W, Hp w.heap.size w W K' → Hp w.heap.size w W K) : SeenOk w K' cs ss z y := ⟨h.1, h.2.more hK⟩
theorem SeenOk.push {w : World} {K : List Item} {cs : List CO} {ss : List SN} {z : SN} {y : SV} (h : SeenOk w K cs ss z y) (c : CO) (s : SN) : SeenOk w K (cs ++ [c]) (ss ++ [s]) z y := by
  obtain ⟨⟨q, h1, h2⟩, h3⟩ := h
  exact ⟨⟨q, by simp; omega, by rw [List.getElem?_append_left (List.getElem?_eq_some_iff.1 h2).1]; exact h2⟩, h3⟩
structure One (w : World) (gb k : Nat) (K I : List Item) (S : List (SN × SV)) (z0 : SN) (y0 : SV) (z1 : SN) (y1 : SV) (z2 : SN) (y2 : SV) (D : DataW Unit) (F : List Int) (cs : List CO) (ss : List SN) : Prop where
  log : LogR D cs ss
  bkt : Bkt gb D k F I
  len : S.length = cs.length
  was : ∀ (n : Nat) (s : SN) (v : SV), S[n]? = some (s, v) → ss[n + 1]? = some s ∧ Tb w K s v
  s0 : SeenOk w K cs ss z0 y0
  s1 : SeenOk w K cs ss z1 y1
  s2 : SeenOk w K cs ss z2 y2
section
variable {w : World} {gb k : Nat} {K K' I I' : List Item} {S : List (SN × SV)} {z0 z1 z2 : SN} {y0 y1 y2 : SV} {D D' : DataW Unit} {F F' : List Int} {cs : List CO} {ss : List SN}
theorem One.start (h : Bkt gb (.map []) 0 F I) : One w gb 0 [] I [] s0N v0N s0N v0N s0N v0N (.map []) F [] [s0N] :=
  ⟨LogR.nil, h, rfl, fun n s v h => by simp at h, ⟨⟨0, Nat.le_refl _, rfl⟩, tb0 _ _⟩, ⟨⟨0, Nat.le_refl _, rfl⟩, tb0 _ _⟩, ⟨⟨0, Nat.le_refl _, rfl⟩, tb0 _ _⟩⟩
theorem One.grow (h : One w gb k K I S z0 y0 z1 y1 z2 y2 D F cs ss) (hK : ∀ W, Hp w.heap.size w W K' → Hp w.heap.size w W K) : One w gb k K' I S z0 y0 z1 y1 z2 y2 D F cs ss :=
  ⟨h.log, h.bkt, h.len, fun n s v hn => ⟨(h.was n s v hn).1, (h.was n s v hn).2.more hK⟩, h.s0.more hK, h.s1.more hK, h.s2.more hK⟩
theorem One.next (h : One w gb k K I S z0 y0 z1 y1 z2 y2 D F cs ss) : One w gb (k + 1) K I S z0 y0 z1 y1 z2 y2 D F cs ss := { h with bkt := h.bkt.mono (Nat.le_succ _) }
theorem One.err (h : One w gb k K I S z0 y0 z1 y1 z2 y2 D F cs ss) (hB : Bkt gb D (k + 1) F' I') : One w gb (k + 1) K I' S z0 y0 z1 y1 z2 y2 D F' cs ss := ⟨h.log, hB, h.len, h.was, h.s0, h.s1, h.s2⟩
theorem One.push {c : CO} {s' : SN} {v' : SV} (h : One w gb k K I S z0 y0 z1 y1 z2 y2 D F cs ss) (hL : LogR D' (cs ++ [c]) (ss ++ [s'])) (hB : Bkt gb D' (k + 1) F' I') (hT : Tb w K s' v') : One w gb (k + 1) K I' (S ++ [(s', v')]) z0 y0 z1 y1 z2 y2 D' F' (cs ++ [c]) (ss ++ [s']) :=
  ⟨hL, hB, by simp [h.len], fun n s v hn => by
    have hl := h.log.len
    have hSl := h.len
    by_cases hi : n < S.length
    · rw [List.getElem?_append_left hi] at hn
      rw [List.getElem?_append_left (by omega)]
      exact h.was n s v hn
    · have hlt := (List.getElem?_eq_some_iff.1 hn).1
      obtain rfl : n = S.length := by simp at hlt; omega
      rw [List.getElem?_append_right (by omega), Nat.sub_self] at hn
      simp only [List.getElem?_cons_zero, Option.some.injEq, Prod.mk.injEq] at hn
      obtain ⟨rfl, rfl⟩ := hn
      refine ⟨?_, hT⟩
      rw [List.getElem?_append_right (by omega), show S.length + 1 - ss.length = 0 by omega]
      rfl, h.s0.push c s', h.s1.push c s', h.s2.push c s'⟩
theorem One.see0 {s : SN} {v : SV} (h : One w gb k K I S z0 y0 z1 y1 z2 y2 D F cs ss) (hs : SeenOk w K cs ss s v) : One w gb k K I S s v z1 y1 z2 y2 D F cs ss := ⟨h.log, h.bkt, h.len, h.was, hs, h.s1, h.s2⟩
theorem One.see1 {s : SN} {v : SV} (h : One w gb k K I S z0 y0 z1 y1 z2 y2 D F cs ss) (hs : SeenOk w K cs ss s v) : One w gb k K I S z0 y0 s v z2 y2 D F cs ss := ⟨h.log, h.bkt, h.len, h.was, h.s0, hs, h.s2⟩
theorem One.see2 {s : SN} {v : SV} (h : One w gb k K I S z0 y0 z1 y1 z2 y2 D F cs ss) (hs : SeenOk w K cs ss s v) : One w gb k K I S z0 y0 z1 y1 s v D F cs ss := ⟨h.log, h.bkt, h.len, h.was, h.s0, h.s1, hs⟩
/-- the last table -/
theorem One.last (h : One w gb k K I S z0 y0 z1 y1 z2 y2 D F cs ss) : ∃ s, ss[cs.length]? = some s ∧ s.ver = (cs.length : Int) := by
  obtain ⟨s, hs⟩ := h.log.at (Nat.le_refl cs.length)
  exact ⟨s, hs, (h.log.good _ s hs).2⟩
end
/-- what Try leaves -/
def TryOut (gb k : Nat) (D : DataW Unit) (cs : List CO) (ss : List SN) (c : CO) (I' : List Item) (vv : Int) (er : Value) : Prop :=
  (vv = (cs.length : Int) + 1 ∧ er = .nilIface ∧ ∃ D' F' s', LogR D' (cs ++ [c]) (ss ++ [s']) ∧ Bkt gb D' (k + 1) F' I') ∨ (vv = 0 ∧ (∃ tp pv, er = .iface tp pv) ∧ ∃ F', Bkt gb D (k + 1) F' I')
theorem Hp.pull2a {B : Nat} {w0 W : World} {a b : Item} {C X Z : List Item} (h : Hp B w0 W (C ++ ((a :: b :: X) ++ Z))) : Hp B w0 W (a :: b :: ((C ++ X) ++ Z)) := by
  rw [List.append_assoc]
  exact h.pull2
theorem Hp.pull3a {B : Nat} {w0 W : World} {a b c : Item} {C X Z : List Item} (h : Hp B w0 W (C ++ ((a :: b :: c :: X) ++ Z))) : Hp B w0 W (a :: b :: c :: ((C ++ X) ++ Z)) := by
  rw [List.append_assoc]
  exact h.pull3
theorem try_out {w W : World} {gb k : Nat} {K I : List Item} {a b d : Item} {D : DataW Unit} {F : List Int} {cs : List CO} {ss : List SN} {z : SN} {y : SV} {c : CM} (hz : SeenOk w K cs ss z y) (hc : ∀ W, Hp w.heap.size w W K → CmAt W c)
    (hsh : shortCo c.tx c.l = true) (hi : CmJ c) (hL : LogR D cs ss) (hB : Bkt gb D k F I) (hk : k < maxLen) (hT : TabsC w) (hS : Hp w.heap.size w W (a :: b :: d :: (K ++ I))) :
    Calls Tryz.prog 9 #[.pointer (some ⟨gb, 0, none⟩), snV z y, cmV c] W fun e w' => ∃ vv er X I', e = .returned (.tuple #[.int .i64 vv, er]) ∧ Hid (TryOut gb k D cs ss ⟨c.tx, c.rd, c.l⟩ I' vv er) ∧ Hp w.heap.size w w' (a :: b :: d :: ((X ++ K) ++ I')) := by
  obtain ⟨⟨q, hq, hs⟩, ht⟩ := hz
  refine (try_any (M := a :: b :: d :: K) q z y c hs hq (ht.more fun W h => h.tail.tail.tail) (fun W h => hc W h.tail.tail.tail) hsh hi hL hB hk hT hS).mono fun e w' hr => ?_
  obtain ⟨X, I', F', hS', ⟨D', s', rfl, hL', hB', _⟩ | ⟨tp, pv, rfl, hB', _⟩⟩ := hr
  · exact ⟨_, _, X, I', rfl, Lib.hid (.inl ⟨rfl, rfl, D', F', s', hL', hB'⟩), hS'.pull3a⟩
  · exact ⟨_, _, X, I', rfl, Lib.hid (.inr ⟨rfl, ⟨tp, pv, rfl⟩, F', hB'⟩), hS'.pull3a⟩
/-- Load, with three things ahead -/
theorem load_3 {w W : World} {gb k : Nat} {K I : List Item} {a b d : Item} {D : DataW Unit} {F : List Int} {cs : List CO} {ss : List SN} (ver : Int) (q : Nat) (hq : q ≤ cs.length) (hver : (ver = -1 ∧ q = cs.length) ∨ ver = q) (s : SN) (hs : ss[q]? = some s)
    (hL : LogR D cs ss) (hB : Bkt gb D k F I) (hT : TabsC w) (hS : Hp w.heap.size w W (a :: b :: d :: (K ++ I))) :
    Calls Tryz.prog 8 #[.pointer (some ⟨gb, 0, none⟩), .int .i64 ver] W fun e w' => ∃ v X, e = .returned (.tuple #[snV s v, .nilIface]) ∧ Hid (Tb w X s v) ∧ Hp w.heap.size w w' (a :: b :: d :: ((X ++ K) ++ I)) := by
  refine (load_any (M := a :: b :: d :: K) ver q hq hver s hs hL hB hT hS).mono fun e w' hr => ?_
  obtain ⟨v, X, rfl, hS', ht⟩ := hr
  exact ⟨v, X, rfl, Lib.hid ht, hS'.pull3a⟩
theorem load_2 {w W : World} {gb k : Nat} {K I : List Item} {a b : Item} {D : DataW Unit} {F : List Int} {cs : List CO} {ss : List SN} (ver : Int) (q : Nat) (hq : q ≤ cs.length) (hver : (ver = -1 ∧ q = cs.length) ∨ ver = q) (s : SN) (hs : ss[q]? = some s)
    (hL : LogR D cs ss) (hB : Bkt gb D k F I) (hT : TabsC w) (hS : Hp w.heap.size w W (a :: b :: (K ++ I))) :
    Calls Tryz.prog 8 #[.pointer (some ⟨gb, 0, none⟩), .int .i64 ver] W fun e w' => ∃ v X, e = .returned (.tuple #[snV s v, .nilIface]) ∧ Hid (Tb w X s v) ∧ Hp w.heap.size w w' (a :: b :: ((X ++ K) ++ I)) := by
  refine (load_any (M := a :: b :: K) ver q hq hver s hs hL hB hT hS).mono fun e w' hr => ?_
  obtain ⟨v, X, rfl, hS', ht⟩ := hr
  exact ⟨v, X, rfl, Lib.hid ht, hS'.pull2a⟩
abbrev snC3 (z0 : SN) (y0 : SV) (z1 : SN) (y1 : SV) (z2 : SN) (y2 : SV) : List Value := [.int .i64 z0.ver, .slice y0.ca y0.cn y0.cc, .int .i64 z0.next, .slice y0.fa y0.fn y0.fc, .int .i64 z1.ver, .slice y1.ca y1.cn y1.cc, .int .i64 z1.next, .slice y1.fa y1.fn y1.fc, .int .i64 z2.ver, .slice y2.ca y2.cn y2.cc, .int .i64 z2.next, .slice y2.fa y2.fn y2.fc]
end Go.Proofs.YtlgidjanmaijaaaGreatDoor
