/- millpondkeep.ValueLogic: it answers true. -/
import Derived.Test.YtieongfdleobpaaVLParts
import Derived.Laws.EntriesVeiled
namespace Go.Proofs.Ytieongfdleobpaa
open Go.RowKit

theorem CondAt.later {w w' : World} {t : CT} {v : Value} (h : CondAt w v t) (hx : Ext w w') : CondAt w' v t := h.ext hx
/-- the ranks of a condition of both, of either, and of what is not -/
theorem ranks (f : ByteArray → GV) (c d : CT) (m n : Int) (hm : evalC f c = m) (hn : evalC f d = n) (rm : m = -1 ∨ m = 0 ∨ m = 1) (rn : n = -1 ∨ n = 0 ∨ n = 1) :
    rankI (evalC f (opC 11 c .nil)) = 2 - rankI m ∧ rankI (evalC f (opC 11 (opC 11 c .nil) .nil)) = rankI m ∧ rankI (evalC f (opC 9 c d)) = min (rankI m) (rankI n) ∧ rankI (evalC f (opC 10 d c)) = max (rankI m) (rankI n) ∧
      rankI (evalC f (opC 11 (opC 9 c d) .nil)) = 2 - min (rankI m) (rankI n) ∧ rankI (evalC f (opC 11 (opC 10 d c) .nil)) = 2 - max (rankI m) (rankI n) := by
  rcases rm with rfl | rfl | rfl <;> rcases rn with rfl | rfl | rfl <;> simp [evalC, opC, hm, hn, rankI] <;> decide

set_option maxRecDepth 100000 in
set_option maxHeartbeats 2000000 in
theorem logic_long (l m : List PG) (A B : Option Addr) (cl cm : Nat) (a b : GV) (w : World) (sa : a.text.size ≤ 140737488355328) (sb : b.text.size ≤ 140737488355328) (hsum : ¬ (a.text.size : Int) + b.text.size ≤ 200) :
    Calls Try.prog 4 #[.slice A l.length cl, .slice B m.length cm, .agg #[.int .i64 a.kind, .int .i64 a.num, .string a.text], .agg #[.int .i64 b.kind, .int .i64 b.num, .string b.text]] w fun e w' => e = .returned (.bool true) ∧ Ext w w' := by
  go_enter Try.func4, Try.ntmps4
  go_wp2
  go_ret
  refine ⟨rfl, ?_⟩
  (repeat (first | exact Ext.refl _ | assumption | refine Ext.drew ?_ | refine Ext.alloc ?_ _ | refine Ext.drewN ?_ _ | refine Ext.trans ?_ (by assumption)))

set_option maxRecDepth 100000 in
set_option maxHeartbeats 8000000 in
theorem logic_main (l m : List PG) (A B : Option Addr) (cl cm : Nat) (a b : GV) (w : World) (hsum : (a.text.size : Int) + b.text.size ≤ 200) (hl : RP w A l) (hm : RP w B m) (sl : l.length ≤ 140737488355328) (sm : m.length ≤ 140737488355328) :
    Calls Try.prog 4 #[.slice A l.length cl, .slice B m.length cm, .agg #[.int .i64 a.kind, .int .i64 a.num, .string a.text], .agg #[.int .i64 b.kind, .int .i64 b.num, .string b.text]] w fun e w' => e = .returned (.bool true) ∧ Ext w w' := by
  obtain ⟨nl, hnl⟩ : ∃ n, n = l.length := ⟨_, rfl⟩
  obtain ⟨nm, hnm⟩ : ∃ n, n = m.length := ⟨_, rfl⟩
  have HL := Lib.hid hl
  have HM := Lib.hid hm
  have cL : ∀ W, Ext w W → Calls Try.prog 13 #[.slice A nl cl] W fun e w' => (∃ v, e = .returned v ∧ CondAt w' v (condT l)) ∧ Ext W w' := fun W hx => by rw [hnl]; exact cond_any l A cl W (HL.out.ext hx) sl
  have cM : ∀ W, Ext w W → Calls Try.prog 13 #[.slice B nm cm] W fun e w' => (∃ v, e = .returned v ∧ CondAt w' v (condT m)) ∧ Ext W w' := fun W hx => by rw [hnm]; exact cond_any m B cm W (HM.out.ext hx) sm
  have CL := Lib.hid cL
  have CM := Lib.hid cM
  rw [← hnl, ← hnm]
  clear cL cM hnl hnm hl hm HL HM sl sm
  obtain ⟨T, hT⟩ : ∃ t, condT l = t := ⟨_, rfl⟩
  obtain ⟨U, hU⟩ : ∃ t, condT m = t := ⟨_, rfl⟩
  rw [hT] at CL
  rw [hU] at CM
  clear hT hU
  go_enter Try.func4, Try.ntmps4
  go_wp2_with (first | (go_at_call 7; refine (ordered_any _).mono ?_; rintro e w1 ⟨rfl, hw1⟩; have A0 := hw1.keeps (p := ⟨w.heap.size, 0, none⟩) (v := .int .i64 a.kind) (by go_simp); have A1 := hw1.keeps (p := ⟨w.heap.size, 1, none⟩) (v := .int .i64 a.num) (by go_simp); have A2 := hw1.keeps (p := ⟨w.heap.size, 2, none⟩) (v := .string a.text) (by go_simp); have B0 := hw1.keeps (p := ⟨w.heap.size + 1, 0, none⟩) (v := .int .i64 b.kind) (by go_simp); have B1 := hw1.keeps (p := ⟨w.heap.size + 1, 1, none⟩) (v := .int .i64 b.num) (by go_simp); have B2 := hw1.keeps (p := ⟨w.heap.size + 1, 2, none⟩) (v := .string b.text) (by go_simp)))
  refine (CL.out _ (by (repeat (first | exact Ext.refl _ | assumption | refine Ext.drew ?_ | refine Ext.alloc ?_ _ | refine Ext.drewN ?_ _ | refine Ext.trans ?_ (by assumption))))).mono ?_
  rintro e w2 ⟨⟨vc, rfl, hvc⟩, hw2⟩
  obtain ⟨p, rfl⟩ := hvc.pointer
  have A0 := hw2.keeps A0
  have A1 := hw2.keeps A1
  have A2 := hw2.keeps A2
  have B0 := hw2.keeps B0
  have B1 := hw2.keeps B1
  have B2 := hw2.keeps B2
  go_wp2_with fail
  refine (CM.out _ (by (repeat (first | exact Ext.refl _ | assumption | refine Ext.drew ?_ | refine Ext.alloc ?_ _ | refine Ext.drewN ?_ _ | refine Ext.trans ?_ (by assumption))))).mono ?_
  rintro e w3 ⟨⟨vd, rfl, hvd⟩, hw3⟩
  obtain ⟨q, rfl⟩ := hvd.pointer
  have A0 := hw3.keeps A0
  have A1 := hw3.keeps A1
  have A2 := hw3.keeps A2
  have B0 := hw3.keeps B0
  have B1 := hw3.keeps B1
  have B2 := hw3.keeps B2
  have HVC := Lib.hid hvc
  have HVD := Lib.hid hvd
  clear hvc hvd CL CM
  cases p with
  | none =>
    go_wp2
    go_ret
    refine ⟨rfl, ?_⟩
    (repeat (first | exact Ext.refl _ | assumption | refine Ext.drew ?_ | refine Ext.alloc ?_ _ | refine Ext.drewN ?_ _ | refine Ext.trans ?_ (by assumption)))
  | some p =>
    cases q with
    | none =>
      go_wp2
      go_ret
      refine ⟨rfl, ?_⟩
      (repeat (first | exact Ext.refl _ | assumption | refine Ext.drew ?_ | refine Ext.alloc ?_ _ | refine Ext.drewN ?_ _ | refine Ext.trans ?_ (by assumption)))
    | some q =>
      cases hall : [a, b].all okV with
      | false =>
        have HALL := Lib.hid hall
        clear hall
        go_wp2_with (go_at_call 8; go_must (refine (right_list [a, b] _ _ _ (RV.block (heap_alloc_new w3 _) rfl) (by simp)).mono ?_); rw [HALL.out]; rintro e w4 ⟨rfl, hw4⟩; have hw4' := (Ext.refl w3).alloc (.cells (cellsV [a, b]).toArray 23) |>.trans hw4)
        go_ret
        refine ⟨rfl, ?_⟩
        (repeat (first | exact Ext.refl _ | assumption | refine Ext.drew ?_ | refine Ext.alloc ?_ _ | refine Ext.drewN ?_ _ | refine Ext.trans ?_ (by assumption)))
      | true =>
        have HALL := Lib.hid hall
        clear hall
        go_wp2_with (go_at_call 8; go_must (refine (right_list [a, b] _ _ _ (RV.block (heap_alloc_new w3 _) rfl) (by simp)).mono ?_); rw [HALL.out]; rintro e w4 ⟨rfl, hw4⟩; have hw4' := (Ext.refl w3).alloc (.cells (cellsV [a, b]).toArray 23) |>.trans hw4; have A0 := hw4'.keeps A0; have A1 := hw4'.keeps A1; have A2 := hw4'.keeps A2; have B0 := hw4'.keeps B0; have B1 := hw4'.keeps B1; have B2 := hw4'.keeps B2)
        obtain ⟨W0, hW0⟩ : ∃ W0, W0 = w4.alloc (.cells #[.func (.func 14) #[] #[.pointer (some ⟨w.heap.size, 0, none⟩), .pointer (some ⟨w.heap.size + 1, 0, none⟩)]] 34) := ⟨_, rfl⟩
        rw [← hW0]
        have x0 : Ext w4 W0 := by rw [hW0]; exact (Ext.refl _).alloc _
        have ew : Ext w W0 := by (repeat (first | exact Ext.refl _ | assumption | refine Ext.drew ?_ | refine Ext.alloc ?_ _ | refine Ext.drewN ?_ _ | refine Ext.trans ?_ (by assumption)))
        have pg : W0.cell? ⟨w4.heap.size, 0, none⟩ = some (.func (.func 14) #[] #[.pointer (some ⟨w.heap.size, 0, none⟩), .pointer (some ⟨w.heap.size + 1, 0, none⟩)]) := by rw [hW0]; simp only [World.cell?, heap_alloc_new]; rfl
        have get : GetOk W0 14 #[.pointer (some ⟨w.heap.size, 0, none⟩), .pointer (some ⟨w.heap.size + 1, 0, none⟩)] (pickV a b) := fun W hx s =>
          vl1_any a b w.heap.size (w.heap.size + 1) s W (hx.keeps (x0.keeps A0)) (hx.keeps (x0.keeps A1)) (hx.keeps (x0.keeps A2)) (hx.keeps (x0.keeps B0)) (hx.keeps (x0.keeps B1)) (hx.keeps (x0.keeps B2))
        have hc0 : CondAt W0 (.pointer (some p)) T := ((HVC.out.ext hw3).ext hw4').ext x0
        have hd0 : CondAt W0 (.pointer (some q)) U := (HVD.out.ext hw4').ext x0
        have hp0 : W0.heap.size = w4.heap.size + 1 := by rw [hW0]; simp
        have HP0 := Lib.hid hp0
        have GET := Lib.hid get
        have HC := Lib.hid hc0
        have HD := Lib.hid hd0
        have PG := Lib.hid pg
        have rank : ∀ (S : CT) (v : Option Addr) (W W1 : World) (r : Int), CondAt W1 (.pointer v) S → Ext W1 W → Ext W0 W → rankI (evalC (pickV a b) S) = r → Calls Try.prog 15 #[.pointer v, .pointer (some ⟨w4.heap.size, 0, none⟩)] W fun e w' => e = .returned (.int .i64 r) ∧ Ext W w' := fun S v W W1 r h h1 h2 hr => by
          rw [← hr]
          exact vl2_any W0 14 _ (pickV a b) enters_vl1 GET.out w4.heap.size S v W (h.ext h1) h2 (h2.keeps PG.out)
        have RANK := Lib.hid rank
        have EW := Lib.hid ew
        clear x0 ew pg get hc0 hd0 hp0 rank hW0 hw1 hw2 hw3 hw4 hw4' A0 A1 A2 B0 B1 B2 HVC HVD
        have rm := evalC_range (pickV a b) T
        have rn := evalC_range (pickV a b) U
        obtain ⟨m', hm'⟩ : ∃ m, evalC (pickV a b) T = m := ⟨_, rfl⟩
        obtain ⟨n', hn'⟩ : ∃ n, evalC (pickV a b) U = n := ⟨_, rfl⟩
        rw [hm'] at rm
        rw [hn'] at rn
        obtain ⟨q1, q2, q3, q4, q5, q6⟩ := ranks (pickV a b) T U m' n' hm' hn' rm rn
        have qT : rankI (evalC (pickV a b) T) = rankI m' := by rw [hm']
        have qU : rankI (evalC (pickV a b) U) = rankI n' := by rw [hn']
        have QT := Lib.hid qT
        have QU := Lib.hid qU
        have Q1 := Lib.hid q1
        have Q2 := Lib.hid q2
        have Q3 := Lib.hid q3
        have Q4 := Lib.hid q4
        have Q5 := Lib.hid q5
        have Q6 := Lib.hid q6
        have lx : 0 ≤ rankI m' ∧ rankI m' ≤ 2 := by rcases rm with h | h | h <;> rw [h] <;> decide
        have ly : 0 ≤ rankI n' ∧ rankI n' ≤ 2 := by rcases rn with h | h | h <;> rw [h] <;> decide
        generalize rankI m' = X at *
        generalize rankI n' = Y at *
        obtain ⟨lx0, lx1⟩ := lx
        obtain ⟨ly0, ly1⟩ := ly
        clear qT qU q1 q2 q3 q4 q5 q6 hm' hn' rm rn
        go_wp2_with fail
        refine (RANK.out T (some p) _ W0 X HC.out (Ext.refl _) (Ext.refl _) QT.out).mono ?_
        rintro e w5 ⟨rfl, hw5⟩
        go_wp2_with fail
        refine (RANK.out U (some q) _ W0 Y HD.out (by (repeat (first | exact Ext.refl _ | assumption | refine Ext.drew ?_ | refine Ext.alloc ?_ _ | refine Ext.drewN ?_ _ | refine Ext.trans ?_ (by assumption)))) (by (repeat (first | exact Ext.refl _ | assumption | refine Ext.drew ?_ | refine Ext.alloc ?_ _ | refine Ext.drewN ?_ _ | refine Ext.trans ?_ (by assumption)))) QU.out).mono ?_
        rintro e w6 ⟨rfl, hw6⟩
        go_wp2_with fail
        have x6 : Ext W0 w6 := by (repeat (first | exact Ext.refl _ | assumption | refine Ext.drew ?_ | refine Ext.alloc ?_ _ | refine Ext.drewN ?_ _ | refine Ext.trans ?_ (by assumption)))
        have hand : CondAt (w6.alloc (.cells #[.int .i64 9, .string ⟨#[]⟩, .int .i64 0, .int .i64 0, .string ⟨#[]⟩, .pointer (some p), .pointer (some q)] 39)) (.pointer (some ⟨w6.heap.size, 0, none⟩)) (opC 9 T U) := ⟨w6.heap.size, _, _, rfl, heap_alloc_new _ _, (HC.out.ext x6).ext ((Ext.refl _).alloc _), (HD.out.ext x6).ext ((Ext.refl _).alloc _)⟩
        have hor : CondAt ((w6.alloc (.cells #[.int .i64 9, .string ⟨#[]⟩, .int .i64 0, .int .i64 0, .string ⟨#[]⟩, .pointer (some p), .pointer (some q)] 39)).alloc (.cells #[.int .i64 10, .string ⟨#[]⟩, .int .i64 0, .int .i64 0, .string ⟨#[]⟩, .pointer (some q), .pointer (some p)] 39)) (.pointer (some ⟨w6.heap.size + 1, 0, none⟩)) (opC 10 U T) := ⟨w6.heap.size + 1, .pointer (some q), .pointer (some p), rfl, by
          have h := heap_alloc_new (w6.alloc (.cells #[.int .i64 9, .string ⟨#[]⟩, .int .i64 0, .int .i64 0, .string ⟨#[]⟩, .pointer (some p), .pointer (some q)] 39)) (.cells #[.int .i64 10, .string ⟨#[]⟩, .int .i64 0, .int .i64 0, .string ⟨#[]⟩, .pointer (some q), .pointer (some p)] 39)
          simpa [zeroV] using h, (HD.out.ext x6).ext (((Ext.refl _).alloc _).alloc _), (HC.out.ext x6).ext (((Ext.refl _).alloc _).alloc _)⟩
        have HAND := Lib.hid hand
        have HOR := Lib.hid hor
        clear hand hor
        refine (vl3_any (some p) T _ (HC.out.ext (by (repeat (first | exact Ext.refl _ | assumption | refine Ext.drew ?_ | refine Ext.alloc ?_ _ | refine Ext.drewN ?_ _ | refine Ext.trans ?_ (by assumption)))))).mono ?_
        rintro e w7 ⟨⟨p1, rfl, hp1⟩, hw7⟩
        have HP1 := Lib.hid hp1; clear hp1
        go_wp2_with fail
        refine (RANK.out (opC 11 T .nil) p1 _ w7 (2 - X) HP1.out (Ext.refl _) (by (repeat (first | exact Ext.refl _ | assumption | refine Ext.drew ?_ | refine Ext.alloc ?_ _ | refine Ext.drewN ?_ _ | refine Ext.trans ?_ (by assumption)))) Q1.out).mono ?_
        rintro e w8 ⟨rfl, hw8⟩
        go_wp2_with fail
        refine (vl3_any (some p) T _ (HC.out.ext (by (repeat (first | exact Ext.refl _ | assumption | refine Ext.drew ?_ | refine Ext.alloc ?_ _ | refine Ext.drewN ?_ _ | refine Ext.trans ?_ (by assumption)))))).mono ?_
        rintro e w9 ⟨⟨p2, rfl, hp2⟩, hw9⟩
        have HP2 := Lib.hid hp2; clear hp2
        go_wp2_with fail
        refine (vl3_any p2 (opC 11 T .nil) _ HP2.out).mono ?_
        rintro e w10 ⟨⟨p3, rfl, hp3⟩, hw10⟩
        have HP3 := Lib.hid hp3; clear hp3
        go_wp2_with fail
        refine (RANK.out (opC 11 (opC 11 T .nil) .nil) p3 _ w10 X HP3.out (Ext.refl _) (by (repeat (first | exact Ext.refl _ | assumption | refine Ext.drew ?_ | refine Ext.alloc ?_ _ | refine Ext.drewN ?_ _ | refine Ext.trans ?_ (by assumption)))) Q2.out).mono ?_
        rintro e w11 ⟨rfl, hw11⟩
        go_wp2_with fail
        refine (RANK.out (opC 9 T U) (some ⟨w6.heap.size, 0, none⟩) _ _ (min X Y) HAND.out (by (repeat (first | exact Ext.refl _ | assumption | refine Ext.drew ?_ | refine Ext.alloc ?_ _ | refine Ext.drewN ?_ _ | refine Ext.trans ?_ (by assumption)))) (by (repeat (first | exact Ext.refl _ | assumption | refine Ext.drew ?_ | refine Ext.alloc ?_ _ | refine Ext.drewN ?_ _ | refine Ext.trans ?_ (by assumption)))) Q3.out).mono ?_
        rintro e w12 ⟨rfl, hw12⟩
        go_wp2_with fail
        refine (RANK.out (opC 10 U T) (some ⟨w6.heap.size + 1, 0, none⟩) _ _ (max X Y) HOR.out (by (repeat (first | exact Ext.refl _ | assumption | refine Ext.drew ?_ | refine Ext.alloc ?_ _ | refine Ext.drewN ?_ _ | refine Ext.trans ?_ (by assumption)))) (by (repeat (first | exact Ext.refl _ | assumption | refine Ext.drew ?_ | refine Ext.alloc ?_ _ | refine Ext.drewN ?_ _ | refine Ext.trans ?_ (by assumption)))) Q4.out).mono ?_
        rintro e w13 ⟨rfl, hw13⟩
        go_wp2_with fail
        refine (vl3_any (some ⟨w6.heap.size, 0, none⟩) (opC 9 T U) _ (HAND.out.ext (by (repeat (first | exact Ext.refl _ | assumption | refine Ext.drew ?_ | refine Ext.alloc ?_ _ | refine Ext.drewN ?_ _ | refine Ext.trans ?_ (by assumption)))))).mono ?_
        rintro e w14 ⟨⟨p4, rfl, hp4⟩, hw14⟩
        have HP4 := Lib.hid hp4; clear hp4
        go_wp2_with fail
        refine (RANK.out (opC 11 (opC 9 T U) .nil) p4 _ w14 (2 - min X Y) HP4.out (Ext.refl _) (by (repeat (first | exact Ext.refl _ | assumption | refine Ext.drew ?_ | refine Ext.alloc ?_ _ | refine Ext.drewN ?_ _ | refine Ext.trans ?_ (by assumption)))) Q5.out).mono ?_
        rintro e w15 ⟨rfl, hw15⟩
        go_wp2_with fail
        refine (vl3_any (some ⟨w6.heap.size + 1, 0, none⟩) (opC 10 U T) _ (HOR.out.ext (by (repeat (first | exact Ext.refl _ | assumption | refine Ext.drew ?_ | refine Ext.alloc ?_ _ | refine Ext.drewN ?_ _ | refine Ext.trans ?_ (by assumption)))))).mono ?_
        rintro e w16 ⟨⟨p5, rfl, hp5⟩, hw16⟩
        have HP5 := Lib.hid hp5; clear hp5
        go_wp2_with fail
        refine (RANK.out (opC 11 (opC 10 U T) .nil) p5 _ w16 (2 - max X Y) HP5.out (Ext.refl _) (by (repeat (first | exact Ext.refl _ | assumption | refine Ext.drew ?_ | refine Ext.alloc ?_ _ | refine Ext.drewN ?_ _ | refine Ext.trans ?_ (by assumption)))) Q6.out).mono ?_
        rintro e w17 ⟨rfl, hw17⟩
        go_wp2_with fail
        go_ret
        have ew := EW.out
        refine ⟨by rfl, ?_⟩
        (repeat (first | exact Ext.refl _ | assumption | refine Ext.drew ?_ | refine Ext.alloc ?_ _ | refine Ext.drewN ?_ _ | refine Ext.trans ?_ (by assumption)))
end Go.Proofs.Ytieongfdleobpaa
