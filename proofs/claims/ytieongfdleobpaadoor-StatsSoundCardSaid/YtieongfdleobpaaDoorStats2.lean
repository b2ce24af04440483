/- stats.Of, stats.Both, stats.one: what each call answers; all that was there is as it was. -/
import Derived.Test.YtieongfdleobpaaDoorStatsLaw
import Derived.Deep.DeepCutAuto
import Derived.Test.YtieongfdleobpaaDoorSt
namespace Go.Proofs.YtieongfdleobpaaDoor
open Go.RowKit

def gvV (x : GV) : Value := .agg #[.int .i64 x.kind, .int .i64 x.num, .string x.text]
def stV (s : ST) : Value := .agg #[.int .i64 s.count, .int .i64 s.nulls, .int .i64 s.mn.kind, .int .i64 s.mn.num, .string s.mn.text, .int .i64 s.mx.kind, .int .i64 s.mx.num, .string s.mx.text]

theorem Ext.keepsF {a w : World} (h : Ext a w) {p : Addr} {v : Value} {f : Bool} (hc : a.cell? p = some v) (hf : a.frozen? p = f) : w.frozen? p = f := (Below.frozen h.out (lt_of_cell hc)).trans hf

/-- the blocks of stats.Both: b at B, the result at B + 1, out at B + 1 + 1 -/
structure BothF (w : World) (B : Nat) (b : ST) (c n : Int) (p q : GV) (wx : World) : Prop where
  b2 : wx.cell? ⟨B, 2, none⟩ = some (.int .i64 b.mn.kind)
  b3 : wx.cell? ⟨B, 3, none⟩ = some (.int .i64 b.mn.num)
  b4 : wx.cell? ⟨B, 4, none⟩ = some (.string b.mn.text)
  b5 : wx.cell? ⟨B, 5, none⟩ = some (.int .i64 b.mx.kind)
  b6 : wx.cell? ⟨B, 6, none⟩ = some (.int .i64 b.mx.num)
  b7 : wx.cell? ⟨B, 7, none⟩ = some (.string b.mx.text)
  r : wx.heap[B + 1]? = some (.cells #[.int .i64 0, .int .i64 0, .int .i64 0, .int .i64 0, .string ⟨#[]⟩, .int .i64 0, .int .i64 0, .string ⟨#[]⟩] 32 (0, 0))
  o : wx.heap[B + 1 + 1]? = some (.cells #[.int .i64 c, .int .i64 n, .int .i64 p.kind, .int .i64 p.num, .string p.text, .int .i64 q.kind, .int .i64 q.num, .string q.text] 32 (0, 0))
  x : Ext w wx
theorem BothF.ext {w : World} {B : Nat} {b : ST} {c n : Int} {p q : GV} {wx wy : World} (h : BothF w B b c n p q wx) (hx : Ext wx wy) : BothF w B b c n p q wy :=
  ⟨hx.keeps h.b2, hx.keeps h.b3, hx.keeps h.b4, hx.keeps h.b5, hx.keeps h.b6, hx.keeps h.b7, heap_keeps hx h.r, heap_keeps hx h.o, h.x.trans hx⟩

theorem abs_wp {P : Program} {c : Code} {Q : Exit → Act → World → Prop} {a : Act} {W : World} (F : World → Prop) (h : F W) (k : ∀ wx, F wx → Code.wp P c Q a wx) : Code.wp P c Q a W := k W h
theorem heap_at {w : World} {o : Obj} {n : Nat} (h : n = w.heap.size) : (w.alloc o).heap[n]? = some o := by subst h; exact heap_alloc_new w o
/-- eight stores into a block of eight cells -/
theorem heap_set8 {w : World} {b : Nat} {x0 x1 x2 x3 x4 x5 x6 x7 y0 y1 y2 y3 y4 y5 y6 y7 : Value} {t : TypeId} {fr : Nat × Nat} (h : w.heap[b]? = some (.cells #[x0, x1, x2, x3, x4, x5, x6, x7] t fr)) :
    ((((((((w.setCell ⟨b, 0, none⟩ y0).setCell ⟨b, 1, none⟩ y1).setCell ⟨b, 2, none⟩ y2).setCell ⟨b, 3, none⟩ y3).setCell ⟨b, 4, none⟩ y4).setCell ⟨b, 5, none⟩ y5).setCell ⟨b, 6, none⟩ y6).setCell ⟨b, 7, none⟩ y7).heap[b]? = some (.cells #[y0, y1, y2, y3, y4, y5, y6, y7] t fr) := by
  have h0 := heap_set (j := 0) (u := y0) h
  have h1 := heap_set (j := 1) (u := y1) h0
  have h2 := heap_set (j := 2) (u := y2) h1
  have h3 := heap_set (j := 3) (u := y3) h2
  have h4 := heap_set (j := 4) (u := y4) h3
  have h5 := heap_set (j := 5) (u := y5) h4
  have h6 := heap_set (j := 6) (u := y6) h5
  have h7 := heap_set (j := 7) (u := y7) h6
  simp only [List.setIfInBounds_toArray, List.set_cons_zero, List.set_cons_succ] at h7
  exact h7
theorem bodyPost_abs {P : Program} {fn : Func} {R : Ending → World → Prop} {a : Act} {W : World} (F : World → Prop) (h : F W) (k : ∀ wx, F wx → bodyPost P fn R .ret a wx) : bodyPost P fn R .ret a W := k W h
/-- three answers: the second one counts if the first one does not, the third one if the second one does -/
theorem four (p q r : Bool) : (p = true) ∨ (p = false ∧ q = false) ∨ (p = false ∧ q = true ∧ r = true) ∨ (p = false ∧ q = true ∧ r = false) := by
  cases p <;> cases q <;> cases r <;> simp

set_option maxRecDepth 100000 in
set_option maxHeartbeats 8000000 in
theorem both_any (a b : ST) (w : World) (w1 : wrap64 (a.count + b.count) = a.count + b.count) (w2 : wrap64 (a.nulls + b.nulls) = a.nulls + b.nulls) :
    Calls Tryd.prog 14 #[stV a, stV b] w fun e w' => e = .returned (stV (bothS a b)) ∧ Ext w w' := by
  have fin : bothS a b = ⟨a.count + b.count, a.nulls + b.nulls, if (a.mn.kind == 0) || (b.mn.kind != 0) && decide (cmpG b.mn a.mn < 0) then b.mn else a.mn, if (a.mx.kind == 0) || (b.mx.kind != 0) && decide (0 < cmpG b.mx a.mx) then b.mx else a.mx⟩ := by
    unfold bothS
    congr 1 <;> congr 1 <;> simp
  obtain ⟨m, hm⟩ : ∃ m, cmpG b.mn a.mn = m := ⟨_, rfl⟩
  obtain ⟨n, hn⟩ : ∃ n, cmpG b.mx a.mx = n := ⟨_, rfl⟩
  have c1 : ∀ W : World, Calls Tryd.prog 18 #[.agg #[.int .i64 b.mn.kind, .int .i64 b.mn.num, .string b.mn.text], .agg #[.int .i64 a.mn.kind, .int .i64 a.mn.num, .string a.mn.text]] W fun e w' => e = .returned (.int .i64 m) ∧ Ext W w' := fun W => by rw [← hm]; exact compare_any _ _ _ _ _ _ W
  have c2 : ∀ W : World, Calls Tryd.prog 18 #[.agg #[.int .i64 b.mx.kind, .int .i64 b.mx.num, .string b.mx.text], .agg #[.int .i64 a.mx.kind, .int .i64 a.mx.num, .string a.mx.text]] W fun e w' => e = .returned (.int .i64 n) ∧ Ext W w' := fun W => by rw [← hn]; exact compare_any _ _ _ _ _ _ W
  rw [hm, hn] at fin
  have C1 := Lib.hid c1
  have C2 := Lib.hid c2
  obtain ⟨y, hy⟩ : ∃ y : Bool, y = ((a.mn.kind == 0) || (b.mn.kind != 0) && decide (m < 0)) := ⟨_, rfl⟩
  obtain ⟨z, hz⟩ : ∃ z : Bool, z = ((a.mx.kind == 0) || (b.mx.kind != 0) && decide (0 < n)) := ⟨_, rfl⟩
  rw [← hy, ← hz] at fin
  have HY := Lib.hid hy
  have HZ := Lib.hid hz
  have FIN := Lib.hid fin
  clear c1 c2 fin hm hn hy hz
  unfold stV
  go_enter Tryd.func14, Tryd.ntmps14
  go_upto_region 2 with fail
  refine abs_wp (BothF w (w.heap.size + 1) b (a.count + b.count) (a.nulls + b.nulls) a.mn a.mx) ⟨by go_simp, by go_simp, by go_simp, by go_simp, by go_simp, by go_simp, ?_, ?_, ?_⟩ ?_
  · rw [heap_past (by simp only [heap_size]; omega), heap_at (by simp only [heap_size])]
  · rw [heap_at (by simp only [heap_size])]
  · (repeat (first | with_reducible exact Ext.refl _ | with_reducible assumption | with_reducible refine Ext.drew ?_ | with_reducible refine Ext.alloc ?_ _ | with_reducible refine Ext.drewN ?_ _ | refine Ext.setCell ?_ (by dsimp only; omega) _ | refine Ext.trans ?_ (by with_reducible assumption)))
  rintro wx hF
  go_cut [38] (fun s38 wx => s38 = .bool y ∧ BothF w (w.heap.size + 1) b (a.count + b.count) (a.nulls + b.nulls) a.mn a.mx wx)
  case first =>
    have HF := Lib.hid hF
    obtain ⟨b2, b3, b4, b5, b6, b7, hr, ho, hE⟩ := hF
    have o0 : wx.cell? ⟨w.heap.size + 1 + 1 + 1, 0, none⟩ = some (.int .i64 (a.count + b.count)) := (by simp [World.cell?, ho]); have o1 : wx.cell? ⟨w.heap.size + 1 + 1 + 1, 1, none⟩ = some (.int .i64 (a.nulls + b.nulls)) := (by simp [World.cell?, ho]); have o2 : wx.cell? ⟨w.heap.size + 1 + 1 + 1, 2, none⟩ = some (.int .i64 a.mn.kind) := (by simp [World.cell?, ho]); have o3 : wx.cell? ⟨w.heap.size + 1 + 1 + 1, 3, none⟩ = some (.int .i64 a.mn.num) := (by simp [World.cell?, ho]); have o4 : wx.cell? ⟨w.heap.size + 1 + 1 + 1, 4, none⟩ = some (.string a.mn.text) := (by simp [World.cell?, ho]); have o5 : wx.cell? ⟨w.heap.size + 1 + 1 + 1, 5, none⟩ = some (.int .i64 a.mx.kind) := (by simp [World.cell?, ho]); have o6 : wx.cell? ⟨w.heap.size + 1 + 1 + 1, 6, none⟩ = some (.int .i64 a.mx.num) := (by simp [World.cell?, ho]); have o7 : wx.cell? ⟨w.heap.size + 1 + 1 + 1, 7, none⟩ = some (.string a.mx.text) := (by simp [World.cell?, ho])
    clear ho hr
    rcases four (a.mn.kind == 0) (b.mn.kind != 0) (decide (m < 0)) with g1 | ⟨g1, g2⟩ | ⟨g1, g2, g3⟩ | ⟨g1, g2, g3⟩
    · obtain rfl : y = true := by rw [HY.out, g1]; rfl
      go_wp2_with fail
      go_meet
      exact ⟨rfl, HF.out⟩
    · obtain rfl : y = false := by rw [HY.out, g1, g2]; rfl
      go_wp2_with fail
      go_meet
      exact ⟨rfl, HF.out⟩
    · obtain rfl : y = true := by rw [HY.out, g1, g2, g3]; rfl
      go_wp2_with (go_at_call 18; refine (C1.out _).mono ?_; rintro e x1 ⟨rfl, hx1⟩)
      go_meet
      exact ⟨rfl, HF.out.ext hx1⟩
    · obtain rfl : y = false := by rw [HY.out, g1, g2, g3]; rfl
      go_wp2_with (go_at_call 18; refine (C1.out _).mono ?_; rintro e x1 ⟨rfl, hx1⟩)
      go_meet
      exact ⟨rfl, HF.out.ext hx1⟩
  case rest =>
    obtain ⟨rfl, hF⟩ := hcut
    cases y with
    | false =>
      clear HY
      go_upto_region 4 with fail
      go_cut [59] (fun s59 wx => s59 = .bool z ∧ BothF w (w.heap.size + 1) b (a.count + b.count) (a.nulls + b.nulls) a.mn a.mx wx)
      case first =>
        have HF := Lib.hid hF
        obtain ⟨b2, b3, b4, b5, b6, b7, hr, ho, hE⟩ := hF
        have o0 : wc.cell? ⟨w.heap.size + 1 + 1 + 1, 0, none⟩ = some (.int .i64 (a.count + b.count)) := (by simp [World.cell?, ho]); have o1 : wc.cell? ⟨w.heap.size + 1 + 1 + 1, 1, none⟩ = some (.int .i64 (a.nulls + b.nulls)) := (by simp [World.cell?, ho]); have o2 : wc.cell? ⟨w.heap.size + 1 + 1 + 1, 2, none⟩ = some (.int .i64 a.mn.kind) := (by simp [World.cell?, ho]); have o3 : wc.cell? ⟨w.heap.size + 1 + 1 + 1, 3, none⟩ = some (.int .i64 a.mn.num) := (by simp [World.cell?, ho]); have o4 : wc.cell? ⟨w.heap.size + 1 + 1 + 1, 4, none⟩ = some (.string a.mn.text) := (by simp [World.cell?, ho]); have o5 : wc.cell? ⟨w.heap.size + 1 + 1 + 1, 5, none⟩ = some (.int .i64 a.mx.kind) := (by simp [World.cell?, ho]); have o6 : wc.cell? ⟨w.heap.size + 1 + 1 + 1, 6, none⟩ = some (.int .i64 a.mx.num) := (by simp [World.cell?, ho]); have o7 : wc.cell? ⟨w.heap.size + 1 + 1 + 1, 7, none⟩ = some (.string a.mx.text) := (by simp [World.cell?, ho])
        clear ho hr
        rcases four (a.mx.kind == 0) (b.mx.kind != 0) (decide (0 < n)) with f1 | ⟨f1, f2⟩ | ⟨f1, f2, f3⟩ | ⟨f1, f2, f3⟩
        · obtain rfl : z = true := by rw [HZ.out, f1]; rfl
          go_wp2_with fail
          go_meet
          exact ⟨rfl, HF.out⟩
        · obtain rfl : z = false := by rw [HZ.out, f1, f2]; rfl
          go_wp2_with fail
          go_meet
          exact ⟨rfl, HF.out⟩
        · obtain rfl : z = true := by rw [HZ.out, f1, f2, f3]; rfl
          go_wp2_with (go_at_call 18; refine (C2.out _).mono ?_; rintro e x1 ⟨rfl, hx1⟩)
          go_meet
          exact ⟨rfl, HF.out.ext hx1⟩
        · obtain rfl : z = false := by rw [HZ.out, f1, f2, f3]; rfl
          go_wp2_with (go_at_call 18; refine (C2.out _).mono ?_; rintro e x1 ⟨rfl, hx1⟩)
          go_meet
          exact ⟨rfl, HF.out.ext hx1⟩
      case rest =>
        obtain ⟨rfl, hF⟩ := hcut
        obtain ⟨b2, b3, b4, b5, b6, b7, hr, ho, hE⟩ := hF
        have o0 : wc.cell? ⟨w.heap.size + 1 + 1 + 1, 0, none⟩ = some (.int .i64 (a.count + b.count)) := (by simp [World.cell?, ho]); have o1 : wc.cell? ⟨w.heap.size + 1 + 1 + 1, 1, none⟩ = some (.int .i64 (a.nulls + b.nulls)) := (by simp [World.cell?, ho]); have o2 : wc.cell? ⟨w.heap.size + 1 + 1 + 1, 2, none⟩ = some (.int .i64 a.mn.kind) := (by simp [World.cell?, ho]); have o3 : wc.cell? ⟨w.heap.size + 1 + 1 + 1, 3, none⟩ = some (.int .i64 a.mn.num) := (by simp [World.cell?, ho]); have o4 : wc.cell? ⟨w.heap.size + 1 + 1 + 1, 4, none⟩ = some (.string a.mn.text) := (by simp [World.cell?, ho]); have o5 : wc.cell? ⟨w.heap.size + 1 + 1 + 1, 5, none⟩ = some (.int .i64 a.mx.kind) := (by simp [World.cell?, ho]); have o6 : wc.cell? ⟨w.heap.size + 1 + 1 + 1, 6, none⟩ = some (.int .i64 a.mx.num) := (by simp [World.cell?, ho]); have o7 : wc.cell? ⟨w.heap.size + 1 + 1 + 1, 7, none⟩ = some (.string a.mx.text) := (by simp [World.cell?, ho])
        have f2 : wc.frozen? ⟨w.heap.size + 1 + 1 + 1, 2, none⟩ = false := (by simp [World.frozen?, ho]); have f3 : wc.frozen? ⟨w.heap.size + 1 + 1 + 1, 3, none⟩ = false := (by simp [World.frozen?, ho]); have f4 : wc.frozen? ⟨w.heap.size + 1 + 1 + 1, 4, none⟩ = false := (by simp [World.frozen?, ho]); have f5 : wc.frozen? ⟨w.heap.size + 1 + 1 + 1, 5, none⟩ = false := (by simp [World.frozen?, ho]); have f6 : wc.frozen? ⟨w.heap.size + 1 + 1 + 1, 6, none⟩ = false := (by simp [World.frozen?, ho]); have f7 : wc.frozen? ⟨w.heap.size + 1 + 1 + 1, 7, none⟩ = false := (by simp [World.frozen?, ho]); have g0 : wc.frozen? ⟨w.heap.size + 1 + 1, 0, none⟩ = false := (by simp [World.frozen?, hr]); have g1 : wc.frozen? ⟨w.heap.size + 1 + 1, 1, none⟩ = false := (by simp [World.frozen?, hr]); have g2 : wc.frozen? ⟨w.heap.size + 1 + 1, 2, none⟩ = false := (by simp [World.frozen?, hr]); have g3 : wc.frozen? ⟨w.heap.size + 1 + 1, 3, none⟩ = false := (by simp [World.frozen?, hr]); have g4 : wc.frozen? ⟨w.heap.size + 1 + 1, 4, none⟩ = false := (by simp [World.frozen?, hr]); have g5 : wc.frozen? ⟨w.heap.size + 1 + 1, 5, none⟩ = false := (by simp [World.frozen?, hr]); have g6 : wc.frozen? ⟨w.heap.size + 1 + 1, 6, none⟩ = false := (by simp [World.frozen?, hr]); have g7 : wc.frozen? ⟨w.heap.size + 1 + 1, 7, none⟩ = false := (by simp [World.frozen?, hr])
        have r0 : wc.cell? ⟨w.heap.size + 1 + 1, 0, none⟩ = some (.int .i64 0) := (by simp [World.cell?, hr]); have r1 : wc.cell? ⟨w.heap.size + 1 + 1, 1, none⟩ = some (.int .i64 0) := (by simp [World.cell?, hr]); have r2 : wc.cell? ⟨w.heap.size + 1 + 1, 2, none⟩ = some (.int .i64 0) := (by simp [World.cell?, hr]); have r3 : wc.cell? ⟨w.heap.size + 1 + 1, 3, none⟩ = some (.int .i64 0) := (by simp [World.cell?, hr]); have r4 : wc.cell? ⟨w.heap.size + 1 + 1, 4, none⟩ = some (.string ⟨#[]⟩) := (by simp [World.cell?, hr]); have r5 : wc.cell? ⟨w.heap.size + 1 + 1, 5, none⟩ = some (.int .i64 0) := (by simp [World.cell?, hr]); have r6 : wc.cell? ⟨w.heap.size + 1 + 1, 6, none⟩ = some (.int .i64 0) := (by simp [World.cell?, hr]); have r7 : wc.cell? ⟨w.heap.size + 1 + 1, 7, none⟩ = some (.string ⟨#[]⟩) := (by simp [World.cell?, hr])
        clear HZ ho
        cases z
        · go_wp2
          refine bodyPost_abs (fun wx => wx.heap[w.heap.size + 1 + 1]? = some (.cells #[.int .i64 (a.count + b.count), .int .i64 (a.nulls + b.nulls), .int .i64 a.mn.kind, .int .i64 a.mn.num, .string a.mn.text, .int .i64 a.mx.kind, .int .i64 a.mx.num, .string a.mx.text] 32 (0, 0)) ∧ Ext w wx) ?_ ?_
          · refine ⟨?_, ?_⟩
            · first | exact heap_set8 hr | exact heap_set8 (by rw [Below.heap_setCell _ _ _ _ (by simp), Below.heap_setCell _ _ _ _ (by simp), Below.heap_setCell _ _ _ _ (by simp)]; exact hr)
            · (repeat (first | with_reducible exact Ext.refl _ | with_reducible assumption | with_reducible refine Ext.drew ?_ | with_reducible refine Ext.alloc ?_ _ | with_reducible refine Ext.drewN ?_ _ | refine Ext.setCell ?_ (by dsimp only; omega) _ | refine Ext.trans ?_ (by with_reducible assumption)))
          rintro wx ⟨hr, hE⟩
          clear b2 b3 b4 b5 b6 b7 o0 o1 o2 o3 o4 o5 o6 o7 f2 f3 f4 f5 f6 f7 g0 g1 g2 g3 g4 g5 g6 g7 r0 r1 r2 r3 r4 r5 r6 r7
          rw [FIN.out]
          refine bodyPost_ret (v := .agg #[.int .i64 (a.count + b.count), .int .i64 (a.nulls + b.nulls), .int .i64 a.mn.kind, .int .i64 a.mn.num, .string a.mn.text, .int .i64 a.mx.kind, .int .i64 a.mx.num, .string a.mx.text]) (by simp [results, Tryd.results14, go_sem, World.cell?, hr]) rfl ⟨by simp, hE⟩
        · go_wp2
          refine bodyPost_abs (fun wx => wx.heap[w.heap.size + 1 + 1]? = some (.cells #[.int .i64 (a.count + b.count), .int .i64 (a.nulls + b.nulls), .int .i64 a.mn.kind, .int .i64 a.mn.num, .string a.mn.text, .int .i64 b.mx.kind, .int .i64 b.mx.num, .string b.mx.text] 32 (0, 0)) ∧ Ext w wx) ?_ ?_
          · refine ⟨?_, ?_⟩
            · first | exact heap_set8 hr | exact heap_set8 (by rw [Below.heap_setCell _ _ _ _ (by simp), Below.heap_setCell _ _ _ _ (by simp), Below.heap_setCell _ _ _ _ (by simp)]; exact hr)
            · (repeat (first | with_reducible exact Ext.refl _ | with_reducible assumption | with_reducible refine Ext.drew ?_ | with_reducible refine Ext.alloc ?_ _ | with_reducible refine Ext.drewN ?_ _ | refine Ext.setCell ?_ (by dsimp only; omega) _ | refine Ext.trans ?_ (by with_reducible assumption)))
          rintro wx ⟨hr, hE⟩
          clear b2 b3 b4 b5 b6 b7 o0 o1 o2 o3 o4 o5 o6 o7 f2 f3 f4 f5 f6 f7 g0 g1 g2 g3 g4 g5 g6 g7 r0 r1 r2 r3 r4 r5 r6 r7
          rw [FIN.out]
          refine bodyPost_ret (v := .agg #[.int .i64 (a.count + b.count), .int .i64 (a.nulls + b.nulls), .int .i64 a.mn.kind, .int .i64 a.mn.num, .string a.mn.text, .int .i64 b.mx.kind, .int .i64 b.mx.num, .string b.mx.text]) (by simp [results, Tryd.results14, go_sem, World.cell?, hr]) rfl ⟨by simp, hE⟩
    | true =>
      obtain ⟨b2, b3, b4, b5, b6, b7, hr, ho, hE⟩ := hF
      have o0 : wc.cell? ⟨w.heap.size + 1 + 1 + 1, 0, none⟩ = some (.int .i64 (a.count + b.count)) := (by simp [World.cell?, ho]); have o1 : wc.cell? ⟨w.heap.size + 1 + 1 + 1, 1, none⟩ = some (.int .i64 (a.nulls + b.nulls)) := (by simp [World.cell?, ho]); have o2 : wc.cell? ⟨w.heap.size + 1 + 1 + 1, 2, none⟩ = some (.int .i64 a.mn.kind) := (by simp [World.cell?, ho]); have o3 : wc.cell? ⟨w.heap.size + 1 + 1 + 1, 3, none⟩ = some (.int .i64 a.mn.num) := (by simp [World.cell?, ho]); have o4 : wc.cell? ⟨w.heap.size + 1 + 1 + 1, 4, none⟩ = some (.string a.mn.text) := (by simp [World.cell?, ho]); have o5 : wc.cell? ⟨w.heap.size + 1 + 1 + 1, 5, none⟩ = some (.int .i64 a.mx.kind) := (by simp [World.cell?, ho]); have o6 : wc.cell? ⟨w.heap.size + 1 + 1 + 1, 6, none⟩ = some (.int .i64 a.mx.num) := (by simp [World.cell?, ho]); have o7 : wc.cell? ⟨w.heap.size + 1 + 1 + 1, 7, none⟩ = some (.string a.mx.text) := (by simp [World.cell?, ho])
      have f2 : wc.frozen? ⟨w.heap.size + 1 + 1 + 1, 2, none⟩ = false := (by simp [World.frozen?, ho]); have f3 : wc.frozen? ⟨w.heap.size + 1 + 1 + 1, 3, none⟩ = false := (by simp [World.frozen?, ho]); have f4 : wc.frozen? ⟨w.heap.size + 1 + 1 + 1, 4, none⟩ = false := (by simp [World.frozen?, ho]); have f5 : wc.frozen? ⟨w.heap.size + 1 + 1 + 1, 5, none⟩ = false := (by simp [World.frozen?, ho]); have f6 : wc.frozen? ⟨w.heap.size + 1 + 1 + 1, 6, none⟩ = false := (by simp [World.frozen?, ho]); have f7 : wc.frozen? ⟨w.heap.size + 1 + 1 + 1, 7, none⟩ = false := (by simp [World.frozen?, ho]); have g0 : wc.frozen? ⟨w.heap.size + 1 + 1, 0, none⟩ = false := (by simp [World.frozen?, hr]); have g1 : wc.frozen? ⟨w.heap.size + 1 + 1, 1, none⟩ = false := (by simp [World.frozen?, hr]); have g2 : wc.frozen? ⟨w.heap.size + 1 + 1, 2, none⟩ = false := (by simp [World.frozen?, hr]); have g3 : wc.frozen? ⟨w.heap.size + 1 + 1, 3, none⟩ = false := (by simp [World.frozen?, hr]); have g4 : wc.frozen? ⟨w.heap.size + 1 + 1, 4, none⟩ = false := (by simp [World.frozen?, hr]); have g5 : wc.frozen? ⟨w.heap.size + 1 + 1, 5, none⟩ = false := (by simp [World.frozen?, hr]); have g6 : wc.frozen? ⟨w.heap.size + 1 + 1, 6, none⟩ = false := (by simp [World.frozen?, hr]); have g7 : wc.frozen? ⟨w.heap.size + 1 + 1, 7, none⟩ = false := (by simp [World.frozen?, hr])
      clear HY
      go_upto_region 4 with fail
      refine abs_wp (BothF w (w.heap.size + 1) b (a.count + b.count) (a.nulls + b.nulls) b.mn a.mx) ⟨by go_simp, by go_simp, by go_simp, by go_simp, by go_simp, by go_simp, ?_, ?_, ?_⟩ ?_
      · rw [Below.heap_setCell _ _ _ _ (by simp), Below.heap_setCell _ _ _ _ (by simp), Below.heap_setCell _ _ _ _ (by simp)]
        exact hr
      · rw [heap_set (heap_set (heap_set ho))]
        rfl
      · (repeat (first | with_reducible exact Ext.refl _ | with_reducible assumption | with_reducible refine Ext.drew ?_ | with_reducible refine Ext.alloc ?_ _ | with_reducible refine Ext.drewN ?_ _ | refine Ext.setCell ?_ (by dsimp only; omega) _ | refine Ext.trans ?_ (by with_reducible assumption)))
      clear b2 b3 b4 b5 b6 b7 hr ho hE o0 o1 o2 o3 o4 o5 o6 o7 f2 f3 f4 f5 f6 f7 g0 g1 g2 g3 g4 g5 g6 g7
      rintro wy hF
      go_cut [59] (fun s59 wx => s59 = .bool z ∧ BothF w (w.heap.size + 1) b (a.count + b.count) (a.nulls + b.nulls) b.mn a.mx wx)
      case first =>
        have HF := Lib.hid hF
        obtain ⟨b2, b3, b4, b5, b6, b7, hr, ho, hE⟩ := hF
        have o0 : wy.cell? ⟨w.heap.size + 1 + 1 + 1, 0, none⟩ = some (.int .i64 (a.count + b.count)) := (by simp [World.cell?, ho]); have o1 : wy.cell? ⟨w.heap.size + 1 + 1 + 1, 1, none⟩ = some (.int .i64 (a.nulls + b.nulls)) := (by simp [World.cell?, ho]); have o2 : wy.cell? ⟨w.heap.size + 1 + 1 + 1, 2, none⟩ = some (.int .i64 b.mn.kind) := (by simp [World.cell?, ho]); have o3 : wy.cell? ⟨w.heap.size + 1 + 1 + 1, 3, none⟩ = some (.int .i64 b.mn.num) := (by simp [World.cell?, ho]); have o4 : wy.cell? ⟨w.heap.size + 1 + 1 + 1, 4, none⟩ = some (.string b.mn.text) := (by simp [World.cell?, ho]); have o5 : wy.cell? ⟨w.heap.size + 1 + 1 + 1, 5, none⟩ = some (.int .i64 a.mx.kind) := (by simp [World.cell?, ho]); have o6 : wy.cell? ⟨w.heap.size + 1 + 1 + 1, 6, none⟩ = some (.int .i64 a.mx.num) := (by simp [World.cell?, ho]); have o7 : wy.cell? ⟨w.heap.size + 1 + 1 + 1, 7, none⟩ = some (.string a.mx.text) := (by simp [World.cell?, ho])
        clear ho hr
        rcases four (a.mx.kind == 0) (b.mx.kind != 0) (decide (0 < n)) with f1 | ⟨f1, f2⟩ | ⟨f1, f2, f3⟩ | ⟨f1, f2, f3⟩
        · obtain rfl : z = true := by rw [HZ.out, f1]; rfl
          go_wp2_with fail
          go_meet
          exact ⟨rfl, HF.out⟩
        · obtain rfl : z = false := by rw [HZ.out, f1, f2]; rfl
          go_wp2_with fail
          go_meet
          exact ⟨rfl, HF.out⟩
        · obtain rfl : z = true := by rw [HZ.out, f1, f2, f3]; rfl
          go_wp2_with (go_at_call 18; refine (C2.out _).mono ?_; rintro e x1 ⟨rfl, hx1⟩)
          go_meet
          exact ⟨rfl, HF.out.ext hx1⟩
        · obtain rfl : z = false := by rw [HZ.out, f1, f2, f3]; rfl
          go_wp2_with (go_at_call 18; refine (C2.out _).mono ?_; rintro e x1 ⟨rfl, hx1⟩)
          go_meet
          exact ⟨rfl, HF.out.ext hx1⟩
      case rest =>
        obtain ⟨rfl, hF⟩ := hcut
        obtain ⟨b2, b3, b4, b5, b6, b7, hr, ho, hE⟩ := hF
        have o0 : wc.cell? ⟨w.heap.size + 1 + 1 + 1, 0, none⟩ = some (.int .i64 (a.count + b.count)) := (by simp [World.cell?, ho]); have o1 : wc.cell? ⟨w.heap.size + 1 + 1 + 1, 1, none⟩ = some (.int .i64 (a.nulls + b.nulls)) := (by simp [World.cell?, ho]); have o2 : wc.cell? ⟨w.heap.size + 1 + 1 + 1, 2, none⟩ = some (.int .i64 b.mn.kind) := (by simp [World.cell?, ho]); have o3 : wc.cell? ⟨w.heap.size + 1 + 1 + 1, 3, none⟩ = some (.int .i64 b.mn.num) := (by simp [World.cell?, ho]); have o4 : wc.cell? ⟨w.heap.size + 1 + 1 + 1, 4, none⟩ = some (.string b.mn.text) := (by simp [World.cell?, ho]); have o5 : wc.cell? ⟨w.heap.size + 1 + 1 + 1, 5, none⟩ = some (.int .i64 a.mx.kind) := (by simp [World.cell?, ho]); have o6 : wc.cell? ⟨w.heap.size + 1 + 1 + 1, 6, none⟩ = some (.int .i64 a.mx.num) := (by simp [World.cell?, ho]); have o7 : wc.cell? ⟨w.heap.size + 1 + 1 + 1, 7, none⟩ = some (.string a.mx.text) := (by simp [World.cell?, ho])
        have f2 : wc.frozen? ⟨w.heap.size + 1 + 1 + 1, 2, none⟩ = false := (by simp [World.frozen?, ho]); have f3 : wc.frozen? ⟨w.heap.size + 1 + 1 + 1, 3, none⟩ = false := (by simp [World.frozen?, ho]); have f4 : wc.frozen? ⟨w.heap.size + 1 + 1 + 1, 4, none⟩ = false := (by simp [World.frozen?, ho]); have f5 : wc.frozen? ⟨w.heap.size + 1 + 1 + 1, 5, none⟩ = false := (by simp [World.frozen?, ho]); have f6 : wc.frozen? ⟨w.heap.size + 1 + 1 + 1, 6, none⟩ = false := (by simp [World.frozen?, ho]); have f7 : wc.frozen? ⟨w.heap.size + 1 + 1 + 1, 7, none⟩ = false := (by simp [World.frozen?, ho]); have g0 : wc.frozen? ⟨w.heap.size + 1 + 1, 0, none⟩ = false := (by simp [World.frozen?, hr]); have g1 : wc.frozen? ⟨w.heap.size + 1 + 1, 1, none⟩ = false := (by simp [World.frozen?, hr]); have g2 : wc.frozen? ⟨w.heap.size + 1 + 1, 2, none⟩ = false := (by simp [World.frozen?, hr]); have g3 : wc.frozen? ⟨w.heap.size + 1 + 1, 3, none⟩ = false := (by simp [World.frozen?, hr]); have g4 : wc.frozen? ⟨w.heap.size + 1 + 1, 4, none⟩ = false := (by simp [World.frozen?, hr]); have g5 : wc.frozen? ⟨w.heap.size + 1 + 1, 5, none⟩ = false := (by simp [World.frozen?, hr]); have g6 : wc.frozen? ⟨w.heap.size + 1 + 1, 6, none⟩ = false := (by simp [World.frozen?, hr]); have g7 : wc.frozen? ⟨w.heap.size + 1 + 1, 7, none⟩ = false := (by simp [World.frozen?, hr])
        have r0 : wc.cell? ⟨w.heap.size + 1 + 1, 0, none⟩ = some (.int .i64 0) := (by simp [World.cell?, hr]); have r1 : wc.cell? ⟨w.heap.size + 1 + 1, 1, none⟩ = some (.int .i64 0) := (by simp [World.cell?, hr]); have r2 : wc.cell? ⟨w.heap.size + 1 + 1, 2, none⟩ = some (.int .i64 0) := (by simp [World.cell?, hr]); have r3 : wc.cell? ⟨w.heap.size + 1 + 1, 3, none⟩ = some (.int .i64 0) := (by simp [World.cell?, hr]); have r4 : wc.cell? ⟨w.heap.size + 1 + 1, 4, none⟩ = some (.string ⟨#[]⟩) := (by simp [World.cell?, hr]); have r5 : wc.cell? ⟨w.heap.size + 1 + 1, 5, none⟩ = some (.int .i64 0) := (by simp [World.cell?, hr]); have r6 : wc.cell? ⟨w.heap.size + 1 + 1, 6, none⟩ = some (.int .i64 0) := (by simp [World.cell?, hr]); have r7 : wc.cell? ⟨w.heap.size + 1 + 1, 7, none⟩ = some (.string ⟨#[]⟩) := (by simp [World.cell?, hr])
        clear HZ ho
        cases z
        · go_wp2
          refine bodyPost_abs (fun wx => wx.heap[w.heap.size + 1 + 1]? = some (.cells #[.int .i64 (a.count + b.count), .int .i64 (a.nulls + b.nulls), .int .i64 b.mn.kind, .int .i64 b.mn.num, .string b.mn.text, .int .i64 a.mx.kind, .int .i64 a.mx.num, .string a.mx.text] 32 (0, 0)) ∧ Ext w wx) ?_ ?_
          · refine ⟨?_, ?_⟩
            · first | exact heap_set8 hr | exact heap_set8 (by rw [Below.heap_setCell _ _ _ _ (by simp), Below.heap_setCell _ _ _ _ (by simp), Below.heap_setCell _ _ _ _ (by simp)]; exact hr)
            · (repeat (first | with_reducible exact Ext.refl _ | with_reducible assumption | with_reducible refine Ext.drew ?_ | with_reducible refine Ext.alloc ?_ _ | with_reducible refine Ext.drewN ?_ _ | refine Ext.setCell ?_ (by dsimp only; omega) _ | refine Ext.trans ?_ (by with_reducible assumption)))
          rintro wx ⟨hr, hE⟩
          clear b2 b3 b4 b5 b6 b7 o0 o1 o2 o3 o4 o5 o6 o7 f2 f3 f4 f5 f6 f7 g0 g1 g2 g3 g4 g5 g6 g7 r0 r1 r2 r3 r4 r5 r6 r7
          rw [FIN.out]
          refine bodyPost_ret (v := .agg #[.int .i64 (a.count + b.count), .int .i64 (a.nulls + b.nulls), .int .i64 b.mn.kind, .int .i64 b.mn.num, .string b.mn.text, .int .i64 a.mx.kind, .int .i64 a.mx.num, .string a.mx.text]) (by simp [results, Tryd.results14, go_sem, World.cell?, hr]) rfl ⟨by simp, hE⟩
        · go_wp2
          refine bodyPost_abs (fun wx => wx.heap[w.heap.size + 1 + 1]? = some (.cells #[.int .i64 (a.count + b.count), .int .i64 (a.nulls + b.nulls), .int .i64 b.mn.kind, .int .i64 b.mn.num, .string b.mn.text, .int .i64 b.mx.kind, .int .i64 b.mx.num, .string b.mx.text] 32 (0, 0)) ∧ Ext w wx) ?_ ?_
          · refine ⟨?_, ?_⟩
            · first | exact heap_set8 hr | exact heap_set8 (by rw [Below.heap_setCell _ _ _ _ (by simp), Below.heap_setCell _ _ _ _ (by simp), Below.heap_setCell _ _ _ _ (by simp)]; exact hr)
            · (repeat (first | with_reducible exact Ext.refl _ | with_reducible assumption | with_reducible refine Ext.drew ?_ | with_reducible refine Ext.alloc ?_ _ | with_reducible refine Ext.drewN ?_ _ | refine Ext.setCell ?_ (by dsimp only; omega) _ | refine Ext.trans ?_ (by with_reducible assumption)))
          rintro wx ⟨hr, hE⟩
          clear b2 b3 b4 b5 b6 b7 o0 o1 o2 o3 o4 o5 o6 o7 f2 f3 f4 f5 f6 f7 g0 g1 g2 g3 g4 g5 g6 g7 r0 r1 r2 r3 r4 r5 r6 r7
          rw [FIN.out]
          refine bodyPost_ret (v := .agg #[.int .i64 (a.count + b.count), .int .i64 (a.nulls + b.nulls), .int .i64 b.mn.kind, .int .i64 b.mn.num, .string b.mn.text, .int .i64 b.mx.kind, .int .i64 b.mx.num, .string b.mx.text]) (by simp [results, Tryd.results14, go_sem, World.cell?, hr]) rfl ⟨by simp, hE⟩
end Go.Proofs.YtieongfdleobpaaDoor
