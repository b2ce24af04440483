/- SchemaNumbers: what the walk leans on. -/
import Derived.Test.YthikjhdobnllhaaDoorSch8
import Derived.Test.YthikjhdobnllhaaDoorSchKeys
import Derived.Test.YthikjhdobnllhaaDoorHpMap
import Derived.Deep.DeepCutAuto
import Derived.Deep.CutBlock
namespace Go.Proofs.YthikjhdobnllhaaDoor
set_option linter.unusedSimpArgs false
set_option linter.unusedVariables false
open Go.RowKit
open Go.Maps (Keyed)
theorem Tryd.keyedInt : Keyed Tryd.prog 3 := Go.Maps.int_keyed Tryd.underlying3
theorem zeroI (w : World) : (zeroValue 3).run Tryd.prog w = .ok (.int .i64 0) w := by kernel_rfl
/-- a change as Go has it -/
structure HG where
  what : Int
  c : CG
  name : ByteArray
  tgt : ByteArray
abbrev hV (h : HG) : Value := .agg #[.int .i64 h.what, .int .i64 h.c.id, .string h.c.name, .int .i64 h.c.kind, .bool h.c.must, .int .i64 h.c.d.kind, .int .i64 h.c.d.num, .string h.c.d.text, .string h.name, .string h.tgt]
/-- the slice at A reads as the changes l -/
def RH (w : World) (A : Option Addr) (l : List HG) : Prop :=
  ∀ (i : Nat) (h : HG), l[i]? = some h → ∃ b o : Nat, A = some ⟨b, o, none⟩ ∧ w.cell? ⟨b, o + i * 10, none⟩ = some (.int .i64 h.what) ∧ w.cell? ⟨b, o + i * 10 + 1, none⟩ = some (.int .i64 h.c.id) ∧ w.cell? ⟨b, o + i * 10 + 2, none⟩ = some (.string h.c.name) ∧ w.cell? ⟨b, o + i * 10 + 3, none⟩ = some (.int .i64 h.c.kind) ∧ w.cell? ⟨b, o + i * 10 + 4, none⟩ = some (.bool h.c.must) ∧ w.cell? ⟨b, o + i * 10 + 5, none⟩ = some (.int .i64 h.c.d.kind) ∧ w.cell? ⟨b, o + i * 10 + 6, none⟩ = some (.int .i64 h.c.d.num) ∧ w.cell? ⟨b, o + i * 10 + 7, none⟩ = some (.string h.c.d.text) ∧ w.cell? ⟨b, o + i * 10 + 8, none⟩ = some (.string h.name) ∧ w.cell? ⟨b, o + i * 10 + 9, none⟩ = some (.string h.tgt)
abbrev colF : CG := ⟨1, ⟨#[102, 105, 114, 115, 116]⟩, 1, false, ⟨0, 0, ⟨#[]⟩⟩⟩
/-- what stands behind a change -/
def Behind (w : World) (g N c gm : Nat) (A' : Option Addr) (cols : List CG) (next : Int) (D : DataW Unit) (ob : Obj) (m nn er : Value) (wx : World) : Prop :=
  RC wx (some ⟨g, 0, none⟩) cols ∧ RC wx A' cols ∧ ((∃ (e z : Int), m = .slice none 0 0 ∧ nn = .int .i64 z ∧ er = .iface 45 (.int .i64 e) ∧ Hp w.heap.size w wx [.row 27 7 (some ⟨g, 0, none⟩) N c (cellsC cols), .ob gm ob]) ∨
    (∃ (g2 cm : Nat) (M : List CG) (nx : Int), m = .slice (some ⟨g2, 0, none⟩) M.length cm ∧ M.length ≤ cm ∧ nn = .int .i64 nx ∧ er = .nilIface ∧ Hid (Inv M nx) ∧ Hid (KStep D M nx 0) ∧ next ≤ nx ∧ nx ≤ next + 1 ∧ Hp w.heap.size w wx [.row 27 7 (some ⟨g2, 0, none⟩) M.length cm (cellsC M), .ob gm ob]))
theorem wf_of {n : Int} (h0 : 0 ≤ n) (h1 : n ≤ 1000) : (Lit.int .i64 n).wf = true := by
  have e1 : IntKind.i64.min = -9223372036854775808 := rfl
  have e2 : IntKind.i64.max = 9223372036854775807 := rfl
  simp [Lit.wf, e1, e2]
  omega
theorem key_int {id : Int} (h : (Lit.int .i64 id).wf = true) : keyOf Tryd.prog 3 (.int .i64 id) = some (kLit id) := by
  unfold keyOf mapKey
  rw [Tryd.underlying3]
  simp [h]
theorem colB_id {c : CG} (h : colB c = true) : 1 ≤ c.id := by
  unfold colB at h
  simp only [Bool.and_eq_true, decide_eq_true_eq] at h
  exact h.1.1.2
theorem kmore {cols : List CG} {next : Int} {D : DataW Unit} {c : CG} (hK : KInv D cols next) : KStep D (cols ++ [morC c next]) (next + 1) 0 :=
  kstart hK (by omega) fun x hx => by
    rcases List.mem_append.1 hx with hx | hx
    · exact .inl ⟨x, hx, rfl, rfl⟩
    · simp at hx; subst hx; exact .inr ⟨by show next = next + 1 - 1; omega, Int.le_refl _⟩
theorem kless {cols : List CG} {next : Int} {D : DataW Unit} {nm : ByteArray} (hK : KInv D cols next) : KStep D (lessL cols nm) next 0 :=
  kstart hK (Int.le_refl _) fun x hx => .inl ⟨x, (List.eraseIdx_sublist cols _).subset hx, rfl, rfl⟩
theorem kren {cols : List CG} {next : Int} {D : DataW Unit} {nm tg : ByteArray} (hK : KInv D cols next) (he : renE cols nm tg = 0) : KStep D (renL cols nm tg) next 0 := by
  obtain ⟨k, c, e1, e2, e3, e4, _⟩ := ren_parts he
  refine kstart hK (Int.le_refl _) fun x hx => .inl ?_
  rw [e4] at hx
  rcases List.mem_or_eq_of_mem_set hx with hx | rfl
  · exact ⟨x, hx, rfl, rfl⟩
  · exact ⟨c, List.mem_of_getElem? e2, rfl, rfl⟩
theorem ksame {cols : List CG} {next : Int} {D : DataW Unit} (hK : KInv D cols next) : KStep D cols next 0 :=
  kstart hK (Int.le_refl _) fun x hx => .inl ⟨x, hx, rfl, rfl⟩
--LEM
/-- what More leaves -/
def After (W : World) (next : Int) (D : DataW Unit) (e : Ending) (w' : World) : Prop :=
  ∃ m nn er : Value, e = .returned (.tuple #[m, nn, er]) ∧ ((∃ (err z : Int), m = .slice none 0 0 ∧ nn = .int .i64 z ∧ er = .iface 45 (.int .i64 err) ∧ Ext W w') ∨
    (∃ (A2 : Option Addr) (cap2 : Nat) (M : List CG) (nx : Int), m = .slice A2 M.length cap2 ∧ nn = .int .i64 nx ∧ er = .nilIface ∧ Hid (Inv M nx) ∧ Hid (KStep D M nx 0) ∧ next ≤ nx ∧ nx ≤ next + 1 ∧ Hp W.heap.size W w' [cRow A2 cap2 M]))
/-- what Less leaves -/
def After2 (W : World) (next : Int) (D : DataW Unit) (e : Ending) (w' : World) : Prop :=
  ∃ m er : Value, e = .returned (.tuple #[m, er]) ∧ ((∃ err : Int, m = .slice none 0 0 ∧ er = .iface 45 (.int .i64 err) ∧ Ext W w') ∨
    (∃ (A2 : Option Addr) (cap2 : Nat) (M : List CG), m = .slice A2 M.length cap2 ∧ er = .nilIface ∧ Hid (Inv M next) ∧ Hid (KStep D M next 0) ∧ Hp W.heap.size W w' [cRow A2 cap2 M]))
theorem behind_bad {w W wx : World} {g N c gm cap' lb : Nat} {A' : Option Addr} {cols : List CG} {next : Int} {D : DataW Unit} {ob : Obj} {bl : List Value} {bt : TypeId}
    (hS : Hp w.heap.size w W [.row 27 7 A' N cap' (cellsC cols), .blk lb bl bt, .row 27 7 (some ⟨g, 0, none⟩) N c (cellsC cols), .ob gm ob]) (hx : Ext W wx) (err z : Int) :
    Behind w g N c gm A' cols next D ob (.slice none 0 0) (.int .i64 z) (.iface 45 (.int .i64 err)) wx := by
  replace hS := hS.step hx
  exact ⟨hS.rc 2 rfl, hS.rc 0 rfl, .inl ⟨_, _, rfl, rfl, rfl, hS.sub (by simp)⟩⟩
theorem behind_good {w W wx : World} {g N c gm cap' lb : Nat} {A' : Option Addr} {cols : List CG} {next : Int} {D : DataW Unit} {ob : Obj} {bl : List Value} {bt : TypeId}
    (hS : Hp w.heap.size w W [.row 27 7 A' N cap' (cellsC cols), .blk lb bl bt, .row 27 7 (some ⟨g, 0, none⟩) N c (cellsC cols), .ob gm ob]) {A2 : Option Addr} {cap2 : Nat} {M : List CG} {nx : Int} (hI : Hid (Inv M nx)) (hK : Hid (KStep D M nx 0)) (h1 : next ≤ nx) (h2 : nx ≤ next + 1) (hp : Hp W.heap.size W wx [cRow A2 cap2 M]) :
    Behind w g N c gm A' cols next D ob (.slice A2 M.length cap2) (.int .i64 nx) .nilIface wx := by
  replace hS := hS.join hp
  simp only [List.cons_append, List.nil_append] at hS
  unfold cRow at hS
  obtain ⟨g2, rfl, hnc, _⟩ := hS.addrC hI.out.len1
  exact ⟨hS.rc 3 rfl, hS.rc 1 rfl, .inr ⟨g2, cap2, M, nx, rfl, hnc, rfl, rfl, hI, hK, h1, h2, hS.sub (by simp)⟩⟩
theorem after_behind {w W wx : World} {g N c gm cap' lb : Nat} {A' : Option Addr} {cols : List CG} {next : Int} {D : DataW Unit} {ob : Obj} {bl : List Value} {bt : TypeId} {m nn er : Value}
    (hS : Hp w.heap.size w W [.row 27 7 A' N cap' (cellsC cols), .blk lb bl bt, .row 27 7 (some ⟨g, 0, none⟩) N c (cellsC cols), .ob gm ob])
    (h : (∃ (err z : Int), m = .slice none 0 0 ∧ nn = .int .i64 z ∧ er = .iface 45 (.int .i64 err) ∧ Ext W wx) ∨
    (∃ (A2 : Option Addr) (cap2 : Nat) (M : List CG) (nx : Int), m = .slice A2 M.length cap2 ∧ nn = .int .i64 nx ∧ er = .nilIface ∧ Hid (Inv M nx) ∧ Hid (KStep D M nx 0) ∧ next ≤ nx ∧ nx ≤ next + 1 ∧ Hp W.heap.size W wx [cRow A2 cap2 M])) :
    Behind w g N c gm A' cols next D ob m nn er wx := by
  rcases h with ⟨err, z, rfl, rfl, rfl, hx⟩ | ⟨A2, cap2, M, nx, rfl, rfl, rfl, hI, hK, h1, h2, hp⟩
  · exact behind_bad hS hx err z
  · exact behind_good hS hI hK h1 h2 hp
theorem after2_behind {w W wx : World} {g N c gm cap' lb : Nat} {A' : Option Addr} {cols : List CG} {next : Int} {D : DataW Unit} {ob : Obj} {bl : List Value} {bt : TypeId} {m er : Value}
    (hS : Hp w.heap.size w W [.row 27 7 A' N cap' (cellsC cols), .blk lb bl bt, .row 27 7 (some ⟨g, 0, none⟩) N c (cellsC cols), .ob gm ob])
    (h : (∃ err : Int, m = .slice none 0 0 ∧ er = .iface 45 (.int .i64 err) ∧ Ext W wx) ∨
    (∃ (A2 : Option Addr) (cap2 : Nat) (M : List CG), m = .slice A2 M.length cap2 ∧ er = .nilIface ∧ Hid (Inv M next) ∧ Hid (KStep D M next 0) ∧ Hp W.heap.size W wx [cRow A2 cap2 M])) :
    Behind w g N c gm A' cols next D ob m (.int .i64 next) er wx := by
  rcases h with ⟨err, rfl, rfl, hx⟩ | ⟨A2, cap2, M, rfl, rfl, hI, hK, hp⟩
  · exact behind_bad hS hx err next
  · exact behind_good hS hI hK (by omega) (by omega) hp
end Go.Proofs.YthikjhdobnllhaaDoor
