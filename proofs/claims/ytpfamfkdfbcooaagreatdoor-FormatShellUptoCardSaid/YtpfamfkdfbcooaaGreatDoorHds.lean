/- colanderlaw05.heads. -/
import Derived.Test.YtpfamfkdfbcooaaGreatDoorKer
import Derived.Deep.DeepCutAuto
set_option linter.unusedVariables false
set_option linter.unusedSimpArgs false
namespace Go.Proofs.YtpfamfkdfbcooaaGreatDoor
open Go Go.RowKit Go.Proofs
abbrev one64 : Nat := 4607182418800017408
def leafT (k : Int) (num : Nat) : Tr := .mk k num [] [] []
def inT : Tr := .mk 6 0 [] [[97]] [leafT 5 0]
def headT : Tr := .mk 5 0 [] [] [leafT 3 one64, inT]
theorem leaf_rep (d : Nat) (w : World) (k : Int) (num : Nat) (hn : num < 18446744073709551616) : Rep (d + 1) w (leafT k num) (.int .i64 k) (.float .f64 num) (.string ⟨#[]⟩) (.slice none 0 0) (.slice none 0 0) :=
  ⟨rfl, rfl, rfl, hn, by decide, by decide, by decide, none, 0, none, 0, rfl, rfl, fun i h => absurd h (Nat.not_lt_zero _), fun i h => absurd h (Nat.not_lt_zero _), by decide, by decide, fun _ => rfl, fun _ => rfl⟩
/-- The style as numbers. -/
def sty (ind : Nat) (col : Bool) : Sty := { ind := ind, tab := false, srt := false, asc := false, col := col }
def headL : List UInt8 := [91, 10, 32, 32, 49, 44, 10, 32, 32, 123, 10, 32, 32, 32, 32, 34, 97, 34, 58, 32, 91, 93, 10, 32, 32, 125, 10, 93]
def nullL : List UInt8 := [27, 91, 49, 59, 51, 48, 109, 110, 117, 108, 108, 27, 91, 48, 109]
theorem head_1 : printS (sty 2 false) 3 headT = (headL, false) := by decide +kernel
theorem head_2 : printS (sty 0 true) 1 (leafT 0 0) = (nullL, false) := by decide +kernel
theorem head_3 : escT [240, 159, 152, 128] true = [34, 92, 117, 100, 56, 51, 100, 92, 117, 100, 101, 48, 48, 34] := by decide +kernel
theorem leaf_ok (d : Nat) (k : Int) (num : Nat) (h0 : 0 ≤ k) (h6 : k ≤ 6) : Okp (d + 1) (leafT k num) := ⟨h0, h6, fun _ => rfl, fun i h => absurd h (Nat.not_lt_zero _)⟩
theorem in_ok : Okp 2 inT := by
  refine ⟨by decide, by decide, fun _ => rfl, fun i h => ?_⟩
  match i, h with
  | 0, _ => exact leaf_ok 0 5 0 (by decide) (by decide)
theorem head_ok : Okp 3 headT := by
  refine ⟨by decide, by decide, fun h => (by cases h), fun i h => ?_⟩
  match i, h with
  | 0, _ => exact leaf_ok 1 3 one64 (by decide) (by decide)
  | 1, _ => exact in_ok
theorem cells_new5 {w : World} {a : Nat} {x0 x1 x2 x3 x4 : Value} {W : World} (h0 : W.cell? ⟨a, 0, none⟩ = some x0) (h1 : W.cell? ⟨a, 1, none⟩ = some x1) (h2 : W.cell? ⟨a, 2, none⟩ = some x2) (h3 : W.cell? ⟨a, 3, none⟩ = some x3) (h4 : W.cell? ⟨a, 4, none⟩ = some x4) : Cells5 W ((⟨a, 0, none⟩ : Addr).add (0 * 5)) x0 x1 x2 x3 x4 := by
  rw [add_mk]
  exact ⟨h0, h1, h2, h3, h4⟩
/-- The object with one empty array. -/
theorem in_rep {W : World} {a b : Nat} (hk : W.cell? ⟨a, 0, none⟩ = some (.string ⟨#[97]⟩)) (h0 : W.cell? ⟨b, 0, none⟩ = some (.int .i64 5)) (h1 : W.cell? ⟨b, 1, none⟩ = some (.float .f64 0)) (h2 : W.cell? ⟨b, 2, none⟩ = some (.string ⟨#[]⟩)) (h3 : W.cell? ⟨b, 3, none⟩ = some (.slice none 0 0)) (h4 : W.cell? ⟨b, 4, none⟩ = some (.slice none 0 0)) :
    Rep 2 W inT (.int .i64 6) (.float .f64 0) (.string ⟨#[]⟩) (.slice (some ⟨b, 0, none⟩) 1 1) (.slice (some ⟨a, 0, none⟩) 1 1) := by
  refine ⟨rfl, rfl, rfl, by decide, by decide, by decide, by decide, some ⟨b, 0, none⟩, 1, some ⟨a, 0, none⟩, 1, rfl, rfl, fun i h => ?_, fun i h => ?_, by decide, by decide, fun h => (by cases h), fun h => (by cases h)⟩
  · match i, h with
    | 0, _ => exact ⟨_, rfl, _, _, _, _, _, cells_new5 (w := W) h0 h1 h2 h3 h4, leaf_rep 0 W 5 0 (by decide)⟩
  · match i, h with
    | 0, _ => exact ⟨Nat.le_add_left 1 1048575, _, rfl, by rw [add_mk]; exact hk⟩
theorem head_rep {W : World} {b : Nat} {x3 x4 : Value} (hR : Rep 2 W inT (.int .i64 6) (.float .f64 0) (.string ⟨#[]⟩) x3 x4) (h0 : W.cell? ⟨b, 0, none⟩ = some (.int .i64 3)) (h1 : W.cell? ⟨b, 1, none⟩ = some (.float .f64 one64)) (h2 : W.cell? ⟨b, 2, none⟩ = some (.string ⟨#[]⟩)) (h3 : W.cell? ⟨b, 3, none⟩ = some (.slice none 0 0)) (h4 : W.cell? ⟨b, 4, none⟩ = some (.slice none 0 0))
    (g0 : W.cell? ⟨b, 5, none⟩ = some (.int .i64 6)) (g1 : W.cell? ⟨b, 6, none⟩ = some (.float .f64 0)) (g2 : W.cell? ⟨b, 7, none⟩ = some (.string ⟨#[]⟩)) (g3 : W.cell? ⟨b, 8, none⟩ = some x3) (g4 : W.cell? ⟨b, 9, none⟩ = some x4) :
    Rep 3 W headT (.int .i64 5) (.float .f64 0) (.string ⟨#[]⟩) (.slice (some ⟨b, 0, none⟩) 2 2) (.slice none 0 0) := by
  refine ⟨rfl, rfl, rfl, by decide, by decide, by decide, by decide, some ⟨b, 0, none⟩, 2, none, 0, rfl, rfl, fun i h => ?_, fun i h => absurd h (Nat.not_lt_zero _), by decide, by decide, fun _ => rfl, fun h => (by cases h)⟩
  match i, h with
  | 0, _ => exact ⟨_, rfl, _, _, _, _, _, cells_new5 (w := W) h0 h1 h2 h3 h4, leaf_rep 1 W 3 one64 (by decide)⟩
  | 1, _ =>
    refine ⟨_, rfl, _, _, _, _, _, ?_, hR⟩
    rw [add_mk]
    exact ⟨g0, g1, g2, g3, g4⟩
section
variable {ops : Array Oper} {o : Oper} {a : Act} {K : Act → World → Prop} {Q : Exit → Act → World → Prop} {E : Prop}
/-- A store of a whole value into a block that has just been made, at a step of a region that draws its order. -/
theorem stepStore {W : World} (hgd : o.guard = none) (ty : TypeId) (x y : Operand) (ho : o.op = .store ty x y) (cells old : Array Value) (t : TypeId) (hx : a.eval x = .pointer (some ⟨W.heap.size, 0, none⟩)) (hy : a.eval y = .agg cells)
    (hi : (Tryz.prog.info? ty).map (·.size) = some cells.size) (hold : old.size = cells.size) (h1 : cells.all (·.oneCell') = true)
    (h : K (a.put o.dst undef) (W.alloc (.cells cells t))) :
    if Region.wanted o (yielded ops a.tmps) = true then Oper.wp Tryz.prog o a (W.alloc (.cells old t)) K Q else E := by
  have hw : Region.wanted o (yielded ops a.tmps) = true := by simp [Region.wanted, hgd]
  rw [if_pos hw]
  refine wp_store_row ty x y ho W.heap.size cells hx hy t old (heap_alloc_new _ _) hi hold h1 ?_
  rw [setRow_new]
  exact h
end
/-- What region 1 leaves. -/
theorem heads_facts {w w1 W : World} (ha : w1.cell? ⟨w.heap.size, 0, none⟩ = some (.string ⟨#[97]⟩)) (hW : W = (World.alloc w1 (Obj.cells #[Value.int IntKind.i64 5, Value.float FloatKind.f64 0, Value.string ⟨#[]⟩, Value.slice none 0 0, Value.slice none 0 0] 27)).alloc (Obj.cells #[Value.int IntKind.i64 6, Value.float FloatKind.f64 0, Value.string ⟨#[]⟩, Value.slice (some ⟨w1.heap.size, 0, none⟩) 1 1, Value.slice (some ⟨w.heap.size, 0, none⟩) 1 1] 27)) :
    Below w1.heap.size w1 W ∧ W.heap.size = w1.heap.size + 1 + 1 ∧ Rep 2 W inT (.int .i64 6) (.float .f64 0) (.string ⟨#[]⟩) (.slice (some ⟨w1.heap.size, 0, none⟩) 1 1) (.slice (some ⟨w.heap.size, 0, none⟩) 1 1) ∧
    W.cell? ⟨w1.heap.size + 1, 0, none⟩ = some (.int .i64 6) ∧ W.cell? ⟨w1.heap.size + 1, 1, none⟩ = some (.float .f64 0) ∧ W.cell? ⟨w1.heap.size + 1, 2, none⟩ = some (.string ⟨#[]⟩) ∧ W.cell? ⟨w1.heap.size + 1, 3, none⟩ = some (.slice (some ⟨w1.heap.size, 0, none⟩) 1 1) ∧ W.cell? ⟨w1.heap.size + 1, 4, none⟩ = some (.slice (some ⟨w.heap.size, 0, none⟩) 1 1) := by
  have hb : Below w1.heap.size w1 W := by rw [hW]; exact ((Below.refl _ _).alloc (Nat.le_refl _) _).alloc (by simp) _
  have hsz : (World.alloc w1 (Obj.cells #[Value.int IntKind.i64 5, Value.float FloatKind.f64 0, Value.string ⟨#[]⟩, Value.slice none 0 0, Value.slice none 0 0] 27)).heap.size = w1.heap.size + 1 := by simp
  have hin := after_new (World.alloc w1 (Obj.cells #[Value.int IntKind.i64 5, Value.float FloatKind.f64 0, Value.string ⟨#[]⟩, Value.slice none 0 0, Value.slice none 0 0] 27)) W _ _ _ _ _ _ hW
  rw [hsz] at hin
  obtain ⟨_, g0, g1, g2, g3, g4⟩ := after_new w1 (World.alloc w1 (Obj.cells #[Value.int IntKind.i64 5, Value.float FloatKind.f64 0, Value.string ⟨#[]⟩, Value.slice none 0 0, Value.slice none 0 0] 27)) _ _ _ _ _ _ rfl
  obtain ⟨hbx, e0, e1, e2, e3, e4⟩ := hin
  have hc : ∀ o u, (World.alloc w1 (Obj.cells #[Value.int IntKind.i64 5, Value.float FloatKind.f64 0, Value.string ⟨#[]⟩, Value.slice none 0 0, Value.slice none 0 0] 27)).cell? ⟨w1.heap.size, o, none⟩ = some u → W.cell? ⟨w1.heap.size, o, none⟩ = some u := fun o u h => (hbx.cell (p := ⟨w1.heap.size, o, none⟩) (by show w1.heap.size < w1.heap.size + 1; omega)).trans h
  refine ⟨hb, by rw [hW]; simp, in_rep ((hb.cell (World.block_lt_of_cell? w1 _ ha)).trans ha) (hc _ _ g0) (hc _ _ g1) (hc _ _ g2) (hc _ _ g3) (hc _ _ g4), e0, e1, e2, e3, e4⟩
theorem run_store_float (w : World) (a : Addr) (k : FloatKind) (b : Nat) (m : Mode) : (store a (.float k b) m).run Tryz.prog w = stored Tryz.prog w a (.float k b) m := run_store Tryz.prog w a _ m rfl
section
variable {ops : Array Oper} {o : Oper} {a : Act} {K : Act → World → Prop} {Q : Exit → Act → World → Prop} {E : Prop}
/-- A store of a whole value into a block, at a step of a region that draws its order. -/
theorem stepStoreAt {W : World} (hgd : o.guard = none) (ty : TypeId) (x y : Operand) (ho : o.op = .store ty x y) (g : Nat) (cells old : Array Value) (t : TypeId) (hx : a.eval x = .pointer (some ⟨g, 0, none⟩)) (hy : a.eval y = .agg cells)
    (hg : W.heap[g]? = some (.cells old t (0, 0))) (hi : (Tryz.prog.info? ty).map (·.size) = some cells.size) (hold : old.size = cells.size) (h1 : cells.all (·.oneCell') = true)
    (h : K (a.put o.dst undef) (W.setRow g cells)) :
    if Region.wanted o (yielded ops a.tmps) = true then Oper.wp Tryz.prog o a W K Q else E := by
  have hw : Region.wanted o (yielded ops a.tmps) = true := by simp [Region.wanted, hgd]
  rw [if_pos hw]
  exact wp_store_row ty x y ho g cells hx hy t old hg hi hold h1 h
end
theorem Below.more {w W : World} (h : Below w.heap.size w W) (o : Obj) : Below w.heap.size w (W.alloc o) := h.alloc h.size o
theorem hlOld {W : World} {g : Nat} {o x : Obj} (h : W.heap[g]? = some o) : (W.alloc x).heap[g]? = some o := (heap_alloc_old W x (lt_of_heap h)).trans h
theorem hlNew1 (W : World) (a o : Obj) : ((W.alloc a).alloc o).heap[W.heap.size + 1]? = some o := by
  have := heap_alloc_new (W.alloc a) o
  simpa using this
theorem hlBelow {W W' : World} {g : Nat} {o : Obj} (hb : Below W.heap.size W W') (h : W.heap[g]? = some o) : W'.heap[g]? = some o := (hb.block g (lt_of_heap h)).trans h
theorem below_setRow {B : Nat} {w W : World} (h : Below B w W) {g : Nat} (hg : B ≤ g) (cs : Array Value) : Below B w (W.setRow g cs) :=
  ⟨h.os, h.tape, h.output, Nat.le_trans h.size (by simp [World.setRow]), fun k hk => (setRow_other W g k cs (by omega)).trans (h.block k hk)⟩
theorem cell_of_heap {W : World} {g j : Nat} {cs : Array Value} {t : TypeId} {fr : Nat × Nat} {u : Value} (h : W.heap[g]? = some (.cells cs t fr)) (hu : cs[j]? = some u) : W.cell? ⟨g, j, none⟩ = some u := by
  simp only [World.cell?, h]; exact hu
/-- What region 2 leaves: the tree, at block h. -/
def HeadAt (w : World) (h : Nat) (W : World) : Prop := ∃ A : Option Addr, Rep 3 W headT (.int .i64 5) (.float .f64 0) (.string ⟨#[]⟩) (.slice A 2 2) (.slice none 0 0) ∧ Below w.heap.size w W ∧
  W.cell? ⟨h, 0, none⟩ = some (.int .i64 5) ∧ W.cell? ⟨h, 1, none⟩ = some (.float .f64 0) ∧ W.cell? ⟨h, 2, none⟩ = some (.string ⟨#[]⟩) ∧ W.cell? ⟨h, 3, none⟩ = some (.slice A 2 2) ∧ W.cell? ⟨h, 4, none⟩ = some (.slice none 0 0)
theorem head_done {w W3 W : World} {h rb : Nat} {x3 x4 : Value} {T T' : TypeId} (hb : Below w.heap.size w W3) (hbW : Below W3.heap.size W3 W) (hR : Rep 2 W3 inT (.int .i64 6) (.float .f64 0) (.string ⟨#[]⟩) x3 x4)
    (hrow : W.heap[rb]? = some (.cells #[Value.int IntKind.i64 3, Value.float FloatKind.f64 4607182418800017408, Value.string ⟨#[]⟩, Value.slice none 0 0, Value.slice none 0 0, Value.int IntKind.i64 6, Value.float FloatKind.f64 0, Value.string ⟨#[]⟩, x3, x4] T (0, 0))) (hh : W.heap[h]? = some (.cells #[Value.int IntKind.i64 5, Value.float FloatKind.f64 0, Value.string ⟨#[]⟩, Value.slice (some ⟨rb, 0, none⟩) 2 2, Value.slice none 0 0] T' (0, 0))) : HeadAt w h W :=
  ⟨some ⟨rb, 0, none⟩, head_rep (hR.below hbW) (cell_of_heap hrow rfl) (cell_of_heap hrow rfl) (cell_of_heap hrow rfl) (cell_of_heap hrow rfl) (cell_of_heap hrow rfl) (cell_of_heap hrow rfl) (cell_of_heap hrow rfl) (cell_of_heap hrow rfl) (cell_of_heap hrow rfl) (cell_of_heap hrow rfl), hb.trans (hbW.mono hb.size), cell_of_heap hh rfl, cell_of_heap hh rfl, cell_of_heap hh rfl, cell_of_heap hh rfl, cell_of_heap hh rfl⟩
theorem set5 {w : World} {h : Nat} {t : TypeId} {z0 z1 z2 z3 z4 x0 x1 x2 x3 x4 : Value} (hz : w.heap[h]? = some (.cells #[z0, z1, z2, z3, z4] t (0, 0))) :
    (((((w.setCell ⟨h, 0, none⟩ x0).setCell ⟨h, 1, none⟩ x1).setCell ⟨h, 2, none⟩ x2).setCell ⟨h, 3, none⟩ x3).setCell ⟨h, 4, none⟩ x4).heap[h]? = some (.cells #[x0, x1, x2, x3, x4] t (0, 0)) := by
  have h0 := Go.heap_setCell_same _ _ 0 _ _ x0 hz
  have h1 := Go.heap_setCell_same _ _ 1 _ _ x1 h0
  have h2 := Go.heap_setCell_same _ _ 2 _ _ x2 h1
  have h3 := Go.heap_setCell_same _ _ 3 _ _ x3 h2
  have h4 := Go.heap_setCell_same _ _ 4 _ _ x4 h3
  simpa using h4
theorem set5_other {w : World} {h k : Nat} {x0 x1 x2 x3 x4 : Value} (hk : k ≠ h) : (((((w.setCell ⟨h, 0, none⟩ x0).setCell ⟨h, 1, none⟩ x1).setCell ⟨h, 2, none⟩ x2).setCell ⟨h, 3, none⟩ x3).setCell ⟨h, 4, none⟩ x4).heap[k]? = w.heap[k]? := by
  rw [Below.heap_setCell _ _ _ _ hk, Below.heap_setCell _ _ _ _ hk, Below.heap_setCell _ _ _ _ hk, Below.heap_setCell _ _ _ _ hk, Below.heap_setCell _ _ _ _ hk]
theorem below_set5 {B : Nat} {a w : World} {h : Nat} {x0 x1 x2 x3 x4 : Value} (hb : Below B a w) (hB : B ≤ h) : Below B a (((((w.setCell ⟨h, 0, none⟩ x0).setCell ⟨h, 1, none⟩ x1).setCell ⟨h, 2, none⟩ x2).setCell ⟨h, 3, none⟩ x3).setCell ⟨h, 4, none⟩ x4) :=
  ((((hb.setCell (p := ⟨h, 0, none⟩) hB _).setCell (p := ⟨h, 1, none⟩) hB _).setCell (p := ⟨h, 2, none⟩) hB _).setCell (p := ⟨h, 3, none⟩) hB _).setCell (p := ⟨h, 4, none⟩) hB _
theorem frozen_of_heap {W : World} {g : Nat} (j : Nat) {cs : Array Value} {t : TypeId} (h : W.heap[g]? = some (.cells cs t)) : W.frozen? ⟨g, j, none⟩ = false := by simp [World.frozen?, h]
end Go.Proofs.YtpfamfkdfbcooaaGreatDoor
