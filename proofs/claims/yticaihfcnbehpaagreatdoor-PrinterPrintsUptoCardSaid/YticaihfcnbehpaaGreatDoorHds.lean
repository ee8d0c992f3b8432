/- colanderlaw05.heads. -/
import Derived.Test.YticaihfcnbehpaaGreatDoorKer
import Derived.Deep.DeepCutAuto
set_option linter.unusedVariables false
set_option linter.unusedSimpArgs false
namespace Go.Proofs.YticaihfcnbehpaaGreatDoor
open Go Go.RowKit Go.Proofs
abbrev one64 : Nat := 4607182418800017408
def leafT (k : Int) (num : Nat) : Tr := .mk k num [] [] []
def inT : Tr := .mk 6 0 [] [[97]] [leafT 5 0]
def headT : Tr := .mk 5 0 [] [] [leafT 3 one64, inT]
theorem leaf_rep (d : Nat) (w : World) (k : Int) (num : Nat) (hn : num < 18446744073709551616) : Rep (d + 1) w (leafT k num) (.int .i64 k) (.float .f64 num) (.string ⟨#[]⟩) (.slice none 0 0) (.slice none 0 0) :=
  ⟨rfl, rfl, rfl, hn, by decide, by decide, by decide, none, 0, none, 0, rfl, rfl, fun i h => absurd h (Nat.not_lt_zero _), fun i h => absurd h (Nat.not_lt_zero _), by decide, by decide, fun _ => rfl, fun _ => rfl⟩
/-- The style as numbers. -/
def sty (ind : Nat) (col : Bool) : Sty := { ind := ind, tab := false, srt := false, asc := false, col := col }
def headL : List UInt8 := [91, 10, 32, 32, 49, 44, 10, 32, 32, 123, 10, 32, 32, 32, 32, 34, 97, 34, 58, 32, 91, 93, 10, 32, 32, 125, 10, 93]
def nullL : List UInt8 := [27, 91, 49, 59, 51, 48, 109, 110, 117, 108, 108, 27, 91, 48, 109]
theorem head_1 : printS (sty 2 false) 3 headT = (headL, false) := by decide +kernel
theorem head_2 : printS (sty 0 true) 1 (leafT 0 0) = (nullL, false) := by decide +kernel
theorem head_3 : escT [240, 159, 152, 128] true = [34, 92, 117, 100, 56, 51, 100, 92, 117, 100, 101, 48, 48, 34] := by decide +kernel
theorem leaf_ok (d : Nat) (k : Int) (num : Nat) (h0 : 0 ≤ k) (h6 : k ≤ 6) : Okp (d + 1) (leafT k num) := ⟨h0, h6, fun _ => rfl, fun i h => absurd h (Nat.not_lt_zero _)⟩
theorem in_ok : Okp 2 inT := by
  refine ⟨by decide, by decide, fun _ => rfl, fun i h => ?_⟩
  match i, h with
  | 0, _ => exact leaf_ok 0 5 0 (by decide) (by decide)
theorem head_ok : Okp 3 headT := by
  refine ⟨by decide, by decide, fun h => (by cases h), fun i h => ?_⟩
  match i, h with
  | 0, _ => exact leaf_ok 1 3 one64 (by decide) (by decide)
  | 1, _ => exact in_ok
theorem cells_new5 {w : World} {a : Nat} {x0 x1 x2 x3 x4 : Value} {W : World} (h0 : W.cell? ⟨a, 0, none⟩ = some x0) (h1 : W.cell? ⟨a, 1, none⟩ = some x1) (h2 : W.cell? ⟨a, 2, none⟩ = some x2) (h3 : W.cell? ⟨a, 3, none⟩ = some x3) (h4 : W.cell? ⟨a, 4, none⟩ = some x4) : Cells5 W ((⟨a, 0, none⟩ : Addr).add (0 * 5)) x0 x1 x2 x3 x4 := by
  rw [add_mk]
  exact ⟨h0, h1, h2, h3, h4⟩
/-- The object with one empty array. -/
theorem in_rep {W : World} {a b : Nat} (hk : W.cell? ⟨a, 0, none⟩ = some (.string ⟨#[97]⟩)) (h0 : W.cell? ⟨b, 0, none⟩ = some (.int .i64 5)) (h1 : W.cell? ⟨b, 1, none⟩ = some (.float .f64 0)) (h2 : W.cell? ⟨b, 2, none⟩ = some (.string ⟨#[]⟩)) (h3 : W.cell? ⟨b, 3, none⟩ = some (.slice none 0 0)) (h4 : W.cell? ⟨b, 4, none⟩ = some (.slice none 0 0)) :
    Rep 2 W inT (.int .i64 6) (.float .f64 0) (.string ⟨#[]⟩) (.slice (some ⟨b, 0, none⟩) 1 1) (.slice (some ⟨a, 0, none⟩) 1 1) := by
  refine ⟨rfl, rfl, rfl, by decide, by decide, by decide, by decide, some ⟨b, 0, none⟩, 1, some ⟨a, 0, none⟩, 1, rfl, rfl, fun i h => ?_, fun i h => ?_, by decide, by decide, fun h => (by cases h), fun h => (by cases h)⟩
  · match i, h with
    | 0, _ => exact ⟨_, rfl, _, _, _, _, _, cells_new5 (w := W) h0 h1 h2 h3 h4, leaf_rep 0 W 5 0 (by decide)⟩
  · match i, h with
    | 0, _ => exact ⟨Nat.le_add_left 1 1048575, _, rfl, by rw [add_mk]; exact hk⟩
theorem head_rep {W : World} {b : Nat} {x3 x4 : Value} (hR : Rep 2 W inT (.int .i64 6) (.float .f64 0) (.string ⟨#[]⟩) x3 x4) (h0 : W.cell? ⟨b, 0, none⟩ = some (.int .i64 3)) (h1 : W.cell? ⟨b, 1, none⟩ = some (.float .f64 one64)) (h2 : W.cell? ⟨b, 2, none⟩ = some (.string ⟨#[]⟩)) (h3 : W.cell? ⟨b, 3, none⟩ = some (.slice none 0 0)) (h4 : W.cell? ⟨b, 4, none⟩ = some (.slice none 0 0))
    (g0 : W.cell? ⟨b, 5, none⟩ = some (.int .i64 6)) (g1 : W.cell? ⟨b, 6, none⟩ = some (.float .f64 0)) (g2 : W.cell? ⟨b, 7, none⟩ = some (.string ⟨#[]⟩)) (g3 : W.cell? ⟨b, 8, none⟩ = some x3) (g4 : W.cell? ⟨b, 9, none⟩ = some x4) :
    Rep 3 W headT (.int .i64 5) (.float .f64 0) (.string ⟨#[]⟩) (.slice (some ⟨b, 0, none⟩) 2 2) (.slice none 0 0) := by
  refine ⟨rfl, rfl, rfl, by decide, by decide, by decide, by decide, some ⟨b, 0, none⟩, 2, none, 0, rfl, rfl, fun i h => ?_, fun i h => absurd h (Nat.not_lt_zero _), by decide, by decide, fun _ => rfl, fun h => (by cases h)⟩
  match i, h with
  | 0, _ => exact ⟨_, rfl, _, _, _, _, _, cells_new5 (w := W) h0 h1 h2 h3 h4, leaf_rep 1 W 3 one64 (by decide)⟩
  | 1, _ =>
    refine ⟨_, rfl, _, _, _, _, _, ?_, hR⟩
    rw [add_mk]
    exact ⟨g0, g1, g2, g3, g4⟩
section
variable {ops : Array Oper} {o : Oper} {a : Act} {K : Act → World → Prop} {Q : Exit → Act → World → Prop} {E : Prop}
/-- A store of a whole value into a block that has just been made, at a step of a region that draws its order. -/
theorem stepStore {W : World} (hgd : o.guard = none) (ty : TypeId) (x y : Operand) (ho : o.op = .store ty x y) (cells old : Array Value) (t : TypeId) (hx : a.eval x = .pointer (some ⟨W.heap.size, 0, none⟩)) (hy : a.eval y = .agg cells)
    (hi : (Tryz.prog.info? ty).map (·.size) = some cells.size) (hold : old.size = cells.size) (h1 : cells.all (·.oneCell') = true)
    (h : K (a.put o.dst undef) (W.alloc (.cells cells t))) :
    if Region.wanted o (yielded ops a.tmps) = true then Oper.wp Tryz.prog o a (W.alloc (.cells old t)) K Q else E := by
  have hw : Region.wanted o (yielded ops a.tmps) = true := by simp [Region.wanted, hgd]
  rw [if_pos hw]
  refine wp_store_row ty x y ho W.heap.size cells hx hy t old (heap_alloc_new _ _) hi hold h1 ?_
  rw [setRow_new]
  exact h
end
/-- What region 1 leaves. -/
theorem heads_facts {w w1 W : World} (ha : w1.cell? ⟨w.heap.size, 0, none⟩ = some (.string ⟨#[97]⟩)) (hW : W = (World.alloc w1 (Obj.cells #[Value.int IntKind.i64 5, Value.float FloatKind.f64 0, Value.string ⟨#[]⟩, Value.slice none 0 0, Value.slice none 0 0] 27)).alloc (Obj.cells #[Value.int IntKind.i64 6, Value.float FloatKind.f64 0, Value.string ⟨#[]⟩, Value.slice (some ⟨w1.heap.size, 0, none⟩) 1 1, Value.slice (some ⟨w.heap.size, 0, none⟩) 1 1] 27)) :
    Below w1.heap.size w1 W ∧ W.heap.size = w1.heap.size + 1 + 1 ∧ Rep 2 W inT (.int .i64 6) (.float .f64 0) (.string ⟨#[]⟩) (.slice (some ⟨w1.heap.size, 0, none⟩) 1 1) (.slice (some ⟨w.heap.size, 0, none⟩) 1 1) ∧
    W.cell? ⟨w1.heap.size + 1, 0, none⟩ = some (.int .i64 6) ∧ W.cell? ⟨w1.heap.size + 1, 1, none⟩ = some (.float .f64 0) ∧ W.cell? ⟨w1.heap.size + 1, 2, none⟩ = some (.string ⟨#[]⟩) ∧ W.cell? ⟨w1.heap.size + 1, 3, none⟩ = some (.slice (some ⟨w1.heap.size, 0, none⟩) 1 1) ∧ W.cell? ⟨w1.heap.size + 1, 4, none⟩ = some (.slice (some ⟨w.heap.size, 0, none⟩) 1 1) := by
  have hb : Below w1.heap.size w1 W := by rw [hW]; exact ((Below.refl _ _).alloc (Nat.le_refl _) _).alloc (by simp) _
  have hsz : (World.alloc w1 (Obj.cells #[Value.int IntKind.i64 5, Value.float FloatKind.f64 0, Value.string ⟨#[]⟩, Value.slice none 0 0, Value.slice none 0 0] 27)).heap.size = w1.heap.size + 1 := by simp
  have hin := after_new (World.alloc w1 (Obj.cells #[Value.int IntKind.i64 5, Value.float FloatKind.f64 0, Value.string ⟨#[]⟩, Value.slice none 0 0, Value.slice none 0 0] 27)) W _ _ _ _ _ _ hW
  rw [hsz] at hin
  obtain ⟨_, g0, g1, g2, g3, g4⟩ := after_new w1 (World.alloc w1 (Obj.cells #[Value.int IntKind.i64 5, Value.float FloatKind.f64 0, Value.string ⟨#[]⟩, Value.slice none 0 0, Value.slice none 0 0] 27)) _ _ _ _ _ _ rfl
  obtain ⟨hbx, e0, e1, e2, e3, e4⟩ := hin
  have hc : ∀ o u, (World.alloc w1 (Obj.cells #[Value.int IntKind.i64 5, Value.float FloatKind.f64 0, Value.string ⟨#[]⟩, Value.slice none 0 0, Value.slice none 0 0] 27)).cell? ⟨w1.heap.size, o, none⟩ = some u → W.cell? ⟨w1.heap.size, o, none⟩ = some u := fun o u h => (hbx.cell (p := ⟨w1.heap.size, o, none⟩) (by show w1.heap.size < w1.heap.size + 1; omega)).trans h
  refine ⟨hb, by rw [hW]; simp, in_rep ((hb.cell (World.block_lt_of_cell? w1 _ ha)).trans ha) (hc _ _ g0) (hc _ _ g1) (hc _ _ g2) (hc _ _ g3) (hc _ _ g4), e0, e1, e2, e3, e4⟩
theorem run_store_float (w : World) (a : Addr) (k : FloatKind) (b : Nat) (m : Mode) : (store a (.float k b) m).run Tryz.prog w = stored Tryz.prog w a (.float k b) m := run_store Tryz.prog w a _ m rfl
section
variable {ops : Array Oper} {o : Oper} {a : Act} {K : Act → World → Prop} {Q : Exit → Act → World → Prop} {E : Prop}
/-- A store of a whole value into a block, at a step of a region that draws its order. -/
theorem stepStoreAt {W : World} (hgd : o.guard = none) (ty : TypeId) (x y : Operand) (ho : o.op = .store ty x y) (g : Nat) (cells old : Array Value) (t : TypeId) (hx : a.eval x = .pointer (some ⟨g, 0, none⟩)) (hy : a.eval y = .agg cells)
    (hg : W.heap[g]? = some (.cells old t (0, 0))) (hi : (Tryz.prog.info? ty).map (·.size) = some cells.size) (hold : old.size = cells.size) (h1 : cells.all (·.oneCell') = true)
    (h : K (a.put o.dst undef) (W.setRow g cells)) :
    if Region.wanted o (yielded ops a.tmps) = true then Oper.wp Tryz.prog o a W K Q else E := by
  have hw : Region.wanted o (yielded ops a.tmps) = true := by simp [Region.wanted, hgd]
  rw [if_pos hw]
  exact wp_store_row ty x y ho g cells hx hy t old hg hi hold h1 h
end
theorem Below.more {w W : World} (h : Below w.heap.size w W) (o : Obj) : Below w.heap.size w (W.alloc o) := h.alloc h.size o
theorem hlOld {W : World} {g : Nat} {o x : Obj} (h : W.heap[g]? = some o) : (W.alloc x).heap[g]? = some o := (heap_alloc_old W x (lt_of_heap h)).trans h
theorem hlNew1 (W : World) (a o : Obj) : ((W.alloc a).alloc o).heap[W.heap.size + 1]? = some o := by
  have := heap_alloc_new (W.alloc a) o
  simpa using this
theorem hlBelow {W W' : World} {g : Nat} {o : Obj} (hb : Below W.heap.size W W') (h : W.heap[g]? = some o) : W'.heap[g]? = some o := (hb.block g (lt_of_heap h)).trans h
theorem below_setRow {B : Nat} {w W : World} (h : Below B w W) {g : Nat} (hg : B ≤ g) (cs : Array Value) : Below B w (W.setRow g cs) :=
  ⟨h.os, h.tape, h.output, Nat.le_trans h.size (by simp [World.setRow]), fun k hk => (setRow_other W g k cs (by omega)).trans (h.block k hk)⟩
theorem cell_of_heap {W : World} {g j : Nat} {cs : Array Value} {t : TypeId} {fr : Nat × Nat} {u : Value} (h : W.heap[g]? = some (.cells cs t fr)) (hu : cs[j]? = some u) : W.cell? ⟨g, j, none⟩ = some u := by
  simp only [World.cell?, h]; exact hu
/-- What region 2 leaves: the tree, at block h. -/
def HeadAt (w : World) (h : Nat) (W : World) : Prop := ∃ A : Option Addr, Rep 3 W headT (.int .i64 5) (.float .f64 0) (.string ⟨#[]⟩) (.slice A 2 2) (.slice none 0 0) ∧ Below w.heap.size w W ∧
  W.cell? ⟨h, 0, none⟩ = some (.int .i64 5) ∧ W.cell? ⟨h, 1, none⟩ = some (.float .f64 0) ∧ W.cell? ⟨h, 2, none⟩ = some (.string ⟨#[]⟩) ∧ W.cell? ⟨h, 3, none⟩ = some (.slice A 2 2) ∧ W.cell? ⟨h, 4, none⟩ = some (.slice none 0 0)
theorem head_done {w W3 W : World} {h rb : Nat} {x3 x4 : Value} {T T' : TypeId} (hb : Below w.heap.size w W3) (hbW : Below W3.heap.size W3 W) (hR : Rep 2 W3 inT (.int .i64 6) (.float .f64 0) (.string ⟨#[]⟩) x3 x4)
    (hrow : W.heap[rb]? = some (.cells #[Value.int IntKind.i64 3, Value.float FloatKind.f64 4607182418800017408, Value.string ⟨#[]⟩, Value.slice none 0 0, Value.slice none 0 0, Value.int IntKind.i64 6, Value.float FloatKind.f64 0, Value.string ⟨#[]⟩, x3, x4] T (0, 0))) (hh : W.heap[h]? = some (.cells #[Value.int IntKind.i64 5, Value.float FloatKind.f64 0, Value.string ⟨#[]⟩, Value.slice (some ⟨rb, 0, none⟩) 2 2, Value.slice none 0 0] T' (0, 0))) : HeadAt w h W :=
  ⟨some ⟨rb, 0, none⟩, head_rep (hR.below hbW) (cell_of_heap hrow rfl) (cell_of_heap hrow rfl) (cell_of_heap hrow rfl) (cell_of_heap hrow rfl) (cell_of_heap hrow rfl) (cell_of_heap hrow rfl) (cell_of_heap hrow rfl) (cell_of_heap hrow rfl) (cell_of_heap hrow rfl) (cell_of_heap hrow rfl), hb.trans (hbW.mono hb.size), cell_of_heap hh rfl, cell_of_heap hh rfl, cell_of_heap hh rfl, cell_of_heap hh rfl, cell_of_heap hh rfl⟩
theorem set5 {w : World} {h : Nat} {t : TypeId} {z0 z1 z2 z3 z4 x0 x1 x2 x3 x4 : Value} (hz : w.heap[h]? = some (.cells #[z0, z1, z2, z3, z4] t (0, 0))) :
    (((((w.setCell ⟨h, 0, none⟩ x0).setCell ⟨h, 1, none⟩ x1).setCell ⟨h, 2, none⟩ x2).setCell ⟨h, 3, none⟩ x3).setCell ⟨h, 4, none⟩ x4).heap[h]? = some (.cells #[x0, x1, x2, x3, x4] t (0, 0)) := by
  have h0 := Go.heap_setCell_same _ _ 0 _ _ x0 hz
  have h1 := Go.heap_setCell_same _ _ 1 _ _ x1 h0
  have h2 := Go.heap_setCell_same _ _ 2 _ _ x2 h1
  have h3 := Go.heap_setCell_same _ _ 3 _ _ x3 h2
  have h4 := Go.heap_setCell_same _ _ 4 _ _ x4 h3
  simpa using h4
theorem set5_other {w : World} {h k : Nat} {x0 x1 x2 x3 x4 : Value} (hk : k ≠ h) : (((((w.setCell ⟨h, 0, none⟩ x0).setCell ⟨h, 1, none⟩ x1).setCell ⟨h, 2, none⟩ x2).setCell ⟨h, 3, none⟩ x3).setCell ⟨h, 4, none⟩ x4).heap[k]? = w.heap[k]? := by
  rw [Below.heap_setCell _ _ _ _ hk, Below.heap_setCell _ _ _ _ hk, Below.heap_setCell _ _ _ _ hk, Below.heap_setCell _ _ _ _ hk, Below.heap_setCell _ _ _ _ hk]
theorem below_set5 {B : Nat} {a w : World} {h : Nat} {x0 x1 x2 x3 x4 : Value} (hb : Below B a w) (hB : B ≤ h) : Below B a (((((w.setCell ⟨h, 0, none⟩ x0).setCell ⟨h, 1, none⟩ x1).setCell ⟨h, 2, none⟩ x2).setCell ⟨h, 3, none⟩ x3).setCell ⟨h, 4, none⟩ x4) :=
  ((((hb.setCell (p := ⟨h, 0, none⟩) hB _).setCell (p := ⟨h, 1, none⟩) hB _).setCell (p := ⟨h, 2, none⟩) hB _).setCell (p := ⟨h, 3, none⟩) hB _).setCell (p := ⟨h, 4, none⟩) hB _
theorem frozen_of_heap {W : World} {g : Nat} (j : Nat) {cs : Array Value} {t : TypeId} (h : W.heap[g]? = some (.cells cs t)) : W.frozen? ⟨g, j, none⟩ = false := by simp [World.frozen?, h]
set_option maxHeartbeats 20000000 in
set_option maxRecDepth 100000 in
theorem heads_any (w : World) (TW : Tabs w) : Calls Tryz.prog 5 #[] w fun e w' => e = .returned (.bool true) ∧ Below w.heap.size w w' := by
  go_enter Tryz.func5, Tryz.ntmps5
  go_wp2_with fail
  refine (arr_any none 0 0 _).mono ?_
  rintro e' w1 ⟨rfl, hb1⟩
  have ha1 : w1.cell? ⟨w.heap.size, 0, none⟩ = some (.string ⟨#[97]⟩) := (hb1.cell (p := ⟨w.heap.size, 0, none⟩) (by simp)).trans (by rw [World.cell?_alloc_new]; rfl)
  have hb1' : Below w.heap.size w w1 := ((Below.refl _ _).alloc (Nat.le_refl _) _).trans (hb1.mono (by simp))
  have hs1 : w.heap.size < w1.heap.size := by have := hb1.size; simp at this; omega
  have HF := Lib.hid (fun W h => heads_facts (W := W) ha1 h)
  clear hb1 ha1
  go_upto_region 2 with (refine wpList_store_row rfl 27 (.tmp 1) (.tmp 12) rfl _ #[.int .i64 6, .float .f64 0, .string ⟨#[]⟩, .slice (some ⟨w1.heap.size, 0, none⟩) 1 1, .slice (some ⟨w.heap.size, 0, none⟩) 1 1] rfl rfl 27 #[.int .i64 0, .float .f64 0, .string ⟨#[]⟩, .slice none 0 0, .slice none 0 0] (by have := heap_alloc_new (World.alloc w1 (Obj.cells #[Value.int IntKind.i64 5, Value.float FloatKind.f64 0, Value.string ⟨#[]⟩, Value.slice none 0 0, Value.slice none 0 0] 27)) (Obj.cells #[.int .i64 0, .float .f64 0, .string ⟨#[]⟩, .slice none 0 0, .slice none 0 0] 27); simpa using this) (by kernel_rfl) rfl (one5 6 0 ⟨#[]⟩ _ _ 1 1 1 1) ?_; rw [show w1.heap.size + 1 = (World.alloc w1 (Obj.cells #[Value.int IntKind.i64 5, Value.float FloatKind.f64 0, Value.string ⟨#[]⟩, Value.slice none 0 0, Value.slice none 0 0] 27)).heap.size from (by simp), setRow_new])
  obtain ⟨W3, hW3⟩ : ∃ W3, W3 = (World.alloc w1 (Obj.cells #[Value.int IntKind.i64 5, Value.float FloatKind.f64 0, Value.string ⟨#[]⟩, Value.slice none 0 0, Value.slice none 0 0] 27)).alloc (Obj.cells #[Value.int IntKind.i64 6, Value.float FloatKind.f64 0, Value.string ⟨#[]⟩, Value.slice (some ⟨w1.heap.size, 0, none⟩) 1 1, Value.slice (some ⟨w.heap.size, 0, none⟩) 1 1] 27) := ⟨_, rfl⟩
  obtain ⟨hb3, hz3, hR3, e0, e1, e2, e3, e4⟩ := HF.out W3 hW3
  rw [show (World.alloc w1 (Obj.cells #[Value.int IntKind.i64 5, Value.float FloatKind.f64 0, Value.string ⟨#[]⟩, Value.slice none 0 0, Value.slice none 0 0] 27)).heap.size = w1.heap.size + 1 from (by simp), ← hW3]
  clear hW3 HF
  have hb13 : Below w.heap.size w W3 := hb1'.trans (hb3.mono hb1'.size)
  have K : ∀ W, Below W3.heap.size W3 W → W.cell? ⟨w1.heap.size + 1, 0, none⟩ = some (.int .i64 6) ∧ W.cell? ⟨w1.heap.size + 1, 1, none⟩ = some (.float .f64 0) ∧ W.cell? ⟨w1.heap.size + 1, 2, none⟩ = some (.string ⟨#[]⟩) ∧ W.cell? ⟨w1.heap.size + 1, 3, none⟩ = some (.slice (some ⟨w1.heap.size, 0, none⟩) 1 1) ∧ W.cell? ⟨w1.heap.size + 1, 4, none⟩ = some (.slice (some ⟨w.heap.size, 0, none⟩) 1 1) := fun W hb => by
    have hlt := World.block_lt_of_cell? W3 _ e0
    exact ⟨(hb.cell (p := ⟨w1.heap.size + 1, 0, none⟩) hlt).trans e0, (hb.cell (p := ⟨w1.heap.size + 1, 1, none⟩) hlt).trans e1, (hb.cell (p := ⟨w1.heap.size + 1, 2, none⟩) hlt).trans e2, (hb.cell (p := ⟨w1.heap.size + 1, 3, none⟩) hlt).trans e3, (hb.cell (p := ⟨w1.heap.size + 1, 4, none⟩) hlt).trans e4⟩
  clear e0 e1 e2 e3 e4 hb3 hz3 hb1' hs1
  have hsf := run_store_float
  simp only [Act.put]
  go_cut [2] (fun s2 W => ∃ h : Nat, s2 = .pointer (some ⟨h, 0, none⟩) ∧ HeadAt w h W)
  case first =>
    go_region_held3 (fun W => W.cell? ⟨w1.heap.size + 1, 0, none⟩ = some (.int .i64 6) ∧ W.cell? ⟨w1.heap.size + 1, 1, none⟩ = some (.float .f64 0) ∧ W.cell? ⟨w1.heap.size + 1, 2, none⟩ = some (.string ⟨#[]⟩) ∧ W.cell? ⟨w1.heap.size + 1, 3, none⟩ = some (.slice (some ⟨w1.heap.size, 0, none⟩) 1 1) ∧ W.cell? ⟨w1.heap.size + 1, 4, none⟩ = some (.slice (some ⟨w.heap.size, 0, none⟩) 1 1))
      ((refine K _ ?_; repeat (first | with_reducible exact hby | with_reducible exact hbx | with_reducible exact (Below.refl _ _).drew | with_reducible exact (Below.more (Below.refl _ _) _).drew | with_reducible refine Below.more ?_ _ | with_reducible refine Below.setCell ?_ (by first | exact Nat.le_refl _ | exact hbx.size | (have := hbx.size; show _ ≤ w4.heap.size + 1; omega)) _)))
      (first | (go_at_call 11; refine (arr_any (some ⟨_, 0, none⟩) 2 2 _).mono ?_; rintro e' w5 ⟨rfl, hb5⟩; have hby : Below W3.heap.size W3 w5 := Below.also (by repeat (first | exact hbx | refine Below.more ?_ _)) hb5; (first | (have hH : w5.heap[w4.heap.size + 1]? = some (Obj.cells #[Value.int IntKind.i64 0, Value.float FloatKind.f64 0, Value.string ⟨#[]⟩, Value.slice none 0 0, Value.slice none 0 0] 27) := hlBelow hb5 (hlNew1 _ _ _); have z0 := cell_of_heap (j := 0) hH rfl; have z1 := cell_of_heap (j := 1) hH rfl; have z2 := cell_of_heap (j := 2) hH rfl; have z3 := cell_of_heap (j := 3) hH rfl; have z4 := cell_of_heap (j := 4) hH rfl; have f0 := frozen_of_heap 0 hH; have f1 := frozen_of_heap 1 hH; have f2 := frozen_of_heap 2 hH; have f3 := frozen_of_heap 3 hH; have f4 := frozen_of_heap 4 hH; have HH := Lib.hid hH; clear hH) | (have hH : w5.heap[w4.heap.size]? = some (Obj.cells #[Value.int IntKind.i64 0, Value.float FloatKind.f64 0, Value.string ⟨#[]⟩, Value.slice none 0 0, Value.slice none 0 0] 27) := hlBelow hb5 (hlOld (heap_alloc_new _ _)); have z0 := cell_of_heap (j := 0) hH rfl; have z1 := cell_of_heap (j := 1) hH rfl; have z2 := cell_of_heap (j := 2) hH rfl; have z3 := cell_of_heap (j := 3) hH rfl; have z4 := cell_of_heap (j := 4) hH rfl; have f0 := frozen_of_heap 0 hH; have f1 := frozen_of_heap 1 hH; have f2 := frozen_of_heap 2 hH; have f3 := frozen_of_heap 3 hH; have f4 := frozen_of_heap 4 hH; have HH := Lib.hid hH; clear hH) | (have hH : w5.heap[W3.heap.size]? = some (Obj.cells #[Value.int IntKind.i64 0, Value.float FloatKind.f64 0, Value.string ⟨#[]⟩, Value.slice none 0 0, Value.slice none 0 0] 27) := hlBelow hb5 (hlOld (hlBelow hb4 (heap_alloc_new W3 _))); have z0 := cell_of_heap (j := 0) hH rfl; have z1 := cell_of_heap (j := 1) hH rfl; have z2 := cell_of_heap (j := 2) hH rfl; have z3 := cell_of_heap (j := 3) hH rfl; have z4 := cell_of_heap (j := 4) hH rfl; have f0 := frozen_of_heap 0 hH; have f1 := frozen_of_heap 1 hH; have f2 := frozen_of_heap 2 hH; have f3 := frozen_of_heap 3 hH; have f4 := frozen_of_heap 4 hH; have HH := Lib.hid hH; clear hH) | skip)) | (go_at_call 12; refine (num_any 4607182418800017408 _).mono ?_; rintro e' w4 ⟨rfl, hb4⟩; have hbx : Below W3.heap.size W3 w4 := Below.also (by first | exact (Below.refl _ _).drew | exact (Below.more (Below.refl _ _) _).drew) hb4))
    all_goals
      go_wp2_with fail
      go_meet
      first
        | exact ⟨_, rfl, head_done hb13 (Below.more hby _) hR3 (hlOld (hlBelow hb5 (heap_alloc_new _ _))) (heap_alloc_new _ _)⟩
        | exact ⟨_, rfl, head_done hb13 (below_set5 hby (by have := hbx.size; omega)) hR3 ((set5_other (by omega)).trans (hlBelow hb5 (hlOld (heap_alloc_new _ _)))) (set5 HH.out)⟩
        | exact ⟨_, rfl, head_done hb13 (below_set5 hby hbx.size) hR3 ((set5_other (by omega)).trans (hlBelow hb5 (hlNew1 _ _ _))) (set5 HH.out)⟩
        | exact ⟨_, rfl, head_done hb13 (below_set5 hby (Nat.le_refl _)) hR3 ((set5_other (by have := hb4.size; simp at this; omega)).trans (hlBelow hb5 (heap_alloc_new _ _))) (set5 HH.out)⟩
  case rest =>
    obtain ⟨h, rfl, A, hR, hb, q0, q1, q2, q3, q4⟩ := hcut
    clear K hsf hR3
    have T3 := TW.next hb
    have hRb := fun W (hW : Below wc.heap.size wc W) => hR.below hW
    have P1 : Hid (∀ W, Tabs W → Below wc.heap.size wc W → Calls Tryz.prog 7 #[.agg #[.int .i64 5, .float .f64 0, .string ⟨#[]⟩, .slice A 2 2, .slice none 0 0], .agg #[.int .i64 2, .bool false, .bool false, .bool false, .bool false]] W fun e w' => e = .returned (.tuple #[.string ⟨#[91, 10, 32, 32, 49, 44, 10, 32, 32, 123, 10, 32, 32, 32, 32, 34, 97, 34, 58, 32, 91, 93, 10, 32, 32, 125, 10, 93]⟩, .int .i64 0]) ∧ Below W.heap.size W w') := Lib.hid (fun W hT hW => by
      have := print_any (sty 2 false) (by decide) rfl W hT 2 (by decide) headT _ _ _ _ _ (hRb W hW) head_ok
      rw [head_1] at this
      exact this)
    have P2 : Hid (∀ W, Tabs W → Calls Tryz.prog 7 #[.agg #[.int .i64 0, .float .f64 0, .string ⟨#[]⟩, .slice none 0 0, .slice none 0 0], .agg #[.int .i64 0, .bool false, .bool false, .bool false, .bool true]] W fun e w' => e = .returned (.tuple #[.string ⟨#[27, 91, 49, 59, 51, 48, 109, 110, 117, 108, 108, 27, 91, 48, 109]⟩, .int .i64 0]) ∧ Below W.heap.size W w') := Lib.hid (fun W hT => by
      have := print_any (sty 0 true) (by decide) rfl W hT 0 (by decide) (leafT 0 0) _ _ _ _ _ (leaf_rep 0 W 0 0 (by decide)) (leaf_ok 0 0 0 (by decide) (by decide))
      rw [head_2] at this
      exact this)
    have P3 : Hid (∀ W, Calls Tryz.prog 7 #[.agg #[.int .i64 5, .float .f64 0, .string ⟨#[]⟩, .slice A 2 2, .slice none 0 0], .agg #[.int .i64 8, .bool false, .bool false, .bool false, .bool false]] W fun e w' => e = .returned (.tuple #[.string ⟨#[]⟩, .int .i64 2]) ∧ Below W.heap.size W w') := Lib.hid (fun W => print_bad W 8 (.inr (by decide)) false false false false 5 0 ⟨#[]⟩ A none 2 2 0 0)
    have P4 : Hid (∀ W, Tabs W → Calls Tryz.prog 13 #[.string ⟨#[240, 159, 152, 128]⟩, .bool true] W fun e w' => e = .returned (.string ⟨#[34, 92, 117, 100, 56, 51, 100, 92, 117, 100, 101, 48, 48, 34]⟩) ∧ Below W.heap.size W w') := Lib.hid (fun W hT => by
      have := escape_any W hT [240, 159, 152, 128] true (by decide)
      rw [head_3] at this
      exact this)
    have P5 : Hid (∀ W, Calls Tryz.prog 14 #[.agg #[.int .i64 5, .float .f64 0, .string ⟨#[]⟩, .slice A 2 2, .slice none 0 0]] W fun e w' => e = .returned (.string ⟨#[49, 59, 51, 57]⟩) ∧ Below W.heap.size W w') := Lib.hid (fun W => colour_any W 5 (by decide) 0 ⟨#[]⟩ _ _ ⟨_, _, _, rfl⟩ ⟨_, _, _, rfl⟩)
    have Q : Hid (∀ W, Below wc.heap.size wc W → W.cell? ⟨h, 0, none⟩ = some (.int .i64 5) ∧ W.cell? ⟨h, 1, none⟩ = some (.float .f64 0) ∧ W.cell? ⟨h, 2, none⟩ = some (.string ⟨#[]⟩) ∧ W.cell? ⟨h, 3, none⟩ = some (.slice A 2 2) ∧ W.cell? ⟨h, 4, none⟩ = some (.slice none 0 0)) := Lib.hid (fun W hb => by
      have hlt := World.block_lt_of_cell? wc _ q0
      exact ⟨(hb.cell (p := ⟨h, 0, none⟩) hlt).trans q0, (hb.cell (p := ⟨h, 1, none⟩) hlt).trans q1, (hb.cell (p := ⟨h, 2, none⟩) hlt).trans q2, (hb.cell (p := ⟨h, 3, none⟩) hlt).trans q3, (hb.cell (p := ⟨h, 4, none⟩) hlt).trans q4⟩)
    have HT : Hid (∀ W, Below wc.heap.size wc W → Tabs W) := Lib.hid (fun W hb => T3.next hb)
    clear hR hRb T3 TW
    go_wp2_with fail
    refine (P1.out _ (HT.out _ (Below.refl _ _)) (Below.refl _ _)).mono ?_
    rintro e' w4 ⟨rfl, hb4⟩
    clear q0 q1 q2 q3 q4
    go_wp2_with fail
    refine (P2.out _ (HT.out _ hb4)).mono ?_
    rintro e' w5 ⟨rfl, hb5⟩
    have hb5 := hb4.trans (hb5.mono hb4.size)
    obtain ⟨q0, q1, q2, q3, q4⟩ := Q.out _ hb5
    clear hb4
    go_wp2_with fail
    refine (P3.out _).mono ?_
    rintro e' w6 ⟨rfl, hb6⟩
    have hb6 := hb5.trans (hb6.mono hb5.size)
    clear q0 q1 q2 q3 q4 hb5
    go_wp2_with fail
    refine (P4.out _ (HT.out _ hb6)).mono ?_
    rintro e' w7 ⟨rfl, hb7⟩
    have hb7 := hb6.trans (hb7.mono hb6.size)
    obtain ⟨q0, q1, q2, q3, q4⟩ := Q.out _ hb7
    clear hb6
    go_wp2_with fail
    refine (P5.out _).mono ?_
    rintro e' w8 ⟨rfl, hb8⟩
    have hb8 := hb7.trans (hb8.mono hb7.size)
    have hb9 := hb.trans (hb8.mono hb.size)
    go_wp2_with fail
    go_ret
    exact ⟨rfl, hb9⟩
end Go.Proofs.YticaihfcnbehpaaGreatDoor
