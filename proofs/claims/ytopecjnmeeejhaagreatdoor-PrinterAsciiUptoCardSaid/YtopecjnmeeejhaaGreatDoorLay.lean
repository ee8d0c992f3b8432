/- What the rows' list gives: the library's tables; a world for the witness. -/
import Derived.Test.YtopecjnmeeejhaaGreatDoorArg
import Derived.Lay
import Derived.LaidMore
import Derived.Deep.DeepHandedRow
import Derived.Lib.LaidTab
import Derived.Stop.Joined
import Derived.Shelf.Vars
set_option linter.unusedVariables false
set_option linter.unusedSimpArgs false
namespace Go.Proofs.YtopecjnmeeejhaaGreatDoor
open Go Go.RowKit Go.Proofs Go.ChangeShapes Go.WideShapes Go.ChangeAt
theorem laidVars_at {P : Program} {W : World} : ∀ (l : List (String × DataW Unit)) (ps : List MemPlace), DataW.LaidVars P W l ps → ∀ (i : Nat) (n : String) (d : DataW Unit), l[i]? = some (n, d) →
    ∃ g t cs fuel p, P.globalNamed n = some g ∧ (P.globals[g]?).map (·.type) = some t ∧ W.var? P n = some cs ∧ DataW.trod (fun _ => ()) P W 0 (fun _ => true) false fuel t cs.toList = some (d, p)
  | [], _, _, i, _, _, hi => by simp at hi
  | (n', d') :: r, ps, h, i, n, d, hi => by
    obtain ⟨g, t, cs, fuel, p, q, h1, h2, h3, h4, h5, _⟩ := h
    cases i with
    | zero =>
      injection hi with hi
      injection hi with e1 e2
      subst e1; subst e2
      exact ⟨g, t, cs, fuel, p, h1, h2, h3, h4⟩
    | succ i => exact laidVars_at r q h5 i n d (by simpa using hi)
/-- The rows' list. -/
def theList : List (String × DataW Unit) := [("math/bits.deBruijn32tab", Rows.laid_math_bits_deBruijn32tab), ("math/bits.deBruijn64tab", Rows.laid_math_bits_deBruijn64tab), ("internal/strconv.optimize", Rows.laid_internal_strconv_optimize), ("internal/strconv.uint64pow10", Rows.laid_internal_strconv_uint64pow10), ("unicode/utf8.acceptRanges", Rows.laid_unicode_utf8_acceptRanges), ("strconv.ErrRange", Rows.laid_strconv_ErrRange), ("strconv.ErrSyntax", Rows.laid_strconv_ErrSyntax), ("internal/strconv.leftcheats", Rows.laid_internal_strconv_leftcheats), ("internal/strconv.pow10Tab", Rows.laid_internal_strconv_pow10Tab), ("unicode/utf8.first", Rows.laid_unicode_utf8_first)]
theorem list_plain (W : World) : laidMetH Tryz.prog theList W = laidMet Tryz.prog theList W := MakeChecks.laidMetH_plain _ _ _ (by kernel_rfl)
theorem g_pow : Tryz.prog.globalNamed "internal/strconv.pow10Tab" = some 8 := by kernel_rfl
theorem g_opt : Tryz.prog.globalNamed "internal/strconv.optimize" = some 3 := by kernel_rfl
theorem gt (g : Nat) (t t' : TypeId) (h : (Tryz.prog.globals[g]?).map (·.type) = some t) (h' : (Tryz.prog.globals[g]?).map (·.type) = some t') : t' = t := Option.some.inj (h'.symm.trans h)
/-- An array of bytes that reads as a table of numbers. -/
theorem tab_u8 {W : World} {n : String} {g : Nat} {zs : List Nat} {T : TypeId} {cnt : Nat} {l : List (String × DataW Unit)} {i : Nat} (h : laidMet Tryz.prog l W) (hi : l[i]? = some (n, .agg (Pinned.numbers .u8 zs))) (hg : Tryz.prog.globalNamed n = some g) (hT : (Tryz.prog.globals[g]?).map (·.type) = some T) (hu : Tryz.prog.underlying T = some (.array cnt 5)) :
    ∀ (j : Nat) (x : Nat), zs[j]? = some x → W.cell? ⟨g, j, none⟩ = some (.int .u8 x) := by
  obtain ⟨ps, hl, _⟩ := h
  obtain ⟨g', t, cs, fuel, p, h1, h2, h3, h4⟩ := laidVars_at l ps hl i _ _ hi
  obtain rfl := Option.some.inj (hg.symm.trans h1)
  obtain rfl := gt _ _ _ hT h2
  obtain ⟨xs, m, _, ex, _, hxl, hel⟩ := DataW.trod_array hu h4
  have c5 : Tryz.prog.cellsOf 5 = 1 := by kernel_rfl
  have e3 : xs.map (·.1) = Pinned.numbers .u8 zs := (DataW.agg.inj (Prod.mk.inj ex).1).symm
  intro j x hx
  have hjz : j < zs.length := (List.getElem?_eq_some_iff.1 hx).1
  have hjx : j < xs.length := by
    have := congrArg List.length e3
    unfold Pinned.numbers at this
    rw [List.length_map, List.length_map] at this
    omega
  have hE := hel j (by omega)
  rw [c5, Nat.mul_one, List.getElem?_eq_getElem hjx] at hE
  obtain ⟨z, e1, e2, _⟩ := DataW.trod_int Tryz.underlying5 hE
  have e4 : (xs.map (·.1))[j]? = (Pinned.numbers .u8 zs)[j]? := by rw [e3]
  unfold Pinned.numbers at e4
  rw [List.getElem?_map, List.getElem?_map, List.getElem?_eq_getElem hjx, hx, e2] at e4
  have hz : z = (x : Int) := by
    simp only [Option.map_some, Option.some.injEq, DataW.lit.injEq, Lit.int.injEq, true_and] at e4
    exact e4
  rw [World.var?_cell hg h3 j, ← hz]
  have : cs.toList[j]? = some (.int .u8 z) := by
    have h0 : ((cs.toList.drop j).take 1)[0]? = some (.int .u8 z) := by rw [e1]; rfl
    simpa using h0
  simpa using this
/-- An array of pairs of numbers. -/
theorem tab_pairs {W : World} {n : String} {g : Nat} {zs : List (Nat × Nat)} {T E U : TypeId} {cnt : Nat} {f0 f1 : Field} {l : List (String × DataW Unit)} {i : Nat} (h : laidMet Tryz.prog l W) (hi : l[i]? = some (n, .agg (zs.map fun x => .agg [.lit (.int .u64 x.1), .lit (.int .u64 x.2)]))) (hg : Tryz.prog.globalNamed n = some g) (hT : (Tryz.prog.globals[g]?).map (·.type) = some T) (hu : Tryz.prog.underlying T = some (.array cnt E))
    (he : Tryz.prog.underlying E = some (.struct #[f0, f1])) (hE : Tryz.prog.cellsOf E = 2) (ho : f0.offset = 0 ∧ f1.offset = 1 ∧ f0.type = U ∧ f1.type = U) (hU : Tryz.prog.underlying U = some (.int .u64)) (hc : Tryz.prog.cellsOf U = 1) :
    ∀ (j : Nat) (x : Nat × Nat), zs[j]? = some x → W.cell? ⟨g, j * 2, none⟩ = some (.int .u64 x.1) ∧ W.cell? ⟨g, j * 2 + 1, none⟩ = some (.int .u64 x.2) := by
  obtain ⟨ps, hl, _⟩ := h
  obtain ⟨g', t, cs, fuel, p, h1, h2, h3, h4⟩ := laidVars_at l ps hl i _ _ hi
  obtain rfl := Option.some.inj (hg.symm.trans h1)
  obtain rfl := gt _ _ _ hT h2
  obtain ⟨xs, m, _, ex, _, hxl, hel⟩ := DataW.trod_array hu h4
  have e3 : xs.map (·.1) = zs.map fun x => (.agg [.lit (.int .u64 x.1), .lit (.int .u64 x.2)] : DataW Unit) := (DataW.agg.inj (Prod.mk.inj ex).1).symm
  intro j x hx
  have hjz : j < zs.length := (List.getElem?_eq_some_iff.1 hx).1
  have hjx : j < xs.length := by
    have := congrArg List.length e3
    rw [List.length_map, List.length_map] at this
    omega
  have hEl := hel j (by omega)
  rw [hE, List.getElem?_eq_getElem hjx] at hEl
  obtain ⟨ys, m', _, ey, _, hyl, hf⟩ := DataW.trod_struct he hEl
  obtain ⟨o0, o1, t0, t1⟩ := ho
  have hyl' : ys.length = 2 := hyl
  match ys, hyl' with
  | [y0, y1], _ =>
  have q0 := hf 0 f0 rfl
  have q1 := hf 1 f1 rfl
  rw [o0, t0, hc, List.drop_zero] at q0
  rw [o1, t1, hc] at q1
  obtain ⟨z0, a0, b0, _⟩ := DataW.trod_int hU q0
  obtain ⟨z1, a1, b1, _⟩ := DataW.trod_int hU q1
  have e4 : (xs.map (·.1))[j]? = (zs.map fun x => (.agg [.lit (.int .u64 x.1), .lit (.int .u64 x.2)] : DataW Unit))[j]? := by rw [e3]
  rw [List.getElem?_map, List.getElem?_map, List.getElem?_eq_getElem hjx, hx, ey] at e4
  simp only [Option.map_some, Option.some.injEq, DataW.agg.injEq, List.map_cons, List.map_nil, b0, b1, List.cons.injEq, DataW.lit.injEq, Lit.int.injEq, true_and, and_true] at e4
  obtain ⟨rfl, rfl⟩ := e4
  rw [World.var?_cell hg h3 (j * 2), World.var?_cell hg h3 (j * 2 + 1)]
  have k0 : cs.toList[j * 2]? = some (.int .u64 x.1) := by
    have h0 : ((((cs.toList.drop (j * 2)).take 2)).take 1)[0]? = some (.int .u64 x.1) := by rw [a0]; rfl
    simpa using h0
  have k1 : cs.toList[j * 2 + 1]? = some (.int .u64 x.2) := by
    have h0 : ((((cs.toList.drop (j * 2)).take 2).drop 1).take 1)[0]? = some (.int .u64 x.2) := by rw [a1]; rfl
    simpa using h0
  exact ⟨by simpa using k0, by simpa using k1⟩
theorem var_lt {W : World} {n : String} {g : Nat} {cs : Array Value} (hg : Tryz.prog.globalNamed n = some g) (h : W.var? Tryz.prog n = some cs) : g < W.heap.size := by
  simp only [World.var?, hg, Option.bind_some] at h
  split at h
  · rename_i hh
    exact (Array.getElem?_eq_some_iff.1 hh).1
  · cases h
theorem tabs_of_list {W : World} (hL : laidMetH Tryz.prog theList W) (hsh : W.ShapedOpen Tryz.prog) : Tabs W := by
  rw [list_plain] at hL
  refine ⟨?_, ?_, ?_, ?_, ?_, ?_⟩
  · obtain ⟨ps, hl, _⟩ := hL
    obtain ⟨g, t, cs, fuel, p, h1, h2, h3, h4⟩ := laidVars_at _ ps hl 1 _ _ rfl
    have := var_lt (show Tryz.prog.globalNamed "math/bits.deBruijn64tab" = some 13 by kernel_rfl) h3
    omega
  · exact tab_pairs (i := 8) hL (n := "internal/strconv.pow10Tab") (zs := Pinned.pow10Rows) rfl g_pow (T := 344) (by kernel_rfl) Tryz.underlying344 Tryz.underlying343 (by kernel_rfl) ⟨rfl, rfl, rfl, rfl⟩ Tryz.underlying63 (by kernel_rfl)
  · obtain ⟨ps, hl, _⟩ := hL
    obtain ⟨g, t, cs, fuel, p, h1, h2, h3, h4⟩ := laidVars_at _ ps hl 3 "internal/strconv.uint64pow10" (Lib.tabData .u64 Lib.pow10Tab) rfl
    obtain rfl := Option.some.inj (g_u10.symm.trans h1)
    obtain rfl := gt _ 305 _ (by kernel_rfl) h2
    unfold Lib.TabIs
    rw [h3, ← Lib.cells_of_tab Tryz.underlying305 Tryz.underlying63 (by kernel_rfl) (by kernel_rfl) h4]
  · exact tab_u8 (i := 9) hL (n := "unicode/utf8.first") (zs := Pinned.utf8FirstZ) rfl g_first (T := 241) (by kernel_rfl) Tryz.underlying241
  · obtain ⟨ps, hl, _⟩ := hL
    obtain ⟨g, t, cs, fuel, p, h1, h2, h3, h4⟩ := laidVars_at _ ps hl 2 _ _ rfl
    obtain rfl := Option.some.inj (g_opt.symm.trans h1)
    obtain rfl := gt _ 4 _ (by kernel_rfl) h2
    obtain ⟨b, e1, e2⟩ := DataW.trod_bool Tryz.underlying4 h4
    have eb : b = true := by
      have := (Prod.mk.inj e2).1
      injection this with this
      injection this with this
      exact this.symm
    rw [World.var?_cell g_opt h3 0, ← Array.getElem?_toList, e1, eb]
    rfl
  · exact cell_of_shapedOpen_int (t := 3) (zero := #[.int .i64 0]) hsh (of_decide_eq_true (by kernel_rfl)) (by kernel_rfl) rfl (by kernel_rfl) (by kernel_rfl) Tryz.underlying3
/-- A world for the witness, whatever the function. -/
theorem witness_at {H : Type} {enc : TypeId × Value → H} (os : Os) {f : FuncId} {fn : Func} {s : OpenSpec} (args : Array Value)
    (hok : Input.okWideB Tryz.prog ((World.laidAll Tryz.prog os theList).forCall (fun _ _ => 0) ⟨#[], args, []⟩) f ⟨#[], args, []⟩ = true)
    (hrow : s.preRow enc Tryz.prog fn [] false theList ((World.laidAll Tryz.prog os theList).forCall (fun _ _ => 0) ⟨#[], args, []⟩).memory args) :
    ∃ (w : World) (tape : Tape) (i : Input), w.os = os ∧ (w.forCall tape i).Shaped Tryz.prog ∧ i.vars = [] ∧ Input.okWide Tryz.prog (w.forCall tape i) .any w.heap.size f i ∧
      s.preRow enc Tryz.prog fn [] false theList (w.forCall tape i).memory i.args ∧ ({} : Assume).holds Tryz.prog (lone (Frame.enter Tryz.prog f i.args .normal) [] (w.forCall tape i)) :=
  ⟨World.laidAll Tryz.prog os theList, fun _ _ => 0, ⟨#[], args, []⟩, World.laidAll_os _ _ _, World.shaped_of_ZipB (by kernel_rfl) (by kernel_rfl), (Input.okWide_of_okWideB (base := 0) hok).1, (Input.okWide_of_okWideB hok).2, hrow, by
    simp only [Assume.holds]
    exact ⟨by simp, by simp, fun _ => Modest.zero, by simp, by simp⟩⟩
theorem list_met (os : Os) (args : Array Value) : laidMetH Tryz.prog theList ((World.laidAll Tryz.prog os theList).forCall (fun _ _ => 0) ⟨#[], args, []⟩).memory := by
  rw [list_plain]
  exact laidMet_laidAll _ (by kernel_rfl) (by kernel_rfl)
end Go.Proofs.YtopecjnmeeejhaaGreatDoor
