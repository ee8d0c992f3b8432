/- PrinterPrints, where what it reads is of bulk at most 1048576: for every value and every style the law returns true, and its arguments read afterwards as they did. -/
import Derived.Test.YticaihfcnbehpaaGreatDoorRvp
import Derived.Test.YticaihfcnbehpaaGreatDoorAll
import Derived.Test.YticaihfcnbehpaaGreatDoorCards
import Derived.Test.YticaihfcnbehpaaGreatDoorTie
import Derived.ProofKit
import Derived.ChangeMaps5
import Derived.SevenTiedAt
set_option linter.unusedVariables false
set_option linter.unusedSimpArgs false
namespace Go.Proofs.YticaihfcnbehpaaGreatDoor
open Go Go.RowKit Go.Proofs Go.ChangeShapes Go.WideShapes Go.ChangeAt
namespace Prints
theorem own : ownKnob Tryz.prog.godebug = none := by kernel_rfl
theorem readable : ∀ t ∈ Tryz.f3.params.toList, Tryz.prog.readableRec t = true ∧ t < Tryz.prog.types.size := by
  intro t ht
  rw [Tryz.params3] at ht
  simp only [List.mem_cons, List.not_mem_nil, or_false] at ht
  rcases ht with rfl | rfl
  · exact ⟨by kernel_rfl, of_decide_eq_true (by kernel_rfl)⟩
  · exact ⟨by kernel_rfl, of_decide_eq_true (by kernel_rfl)⟩
theorem cellsOf_Style : Tryz.prog.cellsOf 29 = 5 := by kernel_rfl
theorem cellsOf_int : Tryz.prog.cellsOf 3 = 1 := by kernel_rfl
theorem cellsOf_bool : Tryz.prog.cellsOf 4 = 1 := by kernel_rfl
set_option maxRecDepth 100000 in
/-- A style among the arguments: a number and four choices. -/
theorem open_style {H : Type} {enc : TypeId × Value → H} {w : World} {held : Bool} {fuel : Nat} {cs : List Value} {x : DataW H × List MemPlace} (h : DataW.trod enc Tryz.prog w 0 (fun _ => true) held fuel 29 cs = some x) :
    ∃ (i : Int) (a b c d : Bool), cs = [.int .i64 i, .bool a, .bool b, .bool c, .bool d] := by
  obtain ⟨xs, n, hfu, hx, hlen, hxl, hf⟩ := DataW.trod_struct Tryz.underlying29 h
  rw [cellsOf_Style] at hlen
  match cs, hlen with
  | [c0, c1, c2, c3, c4], _ =>
  have hxl' : xs.length = 5 := hxl
  match xs, hxl' with
  | [y0, y1, y2, y3, y4], _ =>
  have f0 := hf 0 _ rfl
  have f1 := hf 1 _ rfl
  have f2 := hf 2 _ rfl
  have f3 := hf 3 _ rfl
  have f4 := hf 4 _ rfl
  simp only [cellsOf_int, cellsOf_bool, List.drop_zero, List.drop_succ_cons, List.take_succ_cons, List.take_zero, List.getElem?_cons_zero, List.getElem?_cons_succ] at f0 f1 f2 f3 f4
  obtain ⟨i, e0, _, _⟩ := DataW.trod_int Tryz.underlying3 f0
  obtain ⟨a, e1, _⟩ := DataW.trod_bool Tryz.underlying4 f1
  obtain ⟨b, e2, _⟩ := DataW.trod_bool Tryz.underlying4 f2
  obtain ⟨c, e3, _⟩ := DataW.trod_bool Tryz.underlying4 f3
  obtain ⟨d, e4, _⟩ := DataW.trod_bool Tryz.underlying4 f4
  injection e0 with e0 _
  injection e1 with e1 _
  injection e2 with e2 _
  injection e3 with e3 _
  injection e4 with e4 _
  exact ⟨i, a, b, c, d, by rw [e0, e1, e2, e3, e4]⟩
set_option maxRecDepth 100000 in
theorem contract (H : Type) (enc : TypeId × Value → H) (W : World) (base : Nat) (args : Array Value) (ds gs : List (DataW H)) (before : List MemPlace)
    (hval : ∀ (j : Nat) t v, Tryz.f3.params[j]? = some t → args[j]? = some v → Value.okWide Tryz.prog W .any base t v)
    (hW : DataW.Whole enc Tryz.prog Tryz.f3.params.toList Rows.printerPrintsSpec.vars false W args.toList ds gs before) (hc : Rows.uptoSmall H (ds ++ gs) = true) (hT : Tabs W) :
    Calls Tryz.prog 3 args W fun e W' => ∃ v, e = .returned v ∧ Rows.printerPrintsSpec.post enc Tryz.prog Tryz.f3 false true false false W args v W' := by
  have hW' := hW
  obtain ⟨p, q, hA0, hV, rfl, hfz, hnd⟩ := hW
  have hA : DataW.TrodAll enc Tryz.prog W 0 (fun _ => true) true Tryz.f3.params.toList args.toList ds p := hA0
  rw [Tryz.params3] at hA hval
  obtain ⟨v0, vs0, d0, ds0, p0, q0, hargs, rfl, rfl, h0, r0⟩ := trodAll_cons hA
  obtain ⟨v1, vs1, d1, ds1, p1, q1, rfl, rfl, rfl, h1, r1⟩ := trodAll_cons r0
  obtain ⟨rfl, rfl, rfl⟩ := trodAll_nil r1
  obtain rfl : args = #[v0, v1] := by cases args; simp_all
  obtain ⟨rfl, rfl⟩ := trodVars_none hV
  obtain ⟨cs0, rfl, _⟩ := okWide_struct Tryz.underlying27 (hval 0 27 v0 rfl rfl)
  obtain ⟨fuel0, hf0⟩ := h0
  obtain ⟨cs1, rfl, _⟩ := okWide_struct Tryz.underlying29 (hval 1 29 v1 rfl rfl)
  obtain ⟨fuel1, hf1⟩ := h1
  obtain ⟨i1, b1a, b1b, b1c, b1d, hcs1⟩ := open_style hf1
  have hcs1' : cs1 = #[.int .i64 i1, .bool b1a, .bool b1b, .bool b1c, .bool b1d] := by
    have : cs1.toList = [.int .i64 i1, .bool b1a, .bool b1b, .bool b1c, .bool b1d] := hcs1
    exact Array.toList_inj.1 this
  subst hcs1'
  have hb : Rows.uptoBulkAll ([d0, d1] ++ ([] : List (DataW H))) ≤ 1048576 := of_decide_eq_true hc
  simp only [List.append_nil, Rows.uptoBulkAll, Rows.uptoBulk] at hb
  obtain ⟨t0, x00, x01, x02, x03, x04, hcs0, hR0, h60⟩ := open_value fuel0 _ _ hf0 (by show Rows.uptoBulk d0 ≤ 1048576; omega)
  have hcs0' : cs0 = #[x00, x01, x02, x03, x04] := by
    have : cs0.toList = [x00, x01, x02, x03, x04] := hcs0
    exact Array.toList_inj.1 this
  subst hcs0'
  have hb0 : Rows.uptoBulk d0 ≤ 1048576 := by omega
  have hw := prints_walk W hT i1 b1a b1b b1c b1d _ (by have hb1 : Rows.uptoBulk (d0, p0).fst ≤ 1048576 := hb0; omega) t0 x00 x01 x02 x03 x04 hR0
  refine hw.mono fun e W' ⟨he, hbl⟩ => ?_
  subst he
  exact ⟨_, rfl, law_post rfl (by kernel_rfl) rfl readable hW' hbl⟩
def args0 : Array Value := #[.agg #[.int .i64 0, .float .f64 0, .string ⟨#[]⟩, .slice none 0 0, .slice none 0 0], .agg #[.int .i64 0, .bool false, .bool false, .bool false, .bool false]]
theorem reads (os : Os) {H : Type} (enc : TypeId × Value → H) : DataW.whole enc Tryz.prog ((World.laidAll Tryz.prog os theList).forCall (fun _ _ => 0) ⟨#[], args0, []⟩).memory Tryz.f3.params.toList Rows.printerPrintsSpec.vars false args0.toList 8 =
    some ([.agg [.lit (.int .i64 0), .lit (.float .f64 0), .lit (.string []), .nil, .nil], .agg [.lit (.int .i64 0), .lit (.bool false), .lit (.bool false), .lit (.bool false), .lit (.bool false)]], [], []) := by kernel_rfl
theorem fact1 (os : Os) : Input.okWideB Tryz.prog ((World.laidAll Tryz.prog os theList).forCall (fun _ _ => 0) ⟨#[], args0, []⟩) 3 ⟨#[], args0, []⟩ = true := by kernel_rfl
theorem fact2 (os : Os) {H : Type} (enc : TypeId × Value → H) : (Rows.OpenSpec.upto Rows.printerPrintsSpec).bare.sizedB enc Tryz.prog Tryz.f3 false ((World.laidAll Tryz.prog os theList).forCall (fun _ _ => 0) ⟨#[], args0, []⟩).memory args0 8 = true := by kernel_rfl
theorem fact3 {H : Type} : ([] : List PathCond).all (PathCond.test (H := H) Tryz.prog ⟨Tryz.f3.params.toList, [.agg [.lit (.int .i64 0), .lit (.float .f64 0), .lit (.string []), .nil, .nil], .agg [.lit (.int .i64 0), .lit (.bool false), .lit (.bool false), .lit (.bool false), .lit (.bool false)]], (Rows.OpenSpec.upto Rows.printerPrintsSpec).bare.plain.varTypes Tryz.prog, []⟩) = true := by kernel_rfl
theorem fact4 {H : Type} : Rows.uptoSmall H ([.agg [.lit (.int .i64 0), .lit (.float .f64 0), .lit (.string []), .nil, .nil], .agg [.lit (.int .i64 0), .lit (.bool false), .lit (.bool false), .lit (.bool false), .lit (.bool false)]] ++ []) = true := by kernel_rfl
theorem laid_eq : Rows.printerPrintsUptoRow.laid = theList := rfl
theorem dom_eq : Rows.printerPrintsUptoRow.domain = [] := rfl
theorem fits (os : Os) (H : Type) (enc : TypeId × Value → H) : ∃ (w : World) (tape : Tape) (i : Input), w.os = os ∧ (w.forCall tape i).Shaped Tryz.prog ∧ i.vars = [] ∧ Input.okWide Tryz.prog (w.forCall tape i) .any w.heap.size 3 i ∧
      (Rows.OpenSpec.upto Rows.printerPrintsSpec).preRow enc Tryz.prog Tryz.f3 [] false theList (w.forCall tape i).memory i.args ∧ ({} : Assume).holds Tryz.prog (lone (Frame.enter Tryz.prog 3 i.args .normal) [] (w.forCall tape i)) :=
  witness_at os args0 (fact1 os) (OpenSpec.preRow_of_cond 8 (reads os enc) fact3 (fun k hk => by cases hk; exact fact4) (fact2 os enc) (list_met os _))
theorem inits : Tryz.checked.prog.inits.idxOf? 3 = none := by kernel_rfl
set_option maxRecDepth 100000 in
theorem lifted (os : Os) (started : os.Started) (H : Type) (enc : TypeId × Value → H) (F : Stop.Interp) :
    ReturnsInHanded {} Tryz.checked os 3 .any ((Rows.OpenSpec.upto Rows.printerPrintsSpec).preRow enc Tryz.prog Tryz.f3 Rows.printerPrintsUptoRow.domain false Rows.printerPrintsUptoRow.laid) (((Rows.OpenSpec.upto Rows.printerPrintsSpec).at F).post enc Tryz.prog Tryz.f3 false true false false) := by
  rw [laid_eq, dom_eq]
  refine returnsInHanded_of_row (C := Tryz.checked) (s := Rows.OpenSpec.upto Rows.printerPrintsSpec) own started inits Tryz.func3 (fits os H enc) ?_
  intro W base args ds gs before hval hW _ hcond _ hL hsh _
  exact contract H enc W base args ds gs before hval hW (hcond Rows.uptoSmall rfl) (tabs_of_list hL hsh)
theorem and_mk {a b : Bool} (h : a = true) (k : b = true) : (a && b) = true := by rw [h, k]; rfl
set_option maxHeartbeats 100000000 in
theorem closed : joinedFacts Tryz.prog 3 Tryz.f3 (Rows.OpenSpec.upto Rows.printerPrintsSpec).bare Rows.printerPrintsUptoRow = true := by
  unfold joinedFacts
  repeat' with_reducible refine and_mk ?_ ?_
  all_goals as_aux_lemma => kernel_rfl
theorem named : Tryz.prog.funcNamed "colander/colanderlaw05.PrinterPrints" = some 3 := by kernel_rfl
theorem inst : Tryz.f3.isInstance Tryz.prog Rows.printerPrintsUptoRow.origin Rows.printerPrintsUptoRow.targs := of_decide_eq_true (by kernel_rfl)
theorem wrap : Tryz.f3.isWrapper Tryz.prog Rows.printerPrintsUptoRow.wrapper Rows.printerPrintsUptoRow.mainSum := by
  unfold Func.isWrapper
  first | (rw [if_pos (by decide +kernel)]; kernel_rfl) | (rw [if_neg (by decide +kernel)]; exact ⟨rfl, rfl⟩)
theorem said : Rows.PrinterPrintsUptoSaid :=
  OpenClaim.holds_of_cond 3 Tryz.f3 rfl rfl rfl rfl rfl rfl rfl ⟨rfl, rfl, rfl, rfl, rfl⟩ rfl rfl rfl rfl rfl named Tryz.func3 closed inst wrap
    (fun os started H enc _ F => by rw [OpenClaim.pre_eq_preRow]; exact lifted os started H enc F)
theorem plain (f : FuncId) (fn : Func) (hf : Tryz.pinned.checked.prog.funcNamed "colander/colanderlaw05.PrinterPrints" = some f) (hfn : Tryz.pinned.checked.prog.funcs[f]? = some fn) :
    true = Tryz.pinned.checked.prog.looks [] ∧ ∀ (j : Nat) t, fn.params[j]? = some t → Tryz.pinned.checked.prog.wantsStandIn t = false := by
  obtain rfl : f = 3 := Option.some.inj (named.symm.trans hf) |>.symm
  obtain rfl : fn = Tryz.f3 := (Option.some.inj (Tryz.func3.symm.trans hfn)).symm
  refine ⟨by as_aux_lemma => kernel_rfl, fun j t ht => ?_⟩
  rw [Tryz.params3] at ht
  have hm : t ∈ [27, 29] := by simpa using Array.mem_of_getElem? ht
  have hall : ([27, 29].all fun u => !Tryz.prog.wantsStandIn u) = true := by kernel_rfl
  exact (show Tryz.prog.wantsStandIn t = false by simpa using List.all_eq_true.1 hall t hm)
theorem card : Rows.PrinterPrintsUptoCardSaid :=
  Claim7.holds_tied_plain_at .later [] _ _ _ _ said (fun _ h => by cases h) (by as_aux_lemma => kernel_rfl) (fun _ h => by cases h) printerPrintsUpto_row_tie rfl ⟨rfl, rfl⟩ (by as_aux_lemma => kernel_rfl) rfl plain (by as_aux_lemma => kernel_rfl)
end Prints
end Go.Proofs.YticaihfcnbehpaaGreatDoor
