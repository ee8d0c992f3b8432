/- FormatSafe, where what it reads is of bulk at most 1048576: for every value the law returns true, and its arguments read afterwards as they did. -/
import Derived.Test.YtpfamfkdfbcooaaGreatDoorLsf
import Derived.Test.YtpfamfkdfbcooaaGreatDoorAll
import Derived.Test.YtpfamfkdfbcooaaGreatDoorCards
import Derived.Test.YtpfamfkdfbcooaaGreatDoorTie
import Derived.ProofKit
import Derived.ChangeMaps5
import Derived.SevenTiedAt
set_option linter.unusedVariables false
set_option linter.unusedSimpArgs false
namespace Go.Proofs.YtpfamfkdfbcooaaGreatDoor
open Go Go.RowKit Go.Proofs Go.ChangeShapes Go.WideShapes Go.ChangeAt
namespace Safe
theorem own : ownKnob Tryz.prog.godebug = none := by kernel_rfl
theorem readable : ∀ t ∈ Tryz.f7.params.toList, Tryz.prog.readableRec t = true ∧ t < Tryz.prog.types.size := by
  intro t ht
  rw [Tryz.params7] at ht
  simp only [List.mem_cons, List.not_mem_nil, or_false] at ht
  subst ht
  exact ⟨by kernel_rfl, of_decide_eq_true (by kernel_rfl)⟩
set_option maxRecDepth 100000 in
theorem contract (H : Type) (enc : TypeId × Value → H) (W : World) (base : Nat) (args : Array Value) (ds gs : List (DataW H)) (before : List MemPlace)
    (hval : ∀ (j : Nat) t v, Tryz.f7.params[j]? = some t → args[j]? = some v → Value.okWide Tryz.prog W .any base t v)
    (hW : DataW.Whole enc Tryz.prog Tryz.f7.params.toList Rows.formatSafeSpec.vars false W args.toList ds gs before) (hc : Rows.uptoSmall H (ds ++ gs) = true) (hT : Tabs W) :
    Calls Tryz.prog 7 args W fun e W' => ∃ v, e = .returned v ∧ Rows.formatSafeSpec.post enc Tryz.prog Tryz.f7 false true false false W args v W' := by
  have hW' := hW
  obtain ⟨p, q, hA0, hV, rfl, hfz, hnd⟩ := hW
  have hA : DataW.TrodAll enc Tryz.prog W 0 (fun _ => true) true Tryz.f7.params.toList args.toList ds p := hA0
  rw [Tryz.params7] at hA hval
  obtain ⟨v0, vs0, d0, ds0, p0, q0, hargs, rfl, rfl, h0, r0⟩ := trodAll_cons hA
  obtain ⟨rfl, rfl, rfl⟩ := trodAll_nil r0
  obtain rfl : args = #[v0] := by cases args; simp_all
  obtain ⟨rfl, rfl⟩ := trodVars_none hV
  obtain ⟨cs0, rfl, _⟩ := okWide_struct Tryz.underlying27 (hval 0 27 v0 rfl rfl)
  obtain ⟨fuel0, hf0⟩ := h0
  have hb : Rows.uptoBulkAll ([d0] ++ ([] : List (DataW H))) ≤ 1048576 := of_decide_eq_true hc
  simp only [List.append_nil, Rows.uptoBulkAll, Rows.uptoBulk] at hb
  obtain ⟨t0, x00, x01, x02, x03, x04, hcs0, hR0, h60, hwt0⟩ := open_value_w fuel0 _ _ hf0 (by show Rows.uptoBulk d0 ≤ 1048576; omega)
  have hcs0' : cs0 = #[x00, x01, x02, x03, x04] := by
    have : cs0.toList = [x00, x01, x02, x03, x04] := hcs0
    exact Array.toList_inj.1 this
  subst hcs0'
  have hb0 : Rows.uptoBulk d0 ≤ 1048576 := by omega
  have hw := fsafe_walk W hT _ t0 x00 x01 x02 x03 x04 hR0 (fun e => by have h1 := hwt0 e; have hb1 : Rows.uptoBulk (d0, p0).fst ≤ 1048576 := hb0; omega)
  refine hw.mono fun e W' ⟨he, hbl⟩ => ?_
  subst he
  exact ⟨_, rfl, law_post rfl (by kernel_rfl) rfl readable hW' hbl⟩
def args0 : Array Value := #[.agg #[.int .i64 0, .float .f64 0, .string ⟨#[]⟩, .slice none 0 0, .slice none 0 0]]
theorem reads (os : Os) {H : Type} (enc : TypeId × Value → H) : DataW.whole enc Tryz.prog ((World.laidAll Tryz.prog os theList).forCall (fun _ _ => 0) ⟨#[], args0, []⟩).memory Tryz.f7.params.toList Rows.formatSafeSpec.vars false args0.toList 8 =
    some ([.agg [.lit (.int .i64 0), .lit (.float .f64 0), .lit (.string []), .nil, .nil]], [], []) := by kernel_rfl
theorem fact1 (os : Os) : Input.okWideB Tryz.prog ((World.laidAll Tryz.prog os theList).forCall (fun _ _ => 0) ⟨#[], args0, []⟩) 7 ⟨#[], args0, []⟩ = true := by kernel_rfl
theorem fact2 (os : Os) {H : Type} (enc : TypeId × Value → H) : (Rows.OpenSpec.upto Rows.formatSafeSpec).bare.sizedB enc Tryz.prog Tryz.f7 false ((World.laidAll Tryz.prog os theList).forCall (fun _ _ => 0) ⟨#[], args0, []⟩).memory args0 8 = true := by kernel_rfl
theorem fact3 {H : Type} : ([] : List PathCond).all (PathCond.test (H := H) Tryz.prog ⟨Tryz.f7.params.toList, [.agg [.lit (.int .i64 0), .lit (.float .f64 0), .lit (.string []), .nil, .nil]], (Rows.OpenSpec.upto Rows.formatSafeSpec).bare.plain.varTypes Tryz.prog, []⟩) = true := by kernel_rfl
theorem fact4 {H : Type} : Rows.uptoSmall H ([.agg [.lit (.int .i64 0), .lit (.float .f64 0), .lit (.string []), .nil, .nil]] ++ []) = true := by kernel_rfl
theorem laid_eq : Rows.formatSafeUptoRow.laid = theList := rfl
theorem dom_eq : Rows.formatSafeUptoRow.domain = [] := rfl
theorem fits (os : Os) (H : Type) (enc : TypeId × Value → H) : ∃ (w : World) (tape : Tape) (i : Input), w.os = os ∧ (w.forCall tape i).Shaped Tryz.prog ∧ i.vars = [] ∧ Input.okWide Tryz.prog (w.forCall tape i) .any w.heap.size 7 i ∧
      (Rows.OpenSpec.upto Rows.formatSafeSpec).preRow enc Tryz.prog Tryz.f7 [] false theList (w.forCall tape i).memory i.args ∧ ({} : Assume).holds Tryz.prog (lone (Frame.enter Tryz.prog 7 i.args .normal) [] (w.forCall tape i)) :=
  witness_at os args0 (fact1 os) (OpenSpec.preRow_of_cond 8 (reads os enc) fact3 (fun k hk => by cases hk; exact fact4) (fact2 os enc) (list_met os _))
theorem inits : Tryz.checked.prog.inits.idxOf? 7 = none := by kernel_rfl
set_option maxRecDepth 100000 in
theorem lifted (os : Os) (started : os.Started) (H : Type) (enc : TypeId × Value → H) (F : Stop.Interp) :
    ReturnsInHanded {} Tryz.checked os 7 .any ((Rows.OpenSpec.upto Rows.formatSafeSpec).preRow enc Tryz.prog Tryz.f7 Rows.formatSafeUptoRow.domain false Rows.formatSafeUptoRow.laid) (((Rows.OpenSpec.upto Rows.formatSafeSpec).at F).post enc Tryz.prog Tryz.f7 false true false false) := by
  rw [laid_eq, dom_eq]
  refine returnsInHanded_of_row (C := Tryz.checked) (s := Rows.OpenSpec.upto Rows.formatSafeSpec) own started inits Tryz.func7 (fits os H enc) ?_
  intro W base args ds gs before hval hW _ hcond _ hL hsh _
  exact contract H enc W base args ds gs before hval hW (hcond Rows.uptoSmall rfl) (tabs_of_list hL hsh)
theorem and_mk {a b : Bool} (h : a = true) (k : b = true) : (a && b) = true := by rw [h, k]; rfl
set_option maxHeartbeats 100000000 in
theorem closed : joinedFacts Tryz.prog 7 Tryz.f7 (Rows.OpenSpec.upto Rows.formatSafeSpec).bare Rows.formatSafeUptoRow = true := by
  unfold joinedFacts
  repeat' with_reducible refine and_mk ?_ ?_
  all_goals as_aux_lemma => kernel_rfl
theorem named : Tryz.prog.funcNamed "colander/colanderlaw13.FormatSafe" = some 7 := by kernel_rfl
theorem inst : Tryz.f7.isInstance Tryz.prog Rows.formatSafeUptoRow.origin Rows.formatSafeUptoRow.targs := of_decide_eq_true (by kernel_rfl)
theorem wrap : Tryz.f7.isWrapper Tryz.prog Rows.formatSafeUptoRow.wrapper Rows.formatSafeUptoRow.mainSum := by
  unfold Func.isWrapper
  first | (rw [if_pos (by decide +kernel)]; kernel_rfl) | (rw [if_neg (by decide +kernel)]; exact ⟨rfl, rfl⟩)
theorem said : Rows.FormatSafeUptoSaid :=
  OpenClaim.holds_of_cond 7 Tryz.f7 rfl rfl rfl rfl rfl rfl rfl ⟨rfl, rfl, rfl, rfl, rfl⟩ rfl rfl rfl rfl rfl named Tryz.func7 closed inst wrap
    (fun os started H enc _ F => by rw [OpenClaim.pre_eq_preRow]; exact lifted os started H enc F)
theorem plain (f : FuncId) (fn : Func) (hf : Tryz.pinned.checked.prog.funcNamed "colander/colanderlaw13.FormatSafe" = some f) (hfn : Tryz.pinned.checked.prog.funcs[f]? = some fn) :
    true = Tryz.pinned.checked.prog.looks [] ∧ ∀ (j : Nat) t, fn.params[j]? = some t → Tryz.pinned.checked.prog.wantsStandIn t = false := by
  obtain rfl : f = 7 := Option.some.inj (named.symm.trans hf) |>.symm
  obtain rfl : fn = Tryz.f7 := (Option.some.inj (Tryz.func7.symm.trans hfn)).symm
  refine ⟨by as_aux_lemma => kernel_rfl, fun j t ht => ?_⟩
  rw [Tryz.params7] at ht
  have hm : t ∈ [27] := by simpa using Array.mem_of_getElem? ht
  have hall : ([27].all fun u => !Tryz.prog.wantsStandIn u) = true := by kernel_rfl
  exact (show Tryz.prog.wantsStandIn t = false by simpa using List.all_eq_true.1 hall t hm)
theorem card : Rows.FormatSafeUptoCardSaid :=
  Claim7.holds_tied_plain_at .later [] _ _ _ _ said (fun _ h => by cases h) (by as_aux_lemma => kernel_rfl) (fun _ h => by cases h) formatSafeUpto_row_tie rfl ⟨rfl, rfl⟩ (by as_aux_lemma => kernel_rfl) rfl plain (by as_aux_lemma => kernel_rfl)
end Safe
end Go.Proofs.YtpfamfkdfbcooaaGreatDoor
