/- FormatBase64, where what it reads is of bulk at most 1048576: for every text the law returns true, and its arguments read afterwards as they did. -/
import Derived.Test.YtpfamfkdfbcooaaGreatDoorLb6
import Derived.Test.YtpfamfkdfbcooaaGreatDoorAll
import Derived.Test.YtpfamfkdfbcooaaGreatDoorCards
import Derived.Test.YtpfamfkdfbcooaaGreatDoorTie
import Derived.ProofKit
import Derived.ChangeMaps5
import Derived.SevenTiedAt
set_option linter.unusedVariables false
set_option linter.unusedSimpArgs false
namespace Go.Proofs.YtpfamfkdfbcooaaGreatDoor
open Go Go.RowKit Go.Proofs Go.ChangeShapes Go.WideShapes Go.ChangeAt
namespace Base64
theorem own : ownKnob Tryz.prog.godebug = none := by kernel_rfl
theorem readable : ∀ t ∈ Tryz.f4.params.toList, Tryz.prog.readableRec t = true ∧ t < Tryz.prog.types.size := by
  intro t ht
  rw [Tryz.params4] at ht
  simp only [List.mem_cons, List.not_mem_nil, or_false] at ht
  subst ht
  exact ⟨by kernel_rfl, of_decide_eq_true (by kernel_rfl)⟩
set_option maxRecDepth 100000 in
theorem contract (H : Type) (enc : TypeId × Value → H) (W : World) (base : Nat) (args : Array Value) (ds gs : List (DataW H)) (before : List MemPlace)
    (hval : ∀ (j : Nat) t v, Tryz.f4.params[j]? = some t → args[j]? = some v → Value.okWide Tryz.prog W .any base t v)
    (hW : DataW.Whole enc Tryz.prog Tryz.f4.params.toList Rows.formatBase64Spec.vars false W args.toList ds gs before) (hc : Rows.uptoSmall H (ds ++ gs) = true) (hT : Tabs W) :
    Calls Tryz.prog 4 args W fun e W' => ∃ v, e = .returned v ∧ Rows.formatBase64Spec.post enc Tryz.prog Tryz.f4 false true false false W args v W' := by
  have hW' := hW
  obtain ⟨p, q, hA0, hV, rfl, hfz, hnd⟩ := hW
  have hA : DataW.TrodAll enc Tryz.prog W 0 (fun _ => true) true Tryz.f4.params.toList args.toList ds p := hA0
  rw [Tryz.params4] at hA hval
  obtain ⟨v0, vs0, d0, ds0, p0, q0, hargs, rfl, rfl, h0, r0⟩ := trodAll_cons hA
  obtain ⟨rfl, rfl, rfl⟩ := trodAll_nil r0
  obtain rfl : args = #[v0] := by cases args; simp_all
  obtain ⟨rfl, rfl⟩ := trodVars_none hV
  obtain ⟨s0, rfl, rfl, rfl, hs0⟩ := Go.ChangeMaps.open_string Tryz.underlying9 (hval 0 9 v0 rfl rfl) h0
  have hb : Rows.uptoBulkAll ([DataW.lit (.string s0.data.toList)] ++ ([] : List (DataW H))) ≤ 1048576 := of_decide_eq_true hc
  simp only [List.append_nil, Rows.uptoBulkAll, Rows.uptoBulk] at hb
  have hw := fbase_walk W hT s0.data.toList (by omega)
  have hsd0 : (⟨s0.data.toList.toArray⟩ : ByteArray) = s0 := by cases s0; simp
  rw [hsd0] at hw
  refine hw.mono fun e W' ⟨he, hbl⟩ => ?_
  subst he
  exact ⟨_, rfl, law_post rfl (by kernel_rfl) rfl readable hW' hbl⟩
def args0 : Array Value := #[.string ⟨#[]⟩]
theorem reads (os : Os) {H : Type} (enc : TypeId × Value → H) : DataW.whole enc Tryz.prog ((World.laidAll Tryz.prog os theList).forCall (fun _ _ => 0) ⟨#[], args0, []⟩).memory Tryz.f4.params.toList Rows.formatBase64Spec.vars false args0.toList 8 =
    some ([.lit (.string [])], [], []) := by kernel_rfl
theorem fact1 (os : Os) : Input.okWideB Tryz.prog ((World.laidAll Tryz.prog os theList).forCall (fun _ _ => 0) ⟨#[], args0, []⟩) 4 ⟨#[], args0, []⟩ = true := by kernel_rfl
theorem fact2 (os : Os) {H : Type} (enc : TypeId × Value → H) : (Rows.OpenSpec.upto Rows.formatBase64Spec).bare.sizedB enc Tryz.prog Tryz.f4 false ((World.laidAll Tryz.prog os theList).forCall (fun _ _ => 0) ⟨#[], args0, []⟩).memory args0 8 = true := by kernel_rfl
theorem fact3 {H : Type} : ([] : List PathCond).all (PathCond.test (H := H) Tryz.prog ⟨Tryz.f4.params.toList, [.lit (.string [])], (Rows.OpenSpec.upto Rows.formatBase64Spec).bare.plain.varTypes Tryz.prog, []⟩) = true := by kernel_rfl
theorem fact4 {H : Type} : Rows.uptoSmall H ([.lit (.string [])] ++ []) = true := by kernel_rfl
theorem laid_eq : Rows.formatBase64UptoRow.laid = theList := rfl
theorem dom_eq : Rows.formatBase64UptoRow.domain = [] := rfl
theorem fits (os : Os) (H : Type) (enc : TypeId × Value → H) : ∃ (w : World) (tape : Tape) (i : Input), w.os = os ∧ (w.forCall tape i).Shaped Tryz.prog ∧ i.vars = [] ∧ Input.okWide Tryz.prog (w.forCall tape i) .any w.heap.size 4 i ∧
      (Rows.OpenSpec.upto Rows.formatBase64Spec).preRow enc Tryz.prog Tryz.f4 [] false theList (w.forCall tape i).memory i.args ∧ ({} : Assume).holds Tryz.prog (lone (Frame.enter Tryz.prog 4 i.args .normal) [] (w.forCall tape i)) :=
  witness_at os args0 (fact1 os) (OpenSpec.preRow_of_cond 8 (reads os enc) fact3 (fun k hk => by cases hk; exact fact4) (fact2 os enc) (list_met os _))
theorem inits : Tryz.checked.prog.inits.idxOf? 4 = none := by kernel_rfl
set_option maxRecDepth 100000 in
theorem lifted (os : Os) (started : os.Started) (H : Type) (enc : TypeId × Value → H) (F : Stop.Interp) :
    ReturnsInHanded {} Tryz.checked os 4 .any ((Rows.OpenSpec.upto Rows.formatBase64Spec).preRow enc Tryz.prog Tryz.f4 Rows.formatBase64UptoRow.domain false Rows.formatBase64UptoRow.laid) (((Rows.OpenSpec.upto Rows.formatBase64Spec).at F).post enc Tryz.prog Tryz.f4 false true false false) := by
  rw [laid_eq, dom_eq]
  refine returnsInHanded_of_row (C := Tryz.checked) (s := Rows.OpenSpec.upto Rows.formatBase64Spec) own started inits Tryz.func4 (fits os H enc) ?_
  intro W base args ds gs before hval hW _ hcond _ hL hsh _
  exact contract H enc W base args ds gs before hval hW (hcond Rows.uptoSmall rfl) (tabs_of_list hL hsh)
theorem and_mk {a b : Bool} (h : a = true) (k : b = true) : (a && b) = true := by rw [h, k]; rfl
set_option maxHeartbeats 100000000 in
theorem closed : joinedFacts Tryz.prog 4 Tryz.f4 (Rows.OpenSpec.upto Rows.formatBase64Spec).bare Rows.formatBase64UptoRow = true := by
  unfold joinedFacts
  repeat' with_reducible refine and_mk ?_ ?_
  all_goals as_aux_lemma => kernel_rfl
theorem named : Tryz.prog.funcNamed "colander/colanderlaw13.FormatBase64" = some 4 := by kernel_rfl
theorem inst : Tryz.f4.isInstance Tryz.prog Rows.formatBase64UptoRow.origin Rows.formatBase64UptoRow.targs := of_decide_eq_true (by kernel_rfl)
theorem wrap : Tryz.f4.isWrapper Tryz.prog Rows.formatBase64UptoRow.wrapper Rows.formatBase64UptoRow.mainSum := by
  unfold Func.isWrapper
  first | (rw [if_pos (by decide +kernel)]; kernel_rfl) | (rw [if_neg (by decide +kernel)]; exact ⟨rfl, rfl⟩)
theorem said : Rows.FormatBase64UptoSaid :=
  OpenClaim.holds_of_cond 4 Tryz.f4 rfl rfl rfl rfl rfl rfl rfl ⟨rfl, rfl, rfl, rfl, rfl⟩ rfl rfl rfl rfl rfl named Tryz.func4 closed inst wrap
    (fun os started H enc _ F => by rw [OpenClaim.pre_eq_preRow]; exact lifted os started H enc F)
theorem plain (f : FuncId) (fn : Func) (hf : Tryz.pinned.checked.prog.funcNamed "colander/colanderlaw13.FormatBase64" = some f) (hfn : Tryz.pinned.checked.prog.funcs[f]? = some fn) :
    true = Tryz.pinned.checked.prog.looks [] ∧ ∀ (j : Nat) t, fn.params[j]? = some t → Tryz.pinned.checked.prog.wantsStandIn t = false := by
  obtain rfl : f = 4 := Option.some.inj (named.symm.trans hf) |>.symm
  obtain rfl : fn = Tryz.f4 := (Option.some.inj (Tryz.func4.symm.trans hfn)).symm
  refine ⟨by as_aux_lemma => kernel_rfl, fun j t ht => ?_⟩
  rw [Tryz.params4] at ht
  have hm : t ∈ [9] := by simpa using Array.mem_of_getElem? ht
  have hall : ([9].all fun u => !Tryz.prog.wantsStandIn u) = true := by kernel_rfl
  exact (show Tryz.prog.wantsStandIn t = false by simpa using List.all_eq_true.1 hall t hm)
theorem card : Rows.FormatBase64UptoCardSaid :=
  Claim7.holds_tied_plain_at .later [] _ _ _ _ said (fun _ h => by cases h) (by as_aux_lemma => kernel_rfl) (fun _ h => by cases h) formatBase64Upto_row_tie rfl ⟨rfl, rfl⟩ (by as_aux_lemma => kernel_rfl) rfl plain (by as_aux_lemma => kernel_rfl)
end Base64
end Go.Proofs.YtpfamfkdfbcooaaGreatDoor
