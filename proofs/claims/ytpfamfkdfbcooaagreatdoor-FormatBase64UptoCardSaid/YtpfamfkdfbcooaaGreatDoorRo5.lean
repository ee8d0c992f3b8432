/- FormatBase64, where what it reads is of bulk at most 1048576: for every text the law returns true, and its arguments read afterwards as they did. -/
import Derived.Test.YtpfamfkdfbcooaaGreatDoorLb6
import Derived.Test.YtpfamfkdfbcooaaGreatDoorAll
import Derived.Test.YtpfamfkdfbcooaaGreatDoorCards
import Derived.Test.YtpfamfkdfbcooaaGreatDoorTie
import Derived.ProofKit
import Derived.ChangeMaps5
import Derived.SevenTiedAt
set_option linter.unusedVariables false
set_option linter.unusedSimpArgs false
namespace Go.Proofs.YtpfamfkdfbcooaaGreatDoor
open Go Go.RowKit Go.Proofs Go.ChangeShapes Go.WideShapes Go.ChangeAt
namespace Base64
theorem own : ownKnob Tryz.prog.godebug = none := by kernel_rfl
theorem readable : ∀ t ∈ Tryz.f4.params.toList, Tryz.prog.readableRec t = true ∧ t < Tryz.prog.types.size := by
  intro t ht
  rw [Tryz.params4] at ht
  simp only [List.mem_cons, List.not_mem_nil, or_false] at ht
  subst ht
  exact ⟨by kernel_rfl, of_decide_eq_true (by kernel_rfl)⟩
def args0 : Array Value := #[.string ⟨#[]⟩]
theorem reads (os : Os) {H : Type} (enc : TypeId × Value → H) : DataW.whole enc Tryz.prog ((World.laidAll Tryz.prog os theList).forCall (fun _ _ => 0) ⟨#[], args0, []⟩).memory Tryz.f4.params.toList Rows.formatBase64Spec.vars false args0.toList 8 =
    some ([.lit (.string [])], [], []) := by kernel_rfl
theorem fact1 (os : Os) : Input.okWideB Tryz.prog ((World.laidAll Tryz.prog os theList).forCall (fun _ _ => 0) ⟨#[], args0, []⟩) 4 ⟨#[], args0, []⟩ = true := by kernel_rfl
theorem fact2 (os : Os) {H : Type} (enc : TypeId × Value → H) : (Rows.OpenSpec.upto Rows.formatBase64Spec).bare.sizedB enc Tryz.prog Tryz.f4 false ((World.laidAll Tryz.prog os theList).forCall (fun _ _ => 0) ⟨#[], args0, []⟩).memory args0 8 = true := by kernel_rfl
theorem fact3 {H : Type} : ([] : List PathCond).all (PathCond.test (H := H) Tryz.prog ⟨Tryz.f4.params.toList, [.lit (.string [])], (Rows.OpenSpec.upto Rows.formatBase64Spec).bare.plain.varTypes Tryz.prog, []⟩) = true := by kernel_rfl
theorem fact4 {H : Type} : Rows.uptoSmall H ([.lit (.string [])] ++ []) = true := by kernel_rfl
theorem laid_eq : Rows.formatBase64UptoRow.laid = theList := rfl
theorem dom_eq : Rows.formatBase64UptoRow.domain = [] := rfl
theorem inits : Tryz.checked.prog.inits.idxOf? 4 = none := by kernel_rfl
theorem and_mk {a b : Bool} (h : a = true) (k : b = true) : (a && b) = true := by rw [h, k]; rfl
set_option maxHeartbeats 100000000 in
theorem closed : joinedFacts Tryz.prog 4 Tryz.f4 (Rows.OpenSpec.upto Rows.formatBase64Spec).bare Rows.formatBase64UptoRow = true := by
  unfold joinedFacts
  repeat' with_reducible refine and_mk ?_ ?_
  all_goals as_aux_lemma => kernel_rfl
theorem named : Tryz.prog.funcNamed "colander/colanderlaw13.FormatBase64" = some 4 := by kernel_rfl
theorem inst : Tryz.f4.isInstance Tryz.prog Rows.formatBase64UptoRow.origin Rows.formatBase64UptoRow.targs := of_decide_eq_true (by kernel_rfl)
theorem wrap : Tryz.f4.isWrapper Tryz.prog Rows.formatBase64UptoRow.wrapper Rows.formatBase64UptoRow.mainSum := by
  unfold Func.isWrapper
  first | (rw [if_pos (by decide +kernel)]; kernel_rfl) | (rw [if_neg (by decide +kernel)]; exact ⟨rfl, rfl⟩)
end Base64
end Go.Proofs.YtpfamfkdfbcooaaGreatDoor
