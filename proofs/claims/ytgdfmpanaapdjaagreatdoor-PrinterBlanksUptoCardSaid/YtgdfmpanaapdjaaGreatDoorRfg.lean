/- The document's answer: Escape where the text stays as it is. -/
import Derived.Test.YtgdfmpanaapdjaaGreatDoorRff
set_option linter.unusedVariables false
set_option linter.unusedSimpArgs false
namespace Go.Proofs.YtgdfmpanaapdjaaGreatDoor
open Go Go.RowKit Go.Proofs
set_option maxRecDepth 100000 in
theorem refEscape_plain (w : World) (s : List UInt8) (hl : s.length ≤ 100000000) :
    Calls Tryz.prog 20 #[.string ⟨s.toArray⟩, .bool false] w fun e w' => ∃ v', e = .returned v' ∧ App w.heap.size w (.slice none 0 0) [] w' v' (quoteT s) := by
  go_enter Tryz.func20, Tryz.ntmps20
  go_wp2_with fail
  refine (refQuote_any w.heap.size w _ (OwnB.nil _ _) (Nat.le_refl _) s hl).mono ?_
  rintro e' w1 ⟨v1, rfl, hA⟩
  go_wp2_with fail
  go_ret
  exact ⟨_, rfl, hA⟩
end Go.Proofs.YtgdfmpanaapdjaaGreatDoor
