/- printer.Colour. -/
import Derived.Test.YtopecjnmeeejhaaGreatDoorMan
set_option linter.unusedVariables false
set_option linter.unusedSimpArgs false
namespace Go.Proofs.YtopecjnmeeejhaaGreatDoor
open Go Go.RowKit Go.Proofs
set_option maxHeartbeats 1000000 in
set_option maxRecDepth 100000 in
theorem colour_any (w : World) (k : Nat) (hk : k ≤ 6) (num : Nat) (s : ByteArray) (L K : Value) (hL : ∃ a n c, L = .slice a n c) (hK : ∃ a n c, K = .slice a n c) :
    Calls Tryz.prog 22 #[.agg #[.int .i64 k, .float .f64 num, .string s, L, K]] w fun e w' => e = .returned (.string ⟨(colT k).toArray⟩) ∧ Below w.heap.size w w' := by
  obtain ⟨a1, n1, c1, rfl⟩ := hL
  obtain ⟨a2, n2, c2, rfl⟩ := hK
  have h5 : k = 0 ∨ k = 1 ∨ k = 2 ∨ k = 3 ∨ k = 4 ∨ k = 5 ∨ k = 6 := by omega
  rcases h5 with rfl | rfl | rfl | rfl | rfl | rfl | rfl
  all_goals
    go_enter Tryz.func22, Tryz.ntmps22
    go_wp2_with fail
    go_ret
    exact ⟨rfl, by repeat (first | exact Below.refl _ _ | exact Nat.le_refl _ | refine Below.alloc ?_ (by simp) _)⟩
end Go.Proofs.YtopecjnmeeejhaaGreatDoor
