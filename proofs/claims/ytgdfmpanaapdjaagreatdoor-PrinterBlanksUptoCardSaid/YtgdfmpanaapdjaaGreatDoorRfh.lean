/- The document's answer: zero, Num, Arr. -/
import Derived.Test.YtgdfmpanaapdjaaGreatDoorRfg
set_option linter.unusedVariables false
set_option linter.unusedSimpArgs false
namespace Go.Proofs.YtgdfmpanaapdjaaGreatDoor
open Go Go.RowKit Go.Proofs
theorem zero_any (b : Nat) (w : World) : Calls Tryz.prog 80 #[.float .f64 b] w fun e w' => ∃ r : Bool, e = .returned (.bool r) ∧ w = w' := by
  have h1 := bits64 b
  go_enter Tryz.func80, Tryz.ntmps80
  go_wp2_with fail
  go_ret
  exact ⟨_, rfl, rfl⟩
set_option maxRecDepth 100000 in
theorem num_any (b : Nat) (w : World) : Calls Tryz.prog 41 #[.float .f64 b] w fun e w' => e = .returned (.agg #[.int .i64 3, .float .f64 b, .string ⟨#[]⟩, .slice none 0 0, .slice none 0 0]) ∧ Below w.heap.size w w' := by
  go_enter Tryz.func41, Tryz.ntmps41
  go_wp2_with (refine wpList_store_row rfl 27 (.tmp 2) (.tmp 4) rfl _ #[.int .i64 3, .float .f64 b, .string ⟨#[]⟩, .slice none 0 0, .slice none 0 0] rfl rfl 27 #[.int .i64 0, .float .f64 0, .string ⟨#[]⟩, .slice none 0 0, .slice none 0 0] (heap_alloc_new _ _) (by kernel_rfl) rfl (one5 3 b ⟨#[]⟩ none none 0 0 0 0) ?_; rw [setRow_new])
  refine bodyPost_ret (results_cell_row rfl _ _ w.heap.size 27 _ (0, 0) _ rfl (heap_alloc_new _ _) Tryz.underlying27 rfl (by kernel_rfl)) rfl ?_
  exact ⟨rfl, (Below.refl _ _).alloc (Nat.le_refl _) _⟩
set_option maxRecDepth 100000 in
theorem arr_any (A : Option Addr) (n c : Nat) (w : World) : Calls Tryz.prog 37 #[.slice A n c] w fun e w' => e = .returned (.agg #[.int .i64 5, .float .f64 0, .string ⟨#[]⟩, .slice A n c, .slice none 0 0]) ∧ Below w.heap.size w w' := by
  go_enter Tryz.func37, Tryz.ntmps37
  go_wp2_with (refine wpList_store_row rfl 27 (.tmp 2) (.tmp 4) rfl _ #[.int .i64 5, .float .f64 0, .string ⟨#[]⟩, .slice A n c, .slice none 0 0] rfl rfl 27 #[.int .i64 0, .float .f64 0, .string ⟨#[]⟩, .slice none 0 0, .slice none 0 0] (heap_alloc_new _ _) (by kernel_rfl) rfl (one5 5 0 ⟨#[]⟩ A none n c 0 0) ?_; rw [setRow_new])
  refine bodyPost_ret (results_cell_row rfl _ _ w.heap.size 27 _ (0, 0) _ rfl (heap_alloc_new _ _) Tryz.underlying27 rfl (by kernel_rfl)) rfl ?_
  exact ⟨rfl, (Below.refl _ _).alloc (Nat.le_refl _) _⟩
end Go.Proofs.YtgdfmpanaapdjaaGreatDoor
