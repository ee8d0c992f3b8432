/- The document's answer: unit. -/
import Derived.Test.YtgdfmpanaapdjaaGreatDoorRfe
set_option linter.unusedVariables false
set_option linter.unusedSimpArgs false
namespace Go.Proofs.YtgdfmpanaapdjaaGreatDoor
open Go Go.RowKit Go.Proofs
theorem and15i (x d : Nat) (h : x % 16 = d) : bits BinOp.and IntKind.i64 (x : Int) 15 = (d : Int) := by
  have := and_low 4 (by omega) (x : Int)
  rw [show ((2 : Int) ^ 4 - 1) = 15 from by decide, show ((2 : Int) ^ 4) = 16 from by decide] at this
  rw [this]; omega
set_option maxHeartbeats 1000000 in
set_option maxRecDepth 100000 in
theorem refUnit_any (B : Nat) (w : World) (v : Value) (bs l : List UInt8) (W : World) (v1 : Value) (hA : App B w v bs W v1 l) (r : Nat) (hr : r < 65536) (hl : bs.length + l.length + 6 ≤ 140737488355328) :
    Calls Tryz.prog 54 #[v1, .int .i64 r] W fun e w' => ∃ v', e = .returned v' ∧ App B w v bs w' v' (l ++ unitT r) := by
  obtain ⟨d0, h0⟩ : ∃ d, d = r / 4096 % 16 := ⟨_, rfl⟩
  obtain ⟨d1, h1⟩ : ∃ d, d = r / 256 % 16 := ⟨_, rfl⟩
  obtain ⟨d2, h2⟩ : ∃ d, d = r / 16 % 16 := ⟨_, rfl⟩
  obtain ⟨d3, h3⟩ : ∃ d, d = r % 16 := ⟨_, rfl⟩
  have b0 : bits BinOp.and IntKind.i64 ((r : Int) / 4096) 15 = (d0 : Int) := by have := and15i (r / 4096) d0 h0.symm; rwa [Int.natCast_ediv] at this
  have b1 : bits BinOp.and IntKind.i64 ((r : Int) / 256) 15 = (d1 : Int) := by have := and15i (r / 256) d1 h1.symm; rwa [Int.natCast_ediv] at this
  have b2 : bits BinOp.and IntKind.i64 ((r : Int) / 16) 15 = (d2 : Int) := by have := and15i (r / 16) d2 h2.symm; rwa [Int.natCast_ediv] at this
  have b3 : bits BinOp.and IntKind.i64 (r : Int) 15 = (d3 : Int) := and15i r d3 h3.symm
  have l0 : (d0 : Int) < 16 := by omega
  have l1 : (d1 : Int) < 16 := by omega
  have l2 : (d2 : Int) < 16 := by omega
  have l3 : (d3 : Int) < 16 := by omega
  have x0 := hex_at d0 (by omega)
  have x1 := hex_at d1 (by omega)
  have x2 := hex_at d2 (by omega)
  have x3 := hex_at d3 (by omega)
  have HQ : Hid (unitT r = [92, 117, hexd d0, hexd d1, hexd d2, hexd d3]) := Lib.hid (by rw [h0, h1, h2, h3]; rfl)
  clear h0 h1 h2 h3
  go_enter Tryz.func54, Tryz.ntmps54
  go_wp2_with fail
  have hA := hA.below (Below.refl _ _).drew
  go_region_law (refine stepN rfl (.tmp 6) (.tmp 26) rfl [92, 117, hexd d0, hexd d1, hexd d2, hexd d3] 6 _ rfl (by simp [Act.eval, Act.put]) (by simp [Act.eval, Act.put]) rfl hA (by simp; omega) ?_; intro v2 w2 hA2; rw [← HQ.out] at hA2)
  all_goals
    go_wp2_with fail
    go_ret
    exact ⟨_, rfl, hA2⟩
end Go.Proofs.YtgdfmpanaapdjaaGreatDoor
