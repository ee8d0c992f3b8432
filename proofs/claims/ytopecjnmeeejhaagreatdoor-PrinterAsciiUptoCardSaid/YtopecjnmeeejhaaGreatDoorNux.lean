/- The library's string functions, as number.Digits, power and Text call them. -/
import Derived.Test.YtopecjnmeeejhaaGreatDoorNum
import Derived.Lib.AppendIntMem
set_option linter.unusedVariables false
set_option linter.unusedSimpArgs false
namespace Go.Proofs.YtopecjnmeeejhaaGreatDoor
open Go Go.RowKit Go.Proofs

theorem drewN_below (w : World) (n : Nat) : Below w.heap.size w (w.drewN n) := below_drewN (Below.refl _ _) n
theorem cutE (l x y : List UInt8) (w : World) (T : Tabs w) (h : Lib.cut l [101] = (x, y, true)) (hl : l.length ≤ 1000) :
    Calls Tryz.prog 93 #[.string ⟨l.toArray⟩, .string ⟨#[101]⟩] w fun e w' => e = .returned (.tuple #[.string ⟨x.toArray⟩, .string ⟨y.toArray⟩, .bool true]) ∧ Below w.heap.size w w' := by
  obtain ⟨m, hm⟩ := T.maxLen
  refine (Tryz.strings_Cut ⟨l.toArray⟩ ⟨#[101]⟩ m w (by show l.length < _; omega) hm).mono ?_
  rintro e w' ⟨rfl, n, rfl⟩
  refine ⟨?_, drewN_below w n⟩
  show Ending.returned (.tuple #[.string ⟨(Lib.cut l [101]).1.toArray⟩, .string ⟨(Lib.cut l [101]).2.1.toArray⟩, .bool (Lib.cut l [101]).2.2]) = _
  rw [h]
theorem dotOut (l x : List UInt8) (w : World) (T : Tabs w) (h : Lib.replace l [46] [] 1 = x) (hl : l.length ≤ 1000) :
    Calls Tryz.prog 97 #[.string ⟨l.toArray⟩, .string ⟨#[46]⟩, .string ⟨#[]⟩, .int .i64 1] w fun e w' => e = .returned (.string ⟨x.toArray⟩) ∧ Below w.heap.size w w' := by
  obtain ⟨m, hm⟩ := T.maxLen
  refine (Tryz.strings_Replace ⟨l.toArray⟩ ⟨#[46]⟩ ⟨#[]⟩ 1 m w (by show l.length < _; omega) hm (by show 1 ≤ 1; omega) (by show l.length + _ * 0 ≤ _; omega)).mono ?_
  rintro e w' ⟨rfl, hb⟩
  refine ⟨?_, hb⟩
  show Ending.returned (.string ⟨(Lib.replace l [46] [] 1).toArray⟩) = _
  rw [h]
theorem bytesWorld_below (w : World) (t : TypeId) (s : ByteArray) : Below w.heap.size w (Lib.bytesWorld w t s) :=
  ⟨by simp [Lib.bytesWorld, World.freeze, World.alloc, World.drew, -World.alloc_eq, -World.drew_eq], by simp [Lib.bytesWorld, World.freeze, World.alloc, World.drew, -World.alloc_eq, -World.drew_eq], by simp [Lib.bytesWorld, World.freeze, World.alloc, World.drew, -World.alloc_eq, -World.drew_eq], by rw [Lib.bytesWorld_size]; omega, fun k hk => Lib.bytesWorld_at_old w t s k hk⟩
theorem atoi_any (l : List UInt8) (n : Int) (w : World) (h : Lib.atoi l = some n) (hl : l.length ≤ 18) :
    Calls Tryz.prog 96 #[.string ⟨l.toArray⟩] w fun e w' => e = .returned (.tuple #[.int .i64 n, .nilIface]) ∧ Below w.heap.size w w' := by
  refine (Tryz.strconv_Atoi ⟨l.toArray⟩ n (by exact hl) (by simpa using h) w).mono ?_
  rintro e w' ⟨rfl, t, rfl⟩
  exact ⟨rfl, bytesWorld_below w _ t⟩
theorem itoa_any (n : Nat) (w : World) (T : Tabs w) (hn : n ≤ 1000000) :
    Calls Tryz.prog 102 #[.int .i64 n] w fun e w' => e = .returned (.string ⟨(Lib.decDigits n).toArray⟩) ∧ Below w.heap.size w w' := by
  refine (Tryz.strconv_Itoa n (by omega) (by omega) w T.u10).mono ?_
  rintro e w' ⟨rfl, k, os, rfl⟩
  refine ⟨by rw [Lib.itoa_nonneg], ?_⟩
  exact Lib.below_grow _ w (Nat.le_refl _) k os
theorem zeros_any (c : Nat) (w : World) (hc : c ≤ 1000000) :
    Calls Tryz.prog 101 #[.string ⟨#[48]⟩, .int .i64 c] w fun e w' => e = .returned (.string ⟨(List.replicate c (48 : UInt8)).toArray⟩) ∧ Below w.heap.size w w' := by
  refine (Tryz.strings_Repeat ⟨#[48]⟩ c w (by omega) (by show 1 * c ≤ _; omega)).mono ?_
  rintro e w' ⟨rfl, hb⟩
  refine ⟨?_, hb⟩
  show Ending.returned (.string ⟨(Lib.repeatL [48] c).toArray⟩) = _
  rw [repeatL_replicate]
end Go.Proofs.YtopecjnmeeejhaaGreatDoor
