/- number.Digits, power and Text by their contracts. -/
import Derived.Test.YtopecjnmeeejhaaGreatDoorNul
import Derived.Laws.BitsAllLaws
set_option linter.unusedVariables false
set_option linter.unusedSimpArgs false
namespace Go.Proofs.YtopecjnmeeejhaaGreatDoor
open Go Go.RowKit Go.Proofs

theorem andNot_top (b : Nat) (hb : b < 18446744073709551616) : Go.bits BinOp.andNot IntKind.u64 (b : Int) 9223372036854775808 = ((b % 9223372036854775808 : Nat) : Int) := by
  have := u64_andNot_nat b 9223372036854775808 hb (by omega)
  rw [show ((9223372036854775808 : Nat) : Int) = 9223372036854775808 from rfl] at this
  rw [this, show 18446744073709551615 - 9223372036854775808 = 2 ^ 63 - 1 from by decide, Nat.and_two_pow_sub_one_eq_mod]
theorem bits64 (b : Nat) (W : World) : (callFunc 119 #[Value.float FloatKind.f64 b]).run Tryz.prog W = .ok (.value (.int .u64 b)) W := by
  rw [run_callFunc_extern Tryz.func119 (by kernel_rfl) (by kernel_rfl) (by kernel_rfl) (e := Extern.MathFloatBits.float64bits) (by kernel_rfl)]
  rfl
theorem frombits64 (b : Nat) (W : World) : (callFunc 41 #[Value.int .u64 b]).run Tryz.prog W = .ok (.value (.float .f64 b)) W := by
  rw [run_callFunc_extern Tryz.func41 (by kernel_rfl) (by kernel_rfl) (by kernel_rfl) (e := Extern.MathFloatBits.float64frombits) (by kernel_rfl)]
  rfl
theorem isNaN_any (b : Nat) (w : World) : Calls Tryz.prog 91 #[.float .f64 b] w fun e w' => e = .returned (.bool (decide (9218868437227405312 < b % 9223372036854775808))) ∧ w = w' := by
  have h : (FloatKind.f64.format.order b b != some .eq) = decide (9218868437227405312 < b % 9223372036854775808) := by
    rw [order_self]
    by_cases h : b % 9223372036854775808 ≤ 9218868437227405312
    · rw [if_pos h, decide_eq_false (by omega)]; rfl
    · rw [if_neg h, decide_eq_true (by omega)]; rfl
  rw [← h]
  clear h
  go_enter Tryz.func91, Tryz.ntmps91
  go_wp2_with fail
  go_ret
  exact ⟨rfl, rfl⟩
set_option maxRecDepth 100000 in
theorem abs_any (b : Nat) (hb : b < 18446744073709551616) (w : World) : Calls Tryz.prog 95 #[.float .f64 b] w fun e w' => e = .returned (.float .f64 (b % 9223372036854775808)) ∧ w = w' := by
  have h1 := bits64 b
  have h2 := frombits64 (b % 9223372036854775808)
  have h3 := andNot_top b hb
  obtain ⟨a, ha⟩ : ∃ a, b % 9223372036854775808 = a := ⟨_, rfl⟩
  rw [ha] at h2 h3 ⊢
  clear ha
  go_enter Tryz.func95, Tryz.ntmps95
  go_wp2_with fail
  go_ret
  exact ⟨rfl, rfl⟩
set_option maxRecDepth 100000 in
theorem isInf_raw (b : Nat) (hb : b < 18446744073709551616) (w : World) : Calls Tryz.prog 92 #[.float .f64 b, .int .i64 0] w fun e w' => e = .returned (.bool (FloatKind.f64.format.order (b % 9223372036854775808) 9218868437227405311 == some .gt)) ∧ w = w' := by
  go_enter Tryz.func92, Tryz.ntmps92
  go_wp2_with fail
  refine (abs_any b hb _).mono ?_
  rintro e w' ⟨rfl, rfl⟩
  go_wp2_with fail
  go_ret
  exact ⟨rfl, rfl⟩
theorem isInf_any (b : Nat) (hb : b < 18446744073709551616) (hn : b % 9223372036854775808 ≤ 9218868437227405312) (w : World) : Calls Tryz.prog 92 #[.float .f64 b, .int .i64 0] w fun e w' => e = .returned (.bool (decide (b % 9223372036854775808 = 9218868437227405312))) ∧ w = w' := by
  have h := order_most _ hn
  exact (isInf_raw b hb w).mono fun e w' k => ⟨k.1.trans (congrArg (fun x => Ending.returned (Value.bool x)) h), k.2⟩
theorem signbit_any (b : Nat) (hb : b < 18446744073709551616) (w : World) : Calls Tryz.prog 99 #[.float .f64 b] w fun e w' => e = .returned (.bool (decide (9223372036854775808 ≤ b))) ∧ w = w' := by
  have h1 := bits64 b
  have h2 : decide (wrap64 (b : Int) < 0) = decide (9223372036854775808 ≤ b) := by
    rw [decide_eq_decide]; unfold wrap64; omega
  go_enter Tryz.func99, Tryz.ntmps99
  go_wp2_with fail
  refine bodyPost_ret (results_tmp rfl _ _ _) rfl ?_
  exact ⟨rfl, rfl⟩
set_option maxRecDepth 100000 in
theorem copysign_any (b : Nat) (hb : b < 18446744073709551616) (w : World) : Calls Tryz.prog 98 #[.float .f64 9218868437227405311, .float .f64 b] w fun e w' => e = .returned (.float .f64 (9218868437227405311 + (b / 9223372036854775808) * 9223372036854775808)) ∧ w = w' := by
  have h1 := bits64 9218868437227405311
  have h1' := bits64 b
  have h2 := frombits64 (9218868437227405311 + (b / 9223372036854775808) * 9223372036854775808)
  obtain ⟨m, hm⟩ : ∃ m, 9218868437227405311 + (b / 9223372036854775808) * 9223372036854775808 = m := ⟨_, rfl⟩
  obtain ⟨k, hk⟩ : ∃ k, (b / 9223372036854775808) * 9223372036854775808 = k := ⟨_, rfl⟩
  have h3 : Go.bits BinOp.andNot IntKind.u64 9218868437227405311 9223372036854775808 = 9218868437227405311 := by decide
  have h4 : Go.bits BinOp.and IntKind.u64 (b : Int) 9223372036854775808 = (((b / 9223372036854775808) * 9223372036854775808 : Nat) : Int) := by
    have h := bits_and_u64_nat b 9223372036854775808 hb (by omega)
    rw [show ((9223372036854775808 : Nat) : Int) = 9223372036854775808 from rfl] at h
    rw [h]
    congr 1
    rcases Nat.lt_or_ge b 9223372036854775808 with hs | hs
    · rw [show b / 9223372036854775808 = 0 from by omega, Nat.zero_mul]
      refine Nat.eq_of_testBit_eq fun i => ?_
      rw [Nat.testBit_and, Nat.zero_testBit, show 9223372036854775808 = 2 ^ 63 from by decide, Nat.testBit_two_pow]
      by_cases h63 : 63 = i
      · subst h63; rw [Nat.testBit_lt_two_pow hs]; rfl
      · simp [h63]
    · rw [show b / 9223372036854775808 = 1 from by omega, Nat.one_mul]
      refine Nat.eq_of_testBit_eq fun i => ?_
      rw [Nat.testBit_and, show 9223372036854775808 = 2 ^ 63 from by decide, Nat.testBit_two_pow]
      by_cases h63 : 63 = i
      · subst h63
        have : b.testBit 63 = true := by rw [Nat.testBit_eq_decide_div_mod_eq]; simp; omega
        rw [this]; rfl
      · simp [h63]
  have h5 : ∀ k : Nat, k ≤ 1 → Go.bits BinOp.or IntKind.u64 9218868437227405311 ((k * 9223372036854775808 : Nat) : Int) = ((9218868437227405311 + k * 9223372036854775808 : Nat) : Int) := by
    intro k hk
    rcases Nat.le_one_iff_eq_zero_or_eq_one.1 hk with rfl | rfl <;> decide
  have h6 := h5 (b / 9223372036854775808) (by omega)
  rw [hm] at h2 h6 ⊢
  rw [hk] at h4 h6
  clear h5 hm hk
  go_enter Tryz.func98, Tryz.ntmps98
  go_wp2_with fail
  go_ret
  exact ⟨rfl, rfl⟩
end Go.Proofs.YtopecjnmeeejhaaGreatDoor
