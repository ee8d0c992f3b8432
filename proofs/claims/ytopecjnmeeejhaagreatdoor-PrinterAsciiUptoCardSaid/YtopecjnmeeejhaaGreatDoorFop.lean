/- How the doubles' words stand to each other: NaN, 0, the greatest. -/
import Derived.Test.YtopecjnmeeejhaaGreatDoorFlF
set_option linter.unusedVariables false
set_option linter.unusedSimpArgs false
namespace Go.Proofs.YtopecjnmeeejhaaGreatDoor
open Go Go.RowKit Go.Proofs

theorem read_f64 (b : Nat) : FloatKind.f64.format.read b =
    (if b % 9223372036854775808 < 4503599627370496 then .number (b / 9223372036854775808 % 2 == 1) (b % 9223372036854775808) (-1074)
     else if b % 9223372036854775808 < 9218868437227405312 then .number (b / 9223372036854775808 % 2 == 1) (4503599627370496 + b % 9223372036854775808 % 4503599627370496) (-1074 + (b % 9223372036854775808 / 4503599627370496 - 1 : Nat))
     else if b % 9223372036854775808 = 9218868437227405312 then .infinity (b / 9223372036854775808 % 2 == 1)
     else .nan (b / 9223372036854775808 % 2 == 1) (b % 9223372036854775808 - 9218868437227405312)) := by
  have h1 : FloatKind.f64.format.signWeight = 9223372036854775808 := by decide
  have h2 : FloatKind.f64.format.binade = 4503599627370496 := by decide
  have h3 : FloatKind.f64.format.infRung = 9218868437227405312 := by decide
  have h4 : FloatKind.f64.format.leastPlace = -1074 := by decide
  unfold Ieee.Format.read
  simp only [h1, h2, h3, h4]

theorem order_def (x y : Nat) : FloatKind.f64.format.order x y = (FloatKind.f64.format.read x).order (FloatKind.f64.format.read y) := rfl
theorem signed_zero (s : Bool) (m k : Nat) : (Ieee.signed s m k = 0) ↔ m = 0 := by
  have h3 := Nat.pow_pos (n := k) (show 0 < 2 by omega)
  have h2 : m <<< k = 0 ↔ m = 0 := by
    rw [Nat.shiftLeft_eq]
    constructor
    · intro h
      rcases Nat.mul_eq_zero.1 h with h | h
      · exact h
      · omega
    · rintro rfl; exact Nat.zero_mul _
  unfold Ieee.signed
  split <;> omega
theorem order_self (b : Nat) : FloatKind.f64.format.order b b = if b % 9223372036854775808 ≤ 9218868437227405312 then some .eq else none := by
  rw [order_def, read_f64]
  by_cases h1 : b % 9223372036854775808 < 4503599627370496
  · rw [if_pos h1, if_pos (by omega)]
    simp [Ieee.Datum.order]
  · rw [if_neg h1]
    by_cases h2 : b % 9223372036854775808 < 9218868437227405312
    · rw [if_pos h2, if_pos (by omega)]
      simp [Ieee.Datum.order]
    · rw [if_neg h2]
      by_cases h3 : b % 9223372036854775808 = 9218868437227405312
      · rw [if_pos h3, if_pos (by omega)]
        simp [Ieee.Datum.order]
      · rw [if_neg h3, if_neg (by omega)]
        simp [Ieee.Datum.order]
theorem order_zero (b : Nat) (hn : b % 9223372036854775808 ≤ 9218868437227405312) : (FloatKind.f64.format.order b 0 == some .eq) = decide (b % 9223372036854775808 = 0) := by
  have h0 : FloatKind.f64.format.read 0 = .number false 0 (-1074) := by decide
  rw [order_def, h0, read_f64]
  have hz : ∀ k, Ieee.signed false 0 k = 0 := fun k => (signed_zero _ _ _).2 rfl
  have key : ∀ (s : Bool) (m : Nat) (i : Int), ((Ieee.Datum.number s m i).order (.number false 0 (-1074)) == some .eq) = decide (m = 0) := by
    intro s m i
    simp only [Ieee.Datum.order, hz]
    by_cases hm : m = 0
    · rw [(signed_zero s m _).2 hm]; simp [hm]
    · have := (signed_zero s m (i - min i (-1074)).toNat)
      have hne : compare (Ieee.signed s m (i - min i (-1074)).toNat) 0 ≠ .eq := by
        intro hc
        exact hm (this.1 (Int.compare_eq_eq.1 hc))
      simp [hm, hne]
  by_cases h1 : b % 9223372036854775808 < 4503599627370496
  · rw [if_pos h1, key]
  · rw [if_neg h1]
    by_cases h2 : b % 9223372036854775808 < 9218868437227405312
    · rw [if_pos h2, key]; simp; omega
    · rw [if_neg h2]
      by_cases h3 : b % 9223372036854775808 = 9218868437227405312
      · rw [if_pos h3]
        simp [Ieee.Datum.order, h3]
        split <;> decide
      · omega
theorem order_most (a : Nat) (h : a ≤ 9218868437227405312) : (FloatKind.f64.format.order a 9218868437227405311 == some .gt) = decide (a = 9218868437227405312) := by
  have h0 : FloatKind.f64.format.read 9218868437227405311 = .number false 9007199254740991 971 := by decide
  rw [order_def, h0, read_f64]
  have hs : (a / 9223372036854775808 % 2 == 1) = false := by rw [show a / 9223372036854775808 = 0 from by omega]; rfl
  rw [hs, show a % 9223372036854775808 = a from by omega]
  have key : ∀ (m : Nat) (i : Int), m ≤ 9007199254740991 → i ≤ 971 → ((Ieee.Datum.number false m i).order (.number false 9007199254740991 971) == some .gt) = false := by
    intro m i hm hi
    simp only [Ieee.Datum.order]
    rw [show min i 971 = i from by omega, show (i - i).toNat = 0 from by omega]
    have h1 : ¬ Ieee.signed false m 0 > Ieee.signed false 9007199254740991 (971 - i).toNat := by
      have h3 := Nat.pow_pos (n := (971 - i).toNat) (show 0 < 2 by omega)
      have h4 := Nat.mul_le_mul_left 9007199254740991 h3
      show ¬ (((9007199254740991 <<< (971 - i).toNat : Nat) : Int) < ((m <<< 0 : Nat) : Int))
      rw [Nat.shiftLeft_eq, Nat.shiftLeft_eq, Nat.pow_zero, Nat.mul_one]
      omega
    have h2 : compare (Ieee.signed false m 0) (Ieee.signed false 9007199254740991 (971 - i).toNat) ≠ .gt := fun hc => h1 (Int.compare_eq_gt.1 hc)
    simp [h2]
  by_cases h1 : a < 4503599627370496
  · rw [if_pos h1, key _ _ (by omega) (by omega)]; simp; omega
  · rw [if_neg h1]
    by_cases h2 : a < 9218868437227405312
    · rw [if_pos h2, key _ _ (by omega) (by omega)]; simp; omega
    · rw [if_neg h2, if_pos (by omega)]
      simp [Ieee.Datum.order]; omega
end Go.Proofs.YtopecjnmeeejhaaGreatDoor
