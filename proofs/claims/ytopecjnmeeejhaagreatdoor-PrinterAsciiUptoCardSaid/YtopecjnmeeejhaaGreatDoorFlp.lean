/- Plain mathematics of Go's float printing: the scaled product, its bounds. -/
import Derived.WalkKit
import Derived.WalkSmall
import GoSem.PinnedTables
set_option linter.unusedVariables false
set_option linter.unusedSimpArgs false
namespace Go.Proofs.YtopecjnmeeejhaaGreatDoor
open Go Go.RowKit

/-- What 'uscale' computes. -/
def uscaleF (x ph pl s : Nat) : Nat :=
  if x * ph / 18446744073709551616 / 2 ^ s * 2 ^ s ≠ x * ph / 18446744073709551616 then (x * ph / 18446744073709551616 / 2 ^ s) ||| 1
  else ((x * ph / 18446744073709551616 + 18446744073709551616 - (if x * ph % 18446744073709551616 < x * pl / 18446744073709551616 then 1 else 0)) % 18446744073709551616 / 2 ^ s) ||| (if 1 < (x * ph % 18446744073709551616 + 18446744073709551616 - x * pl / 18446744073709551616) % 18446744073709551616 then 1 else 0)

theorem shr_int (a s : Nat) : ((a : Int) / (2 : Int) ^ s) = ((a / 2 ^ s : Nat) : Int) := by
  rw [Int.natCast_ediv]; simp
theorem mulHi_lt (x y : Nat) (hx : x < 18446744073709551616) (hy : y < 18446744073709551616) : x * y / 18446744073709551616 < 18446744073709551616 := by
  have : x * y < 18446744073709551616 * 18446744073709551616 := Nat.mul_lt_mul'' hx hy
  omega
theorem and_low (k : Nat) (hk : k < 63) (s : Int) : bits BinOp.and IntKind.i64 s ((2 : Int) ^ k - 1) = s % (2 : Int) ^ k := by
  have hp : (2 : Nat) ^ k < 2 ^ 63 := Nat.pow_lt_pow_right (by omega) hk
  have hp0 : 0 < (2 : Nat) ^ k := Nat.pow_pos (by omega)
  have e2 : (2 : Int) ^ k = ((2 ^ k : Nat) : Int) := by simp
  rw [e2]
  show IntKind.i64.wrap ((BitVec.ofInt 64 s &&& BitVec.ofInt 64 (((2 ^ k : Nat) : Int) - 1)).toNat : Int) = _
  rw [BitVec.toNat_and, BitVec.toNat_ofInt, BitVec.toNat_ofInt]
  have hb : (((2 ^ k : Nat) : Int) - 1) % ((2 ^ 64 : Nat) : Int) = ((2 ^ k - 1 : Nat) : Int) := by
    rw [Int.emod_eq_of_lt (by omega) (by omega)]; omega
  rw [hb, Int.toNat_natCast, Nat.and_two_pow_sub_one_eq_mod]
  have hd : (2 : Nat) ^ k ∣ 2 ^ 64 := Nat.pow_dvd_pow 2 (by omega)
  have hm : ((s % ((2 ^ 64 : Nat) : Int)).toNat % 2 ^ k : Nat) = (s % ((2 ^ k : Nat) : Int)).toNat := by
    have h3 : 0 ≤ s % ((2 ^ 64 : Nat) : Int) := Int.emod_nonneg _ (by simp)
    have h4 : 0 ≤ s % ((2 ^ k : Nat) : Int) := Int.emod_nonneg _ (by omega)
    have : ((((s % ((2 ^ 64 : Nat) : Int)).toNat % 2 ^ k : Nat)) : Int) = s % ((2 ^ k : Nat) : Int) := by
      rw [Int.natCast_emod, Int.toNat_of_nonneg h3, Int.emod_emod_of_dvd _ (Int.natCast_dvd_natCast.2 hd)]
    omega
  rw [hm]
  have h4 : 0 ≤ s % ((2 ^ k : Nat) : Int) := Int.emod_nonneg _ (by omega)
  have h5 : s % ((2 ^ k : Nat) : Int) < ((2 ^ k : Nat) : Int) := Int.emod_lt_of_pos _ (by omega)
  rw [Int.toNat_of_nonneg h4]
  simp only [IntKind.wrap, IntKind.bits, IntKind.signed]
  simp
  omega
theorem and63 (s : Int) : bits BinOp.and IntKind.i64 s 63 = s % 64 := and_low 6 (by omega) s
theorem and1 (s : Int) : bits BinOp.and IntKind.i64 s 1 = s % 2 := and_low 1 (by omega) s
/-- The table's row for a power of ten. -/
def p10 (p : Int) : Nat × Nat := Pinned.pow10Rows.getD (p + 348).toNat (0, 0)
/-- The scaled product at e, p. -/
def usc (x : Nat) (e p : Int) : Nat := uscaleF x (p10 p).1 (p10 p).2 ((-(e + p * 108853 / 32768 + 3)) % 64).toNat
/-- What 'shortFloat' does behind its three cases. -/
def shortR (m z mn mx : Nat) (e p : Int) : Nat × Int :=
  if ((usc mn e p + m / 2 ^ z % 2) % 18446744073709551616 + 3) % 18446744073709551616 / 4 ≤ (usc mx e p + 18446744073709551616 - m / 2 ^ z % 2) % 18446744073709551616 / 4 / 10 * 10 then ((usc mx e p + 18446744073709551616 - m / 2 ^ z % 2) % 18446744073709551616 / 4 / 10, 1 - p)
  else if ((usc mn e p + m / 2 ^ z % 2) % 18446744073709551616 + 3) % 18446744073709551616 / 4 < (usc mx e p + 18446744073709551616 - m / 2 ^ z % 2) % 18446744073709551616 / 4 then (((usc m e p + 1) % 18446744073709551616 + usc m e p / 4 % 2) % 18446744073709551616 / 4, -p)
  else (((usc mn e p + m / 2 ^ z % 2) % 18446744073709551616 + 3) % 18446744073709551616 / 4, -p)
/-- What 'shortFloat' computes. -/
def shortF (m : Nat) (e : Int) : Nat × Int :=
  if m = 9223372036854775808 ∧ -1085 < e then shortR m 11 (m - 512) (m + 1024) e (-(((e + 11) * 631305 - 261663) / 2097152))
  else if -1085 ≤ e then shortR m 11 (m - 1024) (m + 1024) e (-((e + 11) * 78913 / 262144))
  else shortR m (-1074 - e).toNat (m - 2 ^ ((-1074 - e).toNat - 1)) (m + 2 ^ ((-1074 - e).toNat - 1)) e 324
theorem uscaleF_lt (x ph pl s : Nat) (hx : x < 18446744073709551616) (hph : ph < 18446744073709551616) : uscaleF x ph pl s < 18446744073709551616 := by
  have hhi := mulHi_lt x ph hx hph
  have h1 : x * ph / 18446744073709551616 / 2 ^ s < 2 ^ 64 := Nat.lt_of_le_of_lt (Nat.div_le_self _ _) hhi
  unfold uscaleF
  split
  · exact Nat.or_lt_two_pow (n := 64) h1 (by decide)
  · refine Nat.or_lt_two_pow (n := 64) ?_ ?_
    · exact Nat.lt_of_le_of_lt (Nat.div_le_self _ _) (Nat.mod_lt _ (by decide))
    · split <;> decide
theorem p10_lt (p : Int) : (p10 p).1 < 18446744073709551616 ∧ (p10 p).2 < 18446744073709551616 := by
  have h : ∀ x ∈ Pinned.pow10Rows, x.1 < 18446744073709551616 ∧ x.2 < 18446744073709551616 := by decide +kernel
  unfold p10
  rw [List.getD_eq_getElem?_getD]
  cases hc : Pinned.pow10Rows[(p + 348).toNat]? with
  | none => exact ⟨by decide, by decide⟩
  | some x => exact h x (List.mem_of_getElem? hc)
theorem usc_lt (x : Nat) (e p : Int) (hx : x < 18446744073709551616) : usc x e p < 18446744073709551616 := uscaleF_lt _ _ _ _ hx (p10_lt p).1
theorem p10_row (p : Int) (h0 : -348 ≤ p) (h1 : p ≤ 347) : Pinned.pow10Rows[(p + 348).toNat]? = some (p10 p) := by
  have hl : Pinned.pow10Rows.length = 696 := by decide +kernel
  have : (p + 348).toNat < Pinned.pow10Rows.length := by omega
  unfold p10
  rw [List.getD_eq_getElem?_getD, List.getElem?_eq_getElem this]
  rfl
end Go.Proofs.YtopecjnmeeejhaaGreatDoor
