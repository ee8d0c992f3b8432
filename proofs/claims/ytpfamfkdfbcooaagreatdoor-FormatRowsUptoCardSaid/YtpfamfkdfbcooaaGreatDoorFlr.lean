/- In one text: Plain mathematics of Go's float printing: the scaled product, its bounds.; Plain mathematics of Go's float printing: the digits, the noughts behind them, the text. -/
import Derived.WalkKit
import Derived.WalkSmall
import GoSem.PinnedTables
import Derived.Lib.ItoaMem
set_option linter.unusedVariables false
set_option linter.unusedSimpArgs false
/- Plain mathematics of Go's float printing: the scaled product, its bounds. -/
namespace Go.Proofs.YtpfamfkdfbcooaaGreatDoor
open Go Go.RowKit

/-- What 'uscale' computes. -/
def uscaleF (x ph pl s : Nat) : Nat :=
  if x * ph / 18446744073709551616 / 2 ^ s * 2 ^ s ≠ x * ph / 18446744073709551616 then (x * ph / 18446744073709551616 / 2 ^ s) ||| 1
  else ((x * ph / 18446744073709551616 + 18446744073709551616 - (if x * ph % 18446744073709551616 < x * pl / 18446744073709551616 then 1 else 0)) % 18446744073709551616 / 2 ^ s) ||| (if 1 < (x * ph % 18446744073709551616 + 18446744073709551616 - x * pl / 18446744073709551616) % 18446744073709551616 then 1 else 0)

theorem shr_int (a s : Nat) : ((a : Int) / (2 : Int) ^ s) = ((a / 2 ^ s : Nat) : Int) := by
  rw [Int.natCast_ediv]; simp
theorem mulHi_lt (x y : Nat) (hx : x < 18446744073709551616) (hy : y < 18446744073709551616) : x * y / 18446744073709551616 < 18446744073709551616 := by
  have : x * y < 18446744073709551616 * 18446744073709551616 := Nat.mul_lt_mul'' hx hy
  omega
theorem and_low (k : Nat) (hk : k < 63) (s : Int) : bits BinOp.and IntKind.i64 s ((2 : Int) ^ k - 1) = s % (2 : Int) ^ k := by
  have hp : (2 : Nat) ^ k < 2 ^ 63 := Nat.pow_lt_pow_right (by omega) hk
  have hp0 : 0 < (2 : Nat) ^ k := Nat.pow_pos (by omega)
  have e2 : (2 : Int) ^ k = ((2 ^ k : Nat) : Int) := by simp
  rw [e2]
  show IntKind.i64.wrap ((BitVec.ofInt 64 s &&& BitVec.ofInt 64 (((2 ^ k : Nat) : Int) - 1)).toNat : Int) = _
  rw [BitVec.toNat_and, BitVec.toNat_ofInt, BitVec.toNat_ofInt]
  have hb : (((2 ^ k : Nat) : Int) - 1) % ((2 ^ 64 : Nat) : Int) = ((2 ^ k - 1 : Nat) : Int) := by
    rw [Int.emod_eq_of_lt (by omega) (by omega)]; omega
  rw [hb, Int.toNat_natCast, Nat.and_two_pow_sub_one_eq_mod]
  have hd : (2 : Nat) ^ k ∣ 2 ^ 64 := Nat.pow_dvd_pow 2 (by omega)
  have hm : ((s % ((2 ^ 64 : Nat) : Int)).toNat % 2 ^ k : Nat) = (s % ((2 ^ k : Nat) : Int)).toNat := by
    have h3 : 0 ≤ s % ((2 ^ 64 : Nat) : Int) := Int.emod_nonneg _ (by simp)
    have h4 : 0 ≤ s % ((2 ^ k : Nat) : Int) := Int.emod_nonneg _ (by omega)
    have : ((((s % ((2 ^ 64 : Nat) : Int)).toNat % 2 ^ k : Nat)) : Int) = s % ((2 ^ k : Nat) : Int) := by
      rw [Int.natCast_emod, Int.toNat_of_nonneg h3, Int.emod_emod_of_dvd _ (Int.natCast_dvd_natCast.2 hd)]
    omega
  rw [hm]
  have h4 : 0 ≤ s % ((2 ^ k : Nat) : Int) := Int.emod_nonneg _ (by omega)
  have h5 : s % ((2 ^ k : Nat) : Int) < ((2 ^ k : Nat) : Int) := Int.emod_lt_of_pos _ (by omega)
  rw [Int.toNat_of_nonneg h4]
  simp only [IntKind.wrap, IntKind.bits, IntKind.signed]
  simp
  omega
theorem and63 (s : Int) : bits BinOp.and IntKind.i64 s 63 = s % 64 := and_low 6 (by omega) s
theorem and1 (s : Int) : bits BinOp.and IntKind.i64 s 1 = s % 2 := and_low 1 (by omega) s
/-- The table's row for a power of ten. -/
def p10 (p : Int) : Nat × Nat := Pinned.pow10Rows.getD (p + 348).toNat (0, 0)
/-- The scaled product at e, p. -/
def usc (x : Nat) (e p : Int) : Nat := uscaleF x (p10 p).1 (p10 p).2 ((-(e + p * 108853 / 32768 + 3)) % 64).toNat
/-- What 'shortFloat' does behind its three cases. -/
def shortR (m z mn mx : Nat) (e p : Int) : Nat × Int :=
  if ((usc mn e p + m / 2 ^ z % 2) % 18446744073709551616 + 3) % 18446744073709551616 / 4 ≤ (usc mx e p + 18446744073709551616 - m / 2 ^ z % 2) % 18446744073709551616 / 4 / 10 * 10 then ((usc mx e p + 18446744073709551616 - m / 2 ^ z % 2) % 18446744073709551616 / 4 / 10, 1 - p)
  else if ((usc mn e p + m / 2 ^ z % 2) % 18446744073709551616 + 3) % 18446744073709551616 / 4 < (usc mx e p + 18446744073709551616 - m / 2 ^ z % 2) % 18446744073709551616 / 4 then (((usc m e p + 1) % 18446744073709551616 + usc m e p / 4 % 2) % 18446744073709551616 / 4, -p)
  else (((usc mn e p + m / 2 ^ z % 2) % 18446744073709551616 + 3) % 18446744073709551616 / 4, -p)
/-- What 'shortFloat' computes. -/
def shortF (m : Nat) (e : Int) : Nat × Int :=
  if m = 9223372036854775808 ∧ -1085 < e then shortR m 11 (m - 512) (m + 1024) e (-(((e + 11) * 631305 - 261663) / 2097152))
  else if -1085 ≤ e then shortR m 11 (m - 1024) (m + 1024) e (-((e + 11) * 78913 / 262144))
  else shortR m (-1074 - e).toNat (m - 2 ^ ((-1074 - e).toNat - 1)) (m + 2 ^ ((-1074 - e).toNat - 1)) e 324
theorem uscaleF_lt (x ph pl s : Nat) (hx : x < 18446744073709551616) (hph : ph < 18446744073709551616) : uscaleF x ph pl s < 18446744073709551616 := by
  have hhi := mulHi_lt x ph hx hph
  have h1 : x * ph / 18446744073709551616 / 2 ^ s < 2 ^ 64 := Nat.lt_of_le_of_lt (Nat.div_le_self _ _) hhi
  unfold uscaleF
  split
  · exact Nat.or_lt_two_pow (n := 64) h1 (by decide)
  · refine Nat.or_lt_two_pow (n := 64) ?_ ?_
    · exact Nat.lt_of_le_of_lt (Nat.div_le_self _ _) (Nat.mod_lt _ (by decide))
    · split <;> decide
theorem p10_lt (p : Int) : (p10 p).1 < 18446744073709551616 ∧ (p10 p).2 < 18446744073709551616 := by
  have h : ∀ x ∈ Pinned.pow10Rows, x.1 < 18446744073709551616 ∧ x.2 < 18446744073709551616 := by decide +kernel
  unfold p10
  rw [List.getD_eq_getElem?_getD]
  cases hc : Pinned.pow10Rows[(p + 348).toNat]? with
  | none => exact ⟨by decide, by decide⟩
  | some x => exact h x (List.mem_of_getElem? hc)
theorem usc_lt (x : Nat) (e p : Int) (hx : x < 18446744073709551616) : usc x e p < 18446744073709551616 := uscaleF_lt _ _ _ _ hx (p10_lt p).1
theorem p10_row (p : Int) (h0 : -348 ≤ p) (h1 : p ≤ 347) : Pinned.pow10Rows[(p + 348).toNat]? = some (p10 p) := by
  have hl : Pinned.pow10Rows.length = 696 := by decide +kernel
  have : (p + 348).toNat < Pinned.pow10Rows.length := by omega
  unfold p10
  rw [List.getD_eq_getElem?_getD, List.getElem?_eq_getElem this]
  rfl
end Go.Proofs.YtpfamfkdfbcooaaGreatDoor
/- Plain mathematics of Go's float printing: the digits, the noughts behind them, the text. -/
namespace Go.Proofs.YtpfamfkdfbcooaaGreatDoor
open Go Go.RowKit

/-- The digits of a whole number; none of 0. -/
def digs (d : Nat) : List UInt8 := if d = 0 then [] else Lib.decDigits d
/-- Without the noughts behind. -/
def stripZ (l : List UInt8) : List UInt8 := (l.reverse.dropWhile (· == 48)).reverse

theorem stripZ_take (l : List UInt8) : ∀ (n k : Nat), k + n = l.length → (∀ j (h : j < l.length), k ≤ j → l[j] = 48) → (k = 0 ∨ ∃ h : k - 1 < l.length, l[k - 1] ≠ 48) → stripZ l = l.take k := by
  intro n
  induction n generalizing l with
  | zero =>
    intro k hk hz hl
    rw [List.take_of_length_le (by omega)]
    unfold stripZ
    have hd : l.reverse.dropWhile (· == 48) = l.reverse := by
      rcases hl with h0 | ⟨h, hne⟩
      · have : l = [] := List.eq_nil_of_length_eq_zero (by omega)
        subst this; rfl
      · cases hr : l.reverse with
        | nil => rfl
        | cons x xs =>
          have hx : x = l[k - 1] := by
            have h1 : l.reverse[0]? = some x := by rw [hr]; rfl
            rw [List.getElem?_reverse (by omega)] at h1
            rw [List.getElem?_eq_getElem (by omega)] at h1
            have := Option.some.inj h1
            rw [← this]
            congr 1
            omega
          rw [List.dropWhile_cons_of_neg (by rw [hx]; simpa using hne)]
    rw [hd, List.reverse_reverse]
  | succ n ih =>
    intro k hk hz hl
    obtain ⟨l', x, rfl⟩ : ∃ l' x, l = l' ++ [x] := by
      rcases List.eq_nil_or_concat l with h | ⟨l', x, h⟩
      · subst h; simp at hk
      · exact ⟨l', x, by simpa using h⟩
    have hx : x = 48 := by
      have := hz l'.length (by simp) (by simp at hk; omega)
      simpa using this
    subst hx
    have h1 : stripZ (l' ++ [48]) = stripZ l' := by unfold stripZ; simp
    have hk2 : k + n = l'.length := by simp at hk; omega
    rw [h1, List.take_append_of_le_length (by omega)]
    refine ih l' k hk2 (fun j h hj => ?_) ?_
    · have hj2 : j < (l' ++ [(48 : UInt8)]).length := by rw [List.length_append]; exact Nat.lt_add_right _ h
      have := hz j hj2 hj
      rwa [List.getElem_append_left h] at this
    · rcases hl with h0 | ⟨h, hne⟩
      · exact .inl h0
      · by_cases k0 : k = 0
        · exact .inl k0
        · have hk3 : k - 1 < l'.length := by omega
          refine .inr ⟨hk3, ?_⟩
          rwa [List.getElem_append_left hk3] at hne
theorem stripZ_length (l : List UInt8) : (stripZ l).length ≤ l.length := by
  unfold stripZ
  rw [List.length_reverse]
  exact Nat.le_trans (List.dropWhile_sublist _).length_le (by simp)
theorem digs_length (d : Nat) (h : d < 18446744073709551616) : (digs d).length = (if d = 0 then 0 else Lib.nDigits d) ∧ (digs d).length ≤ 20 := by
  unfold digs
  by_cases h0 : d = 0
  · simp [h0]
  · rw [if_neg h0, if_neg h0, Lib.decDigits_length]
    have := Lib.numDigits_eq d (by omega) h
    refine ⟨rfl, ?_⟩
    split at this <;> omega
/-- The exponent's text. -/
def expT (x : Int) : List UInt8 :=
  (if x < 0 then 45 else 43) :: (if x.natAbs < 10 then [48, UInt8.ofNat (48 + x.natAbs)] else if x.natAbs < 100 then [UInt8.ofNat (48 + x.natAbs / 10), UInt8.ofNat (48 + x.natAbs % 10)] else [UInt8.ofNat (48 + x.natAbs / 100), UInt8.ofNat (48 + x.natAbs / 10 % 10), UInt8.ofNat (48 + x.natAbs % 10)])
/-- Digits and the place of the point, written with an exponent. -/
def fmtT (D : List UInt8) (dp : Int) : List UInt8 :=
  D.headD 48 :: ((if 1 < D.length then 46 :: D.tail else []) ++ 101 :: expT (if D = [] then 0 else dp - 1))
theorem bitLen_unique (x L : Nat) (hL : 1 ≤ L) (h64 : L ≤ 64) (h0 : 2 ^ (L - 1) ≤ x) (h1 : x < 2 ^ L) : Lib.bitLen x = L := by
  have hx : x ≠ 0 := by have := Nat.pow_pos (n := L - 1) (show 0 < 2 by omega); omega
  obtain ⟨a, b, c⟩ := Lib.bitLenAux_bounds 64 x (Nat.lt_of_lt_of_le h1 (Nat.pow_le_pow_right (by omega) h64)) hx
  have hb : 2 ^ (Lib.bitLenAux 64 x - 1) < 2 ^ L := Nat.lt_of_le_of_lt b h1
  have hc : 2 ^ (L - 1) < 2 ^ Lib.bitLenAux 64 x := Nat.lt_of_le_of_lt h0 c
  have h2 := (Nat.pow_lt_pow_iff_right (show 1 < 2 by omega)).1 hb
  have h3 := (Nat.pow_lt_pow_iff_right (show 1 < 2 by omega)).1 hc
  show Lib.bitLenAux 64 x = L
  omega
theorem stripZ_prefix (l : List UInt8) : stripZ l = l.take (stripZ l).length := by
  have h : stripZ l <+: l := by
    unfold stripZ
    have h2 : l.reverse.dropWhile (· == 48) <:+ l.reverse := List.dropWhile_suffix _
    have h3 := List.reverse_prefix.2 h2
    rwa [List.reverse_reverse] at h3
  exact List.prefix_iff_eq_take.1 h
theorem shortR_bounds (m z mn mx : Nat) (e p : Int) : (shortR m z mn mx e p).1 < 4611686018427387905 ∧ ((shortR m z mn mx e p).2 = -p ∨ (shortR m z mn mx e p).2 = 1 - p) := by
  unfold shortR
  have h1 := Nat.mod_lt (usc mx e p + 18446744073709551616 - m / 2 ^ z % 2) (show 18446744073709551616 > 0 by decide)
  have h2 := Nat.mod_lt ((usc mn e p + m / 2 ^ z % 2) % 18446744073709551616 + 3) (show 18446744073709551616 > 0 by decide)
  have h3 := Nat.mod_lt ((usc m e p + 1) % 18446744073709551616 + usc m e p / 4 % 2) (show 18446744073709551616 > 0 by decide)
  split
  · exact ⟨by show _ / 4 / 10 < _; omega, .inr rfl⟩
  · split
    · exact ⟨by show _ / 4 < _; omega, .inl rfl⟩
    · exact ⟨by show _ / 4 < _; omega, .inl rfl⟩
theorem shortF_bounds (m : Nat) (e : Int) (h0 : -1137 ≤ e) (h1 : e ≤ 960) : (shortF m e).1 < 4611686018427387905 ∧ -350 ≤ (shortF m e).2 ∧ (shortF m e).2 ≤ 350 := by
  unfold shortF
  split
  · obtain ⟨a, b⟩ := shortR_bounds m 11 (m - 512) (m + 1024) e (-(((e + 11) * 631305 - 261663) / 2097152))
    refine ⟨a, ?_, ?_⟩ <;> rcases b with b | b <;> rw [b] <;> omega
  · split
    · obtain ⟨a, b⟩ := shortR_bounds m 11 (m - 1024) (m + 1024) e (-((e + 11) * 78913 / 262144))
      refine ⟨a, ?_, ?_⟩ <;> rcases b with b | b <;> rw [b] <;> omega
    · obtain ⟨a, b⟩ := shortR_bounds m (-1074 - e).toNat (m - 2 ^ ((-1074 - e).toNat - 1)) (m + 2 ^ ((-1074 - e).toNat - 1)) e 324
      refine ⟨a, ?_, ?_⟩ <;> rcases b with b | b <;> rw [b] <;> omega
/-- The mantissa moved to the left, and its exponent, of a double's bits. -/
def manF (bits : Nat) : Nat × Int :=
  if bits / 4503599627370496 = 0 then (bits * 2 ^ (64 - Lib.bitLen bits), -1074 - ((64 - Lib.bitLen bits : Nat) : Int))
  else ((bits % 4503599627370496 + 4503599627370496) * 2048, ((bits / 4503599627370496 : Nat) : Int) - 1086)
/-- Digits without noughts behind, and the place of the point. -/
def digF (bits : Nat) : List UInt8 × Int :=
  (stripZ (digs (shortF (manF bits).1 (manF bits).2).1), ((digs (shortF (manF bits).1 (manF bits).2).1).length : Int) + (shortF (manF bits).1 (manF bits).2).2)
/-- What FormatFloat(f, e, -1, 64) writes of a finite number above 0. -/
def floatT (bits : Nat) : List UInt8 := fmtT (digF bits).1 (digF bits).2
end Go.Proofs.YtpfamfkdfbcooaaGreatDoor
