/- Contracts of the small functions of Go's float printing: powers, rounding, the scaled product. -/
import Derived.Test.YtgdfmpanaapdjaaGreatDoorTabs
import Derived.Test.YtgdfmpanaapdjaaGreatDoorFlp
set_option linter.unusedVariables false
set_option linter.unusedSimpArgs false
namespace Go.Proofs.YtgdfmpanaapdjaaGreatDoor
open Go Go.RowKit Go.Proofs

theorem bits_Mul64 (x y : Nat) (hx : x < 18446744073709551616) (hy : y < 18446744073709551616) (w : World) :
    Calls Tryz.prog 200 #[.int .u64 x, .int .u64 y] w fun e w' => e = .returned (.tuple #[.int .u64 ((x * y / 18446744073709551616 : Nat) : Int), .int .u64 ((x * y % 18446744073709551616 : Nat) : Int)]) ∧ w = w' := (Tryz.bits_Mul64 x y hx hy w).mono fun _ _ h => ⟨h.1, h.2.symm⟩

theorem or_close (A B : Nat) (a b : Int) (ha : a = (A : Int)) (hb : b = (B : Int)) (hA : A < 18446744073709551616) (hB : B < 18446744073709551616) : bits BinOp.or IntKind.u64 a b = ((A ||| B : Nat) : Int) := by
  rw [ha, hb]; exact bits_or_u64_nat A B hA hB

theorem ret_int {k : IntKind} {a b : Int} (h : a = b) : Ending.returned (.int k a) = .returned (.int k b) := by rw [h]

theorem bool2_u64 (b : Bool) (w : World) :
    Calls Tryz.prog 303 #[.bool b] w fun e w' => e = .returned (.int .u64 (if b then 1 else 0)) ∧ w = w' := by
  cases b
  all_goals
    go_enter Tryz.func303, Tryz.ntmps303
    go_wp2
    go_ret
    exact ⟨rfl, rfl⟩

theorem bool2_u64' (b : Bool) (w : World) :
    Calls Tryz.prog 303 #[.bool b] w fun e w' => e = .returned (.int .u64 (if b then 1 else 0)) ∧ w' = w := (bool2_u64 b w).mono fun _ _ h => ⟨h.1, h.2.symm⟩

theorem uscale_any (x ph pl b : Nat) (s0 : Int) (w : World) (hx : x < 18446744073709551616) (hph : ph < 18446744073709551616) (hpl : pl < 18446744073709551616) (c0 : w.cell? ⟨b, 0, none⟩ = some (.int .u64 ph)) (c1 : w.cell? ⟨b, 1, none⟩ = some (.int .u64 pl)) (c2 : w.cell? ⟨b, 2, none⟩ = some (.int .i64 s0)) :
    Calls Tryz.prog 280 #[.int .u64 x, .pointer (some ⟨b, 0, none⟩)] w fun e w' => e = .returned (.int .u64 (uscaleF x ph pl (s0 % 64).toNat)) ∧ ∃ n, w' = w.drewN n := by
  have h63 := and63 s0
  obtain ⟨s, hs⟩ : ∃ s : Nat, (s : Int) = s0 % 64 := ⟨(s0 % 64).toNat, by omega⟩
  rw [← hs] at h63
  rw [show (s0 % 64).toNat = s from by omega]
  have hs64 : s < 64 := by omega
  clear hs
  have hhi := mulHi_lt x ph hx hph
  have hm2 := mulHi_lt x pl hx hpl
  have hmid : x * ph % 18446744073709551616 < 18446744073709551616 := Nat.mod_lt _ (by omega)
  go_enter Tryz.func280, Tryz.ntmps280
  go_wp2_with fail
  refine (bits_Mul64 x ph hx hph _).mono ?_
  rintro e w' ⟨rfl, rfl⟩
  obtain ⟨hi, hhid⟩ : ∃ hi, x * ph / 18446744073709551616 = hi := ⟨_, rfl⟩
  obtain ⟨mid, hmidd⟩ : ∃ mid, x * ph % 18446744073709551616 = mid := ⟨_, rfl⟩
  obtain ⟨mid2, hmid2⟩ : ∃ mid2, x * pl / 18446744073709551616 = mid2 := ⟨_, rfl⟩
  have HV : Hid (uscaleF x ph pl s = if hi / 2 ^ s * 2 ^ s ≠ hi then (hi / 2 ^ s) ||| 1 else ((hi + 18446744073709551616 - (if mid < mid2 then 1 else 0)) % 18446744073709551616 / 2 ^ s) ||| (if 1 < (mid + 18446744073709551616 - mid2) % 18446744073709551616 then 1 else 0)) := by
    refine Lib.hid ?_
    subst hhid hmidd hmid2
    rfl
  rw [hhid, hmidd]
  rw [hhid] at hhi
  rw [hmidd] at hmid
  rw [hmid2] at hm2
  have H2 := Lib.hid hmid2
  clear hhid hmidd hmid2
  have hle : hi / 2 ^ s * 2 ^ s ≤ hi := Nat.div_mul_le_self _ _
  have hw : IntKind.u64.wrap ((hi : Int) / 2 ^ s * 2 ^ s) = ((hi / 2 ^ s * 2 ^ s : Nat) : Int) := by
    rw [shr_int, IntKind.wrap_u64]
    have : ((hi / 2 ^ s : Nat) : Int) * 2 ^ s = ((hi / 2 ^ s * 2 ^ s : Nat) : Int) := by simp
    rw [this]; omega
  by_cases hd : hi / 2 ^ s * 2 ^ s = hi
  · have hb : (IntKind.u64.wrap ((hi : Int) / 2 ^ s * 2 ^ s) != (hi : Int)) = false := by rw [hw, hd]; simp
    have HD := Lib.hid hd
    clear hd hw hle
    go_wp2_with fail
    refine (bits_Mul64 x pl hx hpl _).mono ?_
    rintro e w' ⟨rfl, rfl⟩
    rw [H2.out]
    have hdec : decide ((mid : Int) < (mid2 : Int)) = decide (mid < mid2) := by simp
    go_wp2_with fail
    refine (bool2_u64 _ _).mono ?_
    rintro e w' ⟨rfl, rfl⟩
    go_wp2_with fail
    all_goals go_quiet ((go_at_call 303; exact Calls.quiet_of_same (bool2_u64' _ _)))
    all_goals go_wp2
    all_goals (go_ret; refine ⟨ret_int ?_, _, rfl⟩; rw [HV.out, if_neg (fun h => h HD.out)])
    all_goals (refine or_close _ _ _ _ ?_ ?_ ?_ ?_)
    all_goals first
      | (rw [IntKind.wrap_u64, show ((hi : Int) - 1) % 18446744073709551616 = ((hi + 18446744073709551616 - 1) % 18446744073709551616 : Nat) from by omega, shr_int]; rw [if_pos (by assumption)]; done)
      | (rw [shr_int, if_neg (by omega), Nat.sub_zero, Nat.add_mod_right, Nat.mod_eq_of_lt hhi]; done)
      | (exact Nat.lt_of_le_of_lt (Nat.div_le_self _ _) (Nat.mod_lt _ (by omega)))
      | (split <;> omega)
      | (simp only [IntKind.wrap_u64] at *; split <;> omega)
  · have hb : (IntKind.u64.wrap ((hi : Int) / 2 ^ s * 2 ^ s) != (hi : Int)) = true := by rw [hw]; exact bne_iff_ne.2 (fun h => hd (Int.ofNat_inj.1 h))
    have HD := Lib.hid hd
    clear hd hw hle
    go_wp2_with fail
    go_ret
    rw [HV.out, if_pos HD.out, shr_int]
    have h1 : hi / 2 ^ s < 18446744073709551616 := Nat.lt_of_le_of_lt (Nat.div_le_self _ _) hhi
    exact ⟨ret_int (bits_or_u64_nat (hi / 2 ^ s) 1 h1 (by omega)), 0, rfl⟩
theorem log10Pow2 (x : Int) (w : World) (h0 : -2000 ≤ x) (h1 : x ≤ 2000) :
    Calls Tryz.prog 252 #[.int .i64 x] w fun e w' => e = .returned (.int .i64 (x * 78913 / 262144)) ∧ w = w' := by
  go_enter Tryz.func252, Tryz.ntmps252
  go_wp2
  go_ret
  exact ⟨rfl, rfl⟩
theorem log2Pow10 (x : Int) (w : World) (h0 : -2000 ≤ x) (h1 : x ≤ 2000) :
    Calls Tryz.prog 279 #[.int .i64 x] w fun e w' => e = .returned (.int .i64 (x * 108853 / 32768)) ∧ w = w' := by
  go_enter Tryz.func279, Tryz.ntmps279
  go_wp2
  go_ret
  exact ⟨rfl, rfl⟩
theorem skewed (x : Int) (w : World) (h0 : -2000 ≤ x) (h1 : x ≤ 2000) :
    Calls Tryz.prog 277 #[.int .i64 x] w fun e w' => e = .returned (.int .i64 ((x * 631305 - 261663) / 2097152)) ∧ w = w' := by
  go_enter Tryz.func277, Tryz.ntmps277
  go_wp2
  go_ret
  exact ⟨rfl, rfl⟩
theorem unr_ceil (x : Nat) (w : World) (h : x < 18446744073709551616) :
    Calls Tryz.prog 282 #[.int .u64 x] w fun e w' => e = .returned (.int .u64 ((x + 3) % 18446744073709551616 / 4 : Nat)) ∧ w = w' := by
  go_enter Tryz.func282, Tryz.ntmps282
  go_wp2
  go_ret
  exact ⟨ret_int (by rw [IntKind.wrap_u64]; omega), rfl⟩
theorem unr_floor (x : Nat) (w : World) (h : x < 18446744073709551616) :
    Calls Tryz.prog 283 #[.int .u64 x] w fun e w' => e = .returned (.int .u64 (x / 4 : Nat)) ∧ w = w' := by
  go_enter Tryz.func283, Tryz.ntmps283
  go_wp2
  go_ret
  exact ⟨ret_int (by omega), rfl⟩
theorem unr_round (x : Nat) (w : World) (h : x < 18446744073709551616) :
    Calls Tryz.prog 284 #[.int .u64 x] w fun e w' => e = .returned (.int .u64 (((x + 1) % 18446744073709551616 + x / 4 % 2) % 18446744073709551616 / 4 : Nat)) ∧ w = w' := by
  have h1 := and_one_u64 (x / 4 : Nat) (by omega) (by omega)
  have h2 : (((x / 4 : Nat) : Int)) = (x : Int) / 4 := by omega
  rw [h2] at h1
  clear h2
  go_enter Tryz.func284, Tryz.ntmps284
  go_wp2
  go_ret
  exact ⟨ret_int (by simp only [IntKind.wrap_u64, Int.natCast_ediv, Int.natCast_emod, Int.natCast_add]; rfl), rfl⟩
theorem unr_nudge (x : Nat) (d : Int) (w : World) (h : x < 18446744073709551616) :
    Calls Tryz.prog 281 #[.int .u64 x, .int .i64 d] w fun e w' => e = .returned (.int .u64 ((x + d) % 18446744073709551616)) ∧ w = w' := by
  go_enter Tryz.func281, Tryz.ntmps281
  go_wp2
  go_ret
  exact ⟨ret_int (by simp only [IntKind.wrap_u64]; omega), rfl⟩
theorem prescale_any (b : Nat) (e p lp : Int) (w : World) (T : Tabs w) (a0 a1 a2 : Value) (hb : w.heap[b]? = some (.cells #[a0, a1, a2] 308 (0, 0))) (h0 : -348 ≤ p) (h1 : p ≤ 347) (he0 : -4000 ≤ e) (he1 : e ≤ 4000) (hl0 : -4000 ≤ lp) (hl1 : lp ≤ 4000) :
    Calls Tryz.prog 278 #[.pointer (some ⟨b, 0, none⟩), .int .i64 e, .int .i64 p, .int .i64 lp] w fun e' w' => e' = .returned (.tuple #[]) ∧ ((w.setCell ⟨b, 0, none⟩ (.int .u64 (p10 p).1)).setCell ⟨b, 1, none⟩ (.int .u64 (p10 p).2)).setCell ⟨b, 2, none⟩ (.int .i64 (-(e + lp + 3))) = w' := by
  have c0 : w.cell? ⟨b, 0, none⟩ = some a0 := by simp [World.cell?, hb]
  have c1 : w.cell? ⟨b, 1, none⟩ = some a1 := by simp [World.cell?, hb]
  have c2 : w.cell? ⟨b, 2, none⟩ = some a2 := by simp [World.cell?, hb]
  have f0 : w.frozen? ⟨b, 0, none⟩ = false := by simp [World.frozen?, hb]
  have f1 : w.frozen? ⟨b, 1, none⟩ = false := by simp [World.frozen?, hb]
  have f2 : w.frozen? ⟨b, 2, none⟩ = false := by simp [World.frozen?, hb]
  obtain ⟨t0, t1⟩ := T.p10 _ _ (p10_row p h0 h1)
  obtain ⟨k, hk⟩ : ∃ k : Nat, (k : Int) = p + 348 := ⟨(p + 348).toNat, by omega⟩
  rw [show (p + 348).toNat = k from by omega] at t0 t1
  obtain ⟨P, hP⟩ : ∃ P, P = p10 p := ⟨_, rfl⟩
  rw [← hP] at t0 t1 ⊢
  clear hP
  obtain rfl : p = (k : Int) - 348 := by omega
  have hk2 : k < 696 := by omega
  clear hk h0 h1
  go_enter Tryz.func278, Tryz.ntmps278
  go_wp2
  go_end0
  exact ⟨rfl, rfl⟩
theorem numDigits_any (u : Nat) (h2 : u < 18446744073709551616) (w : World) (T : Tabs w) :
    Calls Tryz.prog 229 #[.int .u64 u] w fun e w' => e = .returned (.int .i64 (if u = 0 then 0 else Lib.nDigits u : Nat)) ∧ ∃ n, w' = w.drewN n := by
  by_cases h0 : u = 0
  · subst h0
    have t0 : w.cell? ⟨7, 0, none⟩ = some (.int .u64 1) := T.u10.cell g_u10 0 (by decide)
    go_enter Tryz.func229, Tryz.ntmps229
    go_wp2_with fail
    refine (Tryz.bits_Len64 0 _ (by omega) (by omega)).mono ?_
    rintro e _ ⟨rfl, rfl⟩
    rw [show ((Lib.bitLen (0 : Int).toNat : Nat) : Int) = 0 from by decide]
    go_wp2_with fail
    refine (log10Pow2 0 _ (by omega) (by omega)).mono ?_
    rintro e _ ⟨rfl, rfl⟩
    simp only [Int.zero_mul, Int.zero_ediv]
    go_wp2_with fail
    refine (Tryz.internal_strconv_bool2_int _ _).mono ?_
    rintro e _ ⟨rfl, rfl⟩
    go_wp2_with fail
    go_ret
    exact ⟨rfl, 0, rfl⟩
  · rw [if_neg h0]
    refine (Tryz.internal_strconv_numDigits u (by omega) h2 w T.u10).mono ?_
    rintro e w' ⟨rfl, rfl⟩
    exact ⟨rfl, 0, rfl⟩
end Go.Proofs.YtgdfmpanaapdjaaGreatDoor
