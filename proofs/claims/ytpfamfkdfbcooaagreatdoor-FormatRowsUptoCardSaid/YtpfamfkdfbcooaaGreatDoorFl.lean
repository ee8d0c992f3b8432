/- In one text: Contracts of the small functions of Go's float printing: powers, rounding, the scaled product.; Contract of Go's shortFloat[float64].; Contract of Go's setDigits. -/
import Derived.Test.YtpfamfkdfbcooaaGreatDoorTabs
import Derived.Test.YtpfamfkdfbcooaaGreatDoorFlr
set_option linter.unusedVariables false
set_option linter.unusedSimpArgs false
/- Contracts of the small functions of Go's float printing: powers, rounding, the scaled product. -/
namespace Go.Proofs.YtpfamfkdfbcooaaGreatDoor
open Go Go.RowKit Go.Proofs

theorem bits_Mul64 (x y : Nat) (hx : x < 18446744073709551616) (hy : y < 18446744073709551616) (w : World) :
    Calls Tryz.prog 155 #[.int .u64 x, .int .u64 y] w fun e w' => e = .returned (.tuple #[.int .u64 ((x * y / 18446744073709551616 : Nat) : Int), .int .u64 ((x * y % 18446744073709551616 : Nat) : Int)]) ∧ w = w' := (Tryz.bits_Mul64 x y hx hy w).mono fun _ _ h => ⟨h.1, h.2.symm⟩

theorem or_close (A B : Nat) (a b : Int) (ha : a = (A : Int)) (hb : b = (B : Int)) (hA : A < 18446744073709551616) (hB : B < 18446744073709551616) : bits BinOp.or IntKind.u64 a b = ((A ||| B : Nat) : Int) := by
  rw [ha, hb]; exact bits_or_u64_nat A B hA hB

theorem ret_int {k : IntKind} {a b : Int} (h : a = b) : Ending.returned (.int k a) = .returned (.int k b) := by rw [h]

theorem bool2_u64 (b : Bool) (w : World) :
    Calls Tryz.prog 234 #[.bool b] w fun e w' => e = .returned (.int .u64 (if b then 1 else 0)) ∧ w = w' := by
  cases b
  all_goals
    go_enter Tryz.func234, Tryz.ntmps234
    go_wp2
    go_ret
    exact ⟨rfl, rfl⟩

theorem bool2_u64' (b : Bool) (w : World) :
    Calls Tryz.prog 234 #[.bool b] w fun e w' => e = .returned (.int .u64 (if b then 1 else 0)) ∧ w' = w := (bool2_u64 b w).mono fun _ _ h => ⟨h.1, h.2.symm⟩

theorem uscale_any (x ph pl b : Nat) (s0 : Int) (w : World) (hx : x < 18446744073709551616) (hph : ph < 18446744073709551616) (hpl : pl < 18446744073709551616) (c0 : w.cell? ⟨b, 0, none⟩ = some (.int .u64 ph)) (c1 : w.cell? ⟨b, 1, none⟩ = some (.int .u64 pl)) (c2 : w.cell? ⟨b, 2, none⟩ = some (.int .i64 s0)) :
    Calls Tryz.prog 218 #[.int .u64 x, .pointer (some ⟨b, 0, none⟩)] w fun e w' => e = .returned (.int .u64 (uscaleF x ph pl (s0 % 64).toNat)) ∧ ∃ n, w' = w.drewN n := by
  have h63 := and63 s0
  obtain ⟨s, hs⟩ : ∃ s : Nat, (s : Int) = s0 % 64 := ⟨(s0 % 64).toNat, by omega⟩
  rw [← hs] at h63
  rw [show (s0 % 64).toNat = s from by omega]
  have hs64 : s < 64 := by omega
  clear hs
  have hhi := mulHi_lt x ph hx hph
  have hm2 := mulHi_lt x pl hx hpl
  have hmid : x * ph % 18446744073709551616 < 18446744073709551616 := Nat.mod_lt _ (by omega)
  go_enter Tryz.func218, Tryz.ntmps218
  go_wp2_with fail
  refine (bits_Mul64 x ph hx hph _).mono ?_
  rintro e w' ⟨rfl, rfl⟩
  obtain ⟨hi, hhid⟩ : ∃ hi, x * ph / 18446744073709551616 = hi := ⟨_, rfl⟩
  obtain ⟨mid, hmidd⟩ : ∃ mid, x * ph % 18446744073709551616 = mid := ⟨_, rfl⟩
  obtain ⟨mid2, hmid2⟩ : ∃ mid2, x * pl / 18446744073709551616 = mid2 := ⟨_, rfl⟩
  have HV : Hid (uscaleF x ph pl s = if hi / 2 ^ s * 2 ^ s ≠ hi then (hi / 2 ^ s) ||| 1 else ((hi + 18446744073709551616 - (if mid < mid2 then 1 else 0)) % 18446744073709551616 / 2 ^ s) ||| (if 1 < (mid + 18446744073709551616 - mid2) % 18446744073709551616 then 1 else 0)) := by
    refine Lib.hid ?_
    subst hhid hmidd hmid2
    rfl
  rw [hhid, hmidd]
  rw [hhid] at hhi
  rw [hmidd] at hmid
  rw [hmid2] at hm2
  have H2 := Lib.hid hmid2
  clear hhid hmidd hmid2
  have hle : hi / 2 ^ s * 2 ^ s ≤ hi := Nat.div_mul_le_self _ _
  have hw : IntKind.u64.wrap ((hi : Int) / 2 ^ s * 2 ^ s) = ((hi / 2 ^ s * 2 ^ s : Nat) : Int) := by
    rw [shr_int, IntKind.wrap_u64]
    have : ((hi / 2 ^ s : Nat) : Int) * 2 ^ s = ((hi / 2 ^ s * 2 ^ s : Nat) : Int) := by simp
    rw [this]; omega
  by_cases hd : hi / 2 ^ s * 2 ^ s = hi
  · have hb : (IntKind.u64.wrap ((hi : Int) / 2 ^ s * 2 ^ s) != (hi : Int)) = false := by rw [hw, hd]; simp
    have HD := Lib.hid hd
    clear hd hw hle
    go_wp2_with fail
    refine (bits_Mul64 x pl hx hpl _).mono ?_
    rintro e w' ⟨rfl, rfl⟩
    rw [H2.out]
    have hdec : decide ((mid : Int) < (mid2 : Int)) = decide (mid < mid2) := by simp
    go_wp2_with fail
    refine (bool2_u64 _ _).mono ?_
    rintro e w' ⟨rfl, rfl⟩
    go_wp2_with fail
    all_goals go_quiet ((go_at_call 234; exact Calls.quiet_of_same (bool2_u64' _ _)))
    all_goals go_wp2
    all_goals (go_ret; refine ⟨ret_int ?_, _, rfl⟩; rw [HV.out, if_neg (fun h => h HD.out)])
    all_goals (refine or_close _ _ _ _ ?_ ?_ ?_ ?_)
    all_goals first
      | (rw [IntKind.wrap_u64, show ((hi : Int) - 1) % 18446744073709551616 = ((hi + 18446744073709551616 - 1) % 18446744073709551616 : Nat) from by omega, shr_int]; rw [if_pos (by assumption)]; done)
      | (rw [shr_int, if_neg (by omega), Nat.sub_zero, Nat.add_mod_right, Nat.mod_eq_of_lt hhi]; done)
      | (exact Nat.lt_of_le_of_lt (Nat.div_le_self _ _) (Nat.mod_lt _ (by omega)))
      | (split <;> omega)
      | (simp only [IntKind.wrap_u64] at *; split <;> omega)
  · have hb : (IntKind.u64.wrap ((hi : Int) / 2 ^ s * 2 ^ s) != (hi : Int)) = true := by rw [hw]; exact bne_iff_ne.2 (fun h => hd (Int.ofNat_inj.1 h))
    have HD := Lib.hid hd
    clear hd hw hle
    go_wp2_with fail
    go_ret
    rw [HV.out, if_pos HD.out, shr_int]
    have h1 : hi / 2 ^ s < 18446744073709551616 := Nat.lt_of_le_of_lt (Nat.div_le_self _ _) hhi
    exact ⟨ret_int (bits_or_u64_nat (hi / 2 ^ s) 1 h1 (by omega)), 0, rfl⟩
theorem log10Pow2 (x : Int) (w : World) (h0 : -2000 ≤ x) (h1 : x ≤ 2000) :
    Calls Tryz.prog 193 #[.int .i64 x] w fun e w' => e = .returned (.int .i64 (x * 78913 / 262144)) ∧ w = w' := by
  go_enter Tryz.func193, Tryz.ntmps193
  go_wp2
  go_ret
  exact ⟨rfl, rfl⟩
theorem log2Pow10 (x : Int) (w : World) (h0 : -2000 ≤ x) (h1 : x ≤ 2000) :
    Calls Tryz.prog 217 #[.int .i64 x] w fun e w' => e = .returned (.int .i64 (x * 108853 / 32768)) ∧ w = w' := by
  go_enter Tryz.func217, Tryz.ntmps217
  go_wp2
  go_ret
  exact ⟨rfl, rfl⟩
theorem skewed (x : Int) (w : World) (h0 : -2000 ≤ x) (h1 : x ≤ 2000) :
    Calls Tryz.prog 215 #[.int .i64 x] w fun e w' => e = .returned (.int .i64 ((x * 631305 - 261663) / 2097152)) ∧ w = w' := by
  go_enter Tryz.func215, Tryz.ntmps215
  go_wp2
  go_ret
  exact ⟨rfl, rfl⟩
theorem unr_ceil (x : Nat) (w : World) (h : x < 18446744073709551616) :
    Calls Tryz.prog 220 #[.int .u64 x] w fun e w' => e = .returned (.int .u64 ((x + 3) % 18446744073709551616 / 4 : Nat)) ∧ w = w' := by
  go_enter Tryz.func220, Tryz.ntmps220
  go_wp2
  go_ret
  exact ⟨ret_int (by rw [IntKind.wrap_u64]; omega), rfl⟩
theorem unr_floor (x : Nat) (w : World) (h : x < 18446744073709551616) :
    Calls Tryz.prog 221 #[.int .u64 x] w fun e w' => e = .returned (.int .u64 (x / 4 : Nat)) ∧ w = w' := by
  go_enter Tryz.func221, Tryz.ntmps221
  go_wp2
  go_ret
  exact ⟨ret_int (by omega), rfl⟩
theorem unr_round (x : Nat) (w : World) (h : x < 18446744073709551616) :
    Calls Tryz.prog 222 #[.int .u64 x] w fun e w' => e = .returned (.int .u64 (((x + 1) % 18446744073709551616 + x / 4 % 2) % 18446744073709551616 / 4 : Nat)) ∧ w = w' := by
  have h1 := and_one_u64 (x / 4 : Nat) (by omega) (by omega)
  have h2 : (((x / 4 : Nat) : Int)) = (x : Int) / 4 := by omega
  rw [h2] at h1
  clear h2
  go_enter Tryz.func222, Tryz.ntmps222
  go_wp2
  go_ret
  exact ⟨ret_int (by simp only [IntKind.wrap_u64, Int.natCast_ediv, Int.natCast_emod, Int.natCast_add]; rfl), rfl⟩
theorem unr_nudge (x : Nat) (d : Int) (w : World) (h : x < 18446744073709551616) :
    Calls Tryz.prog 219 #[.int .u64 x, .int .i64 d] w fun e w' => e = .returned (.int .u64 ((x + d) % 18446744073709551616)) ∧ w = w' := by
  go_enter Tryz.func219, Tryz.ntmps219
  go_wp2
  go_ret
  exact ⟨ret_int (by simp only [IntKind.wrap_u64]; omega), rfl⟩
theorem prescale_any (b : Nat) (e p lp : Int) (w : World) (T : Tabs w) (a0 a1 a2 : Value) (hb : w.heap[b]? = some (.cells #[a0, a1, a2] 250 (0, 0))) (h0 : -348 ≤ p) (h1 : p ≤ 347) (he0 : -4000 ≤ e) (he1 : e ≤ 4000) (hl0 : -4000 ≤ lp) (hl1 : lp ≤ 4000) :
    Calls Tryz.prog 216 #[.pointer (some ⟨b, 0, none⟩), .int .i64 e, .int .i64 p, .int .i64 lp] w fun e' w' => e' = .returned (.tuple #[]) ∧ ((w.setCell ⟨b, 0, none⟩ (.int .u64 (p10 p).1)).setCell ⟨b, 1, none⟩ (.int .u64 (p10 p).2)).setCell ⟨b, 2, none⟩ (.int .i64 (-(e + lp + 3))) = w' := by
  have c0 : w.cell? ⟨b, 0, none⟩ = some a0 := by simp [World.cell?, hb]
  have c1 : w.cell? ⟨b, 1, none⟩ = some a1 := by simp [World.cell?, hb]
  have c2 : w.cell? ⟨b, 2, none⟩ = some a2 := by simp [World.cell?, hb]
  have f0 : w.frozen? ⟨b, 0, none⟩ = false := by simp [World.frozen?, hb]
  have f1 : w.frozen? ⟨b, 1, none⟩ = false := by simp [World.frozen?, hb]
  have f2 : w.frozen? ⟨b, 2, none⟩ = false := by simp [World.frozen?, hb]
  obtain ⟨t0, t1⟩ := T.p10 _ _ (p10_row p h0 h1)
  obtain ⟨k, hk⟩ : ∃ k : Nat, (k : Int) = p + 348 := ⟨(p + 348).toNat, by omega⟩
  rw [show (p + 348).toNat = k from by omega] at t0 t1
  obtain ⟨P, hP⟩ : ∃ P, P = p10 p := ⟨_, rfl⟩
  rw [← hP] at t0 t1 ⊢
  clear hP
  obtain rfl : p = (k : Int) - 348 := by omega
  have hk2 : k < 696 := by omega
  clear hk h0 h1
  go_enter Tryz.func216, Tryz.ntmps216
  go_wp2
  go_end0
  exact ⟨rfl, rfl⟩
theorem numDigits_any (u : Nat) (h2 : u < 18446744073709551616) (w : World) (T : Tabs w) :
    Calls Tryz.prog 182 #[.int .u64 u] w fun e w' => e = .returned (.int .i64 (if u = 0 then 0 else Lib.nDigits u : Nat)) ∧ ∃ n, w' = w.drewN n := by
  by_cases h0 : u = 0
  · subst h0
    have t0 : w.cell? ⟨7, 0, none⟩ = some (.int .u64 1) := T.u10.cell g_u10 0 (by decide)
    go_enter Tryz.func182, Tryz.ntmps182
    go_wp2_with fail
    refine (Tryz.bits_Len64 0 _ (by omega) (by omega)).mono ?_
    rintro e _ ⟨rfl, rfl⟩
    rw [show ((Lib.bitLen (0 : Int).toNat : Nat) : Int) = 0 from by decide]
    go_wp2_with fail
    refine (log10Pow2 0 _ (by omega) (by omega)).mono ?_
    rintro e _ ⟨rfl, rfl⟩
    simp only [Int.zero_mul, Int.zero_ediv]
    go_wp2_with fail
    refine (Tryz.internal_strconv_bool2_int _ _).mono ?_
    rintro e _ ⟨rfl, rfl⟩
    go_wp2_with fail
    go_ret
    exact ⟨rfl, 0, rfl⟩
  · rw [if_neg h0]
    refine (Tryz.internal_strconv_numDigits u (by omega) h2 w T.u10).mono ?_
    rintro e w' ⟨rfl, rfl⟩
    exact ⟨rfl, 0, rfl⟩
end Go.Proofs.YtpfamfkdfbcooaaGreatDoor
/- Contract of Go's shortFloat[float64]. -/
namespace Go.Proofs.YtpfamfkdfbcooaaGreatDoor
open Go Go.RowKit Go.Proofs

theorem ret_two {k l : IntKind} {a b c d : Int} (h : a = b) (h2 : c = d) : Ending.returned (.tuple #[.int k a, .int l c]) = .returned (.tuple #[.int k b, .int l d]) := by rw [h, h2]

def ShortPost (w : World) (m : Nat) (e : Int) (x : Ending) (w' : World) : Prop :=
  x = .returned (.tuple #[.int .u64 (shortF m e).1, .int .i64 (shortF m e).2]) ∧ Below w.heap.size w w'

theorem cells_three {w : World} {b : Nat} {a0 a1 a2 : Value} {t : TypeId} {fz : Nat × Nat} (h : w.heap[b]? = some (.cells #[a0, a1, a2] t fz)) : w.cell? ⟨b, 0, none⟩ = some a0 ∧ w.cell? ⟨b, 1, none⟩ = some a1 ∧ w.cell? ⟨b, 2, none⟩ = some a2 := by
  simp [World.cell?, h]

theorem alloc_set3 (w : World) (a0 a1 a2 b0 b1 b2 : Value) (t : TypeId) : (((w.alloc (.cells #[a0, a1, a2] t)).setCell ⟨w.heap.size, 0, none⟩ b0).setCell ⟨w.heap.size, 1, none⟩ b1).setCell ⟨w.heap.size, 2, none⟩ b2 = w.alloc (.cells #[b0, b1, b2] t) := by
  rw [World.setCell_alloc_at _ _ _ _ _ rfl, World.setCell_alloc_at _ _ _ _ _ rfl, World.setCell_alloc_at _ _ _ _ _ rfl]
  rfl

set_option maxRecDepth 100000 in
set_option maxHeartbeats 1000000 in
theorem short_1 (m : Nat) (e : Int) (w : World) (T : Tabs w) (hm0 : 9223372036854775808 ≤ m) (hm : m + 1024 < 18446744073709551616) (he1 : e ≤ 960) (h1 : m = 9223372036854775808) (h2 : -1085 < e) :
    Calls Tryz.prog 198 #[.int .u64 m, .int .i64 e] w (ShortPost w m e) := by
  have HM1 := Lib.hid h1
  have d0 : ((m : Int) == 9223372036854775808) = true := by rw [h1]; rfl
  clear h1
  have d1 : decide (-1085 < e) = true := by simpa using h2
  have ha := and1 ((m : Int) / 2048)
  go_enter Tryz.func198, Tryz.ntmps198
  go_wp2_with fail
  refine (skewed _ _ (by omega) (by omega)).mono ?_
  rintro e' _ ⟨rfl, rfl⟩
  go_wp2_with fail
  obtain ⟨p, hp⟩ : ∃ p, p = -(((e + 11) * 631305 - 261663) / 2097152) := ⟨_, rfl⟩
  rw [← hp]
  have hp0 : -348 ≤ p := by omega
  have hp1 : p ≤ 347 := by omega
  obtain ⟨mn, hmn⟩ : ∃ mn : Nat, mn = m - 512 := ⟨_, rfl⟩
  obtain ⟨mx, hmx⟩ : ∃ mx : Nat, mx = m + 1024 := ⟨_, rfl⟩
  obtain ⟨odd, hodd⟩ : ∃ odd : Nat, odd = m / 2048 % 2 := ⟨_, rfl⟩
  have hmnl : mn < 18446744073709551616 := by omega
  have hmxl : mx < 18446744073709551616 := by omega
  have hol : odd ≤ 1 := by rw [hodd]; exact Nat.le_of_lt_succ (Nat.mod_lt _ (by decide))
  have hml : m < 18446744073709551616 := by omega
  rw [show (m : Int) - 512 = (mn : Int) from by omega, show (m : Int) + 1024 = (mx : Int) from by omega, show (m : Int) / 2048 % 2 = (odd : Int) from by omega]
  have HS : Hid (shortF m e = shortR m 11 mn mx e p) := by
    refine Lib.hid ?_
    subst hmn hmx hp; unfold shortF; rw [if_pos ⟨HM1.out, h2⟩]
  have HO : Hid (odd = m / 2 ^ 11 % 2) := Lib.hid (by rw [hodd])
  clear hmn hmx hodd hp d1 d0 ha HM1
  refine (log2Pow10 p _ (by omega) (by omega)).mono ?_
  rintro e' _ ⟨rfl, rfl⟩
  go_wp2_with fail
  have TA := T.next ((Below.refl _ _).alloc (Nat.le_refl _) (Obj.cells #[Value.int IntKind.u64 0, Value.int IntKind.u64 0, Value.int IntKind.i64 0] 250))
  refine (prescale_any _ e p _ _ TA _ _ _ (heap_alloc_new w _) (by omega) (by omega) (by omega) (by omega) (by omega) (by omega)).mono ?_
  rintro e' w1 ⟨rfl, hw1⟩
  rw [alloc_set3] at hw1
  have hb1 : Below w.heap.size w w1 := by rw [← hw1]; exact (Below.refl _ _).alloc (Nat.le_refl _) _
  have hh1 : w1.heap[w.heap.size]? = some (.cells #[.int .u64 (p10 p).1, .int .u64 (p10 p).2, .int .i64 (-(e + p * 108853 / 32768 + 3))] 250 (0, 0)) := by rw [← hw1]; exact heap_alloc_new w _
  obtain ⟨c0, c1, c2⟩ := cells_three hh1
  have Hw1 := Lib.hid hw1
  clear hw1 TA hh1
  obtain ⟨q0, q1⟩ := p10_lt p
  obtain ⟨un, hun⟩ : ∃ un, un = usc mn e p := ⟨_, rfl⟩
  obtain ⟨ux, hux⟩ : ∃ ux, ux = usc mx e p := ⟨_, rfl⟩
  obtain ⟨um, hum⟩ : ∃ um, um = usc m e p := ⟨_, rfl⟩
  have hunl : un < 18446744073709551616 := hun ▸ usc_lt mn e p hmnl
  have huxl : ux < 18446744073709551616 := hux ▸ usc_lt mx e p hmxl
  have huml : um < 18446744073709551616 := hum ▸ usc_lt m e p hml
  have HN := Lib.hid hun
  have HX := Lib.hid hux
  have HM := Lib.hid hum
  clear hun hux hum
  have hodd1 : ((odd : Int)) ≤ 1 := by omega
  go_wp2_with fail
  refine (uscale_any mn _ _ _ _ _ hmnl q0 q1 c0 c1 c2).mono ?_
  rintro e' w2 ⟨rfl, n2, rfl⟩
  rw [show uscaleF mn (p10 p).1 (p10 p).2 ((-(e + p * 108853 / 32768 + 3)) % 64).toNat = un from HN.out.symm]
  go_wp2_with fail
  refine (unr_nudge un odd _ hunl).mono ?_
  rintro e' _ ⟨rfl, rfl⟩
  obtain ⟨t1, ht1⟩ : ∃ t1 : Nat, t1 = (un + odd) % 18446744073709551616 := ⟨_, rfl⟩
  rw [show (((un : Int) + (odd : Int)) % 18446744073709551616) = (t1 : Int) from by omega]
  have ht1l : t1 < 18446744073709551616 := by omega
  have HT1 := Lib.hid ht1
  clear ht1
  go_wp2_with fail
  refine (unr_ceil t1 _ ht1l).mono ?_
  rintro e' _ ⟨rfl, rfl⟩
  obtain ⟨dn, hdn⟩ : ∃ dn, dn = (t1 + 3) % 18446744073709551616 / 4 := ⟨_, rfl⟩
  rw [← hdn]
  have hdnl : dn < 4611686018427387904 := by omega
  have HDN : Hid (dn = ((un + odd) % 18446744073709551616 + 3) % 18446744073709551616 / 4) := Lib.hid (by rw [hdn, HT1.out])
  clear hdn HT1 ht1l
  go_wp2_with fail
  refine (uscale_any mx _ _ _ _ _ hmxl q0 q1 (by simpa using c0) (by simpa using c1) (by simpa using c2)).mono ?_
  rintro e' w2 ⟨rfl, n3, rfl⟩
  rw [show uscaleF mx (p10 p).1 (p10 p).2 ((-(e + p * 108853 / 32768 + 3)) % 64).toNat = ux from HX.out.symm]
  go_wp2_with fail
  refine (unr_nudge ux (-odd) _ huxl).mono ?_
  rintro e' _ ⟨rfl, rfl⟩
  obtain ⟨t2, ht2⟩ : ∃ t2 : Nat, t2 = (ux + 18446744073709551616 - odd) % 18446744073709551616 := ⟨_, rfl⟩
  rw [show (((ux : Int) + -(odd : Int)) % 18446744073709551616) = (t2 : Int) from by omega]
  have ht2l : t2 < 18446744073709551616 := by omega
  have HT2 := Lib.hid ht2
  clear ht2
  go_wp2_with fail
  refine (unr_floor t2 _ ht2l).mono ?_
  rintro e' _ ⟨rfl, rfl⟩
  obtain ⟨dx, hdx⟩ : ∃ dx, dx = t2 / 4 := ⟨_, rfl⟩
  rw [← hdx]
  have hdxl : dx < 4611686018427387904 := by omega
  have HDX : Hid (dx = (ux + 18446744073709551616 - odd) % 18446744073709551616 / 4) := Lib.hid (by rw [hdx, HT2.out])
  clear hdx HT2 ht2l
  have hE : Hid (shortF m e = if dn ≤ dx / 10 * 10 then (dx / 10, 1 - p) else if dn < dx then (((um + 1) % 18446744073709551616 + um / 4 % 2) % 18446744073709551616 / 4, -p) else (dn, -p)) := by
    refine Lib.hid ?_
    rw [HS.out, HDN.out, HDX.out, HN.out, HX.out, HM.out, HO.out]
    rfl
  clear HS HDN HDX HN HX HO
  by_cases k1 : dn ≤ dx / 10 * 10
  · have K1 : Hid (shortF m e = (dx / 10, 1 - p)) := Lib.hid (by rw [hE.out, if_pos k1])
    clear hE
    go_wp2_with fail
    go_ret2
    refine ⟨?_, below_drewN hb1 _⟩
    rw [K1.out]
    exact ret_two (by omega) (by omega)
  · by_cases k2 : dn < dx
    · have K1 : Hid (shortF m e = (((um + 1) % 18446744073709551616 + um / 4 % 2) % 18446744073709551616 / 4, -p)) := Lib.hid (by rw [hE.out, if_neg k1, if_pos k2])
      clear hE
      go_wp2_with fail
      refine (uscale_any m _ _ _ _ _ hml q0 q1 (by simpa using c0) (by simpa using c1) (by simpa using c2)).mono ?_
      rintro e' w2 ⟨rfl, n4, rfl⟩
      rw [show uscaleF m (p10 p).1 (p10 p).2 ((-(e + p * 108853 / 32768 + 3)) % 64).toNat = um from HM.out.symm]
      go_wp2_with fail
      refine (unr_round _ _ huml).mono ?_
      rintro e' _ ⟨rfl, rfl⟩
      obtain ⟨rr, hrr⟩ : ∃ rr, rr = ((um + 1) % 18446744073709551616 + um / 4 % 2) % 18446744073709551616 / 4 := ⟨_, rfl⟩
      rw [← hrr]
      have HRR := Lib.hid hrr
      clear hrr
      go_wp2_with fail
      go_ret2
      refine ⟨?_, below_drewN hb1 _⟩
      rw [K1.out]
      exact ret_two (by rw [← HRR.out]) rfl
    · have K1 : Hid (shortF m e = (dn, -p)) := Lib.hid (by rw [hE.out, if_neg k1, if_neg k2])
      clear hE
      go_wp2_with fail
      go_ret2
      refine ⟨?_, below_drewN hb1 _⟩
      rw [K1.out]
      exact ret_two rfl rfl

set_option maxRecDepth 100000 in
set_option maxHeartbeats 1000000 in
theorem short_2a (m : Nat) (e : Int) (w : World) (T : Tabs w) (hm0 : 9223372036854775808 ≤ m) (hm : m + 1024 < 18446744073709551616) (he1 : e ≤ 960) (h1 : m = 9223372036854775808) (h0 : ¬ -1085 < e) (h2 : -1085 ≤ e) :
    Calls Tryz.prog 198 #[.int .u64 m, .int .i64 e] w (ShortPost w m e) := by
  have HM1 := Lib.hid h1
  have d0 : ((m : Int) == 9223372036854775808) = true := by rw [h1]; rfl
  have d1 : decide (-1085 < e) = false := by simpa using h0
  clear h1
  have d2 : decide (-1085 ≤ e) = true := by simpa using h2
  have ha := and1 ((m : Int) / 2048)
  go_enter Tryz.func198, Tryz.ntmps198
  go_wp2_with fail
  refine (log10Pow2 _ _ (by omega) (by omega)).mono ?_
  rintro e' _ ⟨rfl, rfl⟩
  go_wp2_with fail
  obtain ⟨p, hp⟩ : ∃ p, p = -((e + 11) * 78913 / 262144) := ⟨_, rfl⟩
  rw [← hp]
  have hp0 : -348 ≤ p := by omega
  have hp1 : p ≤ 347 := by omega
  obtain ⟨mn, hmn⟩ : ∃ mn : Nat, mn = m - 1024 := ⟨_, rfl⟩
  obtain ⟨mx, hmx⟩ : ∃ mx : Nat, mx = m + 1024 := ⟨_, rfl⟩
  obtain ⟨odd, hodd⟩ : ∃ odd : Nat, odd = m / 2048 % 2 := ⟨_, rfl⟩
  have hmnl : mn < 18446744073709551616 := by omega
  have hmxl : mx < 18446744073709551616 := by omega
  have hol : odd ≤ 1 := by rw [hodd]; exact Nat.le_of_lt_succ (Nat.mod_lt _ (by decide))
  have hml : m < 18446744073709551616 := by omega
  rw [show (m : Int) - 1024 = (mn : Int) from by omega, show (m : Int) + 1024 = (mx : Int) from by omega, show (m : Int) / 2048 % 2 = (odd : Int) from by omega]
  have HS : Hid (shortF m e = shortR m 11 mn mx e p) := by
    refine Lib.hid ?_
    subst hmn hmx hp; unfold shortF; rw [if_neg (fun h => absurd h.2 (by omega)), if_pos h2]
  have HO : Hid (odd = m / 2 ^ 11 % 2) := Lib.hid (by rw [hodd])
  clear hmn hmx hodd hp d1 d0 d2 ha HM1
  refine (log2Pow10 p _ (by omega) (by omega)).mono ?_
  rintro e' _ ⟨rfl, rfl⟩
  go_wp2_with fail
  have TA := T.next ((Below.refl _ _).alloc (Nat.le_refl _) (Obj.cells #[Value.int IntKind.u64 0, Value.int IntKind.u64 0, Value.int IntKind.i64 0] 250))
  refine (prescale_any _ e p _ _ TA _ _ _ (heap_alloc_new w _) (by omega) (by omega) (by omega) (by omega) (by omega) (by omega)).mono ?_
  rintro e' w1 ⟨rfl, hw1⟩
  rw [alloc_set3] at hw1
  have hb1 : Below w.heap.size w w1 := by rw [← hw1]; exact (Below.refl _ _).alloc (Nat.le_refl _) _
  have hh1 : w1.heap[w.heap.size]? = some (.cells #[.int .u64 (p10 p).1, .int .u64 (p10 p).2, .int .i64 (-(e + p * 108853 / 32768 + 3))] 250 (0, 0)) := by rw [← hw1]; exact heap_alloc_new w _
  obtain ⟨c0, c1, c2⟩ := cells_three hh1
  have Hw1 := Lib.hid hw1
  clear hw1 TA hh1
  obtain ⟨q0, q1⟩ := p10_lt p
  obtain ⟨un, hun⟩ : ∃ un, un = usc mn e p := ⟨_, rfl⟩
  obtain ⟨ux, hux⟩ : ∃ ux, ux = usc mx e p := ⟨_, rfl⟩
  obtain ⟨um, hum⟩ : ∃ um, um = usc m e p := ⟨_, rfl⟩
  have hunl : un < 18446744073709551616 := hun ▸ usc_lt mn e p hmnl
  have huxl : ux < 18446744073709551616 := hux ▸ usc_lt mx e p hmxl
  have huml : um < 18446744073709551616 := hum ▸ usc_lt m e p hml
  have HN := Lib.hid hun
  have HX := Lib.hid hux
  have HM := Lib.hid hum
  clear hun hux hum
  have hodd1 : ((odd : Int)) ≤ 1 := by omega
  go_wp2_with fail
  refine (uscale_any mn _ _ _ _ _ hmnl q0 q1 c0 c1 c2).mono ?_
  rintro e' w2 ⟨rfl, n2, rfl⟩
  rw [show uscaleF mn (p10 p).1 (p10 p).2 ((-(e + p * 108853 / 32768 + 3)) % 64).toNat = un from HN.out.symm]
  go_wp2_with fail
  refine (unr_nudge un odd _ hunl).mono ?_
  rintro e' _ ⟨rfl, rfl⟩
  obtain ⟨t1, ht1⟩ : ∃ t1 : Nat, t1 = (un + odd) % 18446744073709551616 := ⟨_, rfl⟩
  rw [show (((un : Int) + (odd : Int)) % 18446744073709551616) = (t1 : Int) from by omega]
  have ht1l : t1 < 18446744073709551616 := by omega
  have HT1 := Lib.hid ht1
  clear ht1
  go_wp2_with fail
  refine (unr_ceil t1 _ ht1l).mono ?_
  rintro e' _ ⟨rfl, rfl⟩
  obtain ⟨dn, hdn⟩ : ∃ dn, dn = (t1 + 3) % 18446744073709551616 / 4 := ⟨_, rfl⟩
  rw [← hdn]
  have hdnl : dn < 4611686018427387904 := by omega
  have HDN : Hid (dn = ((un + odd) % 18446744073709551616 + 3) % 18446744073709551616 / 4) := Lib.hid (by rw [hdn, HT1.out])
  clear hdn HT1 ht1l
  go_wp2_with fail
  refine (uscale_any mx _ _ _ _ _ hmxl q0 q1 (by simpa using c0) (by simpa using c1) (by simpa using c2)).mono ?_
  rintro e' w2 ⟨rfl, n3, rfl⟩
  rw [show uscaleF mx (p10 p).1 (p10 p).2 ((-(e + p * 108853 / 32768 + 3)) % 64).toNat = ux from HX.out.symm]
  go_wp2_with fail
  refine (unr_nudge ux (-odd) _ huxl).mono ?_
  rintro e' _ ⟨rfl, rfl⟩
  obtain ⟨t2, ht2⟩ : ∃ t2 : Nat, t2 = (ux + 18446744073709551616 - odd) % 18446744073709551616 := ⟨_, rfl⟩
  rw [show (((ux : Int) + -(odd : Int)) % 18446744073709551616) = (t2 : Int) from by omega]
  have ht2l : t2 < 18446744073709551616 := by omega
  have HT2 := Lib.hid ht2
  clear ht2
  go_wp2_with fail
  refine (unr_floor t2 _ ht2l).mono ?_
  rintro e' _ ⟨rfl, rfl⟩
  obtain ⟨dx, hdx⟩ : ∃ dx, dx = t2 / 4 := ⟨_, rfl⟩
  rw [← hdx]
  have hdxl : dx < 4611686018427387904 := by omega
  have HDX : Hid (dx = (ux + 18446744073709551616 - odd) % 18446744073709551616 / 4) := Lib.hid (by rw [hdx, HT2.out])
  clear hdx HT2 ht2l
  have hE : Hid (shortF m e = if dn ≤ dx / 10 * 10 then (dx / 10, 1 - p) else if dn < dx then (((um + 1) % 18446744073709551616 + um / 4 % 2) % 18446744073709551616 / 4, -p) else (dn, -p)) := by
    refine Lib.hid ?_
    rw [HS.out, HDN.out, HDX.out, HN.out, HX.out, HM.out, HO.out]
    rfl
  clear HS HDN HDX HN HX HO
  by_cases k1 : dn ≤ dx / 10 * 10
  · have K1 : Hid (shortF m e = (dx / 10, 1 - p)) := Lib.hid (by rw [hE.out, if_pos k1])
    clear hE
    go_wp2_with fail
    go_ret2
    refine ⟨?_, below_drewN hb1 _⟩
    rw [K1.out]
    exact ret_two (by omega) (by omega)
  · by_cases k2 : dn < dx
    · have K1 : Hid (shortF m e = (((um + 1) % 18446744073709551616 + um / 4 % 2) % 18446744073709551616 / 4, -p)) := Lib.hid (by rw [hE.out, if_neg k1, if_pos k2])
      clear hE
      go_wp2_with fail
      refine (uscale_any m _ _ _ _ _ hml q0 q1 (by simpa using c0) (by simpa using c1) (by simpa using c2)).mono ?_
      rintro e' w2 ⟨rfl, n4, rfl⟩
      rw [show uscaleF m (p10 p).1 (p10 p).2 ((-(e + p * 108853 / 32768 + 3)) % 64).toNat = um from HM.out.symm]
      go_wp2_with fail
      refine (unr_round _ _ huml).mono ?_
      rintro e' _ ⟨rfl, rfl⟩
      obtain ⟨rr, hrr⟩ : ∃ rr, rr = ((um + 1) % 18446744073709551616 + um / 4 % 2) % 18446744073709551616 / 4 := ⟨_, rfl⟩
      rw [← hrr]
      have HRR := Lib.hid hrr
      clear hrr
      go_wp2_with fail
      go_ret2
      refine ⟨?_, below_drewN hb1 _⟩
      rw [K1.out]
      exact ret_two (by rw [← HRR.out]) rfl
    · have K1 : Hid (shortF m e = (dn, -p)) := Lib.hid (by rw [hE.out, if_neg k1, if_neg k2])
      clear hE
      go_wp2_with fail
      go_ret2
      refine ⟨?_, below_drewN hb1 _⟩
      rw [K1.out]
      exact ret_two rfl rfl

set_option maxRecDepth 100000 in
set_option maxHeartbeats 1000000 in
theorem short_2b (m : Nat) (e : Int) (w : World) (T : Tabs w) (hm0 : 9223372036854775808 ≤ m) (hm : m + 1024 < 18446744073709551616) (he1 : e ≤ 960) (h1 : m ≠ 9223372036854775808) (h2 : -1085 ≤ e) :
    Calls Tryz.prog 198 #[.int .u64 m, .int .i64 e] w (ShortPost w m e) := by
  have HM1 := Lib.hid h1
  have d0 : ((m : Int) == 9223372036854775808) = false := beq_eq_false_iff_ne.2 (by omega)
  have d1 : True := trivial
  clear h1
  have d2 : decide (-1085 ≤ e) = true := by simpa using h2
  have ha := and1 ((m : Int) / 2048)
  go_enter Tryz.func198, Tryz.ntmps198
  go_wp2_with fail
  refine (log10Pow2 _ _ (by omega) (by omega)).mono ?_
  rintro e' _ ⟨rfl, rfl⟩
  go_wp2_with fail
  obtain ⟨p, hp⟩ : ∃ p, p = -((e + 11) * 78913 / 262144) := ⟨_, rfl⟩
  rw [← hp]
  have hp0 : -348 ≤ p := by omega
  have hp1 : p ≤ 347 := by omega
  obtain ⟨mn, hmn⟩ : ∃ mn : Nat, mn = m - 1024 := ⟨_, rfl⟩
  obtain ⟨mx, hmx⟩ : ∃ mx : Nat, mx = m + 1024 := ⟨_, rfl⟩
  obtain ⟨odd, hodd⟩ : ∃ odd : Nat, odd = m / 2048 % 2 := ⟨_, rfl⟩
  have hmnl : mn < 18446744073709551616 := by omega
  have hmxl : mx < 18446744073709551616 := by omega
  have hol : odd ≤ 1 := by rw [hodd]; exact Nat.le_of_lt_succ (Nat.mod_lt _ (by decide))
  have hml : m < 18446744073709551616 := by omega
  rw [show (m : Int) - 1024 = (mn : Int) from by omega, show (m : Int) + 1024 = (mx : Int) from by omega, show (m : Int) / 2048 % 2 = (odd : Int) from by omega]
  have HS : Hid (shortF m e = shortR m 11 mn mx e p) := by
    refine Lib.hid ?_
    subst hmn hmx hp; unfold shortF; rw [if_neg (fun h => HM1.out h.1), if_pos h2]
  have HO : Hid (odd = m / 2 ^ 11 % 2) := Lib.hid (by rw [hodd])
  clear hmn hmx hodd hp d1 d0 d2 ha HM1
  refine (log2Pow10 p _ (by omega) (by omega)).mono ?_
  rintro e' _ ⟨rfl, rfl⟩
  go_wp2_with fail
  have TA := T.next ((Below.refl _ _).alloc (Nat.le_refl _) (Obj.cells #[Value.int IntKind.u64 0, Value.int IntKind.u64 0, Value.int IntKind.i64 0] 250))
  refine (prescale_any _ e p _ _ TA _ _ _ (heap_alloc_new w _) (by omega) (by omega) (by omega) (by omega) (by omega) (by omega)).mono ?_
  rintro e' w1 ⟨rfl, hw1⟩
  rw [alloc_set3] at hw1
  have hb1 : Below w.heap.size w w1 := by rw [← hw1]; exact (Below.refl _ _).alloc (Nat.le_refl _) _
  have hh1 : w1.heap[w.heap.size]? = some (.cells #[.int .u64 (p10 p).1, .int .u64 (p10 p).2, .int .i64 (-(e + p * 108853 / 32768 + 3))] 250 (0, 0)) := by rw [← hw1]; exact heap_alloc_new w _
  obtain ⟨c0, c1, c2⟩ := cells_three hh1
  have Hw1 := Lib.hid hw1
  clear hw1 TA hh1
  obtain ⟨q0, q1⟩ := p10_lt p
  obtain ⟨un, hun⟩ : ∃ un, un = usc mn e p := ⟨_, rfl⟩
  obtain ⟨ux, hux⟩ : ∃ ux, ux = usc mx e p := ⟨_, rfl⟩
  obtain ⟨um, hum⟩ : ∃ um, um = usc m e p := ⟨_, rfl⟩
  have hunl : un < 18446744073709551616 := hun ▸ usc_lt mn e p hmnl
  have huxl : ux < 18446744073709551616 := hux ▸ usc_lt mx e p hmxl
  have huml : um < 18446744073709551616 := hum ▸ usc_lt m e p hml
  have HN := Lib.hid hun
  have HX := Lib.hid hux
  have HM := Lib.hid hum
  clear hun hux hum
  have hodd1 : ((odd : Int)) ≤ 1 := by omega
  go_wp2_with fail
  refine (uscale_any mn _ _ _ _ _ hmnl q0 q1 c0 c1 c2).mono ?_
  rintro e' w2 ⟨rfl, n2, rfl⟩
  rw [show uscaleF mn (p10 p).1 (p10 p).2 ((-(e + p * 108853 / 32768 + 3)) % 64).toNat = un from HN.out.symm]
  go_wp2_with fail
  refine (unr_nudge un odd _ hunl).mono ?_
  rintro e' _ ⟨rfl, rfl⟩
  obtain ⟨t1, ht1⟩ : ∃ t1 : Nat, t1 = (un + odd) % 18446744073709551616 := ⟨_, rfl⟩
  rw [show (((un : Int) + (odd : Int)) % 18446744073709551616) = (t1 : Int) from by omega]
  have ht1l : t1 < 18446744073709551616 := by omega
  have HT1 := Lib.hid ht1
  clear ht1
  go_wp2_with fail
  refine (unr_ceil t1 _ ht1l).mono ?_
  rintro e' _ ⟨rfl, rfl⟩
  obtain ⟨dn, hdn⟩ : ∃ dn, dn = (t1 + 3) % 18446744073709551616 / 4 := ⟨_, rfl⟩
  rw [← hdn]
  have hdnl : dn < 4611686018427387904 := by omega
  have HDN : Hid (dn = ((un + odd) % 18446744073709551616 + 3) % 18446744073709551616 / 4) := Lib.hid (by rw [hdn, HT1.out])
  clear hdn HT1 ht1l
  go_wp2_with fail
  refine (uscale_any mx _ _ _ _ _ hmxl q0 q1 (by simpa using c0) (by simpa using c1) (by simpa using c2)).mono ?_
  rintro e' w2 ⟨rfl, n3, rfl⟩
  rw [show uscaleF mx (p10 p).1 (p10 p).2 ((-(e + p * 108853 / 32768 + 3)) % 64).toNat = ux from HX.out.symm]
  go_wp2_with fail
  refine (unr_nudge ux (-odd) _ huxl).mono ?_
  rintro e' _ ⟨rfl, rfl⟩
  obtain ⟨t2, ht2⟩ : ∃ t2 : Nat, t2 = (ux + 18446744073709551616 - odd) % 18446744073709551616 := ⟨_, rfl⟩
  rw [show (((ux : Int) + -(odd : Int)) % 18446744073709551616) = (t2 : Int) from by omega]
  have ht2l : t2 < 18446744073709551616 := by omega
  have HT2 := Lib.hid ht2
  clear ht2
  go_wp2_with fail
  refine (unr_floor t2 _ ht2l).mono ?_
  rintro e' _ ⟨rfl, rfl⟩
  obtain ⟨dx, hdx⟩ : ∃ dx, dx = t2 / 4 := ⟨_, rfl⟩
  rw [← hdx]
  have hdxl : dx < 4611686018427387904 := by omega
  have HDX : Hid (dx = (ux + 18446744073709551616 - odd) % 18446744073709551616 / 4) := Lib.hid (by rw [hdx, HT2.out])
  clear hdx HT2 ht2l
  have hE : Hid (shortF m e = if dn ≤ dx / 10 * 10 then (dx / 10, 1 - p) else if dn < dx then (((um + 1) % 18446744073709551616 + um / 4 % 2) % 18446744073709551616 / 4, -p) else (dn, -p)) := by
    refine Lib.hid ?_
    rw [HS.out, HDN.out, HDX.out, HN.out, HX.out, HM.out, HO.out]
    rfl
  clear HS HDN HDX HN HX HO
  by_cases k1 : dn ≤ dx / 10 * 10
  · have K1 : Hid (shortF m e = (dx / 10, 1 - p)) := Lib.hid (by rw [hE.out, if_pos k1])
    clear hE
    go_wp2_with fail
    go_ret2
    refine ⟨?_, below_drewN hb1 _⟩
    rw [K1.out]
    exact ret_two (by omega) (by omega)
  · by_cases k2 : dn < dx
    · have K1 : Hid (shortF m e = (((um + 1) % 18446744073709551616 + um / 4 % 2) % 18446744073709551616 / 4, -p)) := Lib.hid (by rw [hE.out, if_neg k1, if_pos k2])
      clear hE
      go_wp2_with fail
      refine (uscale_any m _ _ _ _ _ hml q0 q1 (by simpa using c0) (by simpa using c1) (by simpa using c2)).mono ?_
      rintro e' w2 ⟨rfl, n4, rfl⟩
      rw [show uscaleF m (p10 p).1 (p10 p).2 ((-(e + p * 108853 / 32768 + 3)) % 64).toNat = um from HM.out.symm]
      go_wp2_with fail
      refine (unr_round _ _ huml).mono ?_
      rintro e' _ ⟨rfl, rfl⟩
      obtain ⟨rr, hrr⟩ : ∃ rr, rr = ((um + 1) % 18446744073709551616 + um / 4 % 2) % 18446744073709551616 / 4 := ⟨_, rfl⟩
      rw [← hrr]
      have HRR := Lib.hid hrr
      clear hrr
      go_wp2_with fail
      go_ret2
      refine ⟨?_, below_drewN hb1 _⟩
      rw [K1.out]
      exact ret_two (by rw [← HRR.out]) rfl
    · have K1 : Hid (shortF m e = (dn, -p)) := Lib.hid (by rw [hE.out, if_neg k1, if_neg k2])
      clear hE
      go_wp2_with fail
      go_ret2
      refine ⟨?_, below_drewN hb1 _⟩
      rw [K1.out]
      exact ret_two rfl rfl

set_option maxRecDepth 100000 in
set_option maxHeartbeats 1000000 in
theorem short_3a (m Z Q : Nat) (e : Int) (w : World) (T : Tabs w) (hm0 : 9223372036854775808 ≤ m) (hz0 : 12 ≤ Z) (hz1 : Z ≤ 63) (hQ : Q = 2 ^ (Z - 1)) (hm : m + Q < 18446744073709551616) (he : e = -1074 - Z) (h1 : m = 9223372036854775808) :
    Calls Tryz.prog 198 #[.int .u64 m, .int .i64 e] w (ShortPost w m e) := by
  have he0 : e ≤ -1086 := by omega
  have he1 : -1137 ≤ e := by omega
  have HE := Lib.hid he
  have hez : (11 + (-1085 - e)).toNat = Z := by omega
  clear he
  have d0 : ((m : Int) == 9223372036854775808) = true := by rw [h1]; rfl
  have d1 : decide (-1085 < e) = false := by simp; omega
  clear h1
  have hpw : Q ≤ 4611686018427387904 := by
    have : 2 ^ (Z - 1) ≤ 2 ^ 62 := Nat.pow_le_pow_right (by omega) (by omega)
    rw [hQ]; exact this
  have hwp : IntKind.u64.wrap (2 ^ (Z - 1)) = (Q : Int) := by
    rw [IntKind.wrap_u64, show ((2 : Int) ^ (Z - 1)) = (Q : Int) from by rw [hQ]; simp]
    omega
  obtain ⟨D, hD⟩ : ∃ D, D = m / 2 ^ Z := ⟨_, rfl⟩
  have hdz : D ≤ m / 4096 := by rw [hD]; exact Nat.div_le_div_left (show 2 ^ 12 ≤ 2 ^ Z from Nat.pow_le_pow_right (by omega) hz0) (by omega)
  have hDi : (m : Int) / 2 ^ Z = (D : Int) := by rw [shr_int, hD]
  have ha := and1 (D : Int)
  have HZ := Lib.hid hez
  have HWP := Lib.hid hwp
  have HDI := Lib.hid hDi
  have HQ := Lib.hid hQ
  have HD := Lib.hid hD
  clear hez hwp hDi hQ hD
  go_enter Tryz.func198, Tryz.ntmps198
  go_wp2_with fail
  rw [show e + (11 + (-1085 - e)) = -1074 from by omega]
  refine (log10Pow2 (-1074) _ (by omega) (by omega)).mono ?_
  rintro e' _ ⟨rfl, rfl⟩
  rw [show (-1074 : Int) * 78913 / 262144 = -324 from by decide]
  go_wp2_with fail
  obtain ⟨p, hp⟩ : ∃ p, p = (324 : Int) := ⟨_, rfl⟩
  rw [← hp, HZ.out]
  have hp0 : -348 ≤ p := by omega
  have hp1 : p ≤ 347 := by omega
  have hen : IntKind.u64.wrap ((m : Int) - IntKind.u64.wrap (2 ^ (Z - 1))) = ((m - Q : Nat) : Int) := by rw [HWP.out, IntKind.wrap_u64]; omega
  have heu : IntKind.u64.wrap ((m : Int) + IntKind.u64.wrap (2 ^ (Z - 1))) = ((m + Q : Nat) : Int) := by rw [HWP.out, IntKind.wrap_u64]; omega
  have heo : bits BinOp.and IntKind.i64 (wrap64 ((m : Int) / 2 ^ Z)) 1 = ((D % 2 : Nat) : Int) := by
    rw [HDI.out, IntWalk.wrap64_in _ ⟨by omega, by omega⟩, ha]; omega
  have d1 : True := trivial
  obtain ⟨mn, hmn⟩ : ∃ mn : Nat, mn = m - Q := ⟨_, rfl⟩
  obtain ⟨mx, hmx⟩ : ∃ mx : Nat, mx = m + Q := ⟨_, rfl⟩
  obtain ⟨odd, hodd⟩ : ∃ odd : Nat, odd = D % 2 := ⟨_, rfl⟩
  have hmnl : mn < 18446744073709551616 := by omega
  have hmxl : mx < 18446744073709551616 := by omega
  have hol : odd ≤ 1 := by rw [hodd]; exact Nat.le_of_lt_succ (Nat.mod_lt _ (by decide))
  have hml : m < 18446744073709551616 := by omega
  rw [hen, ← hmn, heu, ← hmx, heo, ← hodd]
  have HS : Hid (shortF m e = shortR m Z mn mx e p) := by
    refine Lib.hid ?_
    have hz : (-1074 - e).toNat = Z := by have := HE.out; clear hen heu heo ha; omega
    subst hmn hmx hp; unfold shortF; rw [if_neg (fun h => absurd h.2 (by omega)), if_neg (by omega), hz, ← HQ.out]
  have HO : Hid (odd = m / 2 ^ Z % 2) := Lib.hid (by rw [hodd, HD.out])
  clear hmn hmx hodd hp d1 d0 HD HDI HQ hen heu heo ha HE HZ HWP hpw hdz hm
  refine (log2Pow10 p _ (by omega) (by omega)).mono ?_
  rintro e' _ ⟨rfl, rfl⟩
  go_wp2_with fail
  have TA := T.next ((Below.refl _ _).alloc (Nat.le_refl _) (Obj.cells #[Value.int IntKind.u64 0, Value.int IntKind.u64 0, Value.int IntKind.i64 0] 250))
  refine (prescale_any _ e p _ _ TA _ _ _ (heap_alloc_new w _) (by omega) (by omega) (by omega) (by omega) (by omega) (by omega)).mono ?_
  rintro e' w1 ⟨rfl, hw1⟩
  rw [alloc_set3] at hw1
  have hb1 : Below w.heap.size w w1 := by rw [← hw1]; exact (Below.refl _ _).alloc (Nat.le_refl _) _
  have hh1 : w1.heap[w.heap.size]? = some (.cells #[.int .u64 (p10 p).1, .int .u64 (p10 p).2, .int .i64 (-(e + p * 108853 / 32768 + 3))] 250 (0, 0)) := by rw [← hw1]; exact heap_alloc_new w _
  obtain ⟨c0, c1, c2⟩ := cells_three hh1
  have Hw1 := Lib.hid hw1
  clear hw1 TA hh1
  obtain ⟨q0, q1⟩ := p10_lt p
  obtain ⟨un, hun⟩ : ∃ un, un = usc mn e p := ⟨_, rfl⟩
  obtain ⟨ux, hux⟩ : ∃ ux, ux = usc mx e p := ⟨_, rfl⟩
  obtain ⟨um, hum⟩ : ∃ um, um = usc m e p := ⟨_, rfl⟩
  have hunl : un < 18446744073709551616 := hun ▸ usc_lt mn e p hmnl
  have huxl : ux < 18446744073709551616 := hux ▸ usc_lt mx e p hmxl
  have huml : um < 18446744073709551616 := hum ▸ usc_lt m e p hml
  have HN := Lib.hid hun
  have HX := Lib.hid hux
  have HM := Lib.hid hum
  clear hun hux hum
  have hodd1 : ((odd : Int)) ≤ 1 := by omega
  go_wp2_with fail
  refine (uscale_any mn _ _ _ _ _ hmnl q0 q1 c0 c1 c2).mono ?_
  rintro e' w2 ⟨rfl, n2, rfl⟩
  rw [show uscaleF mn (p10 p).1 (p10 p).2 ((-(e + p * 108853 / 32768 + 3)) % 64).toNat = un from HN.out.symm]
  go_wp2_with fail
  refine (unr_nudge un odd _ hunl).mono ?_
  rintro e' _ ⟨rfl, rfl⟩
  obtain ⟨t1, ht1⟩ : ∃ t1 : Nat, t1 = (un + odd) % 18446744073709551616 := ⟨_, rfl⟩
  rw [show (((un : Int) + (odd : Int)) % 18446744073709551616) = (t1 : Int) from by omega]
  have ht1l : t1 < 18446744073709551616 := by omega
  have HT1 := Lib.hid ht1
  clear ht1
  go_wp2_with fail
  refine (unr_ceil t1 _ ht1l).mono ?_
  rintro e' _ ⟨rfl, rfl⟩
  obtain ⟨dn, hdn⟩ : ∃ dn, dn = (t1 + 3) % 18446744073709551616 / 4 := ⟨_, rfl⟩
  rw [← hdn]
  have hdnl : dn < 4611686018427387904 := by omega
  have HDN : Hid (dn = ((un + odd) % 18446744073709551616 + 3) % 18446744073709551616 / 4) := Lib.hid (by rw [hdn, HT1.out])
  clear hdn HT1 ht1l
  go_wp2_with fail
  refine (uscale_any mx _ _ _ _ _ hmxl q0 q1 (by simpa using c0) (by simpa using c1) (by simpa using c2)).mono ?_
  rintro e' w2 ⟨rfl, n3, rfl⟩
  rw [show uscaleF mx (p10 p).1 (p10 p).2 ((-(e + p * 108853 / 32768 + 3)) % 64).toNat = ux from HX.out.symm]
  go_wp2_with fail
  refine (unr_nudge ux (-odd) _ huxl).mono ?_
  rintro e' _ ⟨rfl, rfl⟩
  obtain ⟨t2, ht2⟩ : ∃ t2 : Nat, t2 = (ux + 18446744073709551616 - odd) % 18446744073709551616 := ⟨_, rfl⟩
  rw [show (((ux : Int) + -(odd : Int)) % 18446744073709551616) = (t2 : Int) from by omega]
  have ht2l : t2 < 18446744073709551616 := by omega
  have HT2 := Lib.hid ht2
  clear ht2
  go_wp2_with fail
  refine (unr_floor t2 _ ht2l).mono ?_
  rintro e' _ ⟨rfl, rfl⟩
  obtain ⟨dx, hdx⟩ : ∃ dx, dx = t2 / 4 := ⟨_, rfl⟩
  rw [← hdx]
  have hdxl : dx < 4611686018427387904 := by omega
  have HDX : Hid (dx = (ux + 18446744073709551616 - odd) % 18446744073709551616 / 4) := Lib.hid (by rw [hdx, HT2.out])
  clear hdx HT2 ht2l
  have hE : Hid (shortF m e = if dn ≤ dx / 10 * 10 then (dx / 10, 1 - p) else if dn < dx then (((um + 1) % 18446744073709551616 + um / 4 % 2) % 18446744073709551616 / 4, -p) else (dn, -p)) := by
    refine Lib.hid ?_
    rw [HS.out, HDN.out, HDX.out, HN.out, HX.out, HM.out, HO.out]
    rfl
  clear HS HDN HDX HN HX HO
  by_cases k1 : dn ≤ dx / 10 * 10
  · have K1 : Hid (shortF m e = (dx / 10, 1 - p)) := Lib.hid (by rw [hE.out, if_pos k1])
    clear hE
    go_wp2_with fail
    go_ret2
    refine ⟨?_, below_drewN hb1 _⟩
    rw [K1.out]
    exact ret_two (by omega) (by omega)
  · by_cases k2 : dn < dx
    · have K1 : Hid (shortF m e = (((um + 1) % 18446744073709551616 + um / 4 % 2) % 18446744073709551616 / 4, -p)) := Lib.hid (by rw [hE.out, if_neg k1, if_pos k2])
      clear hE
      go_wp2_with fail
      refine (uscale_any m _ _ _ _ _ hml q0 q1 (by simpa using c0) (by simpa using c1) (by simpa using c2)).mono ?_
      rintro e' w2 ⟨rfl, n4, rfl⟩
      rw [show uscaleF m (p10 p).1 (p10 p).2 ((-(e + p * 108853 / 32768 + 3)) % 64).toNat = um from HM.out.symm]
      go_wp2_with fail
      refine (unr_round _ _ huml).mono ?_
      rintro e' _ ⟨rfl, rfl⟩
      obtain ⟨rr, hrr⟩ : ∃ rr, rr = ((um + 1) % 18446744073709551616 + um / 4 % 2) % 18446744073709551616 / 4 := ⟨_, rfl⟩
      rw [← hrr]
      have HRR := Lib.hid hrr
      clear hrr
      go_wp2_with fail
      go_ret2
      refine ⟨?_, below_drewN hb1 _⟩
      rw [K1.out]
      exact ret_two (by rw [← HRR.out]) rfl
    · have K1 : Hid (shortF m e = (dn, -p)) := Lib.hid (by rw [hE.out, if_neg k1, if_neg k2])
      clear hE
      go_wp2_with fail
      go_ret2
      refine ⟨?_, below_drewN hb1 _⟩
      rw [K1.out]
      exact ret_two rfl rfl

set_option maxRecDepth 100000 in
set_option maxHeartbeats 1000000 in
theorem short_3b (m Z Q : Nat) (e : Int) (w : World) (T : Tabs w) (hm0 : 9223372036854775808 ≤ m) (hz0 : 12 ≤ Z) (hz1 : Z ≤ 63) (hQ : Q = 2 ^ (Z - 1)) (hm : m + Q < 18446744073709551616) (he : e = -1074 - Z) (h1 : m ≠ 9223372036854775808) :
    Calls Tryz.prog 198 #[.int .u64 m, .int .i64 e] w (ShortPost w m e) := by
  have he0 : e ≤ -1086 := by omega
  have he1 : -1137 ≤ e := by omega
  have HE := Lib.hid he
  have hez : (11 + (-1085 - e)).toNat = Z := by omega
  clear he
  have d0 : ((m : Int) == 9223372036854775808) = false := beq_eq_false_iff_ne.2 (by omega)
  clear h1
  have hpw : Q ≤ 4611686018427387904 := by
    have : 2 ^ (Z - 1) ≤ 2 ^ 62 := Nat.pow_le_pow_right (by omega) (by omega)
    rw [hQ]; exact this
  have hwp : IntKind.u64.wrap (2 ^ (Z - 1)) = (Q : Int) := by
    rw [IntKind.wrap_u64, show ((2 : Int) ^ (Z - 1)) = (Q : Int) from by rw [hQ]; simp]
    omega
  obtain ⟨D, hD⟩ : ∃ D, D = m / 2 ^ Z := ⟨_, rfl⟩
  have hdz : D ≤ m / 4096 := by rw [hD]; exact Nat.div_le_div_left (show 2 ^ 12 ≤ 2 ^ Z from Nat.pow_le_pow_right (by omega) hz0) (by omega)
  have hDi : (m : Int) / 2 ^ Z = (D : Int) := by rw [shr_int, hD]
  have ha := and1 (D : Int)
  have HZ := Lib.hid hez
  have HWP := Lib.hid hwp
  have HDI := Lib.hid hDi
  have HQ := Lib.hid hQ
  have HD := Lib.hid hD
  clear hez hwp hDi hQ hD
  go_enter Tryz.func198, Tryz.ntmps198
  go_wp2_with fail
  rw [show e + (11 + (-1085 - e)) = -1074 from by omega]
  refine (log10Pow2 (-1074) _ (by omega) (by omega)).mono ?_
  rintro e' _ ⟨rfl, rfl⟩
  rw [show (-1074 : Int) * 78913 / 262144 = -324 from by decide]
  go_wp2_with fail
  obtain ⟨p, hp⟩ : ∃ p, p = (324 : Int) := ⟨_, rfl⟩
  rw [← hp, HZ.out]
  have hp0 : -348 ≤ p := by omega
  have hp1 : p ≤ 347 := by omega
  have hen : IntKind.u64.wrap ((m : Int) - IntKind.u64.wrap (2 ^ (Z - 1))) = ((m - Q : Nat) : Int) := by rw [HWP.out, IntKind.wrap_u64]; omega
  have heu : IntKind.u64.wrap ((m : Int) + IntKind.u64.wrap (2 ^ (Z - 1))) = ((m + Q : Nat) : Int) := by rw [HWP.out, IntKind.wrap_u64]; omega
  have heo : bits BinOp.and IntKind.i64 (wrap64 ((m : Int) / 2 ^ Z)) 1 = ((D % 2 : Nat) : Int) := by
    rw [HDI.out, IntWalk.wrap64_in _ ⟨by omega, by omega⟩, ha]; omega
  have d1 : True := trivial
  obtain ⟨mn, hmn⟩ : ∃ mn : Nat, mn = m - Q := ⟨_, rfl⟩
  obtain ⟨mx, hmx⟩ : ∃ mx : Nat, mx = m + Q := ⟨_, rfl⟩
  obtain ⟨odd, hodd⟩ : ∃ odd : Nat, odd = D % 2 := ⟨_, rfl⟩
  have hmnl : mn < 18446744073709551616 := by omega
  have hmxl : mx < 18446744073709551616 := by omega
  have hol : odd ≤ 1 := by rw [hodd]; exact Nat.le_of_lt_succ (Nat.mod_lt _ (by decide))
  have hml : m < 18446744073709551616 := by omega
  rw [hen, ← hmn, heu, ← hmx, heo, ← hodd]
  have HS : Hid (shortF m e = shortR m Z mn mx e p) := by
    refine Lib.hid ?_
    have hz : (-1074 - e).toNat = Z := by have := HE.out; clear hen heu heo ha; omega
    subst hmn hmx hp; unfold shortF; rw [if_neg (fun h => absurd h.2 (by omega)), if_neg (by omega), hz, ← HQ.out]
  have HO : Hid (odd = m / 2 ^ Z % 2) := Lib.hid (by rw [hodd, HD.out])
  clear hmn hmx hodd hp d1 d0 HD HDI HQ hen heu heo ha HE HZ HWP hpw hdz hm
  refine (log2Pow10 p _ (by omega) (by omega)).mono ?_
  rintro e' _ ⟨rfl, rfl⟩
  go_wp2_with fail
  have TA := T.next ((Below.refl _ _).alloc (Nat.le_refl _) (Obj.cells #[Value.int IntKind.u64 0, Value.int IntKind.u64 0, Value.int IntKind.i64 0] 250))
  refine (prescale_any _ e p _ _ TA _ _ _ (heap_alloc_new w _) (by omega) (by omega) (by omega) (by omega) (by omega) (by omega)).mono ?_
  rintro e' w1 ⟨rfl, hw1⟩
  rw [alloc_set3] at hw1
  have hb1 : Below w.heap.size w w1 := by rw [← hw1]; exact (Below.refl _ _).alloc (Nat.le_refl _) _
  have hh1 : w1.heap[w.heap.size]? = some (.cells #[.int .u64 (p10 p).1, .int .u64 (p10 p).2, .int .i64 (-(e + p * 108853 / 32768 + 3))] 250 (0, 0)) := by rw [← hw1]; exact heap_alloc_new w _
  obtain ⟨c0, c1, c2⟩ := cells_three hh1
  have Hw1 := Lib.hid hw1
  clear hw1 TA hh1
  obtain ⟨q0, q1⟩ := p10_lt p
  obtain ⟨un, hun⟩ : ∃ un, un = usc mn e p := ⟨_, rfl⟩
  obtain ⟨ux, hux⟩ : ∃ ux, ux = usc mx e p := ⟨_, rfl⟩
  obtain ⟨um, hum⟩ : ∃ um, um = usc m e p := ⟨_, rfl⟩
  have hunl : un < 18446744073709551616 := hun ▸ usc_lt mn e p hmnl
  have huxl : ux < 18446744073709551616 := hux ▸ usc_lt mx e p hmxl
  have huml : um < 18446744073709551616 := hum ▸ usc_lt m e p hml
  have HN := Lib.hid hun
  have HX := Lib.hid hux
  have HM := Lib.hid hum
  clear hun hux hum
  have hodd1 : ((odd : Int)) ≤ 1 := by omega
  go_wp2_with fail
  refine (uscale_any mn _ _ _ _ _ hmnl q0 q1 c0 c1 c2).mono ?_
  rintro e' w2 ⟨rfl, n2, rfl⟩
  rw [show uscaleF mn (p10 p).1 (p10 p).2 ((-(e + p * 108853 / 32768 + 3)) % 64).toNat = un from HN.out.symm]
  go_wp2_with fail
  refine (unr_nudge un odd _ hunl).mono ?_
  rintro e' _ ⟨rfl, rfl⟩
  obtain ⟨t1, ht1⟩ : ∃ t1 : Nat, t1 = (un + odd) % 18446744073709551616 := ⟨_, rfl⟩
  rw [show (((un : Int) + (odd : Int)) % 18446744073709551616) = (t1 : Int) from by omega]
  have ht1l : t1 < 18446744073709551616 := by omega
  have HT1 := Lib.hid ht1
  clear ht1
  go_wp2_with fail
  refine (unr_ceil t1 _ ht1l).mono ?_
  rintro e' _ ⟨rfl, rfl⟩
  obtain ⟨dn, hdn⟩ : ∃ dn, dn = (t1 + 3) % 18446744073709551616 / 4 := ⟨_, rfl⟩
  rw [← hdn]
  have hdnl : dn < 4611686018427387904 := by omega
  have HDN : Hid (dn = ((un + odd) % 18446744073709551616 + 3) % 18446744073709551616 / 4) := Lib.hid (by rw [hdn, HT1.out])
  clear hdn HT1 ht1l
  go_wp2_with fail
  refine (uscale_any mx _ _ _ _ _ hmxl q0 q1 (by simpa using c0) (by simpa using c1) (by simpa using c2)).mono ?_
  rintro e' w2 ⟨rfl, n3, rfl⟩
  rw [show uscaleF mx (p10 p).1 (p10 p).2 ((-(e + p * 108853 / 32768 + 3)) % 64).toNat = ux from HX.out.symm]
  go_wp2_with fail
  refine (unr_nudge ux (-odd) _ huxl).mono ?_
  rintro e' _ ⟨rfl, rfl⟩
  obtain ⟨t2, ht2⟩ : ∃ t2 : Nat, t2 = (ux + 18446744073709551616 - odd) % 18446744073709551616 := ⟨_, rfl⟩
  rw [show (((ux : Int) + -(odd : Int)) % 18446744073709551616) = (t2 : Int) from by omega]
  have ht2l : t2 < 18446744073709551616 := by omega
  have HT2 := Lib.hid ht2
  clear ht2
  go_wp2_with fail
  refine (unr_floor t2 _ ht2l).mono ?_
  rintro e' _ ⟨rfl, rfl⟩
  obtain ⟨dx, hdx⟩ : ∃ dx, dx = t2 / 4 := ⟨_, rfl⟩
  rw [← hdx]
  have hdxl : dx < 4611686018427387904 := by omega
  have HDX : Hid (dx = (ux + 18446744073709551616 - odd) % 18446744073709551616 / 4) := Lib.hid (by rw [hdx, HT2.out])
  clear hdx HT2 ht2l
  have hE : Hid (shortF m e = if dn ≤ dx / 10 * 10 then (dx / 10, 1 - p) else if dn < dx then (((um + 1) % 18446744073709551616 + um / 4 % 2) % 18446744073709551616 / 4, -p) else (dn, -p)) := by
    refine Lib.hid ?_
    rw [HS.out, HDN.out, HDX.out, HN.out, HX.out, HM.out, HO.out]
    rfl
  clear HS HDN HDX HN HX HO
  by_cases k1 : dn ≤ dx / 10 * 10
  · have K1 : Hid (shortF m e = (dx / 10, 1 - p)) := Lib.hid (by rw [hE.out, if_pos k1])
    clear hE
    go_wp2_with fail
    go_ret2
    refine ⟨?_, below_drewN hb1 _⟩
    rw [K1.out]
    exact ret_two (by omega) (by omega)
  · by_cases k2 : dn < dx
    · have K1 : Hid (shortF m e = (((um + 1) % 18446744073709551616 + um / 4 % 2) % 18446744073709551616 / 4, -p)) := Lib.hid (by rw [hE.out, if_neg k1, if_pos k2])
      clear hE
      go_wp2_with fail
      refine (uscale_any m _ _ _ _ _ hml q0 q1 (by simpa using c0) (by simpa using c1) (by simpa using c2)).mono ?_
      rintro e' w2 ⟨rfl, n4, rfl⟩
      rw [show uscaleF m (p10 p).1 (p10 p).2 ((-(e + p * 108853 / 32768 + 3)) % 64).toNat = um from HM.out.symm]
      go_wp2_with fail
      refine (unr_round _ _ huml).mono ?_
      rintro e' _ ⟨rfl, rfl⟩
      obtain ⟨rr, hrr⟩ : ∃ rr, rr = ((um + 1) % 18446744073709551616 + um / 4 % 2) % 18446744073709551616 / 4 := ⟨_, rfl⟩
      rw [← hrr]
      have HRR := Lib.hid hrr
      clear hrr
      go_wp2_with fail
      go_ret2
      refine ⟨?_, below_drewN hb1 _⟩
      rw [K1.out]
      exact ret_two (by rw [← HRR.out]) rfl
    · have K1 : Hid (shortF m e = (dn, -p)) := Lib.hid (by rw [hE.out, if_neg k1, if_neg k2])
      clear hE
      go_wp2_with fail
      go_ret2
      refine ⟨?_, below_drewN hb1 _⟩
      rw [K1.out]
      exact ret_two rfl rfl

end Go.Proofs.YtpfamfkdfbcooaaGreatDoor
/- Contract of Go's setDigits. -/
namespace Go.Proofs.YtpfamfkdfbcooaaGreatDoor
open Go Go.RowKit Go.Proofs Go.Sort Go.Lib

def encB : UInt8 → Value := fun b => .int .u8 (b.toNat : Int)

def SetPost (w : World) (b d : Nat) (p : Int) (x : Ending) (w' : World) : Prop :=
  x = .returned (.tuple #[.int .i64 ((digs d).length + p), .int .i64 (stripZ (digs d)).length]) ∧ ∃ (n : Nat) (dk : Array UInt8), w' = (putRow encB w b 0 dk).drewN n ∧ dk.toList = digs d

set_option maxRecDepth 100000 in
theorem setDigits_any (b d : Nat) (p : Int) (w : World) (hd : d < 18446744073709551616) (hp0 : -1000 ≤ p) (hp1 : p ≤ 1000) (H : Holds encB w b 0 (Array.replicate 32 0)) :
    Calls Tryz.prog 192 #[.slice (some ⟨b, 0, none⟩) 32 32, .int .u64 d, .int .i64 p, .int .i64 (digs d).length] w (SetPost w b d p) := by
  obtain ⟨hl, hl20⟩ := digs_length d hd
  obtain ⟨L, hL⟩ : ∃ L, L = digs d := ⟨_, rfl⟩
  rw [← hL] at hl hl20 ⊢
  have hp : d < 10 ^ L.length := by
    rw [hl]
    split
    · rename_i h; subst h; decide
    · exact Lib.lt_pow_nDigits d
  have hH : Holds encB w b 0 (Array.replicate L.length 0) := fun j hj => by
    have h2 := H j (by simp at hj ⊢; omega)
    rw [getElem!_pos _ j (by simp at hj ⊢; omega)] at h2
    rw [getElem!_pos _ j hj]
    simpa using h2
  have hfmt := Tryz.internal_strconv_formatBase10 b 0 32 d (Array.replicate L.length 0) w hH (by simpa using hp) hd (by simp; omega)
  rw [Array.size_replicate] at hfmt
  have HH := Lib.hid hH
  have HL := Lib.hid hL
  have Hl := Lib.hid hl
  have Hfmt := Lib.hid hfmt
  clear hH H hL hl hp hfmt
  go_enter Tryz.func192, Tryz.ntmps192
  go_wp2_with fail
  refine Hfmt.out.mono ?_
  rintro e w1 ⟨rfl, n, v', dk, rfl, hF⟩
  have hL := HL.out
  have hl := Hl.out
  have hdk : dk.toList = L := by
    apply List.ext_getElem
    · simp [hF.size]
    · intro j h1 h2
      have hj : j < L.length := h2
      have := hF.done j (Nat.zero_le _) hj
      rw [getElem!_pos dk j (by rw [hF.size]; exact hj)] at this
      have e1 : dk.toList[j] = dk[j] := by simp
      rw [e1, this, hl]
      subst hL
      by_cases h0 : d = 0
      · subst h0; simp [digs] at h2
      · simp only [digs, if_neg h0]
        rw [List.getElem_of_eq (Lib.decDigits_eq d)]
        simp
  have hcell : ∀ j (h : j < L.length), ((putRow encB w b 0 dk).drewN n).cell? ⟨b, j, none⟩ = some (.int .u8 (L[j].toNat : Int)) := fun j h => by
    have hs : j < dk.size := by rw [hF.size]; exact h
    have := cell?_putRow encB w b 0 _ dk HH.out (by rw [hF.size, Array.size_replicate]) j hs
    rw [World.cell?_drewN]
    rw [Nat.zero_add] at this
    rw [this, getElem!_pos dk j hs]
    have : dk[j] = L[j] := by simp [← hdk]
    rw [this]; rfl
  have HP : Hid (∃ (n' : Nat) (dk' : Array UInt8), (putRow encB w b 0 dk).drewN n = (putRow encB w b 0 dk').drewN n' ∧ dk'.toList = digs d) := Lib.hid ⟨n, dk, rfl, hdk.trans hL⟩
  have HS : Hid (∀ k, k ≤ L.length → (∀ j (h : j < L.length), k ≤ j → L[j] = 48) → (k = 0 ∨ ∃ h : k - 1 < L.length, L[k - 1] ≠ 48) → stripZ L = L.take k) := Lib.hid fun k hk h1 h2 => stripZ_take L (L.length - k) k (by omega) h1 h2
  clear hF hL hl hdk
  obtain ⟨w2, hw2⟩ : ∃ w2, w2 = (putRow encB w b 0 dk).drewN n := ⟨_, rfl⟩
  rw [← hw2] at hcell
  have HW := Lib.hid hw2
  have HC := Lib.hid hcell
  rw [show (putRow (fun (b : UInt8) => Value.int IntKind.u8 (b.toNat : Int)) w b 0 dk).drewN n = w2 from hw2.symm]
  clear hw2 hcell
  go_wp2_with fail
  go_loop [3] (fun nd => ∃ k : Nat, k ≤ L.length ∧ nd = .int .i64 k ∧ Hid (∀ j (h : j < L.length), k ≤ j → L[j] = 48)) (fun nd => (RowKit.intOf nd).toNat)
  case atStart => exact ⟨L.length, Nat.le_refl _, rfl, Lib.hid fun j h hj => by omega⟩
  case round =>
    obtain ⟨k, hk, rfl, HK⟩ := hrel
    by_cases k0 : 0 < k
    · have hc := HC.out (k - 1) (by omega)
      by_cases hz : L[k - 1]'(by omega) = 48
      · rw [hz] at hc
        have HZ := Lib.hid hz
        clear hz
        go_wp2
        all_goals go_round
        case rel => exact ⟨k - 1, by omega, by go_num, Lib.hid fun j h hj => by
          by_cases e : j = k - 1
          · subst e; exact HZ.out
          · exact HK.out j h (by omega)⟩
        case measure => simp [RowKit.intOf]; omega
      · have ht : (((L[k - 1]'(by omega)).toNat : Int) == 48) = false := by
          rw [beq_eq_false_iff_ne]
          intro h
          apply hz
          apply UInt8.toNat_inj.1
          have : (48 : UInt8).toNat = 48 := rfl
          omega
        have HT : Hid (stripZ L = L.take k) := Lib.hid (HS.out k hk HK.out (.inr ⟨by omega, hz⟩))
        clear hz
        go_wp2
        go_ret2
        refine ⟨?_, ?_⟩
        · rw [← HL.out, HT.out, List.length_take, Nat.min_eq_left hk]; rfl
        · rw [HW.out]; exact HP.out
    · obtain rfl : k = 0 := by omega
      have HT : Hid (stripZ L = L.take 0) := Lib.hid (HS.out 0 hk HK.out (.inl rfl))
      go_wp2
      go_ret2
      refine ⟨?_, ?_⟩
      · rw [← HL.out, HT.out]; rfl
      · rw [HW.out]; exact HP.out
end Go.Proofs.YtpfamfkdfbcooaaGreatDoor
