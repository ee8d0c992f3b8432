/- In one text: The library's string functions, as number.Digits, power and Text call them.; number.Digits, power, Text: walked. -/
import Derived.Test.YtpfamfkdfbcooaaGreatDoorFn
import Derived.Lib.AppendIntMem
set_option linter.unusedVariables false
set_option linter.unusedSimpArgs false
/- The library's string functions, as number.Digits, power and Text call them. -/
namespace Go.Proofs.YtpfamfkdfbcooaaGreatDoor
open Go Go.RowKit Go.Proofs

theorem drewN_below (w : World) (n : Nat) : Below w.heap.size w (w.drewN n) := below_drewN (Below.refl _ _) n
theorem cutE (l x y : List UInt8) (w : World) (T : Tabs w) (h : Lib.cut l [101] = (x, y, true)) (hl : l.length ≤ 1000) :
    Calls Tryz.prog 132 #[.string ⟨l.toArray⟩, .string ⟨#[101]⟩] w fun e w' => e = .returned (.tuple #[.string ⟨x.toArray⟩, .string ⟨y.toArray⟩, .bool true]) ∧ Below w.heap.size w w' := by
  obtain ⟨m, hm⟩ := T.maxLen
  refine (Tryz.strings_Cut ⟨l.toArray⟩ ⟨#[101]⟩ m w (by show l.length < _; omega) hm).mono ?_
  rintro e w' ⟨rfl, n, rfl⟩
  refine ⟨?_, drewN_below w n⟩
  show Ending.returned (.tuple #[.string ⟨(Lib.cut l [101]).1.toArray⟩, .string ⟨(Lib.cut l [101]).2.1.toArray⟩, .bool (Lib.cut l [101]).2.2]) = _
  rw [h]
theorem dotOut (l x : List UInt8) (w : World) (T : Tabs w) (h : Lib.replace l [46] [] 1 = x) (hl : l.length ≤ 1000) :
    Calls Tryz.prog 135 #[.string ⟨l.toArray⟩, .string ⟨#[46]⟩, .string ⟨#[]⟩, .int .i64 1] w fun e w' => e = .returned (.string ⟨x.toArray⟩) ∧ Below w.heap.size w w' := by
  obtain ⟨m, hm⟩ := T.maxLen
  refine (Tryz.strings_Replace ⟨l.toArray⟩ ⟨#[46]⟩ ⟨#[]⟩ 1 m w (by show l.length < _; omega) hm (by show 1 ≤ 1; omega) (by show l.length + _ * 0 ≤ _; omega)).mono ?_
  rintro e w' ⟨rfl, hb⟩
  refine ⟨?_, hb⟩
  show Ending.returned (.string ⟨(Lib.replace l [46] [] 1).toArray⟩) = _
  rw [h]
theorem bytesWorld_below (w : World) (t : TypeId) (s : ByteArray) : Below w.heap.size w (Lib.bytesWorld w t s) :=
  ⟨by simp [Lib.bytesWorld, World.freeze, World.alloc, World.drew, -World.alloc_eq, -World.drew_eq], by simp [Lib.bytesWorld, World.freeze, World.alloc, World.drew, -World.alloc_eq, -World.drew_eq], by simp [Lib.bytesWorld, World.freeze, World.alloc, World.drew, -World.alloc_eq, -World.drew_eq], by rw [Lib.bytesWorld_size]; omega, fun k hk => Lib.bytesWorld_at_old w t s k hk⟩
theorem atoi_any (l : List UInt8) (n : Int) (w : World) (h : Lib.atoi l = some n) (hl : l.length ≤ 18) :
    Calls Tryz.prog 134 #[.string ⟨l.toArray⟩] w fun e w' => e = .returned (.tuple #[.int .i64 n, .nilIface]) ∧ Below w.heap.size w w' := by
  refine (Tryz.strconv_Atoi ⟨l.toArray⟩ n (by exact hl) (by simpa using h) w).mono ?_
  rintro e w' ⟨rfl, t, rfl⟩
  exact ⟨rfl, bytesWorld_below w _ t⟩
theorem itoa_any (n : Nat) (w : World) (T : Tabs w) (hn : n ≤ 1000000) :
    Calls Tryz.prog 123 #[.int .i64 n] w fun e w' => e = .returned (.string ⟨(Lib.decDigits n).toArray⟩) ∧ Below w.heap.size w w' := by
  refine (Tryz.strconv_Itoa n (by omega) (by omega) w T.u10).mono ?_
  rintro e w' ⟨rfl, k, os, rfl⟩
  refine ⟨by rw [Lib.itoa_nonneg], ?_⟩
  exact Lib.below_grow _ w (Nat.le_refl _) k os
theorem zeros_any (c : Nat) (w : World) (hc : c ≤ 1000000) :
    Calls Tryz.prog 114 #[.string ⟨#[48]⟩, .int .i64 c] w fun e w' => e = .returned (.string ⟨(List.replicate c (48 : UInt8)).toArray⟩) ∧ Below w.heap.size w w' := by
  refine (Tryz.strings_Repeat ⟨#[48]⟩ c w (by omega) (by show 1 * c ≤ _; omega)).mono ?_
  rintro e w' ⟨rfl, hb⟩
  refine ⟨?_, hb⟩
  show Ending.returned (.string ⟨(Lib.repeatL [48] c).toArray⟩) = _
  rw [repeatL_replicate]
end Go.Proofs.YtpfamfkdfbcooaaGreatDoor
/- number.Digits, power, Text: walked. -/
namespace Go.Proofs.YtpfamfkdfbcooaaGreatDoor
open Go Go.RowKit Go.Proofs

theorem format_any (bits : Nat) (w : World) (T : Tabs w) (h0 : 0 < bits) (h1 : bits < 9218868437227405312) :
    Calls Tryz.prog 133 #[.float .f64 bits, .int .u8 101, .int .i64 (-1), .int .i64 64] w fun e w' => e = .returned (.string ⟨(floatT bits).toArray⟩) ∧ Below w.heap.size w w' := by
  go_enter Tryz.func133, Tryz.ntmps133
  go_wp2_with fail
  refine (format_in bits w T h0 h1).mono ?_
  rintro e w' ⟨rfl, hb⟩
  go_wp2_with fail
  go_ret
  exact ⟨rfl, hb⟩
set_option maxRecDepth 100000 in
theorem digits_any (b : Nat) (hb : b < 18446744073709551616) (w : World) (T : Tabs w) (h0 : 0 < b % 9223372036854775808) (h1 : b % 9223372036854775808 < 9218868437227405312) :
    Calls Tryz.prog 112 #[.float .f64 b] w fun e w' => e = .returned (.tuple #[.string ⟨(digT (b % 9223372036854775808)).1.toArray⟩, .int .i64 (digT (b % 9223372036854775808)).2]) ∧ Below w.heap.size w w' := by
  have hz : (FloatKind.f64.format.order b 0 == some .eq) = false := by rw [order_zero b (by omega), decide_eq_false (by omega)]
  have hn : decide (9218868437227405312 < b % 9223372036854775808) = false := decide_eq_false (by omega)
  have hi : decide (b % 9223372036854775808 = 9218868437227405312) = false := decide_eq_false (by omega)
  have hN := fun W => isNaN_any b W
  rw [hn] at hN
  have hI := fun W => isInf_any b hb (by omega) W
  rw [hi] at hI
  have hA := fun W => abs_any b hb W
  obtain ⟨a, ha⟩ : ∃ a, a = b % 9223372036854775808 := ⟨_, rfl⟩
  rw [← ha] at hA h0 h1 ⊢
  clear hn hi ha hb
  obtain ⟨p0, p1, p2, p3⟩ := digF_bounds a h0 h1
  have hcut : Lib.cut (floatT a) [101] = _ := fmtT_cut (digF a).1 (digF a).2 p0
  have hrep := manT_replace (digF a).1 p0
  have hl : (floatT a).length ≤ 1000 := by
    unfold floatT fmtT
    have := expT_length (if (digF a).1 = [] then 0 else (digF a).2 - 1)
    split <;> simp <;> omega
  have hml : (manT (digF a).1).length ≤ 1000 := by unfold manT; split <;> simp <;> omega
  have hex := expT_length (if (digF a).1 = [] then 0 else (digF a).2 - 1)
  have hat := atoi_expT (if (digF a).1 = [] then 0 else (digF a).2 - 1) (by split <;> omega) (by split <;> omega)
  have hT : digT a = ((if (digF a).1 = [] then [48] else (digF a).1), (if (digF a).1 = [] then 0 else (digF a).2 - 1)) := by unfold digT; split <;> rfl
  rw [hT]
  clear hT p0 p1 p2 p3
  obtain ⟨D, hD⟩ : ∃ D, D = (if (digF a).1 = [] then [48] else (digF a).1) := ⟨_, rfl⟩
  obtain ⟨X, hX⟩ : ∃ X, X = (if (digF a).1 = [] then 0 else (digF a).2 - 1) := ⟨_, rfl⟩
  obtain ⟨M, hM⟩ : ∃ M, M = manT (digF a).1 := ⟨_, rfl⟩
  obtain ⟨E, hE⟩ : ∃ E, E = expT X := ⟨_, rfl⟩
  rw [← hD] at hrep ⊢
  rw [← hX] at hcut hex hat ⊢
  rw [← hM] at hcut hrep hml
  rw [← hE] at hcut hex hat
  clear hD hX hM hE
  have HC := Lib.hid hcut
  have HR := Lib.hid hrep
  have HA := Lib.hid hat
  have HI := Lib.hid hI
  have HN := Lib.hid hN
  have HB := Lib.hid hA
  clear hcut hrep hat hI hN hA
  go_enter Tryz.func112, Tryz.ntmps112
  go_wp2_with fail
  refine (HN.out _).mono ?_
  rintro e' _ ⟨rfl, rfl⟩
  go_wp2_with fail
  refine (HI.out _).mono ?_
  rintro e' _ ⟨rfl, rfl⟩
  go_wp2_with fail
  refine (HB.out _).mono ?_
  rintro e' _ ⟨rfl, rfl⟩
  go_wp2_with fail
  refine (format_any a _ T h0 h1).mono ?_
  rintro e' w1 ⟨rfl, hb1⟩
  go_wp2_with fail
  refine (cutE (floatT a) M E _ (T.next hb1) HC.out hl).mono ?_
  rintro e' w2 ⟨rfl, hb2⟩
  have hb2 := Below.next hb1 hb1.size hb2
  go_wp2_with fail
  refine (atoi_any E X _ HA.out (by omega)).mono ?_
  rintro e' w3 ⟨rfl, hb3⟩
  have hb3 := Below.next hb2 hb2.size hb3
  go_wp2_with fail
  refine (dotOut M D _ (T.next hb3) HR.out hml).mono ?_
  rintro e' w4 ⟨rfl, hb4⟩
  have hb4 := Below.next hb3 hb3.size hb4
  go_wp2_with fail
  go_ret2
  exact ⟨rfl, hb4⟩
theorem ba_append (a b : List UInt8) : (⟨a.toArray⟩ : ByteArray) ++ ⟨b.toArray⟩ = ⟨(a ++ b).toArray⟩ := by
  apply ByteArray.ext
  simp
theorem ba_extract (l : List UInt8) (i j : Nat) : (⟨l.toArray⟩ : ByteArray).extract i j = ⟨((l.drop i).take (j - i)).toArray⟩ := by
  apply ByteArray.ext
  simp [List.take_drop]
theorem decDigits_len (n : Nat) : (n < 10 → (Lib.decDigits n).length = 1) ∧ (10 ≤ n → 2 ≤ (Lib.decDigits n).length) := by
  constructor
  · intro h; rw [Lib.decDigits_one h]; rfl
  · intro h
    rw [Lib.decDigits, dif_neg (by omega), List.length_append]
    have : 1 ≤ (Lib.decDigits (n / 10)).length := by
      rw [Lib.decDigits]
      split <;> simp
    simp; omega
theorem decDigits_most (n : Nat) (h : n < 1000) : (Lib.decDigits n).length ≤ 3 := by
  rw [Lib.decDigits]
  split
  · simp
  · rw [Lib.decDigits]
    split
    · simp
    · rw [Lib.decDigits, dif_pos (by omega)]; simp
theorem Below.also {w w1 w2 : World} (h : Below w.heap.size w w1) (h2 : Below w1.heap.size w1 w2) : Below w.heap.size w w2 := Below.next h h.size h2
set_option maxRecDepth 100000 in
theorem power_any (d : List UInt8) (e : Int) (w : World) (T : Tabs w) (h0 : 1 ≤ d.length) (h1 : d.length ≤ 20) (h2 : -400 ≤ e) (h3 : e ≤ 400) :
    Calls Tryz.prog 113 #[.string ⟨d.toArray⟩, .int .i64 e] w fun x w' => x = .returned (.string ⟨(powT d e).toArray⟩) ∧ Below w.heap.size w w' := by
  obtain ⟨n, hn⟩ : ∃ n, n = e.natAbs := ⟨_, rfl⟩
  obtain ⟨P, hP⟩ : ∃ P, P = Lib.decDigits n := ⟨_, rfl⟩
  obtain ⟨l1, l2⟩ := decDigits_len n
  have hm := decDigits_most n (by omega)
  rw [← hP] at l1 l2 hm
  have hI : Hid (∀ W, Tabs W → Calls Tryz.prog 123 #[.int .i64 n] W fun e w' => e = .returned (.string ⟨P.toArray⟩) ∧ Below W.heap.size W w') := Lib.hid fun W TW => by rw [hP]; exact itoa_any n W TW (by omega)
  have hX : Hid (powT d e = d.take 1 ++ (if 1 < d.length then 46 :: d.drop 1 else []) ++ 101 :: (if e < 0 then 45 else 43) :: (if n < 10 then 48 :: P else P)) := Lib.hid (by unfold powT; rw [← hn, ← hP])
  have step : ∀ (W : World) (x : Int), x = (n : Int) → Tabs W → Calls Tryz.prog 123 #[.int .i64 x] W fun e w' => e = .returned (.string ⟨P.toArray⟩) ∧ Below W.heap.size W w' := fun W x hx TW => by rw [hx]; exact hI.out W TW
  have HS := Lib.hid step
  clear hP hI step
  rcases Nat.lt_or_ge 1 d.length with hd | hd <;> rcases Int.lt_or_le e 0 with he | he <;> rcases Nat.lt_or_ge n 10 with hs | hs
  all_goals
    first | (have hq : P.length < 2 := (by have := l1 hs; omega)) | (have hq := l2 hs)
    clear l1 l2
    go_enter Tryz.func113, Tryz.ntmps113
    go_wp2_with fail
    refine (HS.out _ _ (by omega) T).mono ?_
    rintro e' w1 ⟨rfl, hb1⟩
    go_wp2_with fail
    refine bodyPost_ret (results_tmp rfl _ _ _) rfl ⟨?_, hb1⟩
    rw [hX.out]
    first | rw [if_pos hd] | rw [if_neg (by omega)]
    first | rw [if_pos he] | rw [if_neg (by omega)]
    first | rw [if_pos hs] | rw [if_neg (by omega)]
    refine congrArg (fun z => Ending.returned (Value.string z)) ?_
    simp only [ba_extract, show (⟨#[46]⟩ : ByteArray) = ⟨[46].toArray⟩ from rfl, show (⟨#[101]⟩ : ByteArray) = ⟨[101].toArray⟩ from rfl, show (⟨#[45]⟩ : ByteArray) = ⟨[45].toArray⟩ from rfl, show (⟨#[43]⟩ : ByteArray) = ⟨[43].toArray⟩ from rfl, show (⟨#[48]⟩ : ByteArray) = ⟨[48].toArray⟩ from rfl, ba_append]
    refine congrArg ByteArray.mk (congrArg List.toArray ?_)
    simp
    try exact List.take_of_length_le (by simp)
end Go.Proofs.YtpfamfkdfbcooaaGreatDoor
