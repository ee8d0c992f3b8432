/- In one text: strconv.FormatFloat(f, e, -1, 64) of a positive finite f: its text; nothing of the world before is changed.; How the doubles' words stand to each other: NaN, 0, the greatest.; What number.Digits and number.Text make of the library's text of a double: plain laws of lists.; number.Digits, power and Text by their contracts. -/
import Derived.Test.YtpfamfkdfbcooaaGreatDoorFlE
import Derived.Laws.IdiomStrings
import Derived.Laws.MakeOwn
import Derived.Laws.BitsAllLaws
set_option linter.unusedVariables false
set_option linter.unusedSimpArgs false
/- strconv.FormatFloat(f, e, -1, 64) of a positive finite f: its text; nothing of the world before is changed. -/
namespace Go.Proofs.YtpfamfkdfbcooaaGreatDoor
open Go Go.RowKit Go.Proofs Go.Sort

theorem fmtT_pos (D : List UInt8) (dp : Int) : 0 < (fmtT D dp).length := by simp [fmtT]

theorem ftoa_any (B : Nat) (w : World) (v : Value) (bits : Nat) (T : Tabs w) (HO : OwnB B w v []) (hB : B ≤ w.heap.size) (h0 : 0 < bits) (h1 : bits < 9218868437227405312) :
    Calls Tryz.prog 166 #[v, .float .f64 bits, .int .u8 101, .int .i64 (-1)] w (FtoaPost B w v (floatT bits)) := by
  rcases Nat.lt_or_ge bits 4503599627370496 with h | h
  · exact ftoa_sub B w v bits T HO hB h0 h
  · exact ftoa_norm B w v bits T HO hB h h1

/-- What a call's own bytes are as a string. -/
theorem conv_own {B : Nat} {w : World} {v : Value} {bs : List UInt8} (h : OwnB B w v bs) (hp : 0 < bs.length) : (convert 60 9 v).run Tryz.prog w = .ok (.string ⟨bs.toArray⟩) w := by
  rcases h.2 with ⟨_, h0⟩ | ⟨g, cap, cur, rfl, _⟩
  · omega
  · refine run_convert_bytes_back w 60 9 5 ⟨g, 0, none⟩ cap bs Tryz.underlying60 Tryz.underlying5 Tryz.underlying9 ?_
    intro j hj
    refine h.cells (g := g) rfl j _ ?_
    simp [Lib.byteCells, hj]

theorem own_made (w : World) (cs : Array Value) (c : Nat) (hc : cs.size = c) (h63 : c ≤ maxLen) : OwnB w.heap.size (w.alloc (.cells cs 5)) (.slice (some ⟨w.heap.size, 0, none⟩) 0 c) [] :=
  World.ownsRow_made w _ c (Nat.le_refl _) h63 (by rw [hc, Nat.mul_one])

set_option maxRecDepth 100000 in
theorem format_in (bits : Nat) (w : World) (T : Tabs w) (h0 : 0 < bits) (h1 : bits < 9218868437227405312) :
    Calls Tryz.prog 151 #[.float .f64 bits, .int .u8 101, .int .i64 (-1), .int .i64 64] w fun e w' => e = .returned (.string ⟨(floatT bits).toArray⟩) ∧ Below w.heap.size w w' := by
  have hmk : ∀ u : World, (Instr.makeSlice 60 (.int .i64 0) (.int .i64 (max 3 24))).run Tryz.prog u = .ok (.slice (some ⟨u.heap.size, 0, none⟩) 0 24) (u.alloc (.cells (Array.replicate 24 (.int .u8 0)) 5)) := fun u => by kernel_rfl
  go_enter Tryz.func151, Tryz.ntmps151
  go_wp2_with fail
  obtain ⟨W0, hW0⟩ : ∃ W0, W0 = w.alloc (.cells (Array.replicate 24 (.int .u8 0)) 5) := ⟨_, rfl⟩
  rw [← hW0]
  have hO : OwnB w.heap.size W0 (.slice (some ⟨w.heap.size, 0, none⟩) 0 24) [] := by rw [hW0]; exact own_made w _ 24 (by simp) (by unfold maxLen; omega)
  have hb : Below w.heap.size w W0 := by rw [hW0]; exact (Below.refl _ _).alloc (Nat.le_refl _) _
  clear hW0
  refine (ftoa_any w.heap.size W0 _ bits (T.next hb) hO hb.size h0 h1).mono ?_
  rintro e' w1 ⟨v1, rfl, hA⟩
  have hcv : (convert 60 9 v1).run Tryz.prog w1 = .ok (.string ⟨(floatT bits).toArray⟩) w1 := conv_own (by have := hA.own; rwa [List.nil_append] at this) (fmtT_pos _ _)
  have hb1 : Below w.heap.size w w1 := hb.trans (hA.keep.below hb.size (fun k hk => by
    simp [Value.ownBlock]
    omega))
  go_wp2_with fail
  go_ret
  exact ⟨rfl, hb1⟩
end Go.Proofs.YtpfamfkdfbcooaaGreatDoor
/- How the doubles' words stand to each other: NaN, 0, the greatest. -/
namespace Go.Proofs.YtpfamfkdfbcooaaGreatDoor
open Go Go.RowKit Go.Proofs

theorem read_f64 (b : Nat) : FloatKind.f64.format.read b =
    (if b % 9223372036854775808 < 4503599627370496 then .number (b / 9223372036854775808 % 2 == 1) (b % 9223372036854775808) (-1074)
     else if b % 9223372036854775808 < 9218868437227405312 then .number (b / 9223372036854775808 % 2 == 1) (4503599627370496 + b % 9223372036854775808 % 4503599627370496) (-1074 + (b % 9223372036854775808 / 4503599627370496 - 1 : Nat))
     else if b % 9223372036854775808 = 9218868437227405312 then .infinity (b / 9223372036854775808 % 2 == 1)
     else .nan (b / 9223372036854775808 % 2 == 1) (b % 9223372036854775808 - 9218868437227405312)) := by
  have h1 : FloatKind.f64.format.signWeight = 9223372036854775808 := by decide
  have h2 : FloatKind.f64.format.binade = 4503599627370496 := by decide
  have h3 : FloatKind.f64.format.infRung = 9218868437227405312 := by decide
  have h4 : FloatKind.f64.format.leastPlace = -1074 := by decide
  unfold Ieee.Format.read
  simp only [h1, h2, h3, h4]

theorem order_def (x y : Nat) : FloatKind.f64.format.order x y = (FloatKind.f64.format.read x).order (FloatKind.f64.format.read y) := rfl
theorem signed_zero (s : Bool) (m k : Nat) : (Ieee.signed s m k = 0) ↔ m = 0 := by
  have h3 := Nat.pow_pos (n := k) (show 0 < 2 by omega)
  have h2 : m <<< k = 0 ↔ m = 0 := by
    rw [Nat.shiftLeft_eq]
    constructor
    · intro h
      rcases Nat.mul_eq_zero.1 h with h | h
      · exact h
      · omega
    · rintro rfl; exact Nat.zero_mul _
  unfold Ieee.signed
  split <;> omega
theorem order_self (b : Nat) : FloatKind.f64.format.order b b = if b % 9223372036854775808 ≤ 9218868437227405312 then some .eq else none := by
  rw [order_def, read_f64]
  by_cases h1 : b % 9223372036854775808 < 4503599627370496
  · rw [if_pos h1, if_pos (by omega)]
    simp [Ieee.Datum.order]
  · rw [if_neg h1]
    by_cases h2 : b % 9223372036854775808 < 9218868437227405312
    · rw [if_pos h2, if_pos (by omega)]
      simp [Ieee.Datum.order]
    · rw [if_neg h2]
      by_cases h3 : b % 9223372036854775808 = 9218868437227405312
      · rw [if_pos h3, if_pos (by omega)]
        simp [Ieee.Datum.order]
      · rw [if_neg h3, if_neg (by omega)]
        simp [Ieee.Datum.order]
theorem order_zero (b : Nat) (hn : b % 9223372036854775808 ≤ 9218868437227405312) : (FloatKind.f64.format.order b 0 == some .eq) = decide (b % 9223372036854775808 = 0) := by
  have h0 : FloatKind.f64.format.read 0 = .number false 0 (-1074) := by decide
  rw [order_def, h0, read_f64]
  have hz : ∀ k, Ieee.signed false 0 k = 0 := fun k => (signed_zero _ _ _).2 rfl
  have key : ∀ (s : Bool) (m : Nat) (i : Int), ((Ieee.Datum.number s m i).order (.number false 0 (-1074)) == some .eq) = decide (m = 0) := by
    intro s m i
    simp only [Ieee.Datum.order, hz]
    by_cases hm : m = 0
    · rw [(signed_zero s m _).2 hm]; simp [hm]
    · have := (signed_zero s m (i - min i (-1074)).toNat)
      have hne : compare (Ieee.signed s m (i - min i (-1074)).toNat) 0 ≠ .eq := by
        intro hc
        exact hm (this.1 (Int.compare_eq_eq.1 hc))
      simp [hm, hne]
  by_cases h1 : b % 9223372036854775808 < 4503599627370496
  · rw [if_pos h1, key]
  · rw [if_neg h1]
    by_cases h2 : b % 9223372036854775808 < 9218868437227405312
    · rw [if_pos h2, key]; simp; omega
    · rw [if_neg h2]
      by_cases h3 : b % 9223372036854775808 = 9218868437227405312
      · rw [if_pos h3]
        simp [Ieee.Datum.order, h3]
        split <;> decide
      · omega
theorem order_most (a : Nat) (h : a ≤ 9218868437227405312) : (FloatKind.f64.format.order a 9218868437227405311 == some .gt) = decide (a = 9218868437227405312) := by
  have h0 : FloatKind.f64.format.read 9218868437227405311 = .number false 9007199254740991 971 := by decide
  rw [order_def, h0, read_f64]
  have hs : (a / 9223372036854775808 % 2 == 1) = false := by rw [show a / 9223372036854775808 = 0 from by omega]; rfl
  rw [hs, show a % 9223372036854775808 = a from by omega]
  have key : ∀ (m : Nat) (i : Int), m ≤ 9007199254740991 → i ≤ 971 → ((Ieee.Datum.number false m i).order (.number false 9007199254740991 971) == some .gt) = false := by
    intro m i hm hi
    simp only [Ieee.Datum.order]
    rw [show min i 971 = i from by omega, show (i - i).toNat = 0 from by omega]
    have h1 : ¬ Ieee.signed false m 0 > Ieee.signed false 9007199254740991 (971 - i).toNat := by
      have h3 := Nat.pow_pos (n := (971 - i).toNat) (show 0 < 2 by omega)
      have h4 := Nat.mul_le_mul_left 9007199254740991 h3
      show ¬ (((9007199254740991 <<< (971 - i).toNat : Nat) : Int) < ((m <<< 0 : Nat) : Int))
      rw [Nat.shiftLeft_eq, Nat.shiftLeft_eq, Nat.pow_zero, Nat.mul_one]
      omega
    have h2 : compare (Ieee.signed false m 0) (Ieee.signed false 9007199254740991 (971 - i).toNat) ≠ .gt := fun hc => h1 (Int.compare_eq_gt.1 hc)
    simp [h2]
  by_cases h1 : a < 4503599627370496
  · rw [if_pos h1, key _ _ (by omega) (by omega)]; simp; omega
  · rw [if_neg h1]
    by_cases h2 : a < 9218868437227405312
    · rw [if_pos h2, key _ _ (by omega) (by omega)]; simp; omega
    · rw [if_neg h2, if_pos (by omega)]
      simp [Ieee.Datum.order]; omega
end Go.Proofs.YtpfamfkdfbcooaaGreatDoor
/- What number.Digits and number.Text make of the library's text of a double: plain laws of lists. -/
namespace Go.Proofs.YtpfamfkdfbcooaaGreatDoor
open Go Go.RowKit Go.Proofs

theorem index_hit (c : UInt8) : ∀ (l r : List UInt8), (∀ x ∈ l, x ≠ c) → Lib.index (l ++ c :: r) [c] = l.length
  | [], r, _ => by simp [Lib.index, List.isPrefixOf]
  | x :: l, r, h => by
    have hx : x ≠ c := h x (by simp)
    have ih := index_hit c l r (fun y hy => h y (by simp [hy]))
    have h1 : ([c].isPrefixOf (x :: (l ++ c :: r))) = false := by simp [List.isPrefixOf]; exact fun e => absurd e.symm hx
    rw [List.cons_append]
    unfold Lib.index
    rw [h1, ih]
    have : ((l.length : Int) == -1) = false := by rw [beq_eq_false_iff_ne]; omega
    simp [this]
theorem index_miss (c : UInt8) : ∀ (l : List UInt8), (∀ x ∈ l, x ≠ c) → Lib.index l [c] = -1
  | [], _ => rfl
  | x :: l, h => by
    have hx : x ≠ c := h x (by simp)
    have ih := index_miss c l (fun y hy => h y (by simp [hy]))
    have h1 : ([c].isPrefixOf (x :: l)) = false := by simp [List.isPrefixOf]; exact fun e => absurd e.symm hx
    unfold Lib.index
    rw [h1, ih]
    rfl
theorem cut_hit (c : UInt8) (l r : List UInt8) (h : ∀ x ∈ l, x ≠ c) : Lib.cut (l ++ c :: r) [c] = (l, r, true) := by
  unfold Lib.cut
  rw [index_hit c l r h, if_pos (by omega)]
  simp
theorem replace_dot (x : UInt8) (t : List UInt8) (hx : x ≠ 46) : Lib.replace (x :: 46 :: t) [46] [] 1 = x :: t := by
  have hi : Lib.index (x :: 46 :: t) [46] = 1 := index_hit 46 [x] t (by simpa using hx)
  have hc : 1 ≤ Lib.count (x :: 46 :: t) [46] := by
    unfold Lib.count Lib.countFrom
    rw [hi, if_neg (by decide)]
    omega
  have hn : Lib.replaceNum (x :: 46 :: t) [46] 1 = 1 := by
    unfold Lib.replaceNum
    split <;> omega
  unfold Lib.replace
  rw [if_neg (by decide), hn, Lib.replaceK_hit [46] [] 0 _ 1 hi]
  simp [Lib.replaceK]
theorem replace_not (l : List UInt8) (h : ∀ x ∈ l, x ≠ 46) : Lib.replace l [46] [] 1 = l := by
  have hi := index_miss 46 l h
  have hn : Lib.count l [46] = 0 := by
    unfold Lib.count Lib.countFrom
    rw [hi, if_pos (by decide)]
  unfold Lib.replace Lib.replaceNum
  rw [if_neg (by decide), hn, if_pos (by omega)]
  rfl

/-- Decimal digits. -/
def Dig (l : List UInt8) : Prop := ∀ x ∈ l, 48 ≤ x.toNat ∧ x.toNat ≤ 57
theorem dig_dec (u : Nat) : Dig (Lib.decDigits u) := by
  induction u using Nat.strongRecOn with
  | _ u ih =>
    intro x hx
    rw [Lib.decDigits] at hx
    have one : ∀ k, k < 10 → 48 ≤ (UInt8.ofNat (48 + k)).toNat ∧ (UInt8.ofNat (48 + k)).toNat ≤ 57 := fun k hk => by
      rw [UInt8.toNat_ofNat', Nat.mod_eq_of_lt (by omega)]; omega
    split at hx
    · obtain rfl := List.mem_singleton.1 hx; exact one u (by omega)
    · rcases List.mem_append.1 hx with hx | hx
      · exact ih (u / 10) (by omega) x hx
      · obtain rfl := List.mem_singleton.1 hx; exact one (u % 10) (by omega)
theorem dig_digs (d : Nat) : Dig (digs d) := by
  unfold digs
  split
  · intro x hx; cases hx
  · exact dig_dec d
theorem dig_strip {l : List UInt8} (h : Dig l) : Dig (stripZ l) := by
  intro x hx
  rw [stripZ_prefix] at hx
  exact h x (List.mem_of_mem_take hx)
theorem Dig.ne {l : List UInt8} (h : Dig l) (c : UInt8) (hc : c.toNat < 48 ∨ 57 < c.toNat) : ∀ x ∈ l, x ≠ c := by
  rintro x hx rfl
  have := h x hx
  omega

/-- The digits of a finite number above 0, and the power of ten of the first one. -/
def digT (bits : Nat) : List UInt8 × Int := if (digF bits).1 = [] then ([48], 0) else ((digF bits).1, (digF bits).2 - 1)
theorem atoi_exp : ∀ k : Fin 801, Lib.atoi (expT ((k.val : Int) - 400)) = some ((k.val : Int) - 400) := by decide +kernel
theorem atoi_expT (e : Int) (h0 : -400 ≤ e) (h1 : e ≤ 400) : Lib.atoi (expT e) = some e := by
  have := atoi_exp ⟨(e + 400).toNat, by omega⟩
  simp only at this
  rw [show (((e + 400).toNat : Nat) : Int) - 400 = e from by omega] at this
  exact this
theorem expT_length (e : Int) : (expT e).length ≤ 4 := by
  unfold expT
  split <;> split <;> (try split) <;> simp
/-- The mantissa of the text. -/
def manT (D : List UInt8) : List UInt8 := D.headD 48 :: (if 1 < D.length then 46 :: D.tail else [])
theorem fmtT_cut (D : List UInt8) (dp : Int) (h : Dig D) : Lib.cut (fmtT D dp) [101] = (manT D, expT (if D = [] then 0 else dp - 1), true) := by
  have e : fmtT D dp = manT D ++ 101 :: expT (if D = [] then 0 else dp - 1) := by simp [fmtT, manT]
  rw [e]
  refine cut_hit 101 _ _ ?_
  intro x hx
  unfold manT at hx
  rcases D with _ | ⟨y, _ | ⟨z, D⟩⟩
  · simp at hx; subst hx; decide
  · simp at hx; subst hx; exact h.ne 101 (by decide) x (by simp)
  · simp at hx
    rcases hx with rfl | rfl | rfl | hx
    · exact h.ne 101 (by decide) x (by simp)
    · decide
    · exact h.ne 101 (by decide) x (by simp)
    · exact h.ne 101 (by decide) x (by simp [hx])
theorem manT_replace (D : List UInt8) (h : Dig D) : Lib.replace (manT D) [46] [] 1 = if D = [] then [48] else D := by
  rcases D with _ | ⟨y, _ | ⟨z, D⟩⟩
  · exact replace_not _ (by simp [manT])
  · exact replace_not _ (by simpa [manT] using h.ne 46 (by decide) y (by simp))
  · have : manT (y :: z :: D) = y :: 46 :: z :: D := by simp [manT]
    rw [this, replace_dot y _ (h.ne 46 (by decide) y (by simp))]
    simp
theorem digF_bounds (bits : Nat) (h0 : 0 < bits) (h1 : bits < 9218868437227405312) : Dig (digF bits).1 ∧ (digF bits).1.length ≤ 20 ∧ -360 ≤ (digF bits).2 ∧ (digF bits).2 ≤ 390 := by
  obtain ⟨a, b, c⟩ := shortF_bounds (manF bits).1 (manF bits).2 (manF_bounds bits h0 h1).1 (manF_bounds bits h0 h1).2
  obtain ⟨_, hl⟩ := digs_length (shortF (manF bits).1 (manF bits).2).1 (by omega)
  refine ⟨dig_strip (dig_digs _), Nat.le_trans (stripZ_length _) hl, ?_, ?_⟩
  · show -360 ≤ ((digs (shortF (manF bits).1 (manF bits).2).1).length : Int) + (shortF (manF bits).1 (manF bits).2).2
    omega
  · show ((digs (shortF (manF bits).1 (manF bits).2).1).length : Int) + (shortF (manF bits).1 (manF bits).2).2 ≤ 390
    omega
theorem digT_bounds (bits : Nat) (h0 : 0 < bits) (h1 : bits < 9218868437227405312) : Dig (digT bits).1 ∧ 1 ≤ (digT bits).1.length ∧ (digT bits).1.length ≤ 20 ∧ -361 ≤ (digT bits).2 ∧ (digT bits).2 ≤ 390 := by
  obtain ⟨a, b, c, d⟩ := digF_bounds bits h0 h1
  unfold digT
  split
  · exact ⟨by intro x hx; simp at hx; subst hx; decide, by simp, by simp, by omega, by omega⟩
  · rename_i hne
    refine ⟨a, ?_, b, by omega, by omega⟩
    rcases h : (digF bits).1 with _ | ⟨x, l⟩
    · exact absurd h hne
    · simp

/-- Digits with a power of ten. -/
def powT (d : List UInt8) (e : Int) : List UInt8 :=
  d.take 1 ++ (if 1 < d.length then 46 :: d.drop 1 else []) ++ 101 :: (if e < 0 then 45 else 43) :: (if e.natAbs < 10 then 48 :: Lib.decDigits e.natAbs else Lib.decDigits e.natAbs)
/-- A number's text, its digits and the power of ten of the first one being known. -/
def bodyT (d : List UInt8) (e : Int) : List UInt8 :=
  if e < -4 ∨ (d.length : Int) + 14 < e then powT d e
  else if (d.length : Int) - 1 ≤ e then d ++ List.replicate (e - d.length + 1).toNat 48
  else if 0 ≤ e then d.take (e + 1).toNat ++ 46 :: d.drop (e + 1).toNat
  else 48 :: 46 :: (List.replicate (-e - 1).toNat 48 ++ d)
/-- A double's text. -/
def numT (bits : Nat) : List UInt8 :=
  if 9218868437227405312 < bits % 9223372036854775808 then [110, 117, 108, 108]
  else (if 9223372036854775808 ≤ bits then [45] else []) ++
    (if bits % 9223372036854775808 = 0 then [48]
     else bodyT (digT (if bits % 9223372036854775808 = 9218868437227405312 then 9218868437227405311 else bits % 9223372036854775808)).1 (digT (if bits % 9223372036854775808 = 9218868437227405312 then 9218868437227405311 else bits % 9223372036854775808)).2)
theorem repeatL_replicate (x : UInt8) : ∀ n, Lib.repeatL [x] n = List.replicate n x
  | 0 => rfl
  | n + 1 => by simp [Lib.repeatL, repeatL_replicate x n, List.replicate_succ]
end Go.Proofs.YtpfamfkdfbcooaaGreatDoor
/- number.Digits, power and Text by their contracts. -/
namespace Go.Proofs.YtpfamfkdfbcooaaGreatDoor
open Go Go.RowKit Go.Proofs

theorem andNot_top (b : Nat) (hb : b < 18446744073709551616) : Go.bits BinOp.andNot IntKind.u64 (b : Int) 9223372036854775808 = ((b % 9223372036854775808 : Nat) : Int) := by
  have := u64_andNot_nat b 9223372036854775808 hb (by omega)
  rw [show ((9223372036854775808 : Nat) : Int) = 9223372036854775808 from rfl] at this
  rw [this, show 18446744073709551615 - 9223372036854775808 = 2 ^ 63 - 1 from by decide, Nat.and_two_pow_sub_one_eq_mod]
theorem bits64 (b : Nat) (W : World) : (callFunc 80 #[Value.float FloatKind.f64 b]).run Tryz.prog W = .ok (.value (.int .u64 b)) W := by
  rw [run_callFunc_extern Tryz.func80 (by kernel_rfl) (by kernel_rfl) (by kernel_rfl) (e := Extern.MathFloatBits.float64bits) (by kernel_rfl)]
  rfl
theorem frombits64 (b : Nat) (W : World) : (callFunc 131 #[Value.int .u64 b]).run Tryz.prog W = .ok (.value (.float .f64 b)) W := by
  rw [run_callFunc_extern Tryz.func131 (by kernel_rfl) (by kernel_rfl) (by kernel_rfl) (e := Extern.MathFloatBits.float64frombits) (by kernel_rfl)]
  rfl
theorem isNaN_any (b : Nat) (w : World) : Calls Tryz.prog 81 #[.float .f64 b] w fun e w' => e = .returned (.bool (decide (9218868437227405312 < b % 9223372036854775808))) ∧ w = w' := by
  have h : (FloatKind.f64.format.order b b != some .eq) = decide (9218868437227405312 < b % 9223372036854775808) := by
    rw [order_self]
    by_cases h : b % 9223372036854775808 ≤ 9218868437227405312
    · rw [if_pos h, decide_eq_false (by omega)]; rfl
    · rw [if_neg h, decide_eq_true (by omega)]; rfl
  rw [← h]
  clear h
  go_enter Tryz.func81, Tryz.ntmps81
  go_wp2_with fail
  go_ret
  exact ⟨rfl, rfl⟩
set_option maxRecDepth 100000 in
theorem abs_any (b : Nat) (hb : b < 18446744073709551616) (w : World) : Calls Tryz.prog 130 #[.float .f64 b] w fun e w' => e = .returned (.float .f64 (b % 9223372036854775808)) ∧ w = w' := by
  have h1 := bits64 b
  have h2 := frombits64 (b % 9223372036854775808)
  have h3 := andNot_top b hb
  obtain ⟨a, ha⟩ : ∃ a, b % 9223372036854775808 = a := ⟨_, rfl⟩
  rw [ha] at h2 h3 ⊢
  clear ha
  go_enter Tryz.func130, Tryz.ntmps130
  go_wp2_with fail
  go_ret
  exact ⟨rfl, rfl⟩
set_option maxRecDepth 100000 in
theorem isInf_raw (b : Nat) (hb : b < 18446744073709551616) (w : World) : Calls Tryz.prog 109 #[.float .f64 b, .int .i64 0] w fun e w' => e = .returned (.bool (FloatKind.f64.format.order (b % 9223372036854775808) 9218868437227405311 == some .gt)) ∧ w = w' := by
  go_enter Tryz.func109, Tryz.ntmps109
  go_wp2_with fail
  refine (abs_any b hb _).mono ?_
  rintro e w' ⟨rfl, rfl⟩
  go_wp2_with fail
  go_ret
  exact ⟨rfl, rfl⟩
theorem isInf_any (b : Nat) (hb : b < 18446744073709551616) (hn : b % 9223372036854775808 ≤ 9218868437227405312) (w : World) : Calls Tryz.prog 109 #[.float .f64 b, .int .i64 0] w fun e w' => e = .returned (.bool (decide (b % 9223372036854775808 = 9218868437227405312))) ∧ w = w' := by
  have h := order_most _ hn
  exact (isInf_raw b hb w).mono fun e w' k => ⟨k.1.trans (congrArg (fun x => Ending.returned (Value.bool x)) h), k.2⟩
theorem signbit_any (b : Nat) (hb : b < 18446744073709551616) (w : World) : Calls Tryz.prog 111 #[.float .f64 b] w fun e w' => e = .returned (.bool (decide (9223372036854775808 ≤ b))) ∧ w = w' := by
  have h1 := bits64 b
  have h2 : decide (wrap64 (b : Int) < 0) = decide (9223372036854775808 ≤ b) := by
    rw [decide_eq_decide]; unfold wrap64; omega
  go_enter Tryz.func111, Tryz.ntmps111
  go_wp2_with fail
  refine bodyPost_ret (results_tmp rfl _ _ _) rfl ?_
  exact ⟨rfl, rfl⟩
set_option maxRecDepth 100000 in
theorem copysign_any (b : Nat) (hb : b < 18446744073709551616) (w : World) : Calls Tryz.prog 110 #[.float .f64 9218868437227405311, .float .f64 b] w fun e w' => e = .returned (.float .f64 (9218868437227405311 + (b / 9223372036854775808) * 9223372036854775808)) ∧ w = w' := by
  have h1 := bits64 9218868437227405311
  have h1' := bits64 b
  have h2 := frombits64 (9218868437227405311 + (b / 9223372036854775808) * 9223372036854775808)
  obtain ⟨m, hm⟩ : ∃ m, 9218868437227405311 + (b / 9223372036854775808) * 9223372036854775808 = m := ⟨_, rfl⟩
  obtain ⟨k, hk⟩ : ∃ k, (b / 9223372036854775808) * 9223372036854775808 = k := ⟨_, rfl⟩
  have h3 : Go.bits BinOp.andNot IntKind.u64 9218868437227405311 9223372036854775808 = 9218868437227405311 := by decide
  have h4 : Go.bits BinOp.and IntKind.u64 (b : Int) 9223372036854775808 = (((b / 9223372036854775808) * 9223372036854775808 : Nat) : Int) := by
    have h := bits_and_u64_nat b 9223372036854775808 hb (by omega)
    rw [show ((9223372036854775808 : Nat) : Int) = 9223372036854775808 from rfl] at h
    rw [h]
    congr 1
    rcases Nat.lt_or_ge b 9223372036854775808 with hs | hs
    · rw [show b / 9223372036854775808 = 0 from by omega, Nat.zero_mul]
      refine Nat.eq_of_testBit_eq fun i => ?_
      rw [Nat.testBit_and, Nat.zero_testBit, show 9223372036854775808 = 2 ^ 63 from by decide, Nat.testBit_two_pow]
      by_cases h63 : 63 = i
      · subst h63; rw [Nat.testBit_lt_two_pow hs]; rfl
      · simp [h63]
    · rw [show b / 9223372036854775808 = 1 from by omega, Nat.one_mul]
      refine Nat.eq_of_testBit_eq fun i => ?_
      rw [Nat.testBit_and, show 9223372036854775808 = 2 ^ 63 from by decide, Nat.testBit_two_pow]
      by_cases h63 : 63 = i
      · subst h63
        have : b.testBit 63 = true := by rw [Nat.testBit_eq_decide_div_mod_eq]; simp; omega
        rw [this]; rfl
      · simp [h63]
  have h5 : ∀ k : Nat, k ≤ 1 → Go.bits BinOp.or IntKind.u64 9218868437227405311 ((k * 9223372036854775808 : Nat) : Int) = ((9218868437227405311 + k * 9223372036854775808 : Nat) : Int) := by
    intro k hk
    rcases Nat.le_one_iff_eq_zero_or_eq_one.1 hk with rfl | rfl <;> decide
  have h6 := h5 (b / 9223372036854775808) (by omega)
  rw [hm] at h2 h6 ⊢
  rw [hk] at h4 h6
  clear h5 hm hk
  go_enter Tryz.func110, Tryz.ntmps110
  go_wp2_with fail
  go_ret
  exact ⟨rfl, rfl⟩
end Go.Proofs.YtpfamfkdfbcooaaGreatDoor
