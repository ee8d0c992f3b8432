/- What number.Digits and number.Text make of the library's text of a double: plain laws of lists. -/
import Derived.Test.YtopecjnmeeejhaaGreatDoorFop
set_option linter.unusedVariables false
set_option linter.unusedSimpArgs false
namespace Go.Proofs.YtopecjnmeeejhaaGreatDoor
open Go Go.RowKit Go.Proofs

theorem index_hit (c : UInt8) : ∀ (l r : List UInt8), (∀ x ∈ l, x ≠ c) → Lib.index (l ++ c :: r) [c] = l.length
  | [], r, _ => by simp [Lib.index, List.isPrefixOf]
  | x :: l, r, h => by
    have hx : x ≠ c := h x (by simp)
    have ih := index_hit c l r (fun y hy => h y (by simp [hy]))
    have h1 : ([c].isPrefixOf (x :: (l ++ c :: r))) = false := by simp [List.isPrefixOf]; exact fun e => absurd e.symm hx
    rw [List.cons_append]
    unfold Lib.index
    rw [h1, ih]
    have : ((l.length : Int) == -1) = false := by rw [beq_eq_false_iff_ne]; omega
    simp [this]
theorem index_miss (c : UInt8) : ∀ (l : List UInt8), (∀ x ∈ l, x ≠ c) → Lib.index l [c] = -1
  | [], _ => rfl
  | x :: l, h => by
    have hx : x ≠ c := h x (by simp)
    have ih := index_miss c l (fun y hy => h y (by simp [hy]))
    have h1 : ([c].isPrefixOf (x :: l)) = false := by simp [List.isPrefixOf]; exact fun e => absurd e.symm hx
    unfold Lib.index
    rw [h1, ih]
    rfl
theorem cut_hit (c : UInt8) (l r : List UInt8) (h : ∀ x ∈ l, x ≠ c) : Lib.cut (l ++ c :: r) [c] = (l, r, true) := by
  unfold Lib.cut
  rw [index_hit c l r h, if_pos (by omega)]
  simp
theorem replace_dot (x : UInt8) (t : List UInt8) (hx : x ≠ 46) : Lib.replace (x :: 46 :: t) [46] [] 1 = x :: t := by
  have hi : Lib.index (x :: 46 :: t) [46] = 1 := index_hit 46 [x] t (by simpa using hx)
  have hc : 1 ≤ Lib.count (x :: 46 :: t) [46] := by
    unfold Lib.count Lib.countFrom
    rw [hi, if_neg (by decide)]
    omega
  have hn : Lib.replaceNum (x :: 46 :: t) [46] 1 = 1 := by
    unfold Lib.replaceNum
    split <;> omega
  unfold Lib.replace
  rw [if_neg (by decide), hn, Lib.replaceK_hit [46] [] 0 _ 1 hi]
  simp [Lib.replaceK]
theorem replace_not (l : List UInt8) (h : ∀ x ∈ l, x ≠ 46) : Lib.replace l [46] [] 1 = l := by
  have hi := index_miss 46 l h
  have hn : Lib.count l [46] = 0 := by
    unfold Lib.count Lib.countFrom
    rw [hi, if_pos (by decide)]
  unfold Lib.replace Lib.replaceNum
  rw [if_neg (by decide), hn, if_pos (by omega)]
  rfl

/-- Decimal digits. -/
def Dig (l : List UInt8) : Prop := ∀ x ∈ l, 48 ≤ x.toNat ∧ x.toNat ≤ 57
theorem dig_dec (u : Nat) : Dig (Lib.decDigits u) := by
  induction u using Nat.strongRecOn with
  | _ u ih =>
    intro x hx
    rw [Lib.decDigits] at hx
    have one : ∀ k, k < 10 → 48 ≤ (UInt8.ofNat (48 + k)).toNat ∧ (UInt8.ofNat (48 + k)).toNat ≤ 57 := fun k hk => by
      rw [UInt8.toNat_ofNat', Nat.mod_eq_of_lt (by omega)]; omega
    split at hx
    · obtain rfl := List.mem_singleton.1 hx; exact one u (by omega)
    · rcases List.mem_append.1 hx with hx | hx
      · exact ih (u / 10) (by omega) x hx
      · obtain rfl := List.mem_singleton.1 hx; exact one (u % 10) (by omega)
theorem dig_digs (d : Nat) : Dig (digs d) := by
  unfold digs
  split
  · intro x hx; cases hx
  · exact dig_dec d
theorem dig_strip {l : List UInt8} (h : Dig l) : Dig (stripZ l) := by
  intro x hx
  rw [stripZ_prefix] at hx
  exact h x (List.mem_of_mem_take hx)
theorem Dig.ne {l : List UInt8} (h : Dig l) (c : UInt8) (hc : c.toNat < 48 ∨ 57 < c.toNat) : ∀ x ∈ l, x ≠ c := by
  rintro x hx rfl
  have := h x hx
  omega

/-- The digits of a finite number above 0, and the power of ten of the first one. -/
def digT (bits : Nat) : List UInt8 × Int := if (digF bits).1 = [] then ([48], 0) else ((digF bits).1, (digF bits).2 - 1)
theorem atoi_exp : ∀ k : Fin 801, Lib.atoi (expT ((k.val : Int) - 400)) = some ((k.val : Int) - 400) := by decide +kernel
theorem atoi_expT (e : Int) (h0 : -400 ≤ e) (h1 : e ≤ 400) : Lib.atoi (expT e) = some e := by
  have := atoi_exp ⟨(e + 400).toNat, by omega⟩
  simp only at this
  rw [show (((e + 400).toNat : Nat) : Int) - 400 = e from by omega] at this
  exact this
theorem expT_length (e : Int) : (expT e).length ≤ 4 := by
  unfold expT
  split <;> split <;> (try split) <;> simp
/-- The mantissa of the text. -/
def manT (D : List UInt8) : List UInt8 := D.headD 48 :: (if 1 < D.length then 46 :: D.tail else [])
theorem fmtT_cut (D : List UInt8) (dp : Int) (h : Dig D) : Lib.cut (fmtT D dp) [101] = (manT D, expT (if D = [] then 0 else dp - 1), true) := by
  have e : fmtT D dp = manT D ++ 101 :: expT (if D = [] then 0 else dp - 1) := by simp [fmtT, manT]
  rw [e]
  refine cut_hit 101 _ _ ?_
  intro x hx
  unfold manT at hx
  rcases D with _ | ⟨y, _ | ⟨z, D⟩⟩
  · simp at hx; subst hx; decide
  · simp at hx; subst hx; exact h.ne 101 (by decide) x (by simp)
  · simp at hx
    rcases hx with rfl | rfl | rfl | hx
    · exact h.ne 101 (by decide) x (by simp)
    · decide
    · exact h.ne 101 (by decide) x (by simp)
    · exact h.ne 101 (by decide) x (by simp [hx])
theorem manT_replace (D : List UInt8) (h : Dig D) : Lib.replace (manT D) [46] [] 1 = if D = [] then [48] else D := by
  rcases D with _ | ⟨y, _ | ⟨z, D⟩⟩
  · exact replace_not _ (by simp [manT])
  · exact replace_not _ (by simpa [manT] using h.ne 46 (by decide) y (by simp))
  · have : manT (y :: z :: D) = y :: 46 :: z :: D := by simp [manT]
    rw [this, replace_dot y _ (h.ne 46 (by decide) y (by simp))]
    simp
theorem digF_bounds (bits : Nat) (h0 : 0 < bits) (h1 : bits < 9218868437227405312) : Dig (digF bits).1 ∧ (digF bits).1.length ≤ 20 ∧ -360 ≤ (digF bits).2 ∧ (digF bits).2 ≤ 390 := by
  obtain ⟨a, b, c⟩ := shortF_bounds (manF bits).1 (manF bits).2 (manF_bounds bits h0 h1).1 (manF_bounds bits h0 h1).2
  obtain ⟨_, hl⟩ := digs_length (shortF (manF bits).1 (manF bits).2).1 (by omega)
  refine ⟨dig_strip (dig_digs _), Nat.le_trans (stripZ_length _) hl, ?_, ?_⟩
  · show -360 ≤ ((digs (shortF (manF bits).1 (manF bits).2).1).length : Int) + (shortF (manF bits).1 (manF bits).2).2
    omega
  · show ((digs (shortF (manF bits).1 (manF bits).2).1).length : Int) + (shortF (manF bits).1 (manF bits).2).2 ≤ 390
    omega
theorem digT_bounds (bits : Nat) (h0 : 0 < bits) (h1 : bits < 9218868437227405312) : Dig (digT bits).1 ∧ 1 ≤ (digT bits).1.length ∧ (digT bits).1.length ≤ 20 ∧ -361 ≤ (digT bits).2 ∧ (digT bits).2 ≤ 390 := by
  obtain ⟨a, b, c, d⟩ := digF_bounds bits h0 h1
  unfold digT
  split
  · exact ⟨by intro x hx; simp at hx; subst hx; decide, by simp, by simp, by omega, by omega⟩
  · rename_i hne
    refine ⟨a, ?_, b, by omega, by omega⟩
    rcases h : (digF bits).1 with _ | ⟨x, l⟩
    · exact absurd h hne
    · simp

/-- Digits with a power of ten. -/
def powT (d : List UInt8) (e : Int) : List UInt8 :=
  d.take 1 ++ (if 1 < d.length then 46 :: d.drop 1 else []) ++ 101 :: (if e < 0 then 45 else 43) :: (if e.natAbs < 10 then 48 :: Lib.decDigits e.natAbs else Lib.decDigits e.natAbs)
/-- A number's text, its digits and the power of ten of the first one being known. -/
def bodyT (d : List UInt8) (e : Int) : List UInt8 :=
  if e < -4 ∨ (d.length : Int) + 14 < e then powT d e
  else if (d.length : Int) - 1 ≤ e then d ++ List.replicate (e - d.length + 1).toNat 48
  else if 0 ≤ e then d.take (e + 1).toNat ++ 46 :: d.drop (e + 1).toNat
  else 48 :: 46 :: (List.replicate (-e - 1).toNat 48 ++ d)
/-- A double's text. -/
def numT (bits : Nat) : List UInt8 :=
  if 9218868437227405312 < bits % 9223372036854775808 then [110, 117, 108, 108]
  else (if 9223372036854775808 ≤ bits then [45] else []) ++
    (if bits % 9223372036854775808 = 0 then [48]
     else bodyT (digT (if bits % 9223372036854775808 = 9218868437227405312 then 9218868437227405311 else bits % 9223372036854775808)).1 (digT (if bits % 9223372036854775808 = 9218868437227405312 then 9218868437227405311 else bits % 9223372036854775808)).2)
theorem repeatL_replicate (x : UInt8) : ∀ n, Lib.repeatL [x] n = List.replicate n x
  | 0 => rfl
  | n + 1 => by simp [Lib.repeatL, repeatL_replicate x n, List.replicate_succ]
end Go.Proofs.YtopecjnmeeejhaaGreatDoor
