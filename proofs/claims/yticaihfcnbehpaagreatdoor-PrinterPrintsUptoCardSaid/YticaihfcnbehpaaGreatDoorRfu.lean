/- The document's Text of every double. -/
import Derived.Test.YticaihfcnbehpaaGreatDoorRft
set_option linter.unusedVariables false
set_option linter.unusedSimpArgs false
namespace Go.Proofs.YticaihfcnbehpaaGreatDoor
open Go Go.RowKit Go.Proofs
set_option maxRecDepth 100000 in
theorem refText_nan (b : Nat) (hn : 9218868437227405312 < b % 9223372036854775808) (w : World) : Calls Tryz.prog 40 #[.float .f64 b] w (TextPost w [110, 117, 108, 108]) := by
  have h := fun W => isNaN_any b W
  rw [decide_eq_true hn] at h
  clear hn
  go_enter Tryz.func40, Tryz.ntmps40
  go_wp2_with fail
  refine (h _).mono ?_
  rintro e' _ ⟨rfl, rfl⟩
  go_wp2_with fail
  go_ret
  exact ⟨rfl, Below.refl _ _⟩
set_option maxRecDepth 100000 in
theorem refText_zero (b : Nat) (s : Bool) (hN : ∀ W, Calls Tryz.prog 43 #[.float .f64 b] W fun x w' => x = .returned (.bool false) ∧ W = w')
    (hS : ∀ W, Calls Tryz.prog 60 #[.float .f64 b] W fun x w' => x = .returned (.bool s) ∧ W = w')
    (hz : (FloatKind.f64.format.order b 0 == some .eq) = true) (w : World) : Calls Tryz.prog 40 #[.float .f64 b] w (TextPost w ((if s then [45] else []) ++ [48])) := by
  cases s <;>
  · go_enter Tryz.func40, Tryz.ntmps40
    go_wp2_with fail
    refine (hN _).mono ?_
    rintro e' _ ⟨rfl, rfl⟩
    go_wp2_with fail
    refine (hS _).mono ?_
    rintro e' _ ⟨rfl, rfl⟩
    go_wp2_with fail
    go_ret
    exact ⟨rfl, Below.refl _ _⟩
theorem refText_any (b : Nat) (hb : b < 18446744073709551616) (w : World) (T : Tabs w) : Calls Tryz.prog 40 #[.float .f64 b] w (TextPost w (numT b)) := by
  unfold numT
  by_cases hn : 9218868437227405312 < b % 9223372036854775808
  · rw [if_pos hn]; exact refText_nan b hn w
  rw [if_neg hn]
  have hN := fun W => isNaN_any b W
  rw [decide_eq_false hn] at hN
  by_cases h0 : b % 9223372036854775808 = 0
  · rw [if_pos h0]
    have hz := order_zero b (by omega)
    rw [decide_eq_true h0] at hz
    by_cases hs : 9223372036854775808 ≤ b
    · have hS := fun W => signbit_any b hb W
      rw [decide_eq_true hs] at hS
      rw [if_pos hs]
      exact refText_zero b true hN hS hz w
    · have hS := fun W => signbit_any b hb W
      rw [decide_eq_false hs] at hS
      rw [if_neg hs]
      exact refText_zero b false hN hS hz w
  rw [if_neg h0]
  have hI := fun W => isInf_any b hb (by omega) W
  have hz := order_zero b (by omega)
  rw [decide_eq_false (by omega)] at hz
  have hZ : ∀ W (x : Int) (c : Nat), x = (c : Int) → c ≤ 1000 → Calls Tryz.prog 64 #[.int .i64 x] W fun e w' => e = .returned (.string ⟨(List.replicate c (48 : UInt8)).toArray⟩) ∧ W = w' := fun W x c hx hc => by rw [hx]; exact zerosRef_any c (by omega) W
  by_cases hinf : b % 9223372036854775808 = 9218868437227405312
  · rw [if_pos hinf]
    rw [decide_eq_true hinf] at hI
    obtain ⟨p0, p1, p2, p3, p4⟩ := digT_bounds 9218868437227405311 (by omega) (by omega)
    have hD := fun W TW => refDigits_any 9218868437227405311 (by omega) W TW (by decide) (by decide)
    rw [show 9218868437227405311 % 9223372036854775808 = 9218868437227405311 from by decide] at hD
    obtain ⟨d, hd⟩ : ∃ d, (digT 9218868437227405311).1 = d := ⟨_, rfl⟩
    obtain ⟨e, he⟩ : ∃ e, (digT 9218868437227405311).2 = e := ⟨_, rfl⟩
    rw [hd] at hD p0 p1 p2 ⊢
    rw [he] at hD p3 p4 ⊢
    have hIt : ∀ W (x : Int), x = (e.natAbs : Int) → Tabs W → Calls Tryz.prog 63 #[.int .i64 x] W fun e' w' => e' = .returned (.string ⟨(Lib.decDigits e.natAbs).toArray⟩) ∧ Below W.heap.size W w' := fun W x hx TW => by rw [hx]; exact itoa_any _ W TW (by omega)
    have hPl : (Lib.decDigits e.natAbs).length ≤ 10 := by have := decDigits_most e.natAbs (by omega); omega
    by_cases hs : 9223372036854775808 ≤ b
    · have hS := fun W => signbit_any b hb W
      rw [decide_eq_true hs] at hS
      rw [if_pos hs]
      have H : RtIn b 9218868437227405311 true true d e e.natAbs (Lib.decDigits e.natAbs) := ⟨hN, hS, hI, hD, hIt, hZ⟩
      unfold bodyT
      split
      · rename_i hc
        exact rt_im_p w T b d e _ _ H hz p1 p2 (by omega) (by omega) rfl hPl hc
      · split
        · exact rt_im_z w T b d e _ _ H hz p1 p2 (by omega) (by omega) (by omega) (by omega) (by omega)
        · split
          · exact rt_im_m w T b d e _ _ H hz p1 p2 (by omega) (by omega) (by omega) (by omega)
          · exact rt_im_n w T b d e _ _ H hz p1 p2 (by omega) (by omega) (by omega) (by omega)
    · have hS := fun W => signbit_any b hb W
      rw [decide_eq_false hs] at hS
      rw [if_neg hs]
      have H : RtIn b 9218868437227405311 true false d e e.natAbs (Lib.decDigits e.natAbs) := ⟨hN, hS, hI, hD, hIt, hZ⟩
      unfold bodyT
      split
      · rename_i hc
        exact rt_ip_p w T b d e _ _ H hz p1 p2 (by omega) (by omega) rfl hPl hc
      · split
        · exact rt_ip_z w T b d e _ _ H hz p1 p2 (by omega) (by omega) (by omega) (by omega) (by omega)
        · split
          · exact rt_ip_m w T b d e _ _ H hz p1 p2 (by omega) (by omega) (by omega) (by omega)
          · exact rt_ip_n w T b d e _ _ H hz p1 p2 (by omega) (by omega) (by omega) (by omega)
  · rw [if_neg hinf]
    rw [decide_eq_false hinf] at hI
    obtain ⟨p0, p1, p2, p3, p4⟩ := digT_bounds (b % 9223372036854775808) (by omega) (by omega)
    have hD := fun W TW => refDigits_any b hb W TW (by omega) (by omega)
    obtain ⟨d, hd⟩ : ∃ d, (digT (b % 9223372036854775808)).1 = d := ⟨_, rfl⟩
    obtain ⟨e, he⟩ : ∃ e, (digT (b % 9223372036854775808)).2 = e := ⟨_, rfl⟩
    rw [hd] at hD p0 p1 p2 ⊢
    rw [he] at hD p3 p4 ⊢
    have hIt : ∀ W (x : Int), x = (e.natAbs : Int) → Tabs W → Calls Tryz.prog 63 #[.int .i64 x] W fun e' w' => e' = .returned (.string ⟨(Lib.decDigits e.natAbs).toArray⟩) ∧ Below W.heap.size W w' := fun W x hx TW => by rw [hx]; exact itoa_any _ W TW (by omega)
    have hPl : (Lib.decDigits e.natAbs).length ≤ 10 := by have := decDigits_most e.natAbs (by omega); omega
    by_cases hs : 9223372036854775808 ≤ b
    · have hS := fun W => signbit_any b hb W
      rw [decide_eq_true hs] at hS
      rw [if_pos hs]
      have H : RtIn b b false true d e e.natAbs (Lib.decDigits e.natAbs) := ⟨hN, hS, hI, hD, hIt, hZ⟩
      unfold bodyT
      split
      · rename_i hc
        exact rt_fm_p w T b d e _ _ H hz p1 p2 (by omega) (by omega) rfl hPl hc
      · split
        · exact rt_fm_z w T b d e _ _ H hz p1 p2 (by omega) (by omega) (by omega) (by omega) (by omega)
        · split
          · exact rt_fm_m w T b d e _ _ H hz p1 p2 (by omega) (by omega) (by omega) (by omega)
          · exact rt_fm_n w T b d e _ _ H hz p1 p2 (by omega) (by omega) (by omega) (by omega)
    · have hS := fun W => signbit_any b hb W
      rw [decide_eq_false hs] at hS
      rw [if_neg hs]
      have H : RtIn b b false false d e e.natAbs (Lib.decDigits e.natAbs) := ⟨hN, hS, hI, hD, hIt, hZ⟩
      unfold bodyT
      split
      · rename_i hc
        exact rt_fp_p w T b d e _ _ H hz p1 p2 (by omega) (by omega) rfl hPl hc
      · split
        · exact rt_fp_z w T b d e _ _ H hz p1 p2 (by omega) (by omega) (by omega) (by omega) (by omega)
        · split
          · exact rt_fp_m w T b d e _ _ H hz p1 p2 (by omega) (by omega) (by omega) (by omega)
          · exact rt_fp_n w T b d e _ _ H hz p1 p2 (by omega) (by omega) (by omega) (by omega)
end Go.Proofs.YticaihfcnbehpaaGreatDoor
