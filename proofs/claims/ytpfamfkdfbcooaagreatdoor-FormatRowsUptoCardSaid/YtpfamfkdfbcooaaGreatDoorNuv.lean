/- number.Text of every double. -/
import Derived.Test.YtpfamfkdfbcooaaGreatDoorNut
set_option linter.unusedVariables false
set_option linter.unusedSimpArgs false
namespace Go.Proofs.YtpfamfkdfbcooaaGreatDoor
open Go Go.RowKit Go.Proofs

theorem powT_length (d : List UInt8) (e : Int) (h1 : d.length ≤ 20) (h2 : -400 ≤ e) (h3 : e ≤ 400) : (powT d e).length ≤ 1000 := by
  have := decDigits_most e.natAbs (by omega)
  unfold powT
  simp only [List.length_append, List.length_cons, List.length_take]
  have h4 : (if 1 < d.length then 46 :: d.drop 1 else ([] : List UInt8)).length ≤ 21 := by split <;> simp <;> omega
  have h5 : (if e.natAbs < 10 then 48 :: Lib.decDigits e.natAbs else Lib.decDigits e.natAbs).length ≤ 4 := by split <;> (try simp) <;> omega
  omega
set_option maxRecDepth 100000 in
theorem text_nan (b : Nat) (hn : 9218868437227405312 < b % 9223372036854775808) (w : World) : Calls Tryz.prog 90 #[.float .f64 b] w (TextPost w [110, 117, 108, 108]) := by
  have h := fun W => isNaN_any b W
  rw [decide_eq_true hn] at h
  clear hn
  go_enter Tryz.func90, Tryz.ntmps90
  go_wp2_with fail
  refine (h _).mono ?_
  rintro e' _ ⟨rfl, rfl⟩
  go_wp2_with fail
  go_ret
  exact ⟨rfl, Below.refl _ _⟩
set_option maxRecDepth 100000 in
theorem text_zero (b : Nat) (s : Bool) (hN : ∀ W, Calls Tryz.prog 81 #[.float .f64 b] W fun x w' => x = .returned (.bool false) ∧ W = w')
    (hI : ∀ W, Calls Tryz.prog 109 #[.float .f64 b, .int .i64 0] W fun x w' => x = .returned (.bool false) ∧ W = w')
    (hS : ∀ W, Calls Tryz.prog 111 #[.float .f64 b] W fun x w' => x = .returned (.bool s) ∧ W = w')
    (hz : (FloatKind.f64.format.order b 0 == some .eq) = true) (w : World) : Calls Tryz.prog 90 #[.float .f64 b] w (TextPost w ((if s then [45] else []) ++ [48])) := by
  cases s <;>
  · go_enter Tryz.func90, Tryz.ntmps90
    go_wp2_with fail
    refine (hN _).mono ?_
    rintro e' _ ⟨rfl, rfl⟩
    go_wp2_with fail
    refine (hI _).mono ?_
    rintro e' _ ⟨rfl, rfl⟩
    go_wp2_with fail
    refine (hS _).mono ?_
    rintro e' _ ⟨rfl, rfl⟩
    go_wp2_with fail
    go_ret
    exact ⟨rfl, Below.refl _ _⟩
theorem text_any (b : Nat) (hb : b < 18446744073709551616) (w : World) (T : Tabs w) : Calls Tryz.prog 90 #[.float .f64 b] w (TextPost w (numT b)) := by
  unfold numT
  by_cases hn : 9218868437227405312 < b % 9223372036854775808
  · rw [if_pos hn]; exact text_nan b hn w
  rw [if_neg hn]
  have hN := fun W => isNaN_any b W
  rw [decide_eq_false hn] at hN
  have hI := fun W => isInf_any b hb (by omega) W
  by_cases h0 : b % 9223372036854775808 = 0
  · rw [decide_eq_false (by omega)] at hI
    rw [if_pos h0]
    have hz := order_zero b (by omega)
    rw [decide_eq_true h0] at hz
    by_cases hs : 9223372036854775808 ≤ b
    · have hS := fun W => signbit_any b hb W
      rw [decide_eq_true hs] at hS
      rw [if_pos hs]
      exact text_zero b true hN hI hS hz w
    · have hS := fun W => signbit_any b hb W
      rw [decide_eq_false hs] at hS
      rw [if_neg hs]
      exact text_zero b false hN hI hS hz w
  rw [if_neg h0]
  by_cases hinf : b % 9223372036854775808 = 9218868437227405312
  · rw [if_pos hinf]
    rw [decide_eq_true hinf] at hI
    have hC := fun W => copysign_any b hb W
    obtain ⟨f, hf⟩ : ∃ f, 9218868437227405311 + (b / 9223372036854775808) * 9223372036854775808 = f := ⟨_, rfl⟩
    rw [hf] at hC
    have hf64 : f < 18446744073709551616 := by omega
    have hfa : f % 9223372036854775808 = 9218868437227405311 := by omega
    obtain ⟨p0, p1, p2, p3, p4⟩ := digT_bounds 9218868437227405311 (by omega) (by omega)
    have hz := order_zero f (by omega)
    rw [decide_eq_false (by omega)] at hz
    have hD := fun W TW => digits_any f hf64 W TW (by omega) (by omega)
    rw [hfa] at hD
    have hS := fun W => signbit_any f hf64 W
    have hsf : (9223372036854775808 ≤ f) ↔ (9223372036854775808 ≤ b) := by omega
    obtain ⟨d, hd⟩ : ∃ d, (digT 9218868437227405311).1 = d := ⟨_, rfl⟩
    obtain ⟨e, he⟩ : ∃ e, (digT 9218868437227405311).2 = e := ⟨_, rfl⟩
    rw [hd] at hD p0 p1 p2 ⊢
    rw [he] at hD p3 p4 ⊢
    have hR : ∀ W (x : Int) (c : Nat), x = (c : Int) → c ≤ 1000 → Calls Tryz.prog 114 #[.string ⟨#[48]⟩, .int .i64 x] W fun e w' => e = .returned (.string ⟨(List.replicate c (48 : UInt8)).toArray⟩) ∧ Below W.heap.size W w' := fun W x c hx hc => by rw [hx]; exact zeros_any c W (by omega)
    have hP := fun W TW => power_any d e W TW p1 p2 (by omega) (by omega)
    have hL := powT_length d e p2 (by omega) (by omega)
    by_cases hs : 9223372036854775808 ≤ b
    · rw [decide_eq_true (hsf.2 hs)] at hS
      rw [if_pos hs]
      have H : TextIn b f true true d e := ⟨hN, hI, fun _ => hC, hS, hD, hR, hP, hL⟩
      unfold bodyT
      split
      · rename_i hc
        rcases hc with hc | hc
        · exact tx_im_p1 w T b f d e H hz p1 p2 hc
        · exact tx_im_p2 w T b f d e H hz p1 p2 hc
      · split
        · exact tx_im_z w T b f d e H hz p1 p2 (by omega) (by omega) (by omega)
        · split
          · exact tx_im_m w T b f d e H hz p1 p2 (by omega) (by omega)
          · exact tx_im_n w T b f d e H hz p1 p2 (by omega) (by omega)
    · rw [decide_eq_false (fun h => hs (hsf.1 h))] at hS
      rw [if_neg hs]
      have H : TextIn b f true false d e := ⟨hN, hI, fun _ => hC, hS, hD, hR, hP, hL⟩
      unfold bodyT
      split
      · rename_i hc
        rcases hc with hc | hc
        · exact tx_ip_p1 w T b f d e H hz p1 p2 hc
        · exact tx_ip_p2 w T b f d e H hz p1 p2 hc
      · split
        · exact tx_ip_z w T b f d e H hz p1 p2 (by omega) (by omega) (by omega)
        · split
          · exact tx_ip_m w T b f d e H hz p1 p2 (by omega) (by omega)
          · exact tx_ip_n w T b f d e H hz p1 p2 (by omega) (by omega)
  · rw [if_neg hinf]
    rw [decide_eq_false hinf] at hI
    have h00 : 0 < b % 9223372036854775808 := by omega
    have h01 : b % 9223372036854775808 < 9218868437227405312 := by omega
    obtain ⟨p0, p1, p2, p3, p4⟩ := digT_bounds (b % 9223372036854775808) h00 h01
    have hz := order_zero b (by omega)
    rw [decide_eq_false (by omega)] at hz
    have hD := fun W TW => digits_any b hb W TW h00 h01
    have hS := fun W => signbit_any b hb W
    obtain ⟨d, hd⟩ : ∃ d, (digT (b % 9223372036854775808)).1 = d := ⟨_, rfl⟩
    obtain ⟨e, he⟩ : ∃ e, (digT (b % 9223372036854775808)).2 = e := ⟨_, rfl⟩
    rw [hd] at hD p0 p1 p2 ⊢
    rw [he] at hD p3 p4 ⊢
    have hR : ∀ W (x : Int) (c : Nat), x = (c : Int) → c ≤ 1000 → Calls Tryz.prog 114 #[.string ⟨#[48]⟩, .int .i64 x] W fun e w' => e = .returned (.string ⟨(List.replicate c (48 : UInt8)).toArray⟩) ∧ Below W.heap.size W w' := fun W x c hx hc => by rw [hx]; exact zeros_any c W (by omega)
    have hP := fun W TW => power_any d e W TW p1 p2 (by omega) (by omega)
    have hL := powT_length d e p2 (by omega) (by omega)
    by_cases hs : 9223372036854775808 ≤ b
    · rw [decide_eq_true hs] at hS
      rw [if_pos hs]
      have H : TextIn b b false true d e := ⟨hN, hI, fun h => Bool.noConfusion h, hS, hD, hR, hP, hL⟩
      unfold bodyT
      split
      · rename_i hc
        rcases hc with hc | hc
        · exact tx_fm_p1 w T b d e H hz p1 p2 hc
        · exact tx_fm_p2 w T b d e H hz p1 p2 hc
      · split
        · exact tx_fm_z w T b d e H hz p1 p2 (by omega) (by omega) (by omega)
        · split
          · exact tx_fm_m w T b d e H hz p1 p2 (by omega) (by omega)
          · exact tx_fm_n w T b d e H hz p1 p2 (by omega) (by omega)
    · rw [decide_eq_false hs] at hS
      rw [if_neg hs]
      have H : TextIn b b false false d e := ⟨hN, hI, fun h => Bool.noConfusion h, hS, hD, hR, hP, hL⟩
      unfold bodyT
      split
      · rename_i hc
        rcases hc with hc | hc
        · exact tx_fp_p1 w T b d e H hz p1 p2 hc
        · exact tx_fp_p2 w T b d e H hz p1 p2 hc
      · split
        · exact tx_fp_z w T b d e H hz p1 p2 (by omega) (by omega) (by omega)
        · split
          · exact tx_fp_m w T b d e H hz p1 p2 (by omega) (by omega)
          · exact tx_fp_n w T b d e H hz p1 p2 (by omega) (by omega)
end Go.Proofs.YtpfamfkdfbcooaaGreatDoor
