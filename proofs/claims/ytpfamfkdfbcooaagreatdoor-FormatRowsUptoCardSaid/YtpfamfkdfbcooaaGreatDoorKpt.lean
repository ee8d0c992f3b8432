/- The document's Kept, and the law's turned. -/
import Derived.Test.YtpfamfkdfbcooaaGreatDoorTabs
import Derived.Test.YtpfamfkdfbcooaaGreatDoorFsq
set_option linter.unusedVariables false
set_option linter.unusedSimpArgs false
namespace Go.Proofs.YtpfamfkdfbcooaaGreatDoor
open Go Go.RowKit Go.Proofs
def keptN (n : Nat) : Bool := (decide (97 ≤ n) && decide (n ≤ 122)) || (decide (65 ≤ n) && decide (n ≤ 90)) || (decide (48 ≤ n) && decide (n ≤ 57)) || decide (n = 45) || decide (n = 95) || decide (n = 46) || decide (n = 126)
theorem keptN_eq (c : UInt8) : keptB c = keptN c.toNat := by
  have key : ∀ n : Fin 256, keptB (UInt8.ofNat n.val) = keptN (UInt8.ofNat n.val).toNat := by decide +kernel
  have := key ⟨c.toNat, c.toNat_lt⟩
  simpa using this
set_option maxHeartbeats 4000000 in
set_option maxRecDepth 100000 in
theorem kept_any (w : World) (c : UInt8) : Calls Tryz.prog 22 #[.int .u8 c.toNat] w fun e w' => e = .returned (.bool (keptB c)) ∧ w = w' := by
  rw [keptN_eq c]
  have h256 := c.toNat_lt
  obtain ⟨n, hn⟩ : ∃ n, n = c.toNat := ⟨_, rfl⟩
  rw [← hn] at h256 ⊢
  clear hn
  have hc : n < 45 ∨ n = 45 ∨ n = 46 ∨ n = 47 ∨ (48 ≤ n ∧ n ≤ 57) ∨ (58 ≤ n ∧ n ≤ 64) ∨ (65 ≤ n ∧ n ≤ 90) ∨ (91 ≤ n ∧ n ≤ 94) ∨ n = 95 ∨ n = 96 ∨ (97 ≤ n ∧ n ≤ 122) ∨ (123 ≤ n ∧ n ≤ 125) ∨ n = 126 ∨ 127 ≤ n := by omega
  rcases hc with h | h | h | h | h | h | h | h | h | h | h | h | h | h
  all_goals
    first | have hk : keptN n = true := (by simp [keptN]; omega) | have hk : keptN n = false := (by simp [keptN]; omega)
    first | have t0 : decide ((97 : Int) ≤ (n : Int)) = true := decide_eq_true (by omega) | have t0 : decide ((97 : Int) ≤ (n : Int)) = false := decide_eq_false (by omega)
    first | have t1 : decide ((n : Int) ≤ 122) = true := decide_eq_true (by omega) | have t1 : decide ((n : Int) ≤ 122) = false := decide_eq_false (by omega)
    first | have t2 : decide ((65 : Int) ≤ (n : Int)) = true := decide_eq_true (by omega) | have t2 : decide ((65 : Int) ≤ (n : Int)) = false := decide_eq_false (by omega)
    first | have t3 : decide ((n : Int) ≤ 90) = true := decide_eq_true (by omega) | have t3 : decide ((n : Int) ≤ 90) = false := decide_eq_false (by omega)
    first | have t4 : decide ((48 : Int) ≤ (n : Int)) = true := decide_eq_true (by omega) | have t4 : decide ((48 : Int) ≤ (n : Int)) = false := decide_eq_false (by omega)
    first | have t5 : decide ((n : Int) ≤ 57) = true := decide_eq_true (by omega) | have t5 : decide ((n : Int) ≤ 57) = false := decide_eq_false (by omega)
    first | have u0 : ((n : Int) == 45) = true := (beq_iff_eq.2 (by omega)) | have u0 : ((n : Int) == 45) = false := (by rw [beq_eq_false_iff_ne]; omega)
    first | have u1 : ((n : Int) == 95) = true := (beq_iff_eq.2 (by omega)) | have u1 : ((n : Int) == 95) = false := (by rw [beq_eq_false_iff_ne]; omega)
    first | have u2 : ((n : Int) == 46) = true := (beq_iff_eq.2 (by omega)) | have u2 : ((n : Int) == 46) = false := (by rw [beq_eq_false_iff_ne]; omega)
    first | have u3 : ((n : Int) == 126) = true := (beq_iff_eq.2 (by omega)) | have u3 : ((n : Int) == 126) = false := (by rw [beq_eq_false_iff_ne]; omega)
    rw [hk]
    clear h hk h256
    go_enter Tryz.func22, Tryz.ntmps22
    go_wp2_with fail
    go_ret
    exact ⟨rfl, rfl⟩
set_option maxHeartbeats 4000000 in
set_option maxRecDepth 100000 in
theorem turned_any (w : World) (c : UInt8) : Calls Tryz.prog 55 #[.int .u8 c.toNat] w fun e w' => e = .returned (.int .u8 (turnedB c).toNat) ∧ w = w' := by
  have e : (turnedB c).toNat = if c.toNat = 116 then 9 else if c.toNat = 110 then 10 else if c.toNat = 114 then 13 else c.toNat := by
    have key : ∀ n : Fin 256, (turnedB (UInt8.ofNat n.val)).toNat = if (UInt8.ofNat n.val).toNat = 116 then 9 else if (UInt8.ofNat n.val).toNat = 110 then 10 else if (UInt8.ofNat n.val).toNat = 114 then 13 else (UInt8.ofNat n.val).toNat := by decide +kernel
    have := key ⟨c.toNat, c.toNat_lt⟩
    simpa using this
  rw [e]
  have h256 := c.toNat_lt
  obtain ⟨n, hn⟩ : ∃ n, n = c.toNat := ⟨_, rfl⟩
  rw [← hn] at h256 ⊢
  clear hn e
  by_cases h1 : n = 116
  · subst h1
    rw [if_pos rfl]
    go_enter Tryz.func55, Tryz.ntmps55
    go_wp2_with fail
    go_ret
    exact ⟨rfl, rfl⟩
  · rw [if_neg h1]
    have t1 : ((n : Int) == 116) = false := by rw [beq_eq_false_iff_ne]; omega
    by_cases h2 : n = 110
    · subst h2
      rw [if_pos rfl]
      clear t1
      go_enter Tryz.func55, Tryz.ntmps55
      go_wp2_with fail
      go_ret
      exact ⟨rfl, rfl⟩
    · rw [if_neg h2]
      have t2 : ((n : Int) == 110) = false := by rw [beq_eq_false_iff_ne]; omega
      by_cases h3 : n = 114
      · subst h3
        rw [if_pos rfl]
        clear t1 t2
        go_enter Tryz.func55, Tryz.ntmps55
        go_wp2_with fail
        go_ret
        exact ⟨rfl, rfl⟩
      · rw [if_neg h3]
        have t3 : ((n : Int) == 114) = false := by rw [beq_eq_false_iff_ne]; omega
        clear h1 h2 h3
        go_enter Tryz.func55, Tryz.ntmps55
        go_wp2_with fail
        go_ret
        exact ⟨rfl, rfl⟩
end Go.Proofs.YtpfamfkdfbcooaaGreatDoor
