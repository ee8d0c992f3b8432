/- The document's answer: Valid, Colour. -/
import Derived.Test.YtgdfmpanaapdjaaGreatDoorRfc
set_option linter.unusedVariables false
set_option linter.unusedSimpArgs false
namespace Go.Proofs.YtgdfmpanaapdjaaGreatDoor
open Go Go.RowKit Go.Proofs
def validFrom (s : ByteArray) : Nat → Nat → Bool
  | 0, _ => true
  | f + 1, p => if p < s.size then okAt s p && validFrom s f (p + (Utf8.decode s p).2) else true
def validB (s : ByteArray) : Bool := validFrom s s.size 0
theorem decode_width (s : ByteArray) (p : Nat) : (Utf8.decode s p).2 ≤ 4 := by
  rw [dec_eq]
  repeat' split
  all_goals simp
set_option maxHeartbeats 1000000 in
set_option maxRecDepth 100000 in
theorem valid_any (s : ByteArray) (w : World) (hm : s.size < 999999000) :
    Calls Tryz.prog 18 #[.string s] w fun e w' => e = .returned (.bool (validB s)) ∧ w = w' := by
  obtain ⟨r, hr⟩ : ∃ r, r = validB s := ⟨_, rfl⟩
  rw [← hr]
  have HR : Hid (r = validFrom s s.size 0) := Lib.hid hr
  clear hr
  go_enter Tryz.func18, Tryz.ntmps18
  go_wp2_with fail
  go_loop [3] (fun i => ∃ pos fuel : Nat, i = .int .i64 pos ∧ Hid (r = validFrom s fuel pos) ∧ s.size ≤ pos + fuel ∧ pos ≤ s.size + 4) (fun i => s.size - (intOf i).toNat)
  case atStart => exact ⟨0, s.size, rfl, HR, by omega, by omega⟩
  case round =>
    obtain ⟨pos, fuel, rfl, HV, hf, hp4⟩ := hrel
    rcases Nat.lt_or_ge pos s.size with hlt | hge
    · obtain ⟨f, rfl⟩ : ∃ f, fuel = f + 1 := ⟨fuel - 1, by omega⟩
      have hP := fun W => piece_any s pos W hlt (by omega)
      have hw1 := width_pos s pos hlt
      have hw4 := decode_width s pos
      have hv : r = (okAt s pos && validFrom s f (pos + (Utf8.decode s pos).2)) := by rw [HV.out, validFrom, if_pos hlt]
      unfold pieceV at hP
      obtain ⟨c, hc⟩ : ∃ c, c = (Utf8.decode s pos).1 := ⟨_, rfl⟩
      obtain ⟨n, hn⟩ : ∃ n, n = (Utf8.decode s pos).2 := ⟨_, rfl⟩
      rw [← hc, ← hn] at hP
      rw [← hn] at hw1 hw4 hv
      cases ho : okAt s pos with
      | true =>
        rw [ho] at hP hv
        have HP := Lib.hid hP
        have HV2 : Hid (r = validFrom s f (pos + n)) := Lib.hid (by rw [hv]; rfl)
        clear hP hv hc hn ho
        go_wp2_with fail
        refine (HP.out _).mono ?_
        rintro e' _ ⟨rfl, rfl⟩
        go_wp2_with fail
        all_goals go_round
        case rel => exact ⟨pos + n, f, by go_num, HV2, by omega, by omega⟩
        case measure => simp [intOf]; omega
      | false =>
        rw [ho] at hP hv
        have HP := Lib.hid hP
        have HV2 : Hid (r = false) := Lib.hid (by rw [hv]; rfl)
        clear hP hv hc hn ho
        go_wp2_with fail
        refine (HP.out _).mono ?_
        rintro e' _ ⟨rfl, rfl⟩
        go_wp2_with fail
        go_ret
        exact ⟨by rw [HV2.out]; rfl, rfl⟩
    · have HV2 : Hid (r = true) := Lib.hid (by
        rw [HV.out]
        cases fuel with
        | zero => rfl
        | succ f => rw [validFrom, if_neg (by omega)])
      go_wp2_with fail
      go_ret
      exact ⟨by rw [HV2.out]; rfl, rfl⟩
set_option maxHeartbeats 1000000 in
set_option maxRecDepth 100000 in
theorem refColour_any (w : World) (k : Nat) (hk : k ≤ 6) (num : Nat) (s : ByteArray) (L K : Value) (hL : ∃ a n c, L = .slice a n c) (hK : ∃ a n c, K = .slice a n c) :
    Calls Tryz.prog 22 #[.agg #[.int .i64 k, .float .f64 num, .string s, L, K]] w fun e w' => e = .returned (.string ⟨(colT k).toArray⟩) ∧ Below w.heap.size w w' := by
  obtain ⟨a1, n1, c1, rfl⟩ := hL
  obtain ⟨a2, n2, c2, rfl⟩ := hK
  have h5 : k = 0 ∨ k = 1 ∨ k = 2 ∨ k = 3 ∨ k = 4 ∨ k = 5 ∨ k = 6 := by omega
  rcases h5 with rfl | rfl | rfl | rfl | rfl | rfl | rfl
  all_goals
    go_enter Tryz.func22, Tryz.ntmps22
    go_wp2_with fail
    go_ret
    exact ⟨rfl, by repeat (first | exact Below.refl _ _ | exact Nat.le_refl _ | refine Below.alloc ?_ (by simp) _)⟩
end Go.Proofs.YtgdfmpanaapdjaaGreatDoor
