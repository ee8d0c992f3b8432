/- The document's answer for runes: piece is the language's own decoding. -/
import Derived.Test.YtgdfmpanaapdjaaGreatDoorRfb
set_option linter.unusedVariables false
set_option linter.unusedSimpArgs false
namespace Go.Proofs.YtgdfmpanaapdjaaGreatDoor
open Go Go.RowKit Go.Proofs

theorem valid_right (c : Nat) : Utf8.valid (c : Int) = rightB c := by
  unfold Utf8.valid rightB
  rw [Bool.eq_iff_iff]
  simp
  omega
set_option maxRecDepth 100000 in
/-- Decoding, its bytes named. -/
theorem dec_eq (s : ByteArray) (i : Nat) : Utf8.decode s i =
    if cb s i 0 < 128 then (cb s i 0, 1)
    else if cb s i 0 / 32 = 6 ∧ (i + 1 < s.size ∧ cb s i 1 / 64 = 2) then (if 128 ≤ cb s i 0 % 32 * 64 + cb s i 1 % 64 then (cb s i 0 % 32 * 64 + cb s i 1 % 64, 2) else (65533, 1))
    else if cb s i 0 / 16 = 14 ∧ (i + 1 < s.size ∧ cb s i 1 / 64 = 2) ∧ (i + 2 < s.size ∧ cb s i 2 / 64 = 2) then (if 2048 ≤ cb s i 0 % 16 * 4096 + cb s i 1 % 64 * 64 + cb s i 2 % 64 ∧ rightB (cb s i 0 % 16 * 4096 + cb s i 1 % 64 * 64 + cb s i 2 % 64) = true then (cb s i 0 % 16 * 4096 + cb s i 1 % 64 * 64 + cb s i 2 % 64, 3) else (65533, 1))
    else if cb s i 0 / 8 = 30 ∧ (i + 1 < s.size ∧ cb s i 1 / 64 = 2) ∧ (i + 2 < s.size ∧ cb s i 2 / 64 = 2) ∧ (i + 3 < s.size ∧ cb s i 3 / 64 = 2) then (if 65536 ≤ cb s i 0 % 8 * 262144 + cb s i 1 % 64 * 4096 + cb s i 2 % 64 * 64 + cb s i 3 % 64 ∧ rightB (cb s i 0 % 8 * 262144 + cb s i 1 % 64 * 4096 + cb s i 2 % 64 * 64 + cb s i 3 % 64) = true then (cb s i 0 % 8 * 262144 + cb s i 1 % 64 * 4096 + cb s i 2 % 64 * 64 + cb s i 3 % 64, 4) else (65533, 1))
    else (65533, 1) := by
  unfold Utf8.decode
  simp only [Bool.and_eq_true, decide_eq_true_eq, beq_iff_eq, and_assoc, valid_right]
  rfl
theorem get0 (s : ByteArray) (i : Nat) : cb s i 0 = (s.get! i).toNat := by rw [cb, Nat.add_zero]
theorem piece_any (s : ByteArray) (i : Nat) (w : World) (hi : i < s.size) (hm : s.size < 1000000000) :
    Calls Tryz.prog 47 #[.string s, .int .i64 i] w fun e w' => e = .returned (pieceV s i) ∧ w = w' := by
  have hd := dec_eq s i
  have hb : (s[i]'hi).toNat = cb s i 0 := by rw [get0, get_get s i hi]
  have hb2 : cb s i 0 < 256 := cb_lt s i 0
  have hok : okAt s i = (decide (cb s i 0 < 128) || (Utf8.decode s i).2 != 1) := by rw [okAt, get0]
  obtain ⟨b, hbb⟩ : ∃ b, b = cb s i 0 := ⟨_, rfl⟩
  rw [← hbb] at hd hb hb2 hok
  have badE : Utf8.decode s i = (65533, 1) → 128 ≤ b → pieceV s i = badV := fun h h2 => by
    unfold pieceV badV
    rw [hok, h, decide_eq_false (by omega)]; rfl
  have f224 := and224 ⟨b, hb2⟩
  have f240 := and240 ⟨b, hb2⟩
  have f248 := and248 ⟨b, hb2⟩
  have q31 := and31 ⟨b, hb2⟩
  have q15 := and15' ⟨b, hb2⟩
  have q7 := and7 ⟨b, hb2⟩
  simp only at f224 f240 f248 q31 q15 q7
  by_cases h0 : b < 128
  · have hp : pieceV s i = .tuple #[.int .i64 b, .int .i64 1, .bool true] := by
      unfold pieceV
      rw [hok, hd, if_pos h0, decide_eq_true h0]; rfl
    rw [hp]
    exact piece_0 s i b w hi hb h0 hm
  rw [if_neg h0] at hd
  by_cases h2 : b / 32 = 6
  · rw [decide_eq_true h2] at f224
    have n3 : ¬ b / 16 = 14 := by omega
    have n4 : ¬ b / 8 = 30 := by omega
    rcases Nat.lt_or_ge s.size (i + 2) with hs | hs
    · rw [badE (by rw [hd, if_neg (fun h => by omega), if_neg (fun h => n3 h.1), if_neg (fun h => n4 h.1)]) (by omega)]
      exact piece_short2 s i b (b % 32) w hi hb (by omega) hb2 hm f224 q31 (by omega) hs
    · have ha : accP s i (b % 32) 1 = b % 32 * 64 + cb s i 1 % 64 := rfl
      refine piece_long2 s i b (b % 32) w hi hb (by omega) hb2 hm f224 q31 (by omega) hs _ (fun j hj => by
        obtain rfl : j = 0 := by omega
        show b % 32 < _; omega) (by rw [ha]; omega) ?_ ?_ ?_
      · intro k k1 k2 hk
        obtain rfl : k = 1 := by omega
        exact badE (by rw [hd, if_neg (fun h => hk h.2.2), if_neg (fun h => n3 h.1), if_neg (fun h => n4 h.1)]) (by omega)
      · intro hc hx
        have hc1 := hc 1 (by omega) (by omega)
        rw [ha] at hx
        refine badE ?_ (by omega)
        rcases hx with hx | hx
        · rw [hd, if_pos ⟨h2, by omega, hc1⟩, if_neg (by omega)]
        · exfalso
          unfold rightB at hx
          rw [decide_eq_true (by omega), decide_eq_true (by omega)] at hx
          cases hx
      · intro hc hx _
        have hc1 := hc 1 (by omega) (by omega)
        rw [ha] at hx ⊢
        unfold pieceV
        rw [hok, hd, if_pos ⟨h2, by omega, hc1⟩, if_pos hx, decide_eq_false h0]; rfl
  rw [decide_eq_false h2] at f224
  rw [if_neg (fun h => h2 h.1)] at hd
  by_cases h3 : b / 16 = 14
  · rw [decide_eq_true h3] at f240
    have n4 : ¬ b / 8 = 30 := by omega
    rcases Nat.lt_or_ge s.size (i + 3) with hs | hs
    · rw [badE (by rw [hd, if_neg (fun h => by omega), if_neg (fun h => n4 h.1)]) (by omega)]
      exact piece_short3 s i b (b % 16) w hi hb (by omega) hb2 hm f224 f240 q15 (by omega) hs
    · have ha : accP s i (b % 16) 2 = b % 16 * 4096 + cb s i 1 % 64 * 64 + cb s i 2 % 64 := by show (b % 16 * 64 + cb s i 1 % 64) * 64 + cb s i 2 % 64 = _; omega
      refine piece_long3 s i b (b % 16) w hi hb (by omega) hb2 hm f224 f240 q15 (by omega) hs _ (fun j hj => by
        have : j = 0 ∨ j = 1 := by omega
        rcases this with rfl | rfl
        · show b % 16 < _; omega
        · show b % 16 * 64 + cb s i 1 % 64 < _; omega) (by rw [ha]; omega) ?_ ?_ ?_
      · intro k k1 k2 hk
        refine badE ?_ (by omega)
        rw [hd, if_neg (fun h => ?_), if_neg (fun h => n4 h.1)]
        have : k = 1 ∨ k = 2 := by omega
        rcases this with rfl | rfl
        · exact hk h.2.1.2
        · exact hk h.2.2.2
      · intro hc hx
        have hc1 := hc 1 (by omega) (by omega)
        have hc2 := hc 2 (by omega) (by omega)
        rw [ha] at hx
        refine badE ?_ (by omega)
        rw [hd, if_pos ⟨h3, ⟨by omega, hc1⟩, ⟨by omega, hc2⟩⟩, if_neg (fun h => ?_)]
        rcases hx with hx | hx
        · omega
        · rw [h.2] at hx; cases hx
      · intro hc hx hr
        have hc1 := hc 1 (by omega) (by omega)
        have hc2 := hc 2 (by omega) (by omega)
        rw [ha] at hx hr ⊢
        unfold pieceV
        rw [hok, hd, if_pos ⟨h3, ⟨by omega, hc1⟩, ⟨by omega, hc2⟩⟩, if_pos ⟨hx, hr⟩, decide_eq_false h0]; rfl
  rw [decide_eq_false h3] at f240
  rw [if_neg (fun h => h3 h.1)] at hd
  by_cases h4 : b / 8 = 30
  · rw [decide_eq_true h4] at f248
    rcases Nat.lt_or_ge s.size (i + 4) with hs | hs
    · rw [badE (by rw [hd, if_neg (fun h => by omega)]) (by omega)]
      exact piece_short4 s i b (b % 8) w hi hb (by omega) hb2 hm f224 f240 f248 q7 (by omega) hs
    · have ha : accP s i (b % 8) 3 = b % 8 * 262144 + cb s i 1 % 64 * 4096 + cb s i 2 % 64 * 64 + cb s i 3 % 64 := by show ((b % 8 * 64 + cb s i 1 % 64) * 64 + cb s i 2 % 64) * 64 + cb s i 3 % 64 = _; omega
      refine piece_long4 s i b (b % 8) w hi hb (by omega) hb2 hm f224 f240 f248 q7 (by omega) hs _ (fun j hj => by
        have : j = 0 ∨ j = 1 ∨ j = 2 := by omega
        rcases this with rfl | rfl | rfl
        · show b % 8 < _; omega
        · show b % 8 * 64 + cb s i 1 % 64 < _; omega
        · show (b % 8 * 64 + cb s i 1 % 64) * 64 + cb s i 2 % 64 < _; omega) (by rw [ha]; omega) ?_ ?_ ?_
      · intro k k1 k2 hk
        refine badE ?_ (by omega)
        rw [hd, if_neg (fun h => ?_)]
        have : k = 1 ∨ k = 2 ∨ k = 3 := by omega
        rcases this with rfl | rfl | rfl
        · exact hk h.2.1.2
        · exact hk h.2.2.1.2
        · exact hk h.2.2.2.2
      · intro hc hx
        have hc1 := hc 1 (by omega) (by omega)
        have hc2 := hc 2 (by omega) (by omega)
        have hc3 := hc 3 (by omega) (by omega)
        rw [ha] at hx
        refine badE ?_ (by omega)
        rw [hd, if_pos ⟨h4, ⟨by omega, hc1⟩, ⟨by omega, hc2⟩, ⟨by omega, hc3⟩⟩, if_neg (fun h => ?_)]
        rcases hx with hx | hx
        · omega
        · rw [h.2] at hx; cases hx
      · intro hc hx hr
        have hc1 := hc 1 (by omega) (by omega)
        have hc2 := hc 2 (by omega) (by omega)
        have hc3 := hc 3 (by omega) (by omega)
        rw [ha] at hx hr ⊢
        unfold pieceV
        rw [hok, hd, if_pos ⟨h4, ⟨by omega, hc1⟩, ⟨by omega, hc2⟩, ⟨by omega, hc3⟩⟩, if_pos ⟨hx, hr⟩, decide_eq_false h0]; rfl
  rw [decide_eq_false h4] at f248
  rw [badE (by rw [hd, if_neg (fun h => h4 h.1)]) (by omega)]
  exact piece_none s i b w hi hb (by omega) hb2 hm f224 f240 f248
end Go.Proofs.YtgdfmpanaapdjaaGreatDoor
