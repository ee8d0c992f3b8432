/- The document's answer for runes: piece, walked. -/
import Derived.Test.YtgdfmpanaapdjaaGreatDoorRfa
import Derived.LoopTactic
set_option linter.unusedVariables false
set_option linter.unusedSimpArgs false
namespace Go.Proofs.YtgdfmpanaapdjaaGreatDoor
open Go Go.RowKit Go.Proofs
def cb (s : ByteArray) (i k : Nat) : Nat := (s.get! (i + k)).toNat
def accP (s : ByteArray) (i q : Nat) : Nat → Nat
  | 0 => q
  | k + 1 => accP s i q k * 64 + cb s i (k + 1) % 64
theorem cb_lt (s : ByteArray) (i k : Nat) : cb s i k < 256 := (s.get! (i + k)).toNat_lt
theorem cb_at (s : ByteArray) (i k : Nat) (h : i + k < s.size) : (s[i + k]'h).toNat = cb s i k := by rw [cb, get_get s _ h]
set_option maxRecDepth 100000 in
theorem piece_none (s : ByteArray) (i b : Nat) (w : World) (hi : i < s.size) (hb : (s[i]'hi).toNat = b) (h : 128 ≤ b) (hb2 : b < 256) (hm : s.size < 1000000000)
    (f1 : (bits BinOp.and IntKind.u8 (b : Int) 224 == 192) = false) (f2 : (bits BinOp.and IntKind.u8 (b : Int) 240 == 224) = false) (f3 : (bits BinOp.and IntKind.u8 (b : Int) 248 == 240) = false) :
    Calls Tryz.prog 47 #[.string s, .int .i64 i] w fun e w' => e = .returned badV ∧ w = w' := by
  go_enter Tryz.func47, Tryz.ntmps47
  go_wp2_with fail
  go_ret3
  exact ⟨rfl, rfl⟩

set_option maxRecDepth 100000 in
theorem piece_short2 (s : ByteArray) (i b q : Nat) (w : World) (hi : i < s.size) (hb : (s[i]'hi).toNat = b) (h : 128 ≤ b) (hb2 : b < 256) (hm : s.size < 1000000000) (f1 : (bits BinOp.and IntKind.u8 (b : Int) 224 == 192) = true) (fq : bits BinOp.and IntKind.u8 (b : Int) 31 = (q : Int)) (hq : q < 32) (hs : s.size < i + 2) :
    Calls Tryz.prog 47 #[.string s, .int .i64 i] w fun e w' => e = .returned badV ∧ w = w' := by
  go_enter Tryz.func47, Tryz.ntmps47
  go_wp2_with fail
  go_ret3
  exact ⟨rfl, rfl⟩
set_option maxHeartbeats 1000000 in
set_option maxRecDepth 100000 in
theorem piece_long2 (s : ByteArray) (i b q : Nat) (w : World) (hi : i < s.size) (hb : (s[i]'hi).toNat = b) (h : 128 ≤ b) (hb2 : b < 256) (hm : s.size < 1000000000) (f1 : (bits BinOp.and IntKind.u8 (b : Int) 224 == 192) = true) (fq : bits BinOp.and IntKind.u8 (b : Int) 31 = (q : Int)) (hq : q < 32) (hs : i + 2 ≤ s.size) (ans : Value)
    (hP : ∀ j, j + 1 < 2 → accP s i q j < 65536) (hP2 : accP s i q 1 < 3000000)
    (A1 : ∀ k, 1 ≤ k → k < 2 → cb s i k / 64 ≠ 2 → ans = badV)
    (A2 : (∀ k, 1 ≤ k → k < 2 → cb s i k / 64 = 2) → (accP s i q 1 < 128 ∨ rightB (accP s i q 1) = false) → ans = badV)
    (A3 : (∀ k, 1 ≤ k → k < 2 → cb s i k / 64 = 2) → 128 ≤ accP s i q 1 → rightB (accP s i q 1) = true → ans = .tuple #[.int .i64 (accP s i q 1 : Nat), .int .i64 2, .bool true]) :
    Calls Tryz.prog 47 #[.string s, .int .i64 i] w fun e w' => e = .returned ans ∧ w = w' := by
  have HP := Lib.hid hP
  have H1 := Lib.hid A1
  have H2 := Lib.hid A2
  have H3 := Lib.hid A3
  clear hP A1 A2 A3
  go_enter Tryz.func47, Tryz.ntmps47
  go_wp2_with fail
  go_loop [11, 9] (fun kv pv => ∃ k : Nat, 1 ≤ k ∧ k ≤ 2 ∧ kv = .int .i64 k ∧ pv = .int .i64 (accP s i q (k - 1) : Nat) ∧ Hid (∀ j, 1 ≤ j → j < k → cb s i j / 64 = 2)) (fun kv _ => 2 - (intOf kv).toNat)
  case atStart => exact ⟨1, by omega, by omega, rfl, rfl, Lib.hid (fun j h1 h2 => by omega)⟩
  case round =>
    obtain ⟨k, hk1, hkn, rfl, rfl, HC⟩ := hrel
    rcases Nat.lt_or_ge k 2 with hlt | hge
    · have hx : i + k < s.size := by omega
      have hby := cb_at s i k
      obtain ⟨c, hc⟩ : ∃ c, c = cb s i k := ⟨_, rfl⟩
      have hc256 : c < 256 := by rw [hc]; exact cb_lt s i k
      obtain ⟨p, hp⟩ : ∃ p, p = accP s i q (k - 1) := ⟨_, rfl⟩
      have hp6 : p < 65536 := by rw [hp]; exact HP.out (k - 1) (by omega)
      have hM := fun W => more_any c hc256 W
      have f63 := and63u ⟨c, hc256⟩
      simp only at f63
      have hor := or_join p (c % 64) hp6 (by omega)
      have hnext : accP s i q k = p * 64 + c % 64 := by
        obtain ⟨k', rfl⟩ : ∃ k', k = k' + 1 := ⟨k - 1, by omega⟩
        rw [accP, ← hc, hp]; rfl
      obtain ⟨m, hmm⟩ : ∃ m, m = c % 64 := ⟨_, rfl⟩
      obtain ⟨p2, hp2⟩ : ∃ p2, p2 = p * 64 + m := ⟨_, rfl⟩
      rw [← hmm] at f63 hor hnext
      rw [← hp2] at hor hnext
      have hm64 : m < 64 := by omega
      rw [← hc] at hby
      rw [← hp]
      by_cases h2 : c / 64 = 2
      · rw [decide_eq_true h2] at hM
        have HM := Lib.hid hM
        have HN := Lib.hid hnext
        have HC2 : Hid (∀ j, 1 ≤ j → j < k + 1 → cb s i j / 64 = 2) := Lib.hid (fun j h1 hj => by
          rcases Nat.lt_or_ge j k with hjk | hjk
          · exact HC.out j h1 hjk
          · have : j = k := by omega
            rw [this, ← hc]; exact h2)
        clear hM hnext hc hp hmm hp2 h2
        go_wp2_with fail
        refine (HM.out _).mono ?_
        rintro e' _ ⟨rfl, rfl⟩
        go_wp2_with fail
        all_goals go_round
        case rel => exact ⟨k + 1, by omega, by omega, by go_num, by rw [show k + 1 - 1 = k from rfl, HN.out], HC2⟩
        case measure => simp [intOf]; omega
      · rw [decide_eq_false h2] at hM
        have HM := Lib.hid hM
        have HA : Hid (ans = badV) := Lib.hid (H1.out k hk1 hlt (by rw [← hc]; exact h2))
        clear hM hnext hc hp hmm hp2 h2
        go_wp2_with fail
        refine (HM.out _).mono ?_
        rintro e' _ ⟨rfl, rfl⟩
        go_wp2_with fail
        go_ret3
        exact ⟨by rw [HA.out]; rfl, rfl⟩
    · obtain rfl : k = 2 := by omega
      have hR := fun W => right_any (accP s i q 1) hP2 W
      obtain ⟨p, hp⟩ : ∃ p, p = accP s i q 1 := ⟨_, rfl⟩
      have hp3 : p < 3000000 := by rw [hp]; exact hP2
      rw [show 2 - 1 = 1 from rfl]
      rw [← hp] at hR ⊢
      rcases Nat.lt_or_ge p 128 with hl | hl
      · have HA : Hid (ans = badV) := Lib.hid (H2.out HC.out (.inl (by rw [← hp]; exact hl)))
        have tl : decide ((p : Int) < 128) = true := decide_eq_true (by omega)
        clear hp hR
        go_wp2_with fail
        go_ret3
        exact ⟨by rw [HA.out]; rfl, rfl⟩
      · have tl : decide ((p : Int) < 128) = false := decide_eq_false (by omega)
        cases hr : rightB p with
        | true =>
          have HA : Hid (ans = .tuple #[.int .i64 (p : Nat), .int .i64 2, .bool true]) := Lib.hid (by rw [hp]; exact H3.out HC.out (by rw [← hp]; exact hl) (by rw [← hp]; exact hr))
          rw [hr] at hR
          have HR := Lib.hid hR
          clear hp hR hr
          go_wp2_with fail
          refine (HR.out _).mono ?_
          rintro e' _ ⟨rfl, rfl⟩
          go_wp2_with fail
          go_ret3
          exact ⟨by rw [HA.out]; rfl, rfl⟩
        | false =>
          have HA : Hid (ans = badV) := Lib.hid (H2.out HC.out (.inr (by rw [← hp]; exact hr)))
          rw [hr] at hR
          have HR := Lib.hid hR
          clear hp hR hr
          go_wp2_with fail
          refine (HR.out _).mono ?_
          rintro e' _ ⟨rfl, rfl⟩
          go_wp2_with fail
          go_ret3
          exact ⟨by rw [HA.out]; rfl, rfl⟩

set_option maxRecDepth 100000 in
theorem piece_short3 (s : ByteArray) (i b q : Nat) (w : World) (hi : i < s.size) (hb : (s[i]'hi).toNat = b) (h : 128 ≤ b) (hb2 : b < 256) (hm : s.size < 1000000000) (f1 : (bits BinOp.and IntKind.u8 (b : Int) 224 == 192) = false) (f2 : (bits BinOp.and IntKind.u8 (b : Int) 240 == 224) = true) (fq : bits BinOp.and IntKind.u8 (b : Int) 15 = (q : Int)) (hq : q < 32) (hs : s.size < i + 3) :
    Calls Tryz.prog 47 #[.string s, .int .i64 i] w fun e w' => e = .returned badV ∧ w = w' := by
  go_enter Tryz.func47, Tryz.ntmps47
  go_wp2_with fail
  go_ret3
  exact ⟨rfl, rfl⟩
set_option maxHeartbeats 1000000 in
set_option maxRecDepth 100000 in
theorem piece_long3 (s : ByteArray) (i b q : Nat) (w : World) (hi : i < s.size) (hb : (s[i]'hi).toNat = b) (h : 128 ≤ b) (hb2 : b < 256) (hm : s.size < 1000000000) (f1 : (bits BinOp.and IntKind.u8 (b : Int) 224 == 192) = false) (f2 : (bits BinOp.and IntKind.u8 (b : Int) 240 == 224) = true) (fq : bits BinOp.and IntKind.u8 (b : Int) 15 = (q : Int)) (hq : q < 32) (hs : i + 3 ≤ s.size) (ans : Value)
    (hP : ∀ j, j + 1 < 3 → accP s i q j < 65536) (hP2 : accP s i q 2 < 3000000)
    (A1 : ∀ k, 1 ≤ k → k < 3 → cb s i k / 64 ≠ 2 → ans = badV)
    (A2 : (∀ k, 1 ≤ k → k < 3 → cb s i k / 64 = 2) → (accP s i q 2 < 2048 ∨ rightB (accP s i q 2) = false) → ans = badV)
    (A3 : (∀ k, 1 ≤ k → k < 3 → cb s i k / 64 = 2) → 2048 ≤ accP s i q 2 → rightB (accP s i q 2) = true → ans = .tuple #[.int .i64 (accP s i q 2 : Nat), .int .i64 3, .bool true]) :
    Calls Tryz.prog 47 #[.string s, .int .i64 i] w fun e w' => e = .returned ans ∧ w = w' := by
  have HP := Lib.hid hP
  have H1 := Lib.hid A1
  have H2 := Lib.hid A2
  have H3 := Lib.hid A3
  clear hP A1 A2 A3
  go_enter Tryz.func47, Tryz.ntmps47
  go_wp2_with fail
  go_loop [11, 9] (fun kv pv => ∃ k : Nat, 1 ≤ k ∧ k ≤ 3 ∧ kv = .int .i64 k ∧ pv = .int .i64 (accP s i q (k - 1) : Nat) ∧ Hid (∀ j, 1 ≤ j → j < k → cb s i j / 64 = 2)) (fun kv _ => 3 - (intOf kv).toNat)
  case atStart => exact ⟨1, by omega, by omega, rfl, rfl, Lib.hid (fun j h1 h2 => by omega)⟩
  case round =>
    obtain ⟨k, hk1, hkn, rfl, rfl, HC⟩ := hrel
    rcases Nat.lt_or_ge k 3 with hlt | hge
    · have hx : i + k < s.size := by omega
      have hby := cb_at s i k
      obtain ⟨c, hc⟩ : ∃ c, c = cb s i k := ⟨_, rfl⟩
      have hc256 : c < 256 := by rw [hc]; exact cb_lt s i k
      obtain ⟨p, hp⟩ : ∃ p, p = accP s i q (k - 1) := ⟨_, rfl⟩
      have hp6 : p < 65536 := by rw [hp]; exact HP.out (k - 1) (by omega)
      have hM := fun W => more_any c hc256 W
      have f63 := and63u ⟨c, hc256⟩
      simp only at f63
      have hor := or_join p (c % 64) hp6 (by omega)
      have hnext : accP s i q k = p * 64 + c % 64 := by
        obtain ⟨k', rfl⟩ : ∃ k', k = k' + 1 := ⟨k - 1, by omega⟩
        rw [accP, ← hc, hp]; rfl
      obtain ⟨m, hmm⟩ : ∃ m, m = c % 64 := ⟨_, rfl⟩
      obtain ⟨p2, hp2⟩ : ∃ p2, p2 = p * 64 + m := ⟨_, rfl⟩
      rw [← hmm] at f63 hor hnext
      rw [← hp2] at hor hnext
      have hm64 : m < 64 := by omega
      rw [← hc] at hby
      rw [← hp]
      by_cases h2 : c / 64 = 2
      · rw [decide_eq_true h2] at hM
        have HM := Lib.hid hM
        have HN := Lib.hid hnext
        have HC2 : Hid (∀ j, 1 ≤ j → j < k + 1 → cb s i j / 64 = 2) := Lib.hid (fun j h1 hj => by
          rcases Nat.lt_or_ge j k with hjk | hjk
          · exact HC.out j h1 hjk
          · have : j = k := by omega
            rw [this, ← hc]; exact h2)
        clear hM hnext hc hp hmm hp2 h2
        go_wp2_with fail
        refine (HM.out _).mono ?_
        rintro e' _ ⟨rfl, rfl⟩
        go_wp2_with fail
        all_goals go_round
        case rel => exact ⟨k + 1, by omega, by omega, by go_num, by rw [show k + 1 - 1 = k from rfl, HN.out], HC2⟩
        case measure => simp [intOf]; omega
      · rw [decide_eq_false h2] at hM
        have HM := Lib.hid hM
        have HA : Hid (ans = badV) := Lib.hid (H1.out k hk1 hlt (by rw [← hc]; exact h2))
        clear hM hnext hc hp hmm hp2 h2
        go_wp2_with fail
        refine (HM.out _).mono ?_
        rintro e' _ ⟨rfl, rfl⟩
        go_wp2_with fail
        go_ret3
        exact ⟨by rw [HA.out]; rfl, rfl⟩
    · obtain rfl : k = 3 := by omega
      have hR := fun W => right_any (accP s i q 2) hP2 W
      obtain ⟨p, hp⟩ : ∃ p, p = accP s i q 2 := ⟨_, rfl⟩
      have hp3 : p < 3000000 := by rw [hp]; exact hP2
      rw [show 3 - 1 = 2 from rfl]
      rw [← hp] at hR ⊢
      rcases Nat.lt_or_ge p 2048 with hl | hl
      · have HA : Hid (ans = badV) := Lib.hid (H2.out HC.out (.inl (by rw [← hp]; exact hl)))
        have tl : decide ((p : Int) < 2048) = true := decide_eq_true (by omega)
        clear hp hR
        go_wp2_with fail
        go_ret3
        exact ⟨by rw [HA.out]; rfl, rfl⟩
      · have tl : decide ((p : Int) < 2048) = false := decide_eq_false (by omega)
        cases hr : rightB p with
        | true =>
          have HA : Hid (ans = .tuple #[.int .i64 (p : Nat), .int .i64 3, .bool true]) := Lib.hid (by rw [hp]; exact H3.out HC.out (by rw [← hp]; exact hl) (by rw [← hp]; exact hr))
          rw [hr] at hR
          have HR := Lib.hid hR
          clear hp hR hr
          go_wp2_with fail
          refine (HR.out _).mono ?_
          rintro e' _ ⟨rfl, rfl⟩
          go_wp2_with fail
          go_ret3
          exact ⟨by rw [HA.out]; rfl, rfl⟩
        | false =>
          have HA : Hid (ans = badV) := Lib.hid (H2.out HC.out (.inr (by rw [← hp]; exact hr)))
          rw [hr] at hR
          have HR := Lib.hid hR
          clear hp hR hr
          go_wp2_with fail
          refine (HR.out _).mono ?_
          rintro e' _ ⟨rfl, rfl⟩
          go_wp2_with fail
          go_ret3
          exact ⟨by rw [HA.out]; rfl, rfl⟩

set_option maxRecDepth 100000 in
theorem piece_short4 (s : ByteArray) (i b q : Nat) (w : World) (hi : i < s.size) (hb : (s[i]'hi).toNat = b) (h : 128 ≤ b) (hb2 : b < 256) (hm : s.size < 1000000000) (f1 : (bits BinOp.and IntKind.u8 (b : Int) 224 == 192) = false) (f2 : (bits BinOp.and IntKind.u8 (b : Int) 240 == 224) = false) (f3 : (bits BinOp.and IntKind.u8 (b : Int) 248 == 240) = true) (fq : bits BinOp.and IntKind.u8 (b : Int) 7 = (q : Int)) (hq : q < 32) (hs : s.size < i + 4) :
    Calls Tryz.prog 47 #[.string s, .int .i64 i] w fun e w' => e = .returned badV ∧ w = w' := by
  go_enter Tryz.func47, Tryz.ntmps47
  go_wp2_with fail
  go_ret3
  exact ⟨rfl, rfl⟩
set_option maxHeartbeats 1000000 in
set_option maxRecDepth 100000 in
theorem piece_long4 (s : ByteArray) (i b q : Nat) (w : World) (hi : i < s.size) (hb : (s[i]'hi).toNat = b) (h : 128 ≤ b) (hb2 : b < 256) (hm : s.size < 1000000000) (f1 : (bits BinOp.and IntKind.u8 (b : Int) 224 == 192) = false) (f2 : (bits BinOp.and IntKind.u8 (b : Int) 240 == 224) = false) (f3 : (bits BinOp.and IntKind.u8 (b : Int) 248 == 240) = true) (fq : bits BinOp.and IntKind.u8 (b : Int) 7 = (q : Int)) (hq : q < 32) (hs : i + 4 ≤ s.size) (ans : Value)
    (hP : ∀ j, j + 1 < 4 → accP s i q j < 65536) (hP2 : accP s i q 3 < 3000000)
    (A1 : ∀ k, 1 ≤ k → k < 4 → cb s i k / 64 ≠ 2 → ans = badV)
    (A2 : (∀ k, 1 ≤ k → k < 4 → cb s i k / 64 = 2) → (accP s i q 3 < 65536 ∨ rightB (accP s i q 3) = false) → ans = badV)
    (A3 : (∀ k, 1 ≤ k → k < 4 → cb s i k / 64 = 2) → 65536 ≤ accP s i q 3 → rightB (accP s i q 3) = true → ans = .tuple #[.int .i64 (accP s i q 3 : Nat), .int .i64 4, .bool true]) :
    Calls Tryz.prog 47 #[.string s, .int .i64 i] w fun e w' => e = .returned ans ∧ w = w' := by
  have HP := Lib.hid hP
  have H1 := Lib.hid A1
  have H2 := Lib.hid A2
  have H3 := Lib.hid A3
  clear hP A1 A2 A3
  go_enter Tryz.func47, Tryz.ntmps47
  go_wp2_with fail
  go_loop [11, 9] (fun kv pv => ∃ k : Nat, 1 ≤ k ∧ k ≤ 4 ∧ kv = .int .i64 k ∧ pv = .int .i64 (accP s i q (k - 1) : Nat) ∧ Hid (∀ j, 1 ≤ j → j < k → cb s i j / 64 = 2)) (fun kv _ => 4 - (intOf kv).toNat)
  case atStart => exact ⟨1, by omega, by omega, rfl, rfl, Lib.hid (fun j h1 h2 => by omega)⟩
  case round =>
    obtain ⟨k, hk1, hkn, rfl, rfl, HC⟩ := hrel
    rcases Nat.lt_or_ge k 4 with hlt | hge
    · have hx : i + k < s.size := by omega
      have hby := cb_at s i k
      obtain ⟨c, hc⟩ : ∃ c, c = cb s i k := ⟨_, rfl⟩
      have hc256 : c < 256 := by rw [hc]; exact cb_lt s i k
      obtain ⟨p, hp⟩ : ∃ p, p = accP s i q (k - 1) := ⟨_, rfl⟩
      have hp6 : p < 65536 := by rw [hp]; exact HP.out (k - 1) (by omega)
      have hM := fun W => more_any c hc256 W
      have f63 := and63u ⟨c, hc256⟩
      simp only at f63
      have hor := or_join p (c % 64) hp6 (by omega)
      have hnext : accP s i q k = p * 64 + c % 64 := by
        obtain ⟨k', rfl⟩ : ∃ k', k = k' + 1 := ⟨k - 1, by omega⟩
        rw [accP, ← hc, hp]; rfl
      obtain ⟨m, hmm⟩ : ∃ m, m = c % 64 := ⟨_, rfl⟩
      obtain ⟨p2, hp2⟩ : ∃ p2, p2 = p * 64 + m := ⟨_, rfl⟩
      rw [← hmm] at f63 hor hnext
      rw [← hp2] at hor hnext
      have hm64 : m < 64 := by omega
      rw [← hc] at hby
      rw [← hp]
      by_cases h2 : c / 64 = 2
      · rw [decide_eq_true h2] at hM
        have HM := Lib.hid hM
        have HN := Lib.hid hnext
        have HC2 : Hid (∀ j, 1 ≤ j → j < k + 1 → cb s i j / 64 = 2) := Lib.hid (fun j h1 hj => by
          rcases Nat.lt_or_ge j k with hjk | hjk
          · exact HC.out j h1 hjk
          · have : j = k := by omega
            rw [this, ← hc]; exact h2)
        clear hM hnext hc hp hmm hp2 h2
        go_wp2_with fail
        refine (HM.out _).mono ?_
        rintro e' _ ⟨rfl, rfl⟩
        go_wp2_with fail
        all_goals go_round
        case rel => exact ⟨k + 1, by omega, by omega, by go_num, by rw [show k + 1 - 1 = k from rfl, HN.out], HC2⟩
        case measure => simp [intOf]; omega
      · rw [decide_eq_false h2] at hM
        have HM := Lib.hid hM
        have HA : Hid (ans = badV) := Lib.hid (H1.out k hk1 hlt (by rw [← hc]; exact h2))
        clear hM hnext hc hp hmm hp2 h2
        go_wp2_with fail
        refine (HM.out _).mono ?_
        rintro e' _ ⟨rfl, rfl⟩
        go_wp2_with fail
        go_ret3
        exact ⟨by rw [HA.out]; rfl, rfl⟩
    · obtain rfl : k = 4 := by omega
      have hR := fun W => right_any (accP s i q 3) hP2 W
      obtain ⟨p, hp⟩ : ∃ p, p = accP s i q 3 := ⟨_, rfl⟩
      have hp3 : p < 3000000 := by rw [hp]; exact hP2
      rw [show 4 - 1 = 3 from rfl]
      rw [← hp] at hR ⊢
      rcases Nat.lt_or_ge p 65536 with hl | hl
      · have HA : Hid (ans = badV) := Lib.hid (H2.out HC.out (.inl (by rw [← hp]; exact hl)))
        have tl : decide ((p : Int) < 65536) = true := decide_eq_true (by omega)
        clear hp hR
        go_wp2_with fail
        go_ret3
        exact ⟨by rw [HA.out]; rfl, rfl⟩
      · have tl : decide ((p : Int) < 65536) = false := decide_eq_false (by omega)
        cases hr : rightB p with
        | true =>
          have HA : Hid (ans = .tuple #[.int .i64 (p : Nat), .int .i64 4, .bool true]) := Lib.hid (by rw [hp]; exact H3.out HC.out (by rw [← hp]; exact hl) (by rw [← hp]; exact hr))
          rw [hr] at hR
          have HR := Lib.hid hR
          clear hp hR hr
          go_wp2_with fail
          refine (HR.out _).mono ?_
          rintro e' _ ⟨rfl, rfl⟩
          go_wp2_with fail
          go_ret3
          exact ⟨by rw [HA.out]; rfl, rfl⟩
        | false =>
          have HA : Hid (ans = badV) := Lib.hid (H2.out HC.out (.inr (by rw [← hp]; exact hr)))
          rw [hr] at hR
          have HR := Lib.hid hR
          clear hp hR hr
          go_wp2_with fail
          refine (HR.out _).mono ?_
          rintro e' _ ⟨rfl, rfl⟩
          go_wp2_with fail
          go_ret3
          exact ⟨by rw [HA.out]; rfl, rfl⟩
end Go.Proofs.YtgdfmpanaapdjaaGreatDoor
