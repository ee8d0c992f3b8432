/- In one text: The document's answer for runes: more, Right, piece.; The document's answer for runes: piece, walked.; The document's answer for runes: piece is the language's own decoding.; The document's answer: Valid, Colour.; The document's answer: Quote.; The document's answer: unit.; The document's answer: Escape where the text stays as it is.; The document's answer: zero, Num, Arr. -/
import Derived.Test.YtpfamfkdfbcooaaGreatDoorVap
import Derived.LoopTactic
import Derived.Deep.RegionLaw
set_option linter.unusedVariables false
set_option linter.unusedSimpArgs false
/- The document's answer for runes: more, Right, piece. -/
namespace Go.Proofs.YtpfamfkdfbcooaaGreatDoor
open Go Go.RowKit Go.Proofs

theorem and192 : ∀ b : Fin 256, (bits BinOp.and IntKind.u8 ((b.val : Nat) : Int) 192 == 128) = decide (b.val / 64 = 2) := by decide +kernel
theorem and224 : ∀ b : Fin 256, (bits BinOp.and IntKind.u8 ((b.val : Nat) : Int) 224 == 192) = decide (b.val / 32 = 6) := by decide +kernel
theorem and240 : ∀ b : Fin 256, (bits BinOp.and IntKind.u8 ((b.val : Nat) : Int) 240 == 224) = decide (b.val / 16 = 14) := by decide +kernel
theorem and248 : ∀ b : Fin 256, (bits BinOp.and IntKind.u8 ((b.val : Nat) : Int) 248 == 240) = decide (b.val / 8 = 30) := by decide +kernel
theorem and31 : ∀ b : Fin 256, bits BinOp.and IntKind.u8 ((b.val : Nat) : Int) 31 = ((b.val % 32 : Nat) : Int) := by decide +kernel
theorem and15' : ∀ b : Fin 256, bits BinOp.and IntKind.u8 ((b.val : Nat) : Int) 15 = ((b.val % 16 : Nat) : Int) := by decide +kernel
theorem and7 : ∀ b : Fin 256, bits BinOp.and IntKind.u8 ((b.val : Nat) : Int) 7 = ((b.val % 8 : Nat) : Int) := by decide +kernel
theorem and63u : ∀ b : Fin 256, bits BinOp.and IntKind.u8 ((b.val : Nat) : Int) 63 = ((b.val % 64 : Nat) : Int) := by decide +kernel
theorem more_any (b : Nat) (hb : b < 256) (w : World) : Calls Tryz.prog 83 #[.int .u8 b] w fun e w' => e = .returned (.bool (decide (b / 64 = 2))) ∧ w = w' := by
  have h := and192 ⟨b, hb⟩
  simp only at h
  rw [← h]
  clear h
  go_enter Tryz.func83, Tryz.ntmps83
  go_wp2_with fail
  go_ret
  exact ⟨rfl, rfl⟩
def rightB (p : Nat) : Bool := decide (p ≤ 1114111) && (decide (p < 55296) || decide (57343 < p))
theorem right_any (p : Nat) (hp : p < 3000000) (w : World) : Calls Tryz.prog 84 #[.int .i64 p] w fun e w' => e = .returned (.bool (rightB p)) ∧ w = w' := by
  obtain ⟨r, hr⟩ : ∃ r, r = rightB p := ⟨_, rfl⟩
  rw [← hr]
  have t0 : decide ((0 : Int) ≤ (p : Int)) = true := decide_eq_true (by omega)
  rcases Nat.lt_or_ge 1114111 p with h1 | h1
  · have HR : Hid (r = false) := Lib.hid (by rw [hr, rightB, decide_eq_false (by omega)]; rfl)
    have t1 : decide ((p : Int) ≤ 1114111) = false := decide_eq_false (by omega)
    clear hr
    go_enter Tryz.func84, Tryz.ntmps84
    go_wp2_with fail
    go_ret
    exact ⟨by rw [HR.out]; rfl, rfl⟩
  · have t1 : decide ((p : Int) ≤ 1114111) = true := decide_eq_true (by omega)
    rcases Nat.lt_or_ge p 55296 with h2 | h2
    · have HR : Hid (r = true) := Lib.hid (by rw [hr, rightB, decide_eq_true h1, decide_eq_true h2]; rfl)
      have t2 : decide ((p : Int) < 55296) = true := decide_eq_true (by omega)
      clear hr
      go_enter Tryz.func84, Tryz.ntmps84
      go_wp2_with fail
      go_ret
      exact ⟨by rw [HR.out]; rfl, rfl⟩
    · have HR : Hid (r = decide (57343 < p)) := Lib.hid (by rw [hr, rightB, decide_eq_true h1, decide_eq_false (by omega)]; rfl)
      have t2 : decide ((p : Int) < 55296) = false := decide_eq_false (by omega)
      have t3 : decide ((57343 : Int) < (p : Int)) = decide (57343 < p) := by rw [decide_eq_decide]; omega
      clear hr
      go_enter Tryz.func84, Tryz.ntmps84
      go_wp2_with fail
      go_ret
      exact ⟨by rw [HR.out]; rfl, rfl⟩
theorem or_i64 (a b : Nat) (ha : a < 2 ^ 62) (hb : b < 2 ^ 62) : bits BinOp.or IntKind.i64 (a : Int) (b : Int) = ((a ||| b : Nat) : Int) := by
  show IntKind.i64.wrap ((BitVec.ofInt 64 (a : Int) ||| BitVec.ofInt 64 (b : Int)).toNat : Int) = _
  have e1 : ((a : Int) % ((2 ^ 64 : Nat) : Int)).toNat = a := by omega
  have e2 : ((b : Int) % ((2 ^ 64 : Nat) : Int)).toNat = b := by omega
  rw [BitVec.toNat_or, BitVec.toNat_ofInt, BitVec.toNat_ofInt, e1, e2, IntKind.wrap_i64]
  have := Nat.or_lt_two_pow ha hb
  omega
theorem or_join (p x : Nat) (hp : p < 65536) (hx : x < 64) : bits BinOp.or IntKind.i64 ((p : Int) * 64) (x : Int) = ((p * 64 + x : Nat) : Int) := by
  have h := or_i64 (p * 64) x (by omega) (by omega)
  rw [Int.natCast_mul] at h
  rw [show ((p : Int) * 64) = (p : Int) * ((64 : Nat) : Int) from rfl, h]
  rw [Nat.mul_comm p 64, show (64 : Nat) = 2 ^ 6 from rfl, ← Nat.two_pow_add_eq_or_of_lt (by omega : x < 2 ^ 6)]
/-- The piece at a byte is a code point's bytes. -/
def okAt (s : ByteArray) (i : Nat) : Bool := decide ((s.get! i).toNat < 128) || (Utf8.decode s i).2 != 1
/-- What 'piece' answers. -/
def pieceV (s : ByteArray) (i : Nat) : Value := .tuple #[.int .i64 ((Utf8.decode s i).1 : Nat), .int .i64 ((Utf8.decode s i).2 : Nat), .bool (okAt s i)]
def badV : Value := .tuple #[.int .i64 65533, .int .i64 1, .bool false]
theorem get_get (s : ByteArray) (i : Nat) (h : i < s.size) : s.get! i = s[i]'h := by
  simp [ByteArray.get!, ByteArray.getElem_eq_getElem_data, h]
set_option maxRecDepth 100000 in
theorem piece_0 (s : ByteArray) (i b : Nat) (w : World) (hi : i < s.size) (hb : (s[i]'hi).toNat = b) (h : b < 128) (hm : s.size < 1000000000) : Calls Tryz.prog 54 #[.string s, .int .i64 i] w fun e w' => e = .returned (.tuple #[.int .i64 b, .int .i64 1, .bool true]) ∧ w = w' := by
  go_enter Tryz.func54, Tryz.ntmps54
  go_wp2_with fail
  refine bodyPost_ret (results_tmp3 rfl _ _ _) rfl ?_
  exact ⟨rfl, rfl⟩
end Go.Proofs.YtpfamfkdfbcooaaGreatDoor
/- The document's answer for runes: piece, walked. -/
namespace Go.Proofs.YtpfamfkdfbcooaaGreatDoor
open Go Go.RowKit Go.Proofs
def cb (s : ByteArray) (i k : Nat) : Nat := (s.get! (i + k)).toNat
def accP (s : ByteArray) (i q : Nat) : Nat → Nat
  | 0 => q
  | k + 1 => accP s i q k * 64 + cb s i (k + 1) % 64
theorem cb_lt (s : ByteArray) (i k : Nat) : cb s i k < 256 := (s.get! (i + k)).toNat_lt
theorem cb_at (s : ByteArray) (i k : Nat) (h : i + k < s.size) : (s[i + k]'h).toNat = cb s i k := by rw [cb, get_get s _ h]
set_option maxRecDepth 100000 in
theorem piece_none (s : ByteArray) (i b : Nat) (w : World) (hi : i < s.size) (hb : (s[i]'hi).toNat = b) (h : 128 ≤ b) (hb2 : b < 256) (hm : s.size < 1000000000)
    (f1 : (bits BinOp.and IntKind.u8 (b : Int) 224 == 192) = false) (f2 : (bits BinOp.and IntKind.u8 (b : Int) 240 == 224) = false) (f3 : (bits BinOp.and IntKind.u8 (b : Int) 248 == 240) = false) :
    Calls Tryz.prog 54 #[.string s, .int .i64 i] w fun e w' => e = .returned badV ∧ w = w' := by
  go_enter Tryz.func54, Tryz.ntmps54
  go_wp2_with fail
  go_ret3
  exact ⟨rfl, rfl⟩

set_option maxRecDepth 100000 in
theorem piece_short2 (s : ByteArray) (i b q : Nat) (w : World) (hi : i < s.size) (hb : (s[i]'hi).toNat = b) (h : 128 ≤ b) (hb2 : b < 256) (hm : s.size < 1000000000) (f1 : (bits BinOp.and IntKind.u8 (b : Int) 224 == 192) = true) (fq : bits BinOp.and IntKind.u8 (b : Int) 31 = (q : Int)) (hq : q < 32) (hs : s.size < i + 2) :
    Calls Tryz.prog 54 #[.string s, .int .i64 i] w fun e w' => e = .returned badV ∧ w = w' := by
  go_enter Tryz.func54, Tryz.ntmps54
  go_wp2_with fail
  go_ret3
  exact ⟨rfl, rfl⟩
set_option maxHeartbeats 1000000 in
set_option maxRecDepth 100000 in
theorem piece_long2 (s : ByteArray) (i b q : Nat) (w : World) (hi : i < s.size) (hb : (s[i]'hi).toNat = b) (h : 128 ≤ b) (hb2 : b < 256) (hm : s.size < 1000000000) (f1 : (bits BinOp.and IntKind.u8 (b : Int) 224 == 192) = true) (fq : bits BinOp.and IntKind.u8 (b : Int) 31 = (q : Int)) (hq : q < 32) (hs : i + 2 ≤ s.size) (ans : Value)
    (hP : ∀ j, j + 1 < 2 → accP s i q j < 65536) (hP2 : accP s i q 1 < 3000000)
    (A1 : ∀ k, 1 ≤ k → k < 2 → cb s i k / 64 ≠ 2 → ans = badV)
    (A2 : (∀ k, 1 ≤ k → k < 2 → cb s i k / 64 = 2) → (accP s i q 1 < 128 ∨ rightB (accP s i q 1) = false) → ans = badV)
    (A3 : (∀ k, 1 ≤ k → k < 2 → cb s i k / 64 = 2) → 128 ≤ accP s i q 1 → rightB (accP s i q 1) = true → ans = .tuple #[.int .i64 (accP s i q 1 : Nat), .int .i64 2, .bool true]) :
    Calls Tryz.prog 54 #[.string s, .int .i64 i] w fun e w' => e = .returned ans ∧ w = w' := by
  have HP := Lib.hid hP
  have H1 := Lib.hid A1
  have H2 := Lib.hid A2
  have H3 := Lib.hid A3
  clear hP A1 A2 A3
  go_enter Tryz.func54, Tryz.ntmps54
  go_wp2_with fail
  go_loop [11, 9] (fun kv pv => ∃ k : Nat, 1 ≤ k ∧ k ≤ 2 ∧ kv = .int .i64 k ∧ pv = .int .i64 (accP s i q (k - 1) : Nat) ∧ Hid (∀ j, 1 ≤ j → j < k → cb s i j / 64 = 2)) (fun kv _ => 2 - (intOf kv).toNat)
  case atStart => exact ⟨1, by omega, by omega, rfl, rfl, Lib.hid (fun j h1 h2 => by omega)⟩
  case round =>
    obtain ⟨k, hk1, hkn, rfl, rfl, HC⟩ := hrel
    rcases Nat.lt_or_ge k 2 with hlt | hge
    · have hx : i + k < s.size := by omega
      have hby := cb_at s i k
      obtain ⟨c, hc⟩ : ∃ c, c = cb s i k := ⟨_, rfl⟩
      have hc256 : c < 256 := by rw [hc]; exact cb_lt s i k
      obtain ⟨p, hp⟩ : ∃ p, p = accP s i q (k - 1) := ⟨_, rfl⟩
      have hp6 : p < 65536 := by rw [hp]; exact HP.out (k - 1) (by omega)
      have hM := fun W => more_any c hc256 W
      have f63 := and63u ⟨c, hc256⟩
      simp only at f63
      have hor := or_join p (c % 64) hp6 (by omega)
      have hnext : accP s i q k = p * 64 + c % 64 := by
        obtain ⟨k', rfl⟩ : ∃ k', k = k' + 1 := ⟨k - 1, by omega⟩
        rw [accP, ← hc, hp]; rfl
      obtain ⟨m, hmm⟩ : ∃ m, m = c % 64 := ⟨_, rfl⟩
      obtain ⟨p2, hp2⟩ : ∃ p2, p2 = p * 64 + m := ⟨_, rfl⟩
      rw [← hmm] at f63 hor hnext
      rw [← hp2] at hor hnext
      have hm64 : m < 64 := by omega
      rw [← hc] at hby
      rw [← hp]
      by_cases h2 : c / 64 = 2
      · rw [decide_eq_true h2] at hM
        have HM := Lib.hid hM
        have HN := Lib.hid hnext
        have HC2 : Hid (∀ j, 1 ≤ j → j < k + 1 → cb s i j / 64 = 2) := Lib.hid (fun j h1 hj => by
          rcases Nat.lt_or_ge j k with hjk | hjk
          · exact HC.out j h1 hjk
          · have : j = k := by omega
            rw [this, ← hc]; exact h2)
        clear hM hnext hc hp hmm hp2 h2
        go_wp2_with fail
        refine (HM.out _).mono ?_
        rintro e' _ ⟨rfl, rfl⟩
        go_wp2_with fail
        all_goals go_round
        case rel => exact ⟨k + 1, by omega, by omega, by go_num, by rw [show k + 1 - 1 = k from rfl, HN.out], HC2⟩
        case measure => simp [intOf]; omega
      · rw [decide_eq_false h2] at hM
        have HM := Lib.hid hM
        have HA : Hid (ans = badV) := Lib.hid (H1.out k hk1 hlt (by rw [← hc]; exact h2))
        clear hM hnext hc hp hmm hp2 h2
        go_wp2_with fail
        refine (HM.out _).mono ?_
        rintro e' _ ⟨rfl, rfl⟩
        go_wp2_with fail
        go_ret3
        exact ⟨by rw [HA.out]; rfl, rfl⟩
    · obtain rfl : k = 2 := by omega
      have hR := fun W => right_any (accP s i q 1) hP2 W
      obtain ⟨p, hp⟩ : ∃ p, p = accP s i q 1 := ⟨_, rfl⟩
      have hp3 : p < 3000000 := by rw [hp]; exact hP2
      rw [show 2 - 1 = 1 from rfl]
      rw [← hp] at hR ⊢
      rcases Nat.lt_or_ge p 128 with hl | hl
      · have HA : Hid (ans = badV) := Lib.hid (H2.out HC.out (.inl (by rw [← hp]; exact hl)))
        have tl : decide ((p : Int) < 128) = true := decide_eq_true (by omega)
        clear hp hR
        go_wp2_with fail
        go_ret3
        exact ⟨by rw [HA.out]; rfl, rfl⟩
      · have tl : decide ((p : Int) < 128) = false := decide_eq_false (by omega)
        cases hr : rightB p with
        | true =>
          have HA : Hid (ans = .tuple #[.int .i64 (p : Nat), .int .i64 2, .bool true]) := Lib.hid (by rw [hp]; exact H3.out HC.out (by rw [← hp]; exact hl) (by rw [← hp]; exact hr))
          rw [hr] at hR
          have HR := Lib.hid hR
          clear hp hR hr
          go_wp2_with fail
          refine (HR.out _).mono ?_
          rintro e' _ ⟨rfl, rfl⟩
          go_wp2_with fail
          go_ret3
          exact ⟨by rw [HA.out]; rfl, rfl⟩
        | false =>
          have HA : Hid (ans = badV) := Lib.hid (H2.out HC.out (.inr (by rw [← hp]; exact hr)))
          rw [hr] at hR
          have HR := Lib.hid hR
          clear hp hR hr
          go_wp2_with fail
          refine (HR.out _).mono ?_
          rintro e' _ ⟨rfl, rfl⟩
          go_wp2_with fail
          go_ret3
          exact ⟨by rw [HA.out]; rfl, rfl⟩

set_option maxRecDepth 100000 in
theorem piece_short3 (s : ByteArray) (i b q : Nat) (w : World) (hi : i < s.size) (hb : (s[i]'hi).toNat = b) (h : 128 ≤ b) (hb2 : b < 256) (hm : s.size < 1000000000) (f1 : (bits BinOp.and IntKind.u8 (b : Int) 224 == 192) = false) (f2 : (bits BinOp.and IntKind.u8 (b : Int) 240 == 224) = true) (fq : bits BinOp.and IntKind.u8 (b : Int) 15 = (q : Int)) (hq : q < 32) (hs : s.size < i + 3) :
    Calls Tryz.prog 54 #[.string s, .int .i64 i] w fun e w' => e = .returned badV ∧ w = w' := by
  go_enter Tryz.func54, Tryz.ntmps54
  go_wp2_with fail
  go_ret3
  exact ⟨rfl, rfl⟩
set_option maxHeartbeats 1000000 in
set_option maxRecDepth 100000 in
theorem piece_long3 (s : ByteArray) (i b q : Nat) (w : World) (hi : i < s.size) (hb : (s[i]'hi).toNat = b) (h : 128 ≤ b) (hb2 : b < 256) (hm : s.size < 1000000000) (f1 : (bits BinOp.and IntKind.u8 (b : Int) 224 == 192) = false) (f2 : (bits BinOp.and IntKind.u8 (b : Int) 240 == 224) = true) (fq : bits BinOp.and IntKind.u8 (b : Int) 15 = (q : Int)) (hq : q < 32) (hs : i + 3 ≤ s.size) (ans : Value)
    (hP : ∀ j, j + 1 < 3 → accP s i q j < 65536) (hP2 : accP s i q 2 < 3000000)
    (A1 : ∀ k, 1 ≤ k → k < 3 → cb s i k / 64 ≠ 2 → ans = badV)
    (A2 : (∀ k, 1 ≤ k → k < 3 → cb s i k / 64 = 2) → (accP s i q 2 < 2048 ∨ rightB (accP s i q 2) = false) → ans = badV)
    (A3 : (∀ k, 1 ≤ k → k < 3 → cb s i k / 64 = 2) → 2048 ≤ accP s i q 2 → rightB (accP s i q 2) = true → ans = .tuple #[.int .i64 (accP s i q 2 : Nat), .int .i64 3, .bool true]) :
    Calls Tryz.prog 54 #[.string s, .int .i64 i] w fun e w' => e = .returned ans ∧ w = w' := by
  have HP := Lib.hid hP
  have H1 := Lib.hid A1
  have H2 := Lib.hid A2
  have H3 := Lib.hid A3
  clear hP A1 A2 A3
  go_enter Tryz.func54, Tryz.ntmps54
  go_wp2_with fail
  go_loop [11, 9] (fun kv pv => ∃ k : Nat, 1 ≤ k ∧ k ≤ 3 ∧ kv = .int .i64 k ∧ pv = .int .i64 (accP s i q (k - 1) : Nat) ∧ Hid (∀ j, 1 ≤ j → j < k → cb s i j / 64 = 2)) (fun kv _ => 3 - (intOf kv).toNat)
  case atStart => exact ⟨1, by omega, by omega, rfl, rfl, Lib.hid (fun j h1 h2 => by omega)⟩
  case round =>
    obtain ⟨k, hk1, hkn, rfl, rfl, HC⟩ := hrel
    rcases Nat.lt_or_ge k 3 with hlt | hge
    · have hx : i + k < s.size := by omega
      have hby := cb_at s i k
      obtain ⟨c, hc⟩ : ∃ c, c = cb s i k := ⟨_, rfl⟩
      have hc256 : c < 256 := by rw [hc]; exact cb_lt s i k
      obtain ⟨p, hp⟩ : ∃ p, p = accP s i q (k - 1) := ⟨_, rfl⟩
      have hp6 : p < 65536 := by rw [hp]; exact HP.out (k - 1) (by omega)
      have hM := fun W => more_any c hc256 W
      have f63 := and63u ⟨c, hc256⟩
      simp only at f63
      have hor := or_join p (c % 64) hp6 (by omega)
      have hnext : accP s i q k = p * 64 + c % 64 := by
        obtain ⟨k', rfl⟩ : ∃ k', k = k' + 1 := ⟨k - 1, by omega⟩
        rw [accP, ← hc, hp]; rfl
      obtain ⟨m, hmm⟩ : ∃ m, m = c % 64 := ⟨_, rfl⟩
      obtain ⟨p2, hp2⟩ : ∃ p2, p2 = p * 64 + m := ⟨_, rfl⟩
      rw [← hmm] at f63 hor hnext
      rw [← hp2] at hor hnext
      have hm64 : m < 64 := by omega
      rw [← hc] at hby
      rw [← hp]
      by_cases h2 : c / 64 = 2
      · rw [decide_eq_true h2] at hM
        have HM := Lib.hid hM
        have HN := Lib.hid hnext
        have HC2 : Hid (∀ j, 1 ≤ j → j < k + 1 → cb s i j / 64 = 2) := Lib.hid (fun j h1 hj => by
          rcases Nat.lt_or_ge j k with hjk | hjk
          · exact HC.out j h1 hjk
          · have : j = k := by omega
            rw [this, ← hc]; exact h2)
        clear hM hnext hc hp hmm hp2 h2
        go_wp2_with fail
        refine (HM.out _).mono ?_
        rintro e' _ ⟨rfl, rfl⟩
        go_wp2_with fail
        all_goals go_round
        case rel => exact ⟨k + 1, by omega, by omega, by go_num, by rw [show k + 1 - 1 = k from rfl, HN.out], HC2⟩
        case measure => simp [intOf]; omega
      · rw [decide_eq_false h2] at hM
        have HM := Lib.hid hM
        have HA : Hid (ans = badV) := Lib.hid (H1.out k hk1 hlt (by rw [← hc]; exact h2))
        clear hM hnext hc hp hmm hp2 h2
        go_wp2_with fail
        refine (HM.out _).mono ?_
        rintro e' _ ⟨rfl, rfl⟩
        go_wp2_with fail
        go_ret3
        exact ⟨by rw [HA.out]; rfl, rfl⟩
    · obtain rfl : k = 3 := by omega
      have hR := fun W => right_any (accP s i q 2) hP2 W
      obtain ⟨p, hp⟩ : ∃ p, p = accP s i q 2 := ⟨_, rfl⟩
      have hp3 : p < 3000000 := by rw [hp]; exact hP2
      rw [show 3 - 1 = 2 from rfl]
      rw [← hp] at hR ⊢
      rcases Nat.lt_or_ge p 2048 with hl | hl
      · have HA : Hid (ans = badV) := Lib.hid (H2.out HC.out (.inl (by rw [← hp]; exact hl)))
        have tl : decide ((p : Int) < 2048) = true := decide_eq_true (by omega)
        clear hp hR
        go_wp2_with fail
        go_ret3
        exact ⟨by rw [HA.out]; rfl, rfl⟩
      · have tl : decide ((p : Int) < 2048) = false := decide_eq_false (by omega)
        cases hr : rightB p with
        | true =>
          have HA : Hid (ans = .tuple #[.int .i64 (p : Nat), .int .i64 3, .bool true]) := Lib.hid (by rw [hp]; exact H3.out HC.out (by rw [← hp]; exact hl) (by rw [← hp]; exact hr))
          rw [hr] at hR
          have HR := Lib.hid hR
          clear hp hR hr
          go_wp2_with fail
          refine (HR.out _).mono ?_
          rintro e' _ ⟨rfl, rfl⟩
          go_wp2_with fail
          go_ret3
          exact ⟨by rw [HA.out]; rfl, rfl⟩
        | false =>
          have HA : Hid (ans = badV) := Lib.hid (H2.out HC.out (.inr (by rw [← hp]; exact hr)))
          rw [hr] at hR
          have HR := Lib.hid hR
          clear hp hR hr
          go_wp2_with fail
          refine (HR.out _).mono ?_
          rintro e' _ ⟨rfl, rfl⟩
          go_wp2_with fail
          go_ret3
          exact ⟨by rw [HA.out]; rfl, rfl⟩

set_option maxRecDepth 100000 in
theorem piece_short4 (s : ByteArray) (i b q : Nat) (w : World) (hi : i < s.size) (hb : (s[i]'hi).toNat = b) (h : 128 ≤ b) (hb2 : b < 256) (hm : s.size < 1000000000) (f1 : (bits BinOp.and IntKind.u8 (b : Int) 224 == 192) = false) (f2 : (bits BinOp.and IntKind.u8 (b : Int) 240 == 224) = false) (f3 : (bits BinOp.and IntKind.u8 (b : Int) 248 == 240) = true) (fq : bits BinOp.and IntKind.u8 (b : Int) 7 = (q : Int)) (hq : q < 32) (hs : s.size < i + 4) :
    Calls Tryz.prog 54 #[.string s, .int .i64 i] w fun e w' => e = .returned badV ∧ w = w' := by
  go_enter Tryz.func54, Tryz.ntmps54
  go_wp2_with fail
  go_ret3
  exact ⟨rfl, rfl⟩
set_option maxHeartbeats 1000000 in
set_option maxRecDepth 100000 in
theorem piece_long4 (s : ByteArray) (i b q : Nat) (w : World) (hi : i < s.size) (hb : (s[i]'hi).toNat = b) (h : 128 ≤ b) (hb2 : b < 256) (hm : s.size < 1000000000) (f1 : (bits BinOp.and IntKind.u8 (b : Int) 224 == 192) = false) (f2 : (bits BinOp.and IntKind.u8 (b : Int) 240 == 224) = false) (f3 : (bits BinOp.and IntKind.u8 (b : Int) 248 == 240) = true) (fq : bits BinOp.and IntKind.u8 (b : Int) 7 = (q : Int)) (hq : q < 32) (hs : i + 4 ≤ s.size) (ans : Value)
    (hP : ∀ j, j + 1 < 4 → accP s i q j < 65536) (hP2 : accP s i q 3 < 3000000)
    (A1 : ∀ k, 1 ≤ k → k < 4 → cb s i k / 64 ≠ 2 → ans = badV)
    (A2 : (∀ k, 1 ≤ k → k < 4 → cb s i k / 64 = 2) → (accP s i q 3 < 65536 ∨ rightB (accP s i q 3) = false) → ans = badV)
    (A3 : (∀ k, 1 ≤ k → k < 4 → cb s i k / 64 = 2) → 65536 ≤ accP s i q 3 → rightB (accP s i q 3) = true → ans = .tuple #[.int .i64 (accP s i q 3 : Nat), .int .i64 4, .bool true]) :
    Calls Tryz.prog 54 #[.string s, .int .i64 i] w fun e w' => e = .returned ans ∧ w = w' := by
  have HP := Lib.hid hP
  have H1 := Lib.hid A1
  have H2 := Lib.hid A2
  have H3 := Lib.hid A3
  clear hP A1 A2 A3
  go_enter Tryz.func54, Tryz.ntmps54
  go_wp2_with fail
  go_loop [11, 9] (fun kv pv => ∃ k : Nat, 1 ≤ k ∧ k ≤ 4 ∧ kv = .int .i64 k ∧ pv = .int .i64 (accP s i q (k - 1) : Nat) ∧ Hid (∀ j, 1 ≤ j → j < k → cb s i j / 64 = 2)) (fun kv _ => 4 - (intOf kv).toNat)
  case atStart => exact ⟨1, by omega, by omega, rfl, rfl, Lib.hid (fun j h1 h2 => by omega)⟩
  case round =>
    obtain ⟨k, hk1, hkn, rfl, rfl, HC⟩ := hrel
    rcases Nat.lt_or_ge k 4 with hlt | hge
    · have hx : i + k < s.size := by omega
      have hby := cb_at s i k
      obtain ⟨c, hc⟩ : ∃ c, c = cb s i k := ⟨_, rfl⟩
      have hc256 : c < 256 := by rw [hc]; exact cb_lt s i k
      obtain ⟨p, hp⟩ : ∃ p, p = accP s i q (k - 1) := ⟨_, rfl⟩
      have hp6 : p < 65536 := by rw [hp]; exact HP.out (k - 1) (by omega)
      have hM := fun W => more_any c hc256 W
      have f63 := and63u ⟨c, hc256⟩
      simp only at f63
      have hor := or_join p (c % 64) hp6 (by omega)
      have hnext : accP s i q k = p * 64 + c % 64 := by
        obtain ⟨k', rfl⟩ : ∃ k', k = k' + 1 := ⟨k - 1, by omega⟩
        rw [accP, ← hc, hp]; rfl
      obtain ⟨m, hmm⟩ : ∃ m, m = c % 64 := ⟨_, rfl⟩
      obtain ⟨p2, hp2⟩ : ∃ p2, p2 = p * 64 + m := ⟨_, rfl⟩
      rw [← hmm] at f63 hor hnext
      rw [← hp2] at hor hnext
      have hm64 : m < 64 := by omega
      rw [← hc] at hby
      rw [← hp]
      by_cases h2 : c / 64 = 2
      · rw [decide_eq_true h2] at hM
        have HM := Lib.hid hM
        have HN := Lib.hid hnext
        have HC2 : Hid (∀ j, 1 ≤ j → j < k + 1 → cb s i j / 64 = 2) := Lib.hid (fun j h1 hj => by
          rcases Nat.lt_or_ge j k with hjk | hjk
          · exact HC.out j h1 hjk
          · have : j = k := by omega
            rw [this, ← hc]; exact h2)
        clear hM hnext hc hp hmm hp2 h2
        go_wp2_with fail
        refine (HM.out _).mono ?_
        rintro e' _ ⟨rfl, rfl⟩
        go_wp2_with fail
        all_goals go_round
        case rel => exact ⟨k + 1, by omega, by omega, by go_num, by rw [show k + 1 - 1 = k from rfl, HN.out], HC2⟩
        case measure => simp [intOf]; omega
      · rw [decide_eq_false h2] at hM
        have HM := Lib.hid hM
        have HA : Hid (ans = badV) := Lib.hid (H1.out k hk1 hlt (by rw [← hc]; exact h2))
        clear hM hnext hc hp hmm hp2 h2
        go_wp2_with fail
        refine (HM.out _).mono ?_
        rintro e' _ ⟨rfl, rfl⟩
        go_wp2_with fail
        go_ret3
        exact ⟨by rw [HA.out]; rfl, rfl⟩
    · obtain rfl : k = 4 := by omega
      have hR := fun W => right_any (accP s i q 3) hP2 W
      obtain ⟨p, hp⟩ : ∃ p, p = accP s i q 3 := ⟨_, rfl⟩
      have hp3 : p < 3000000 := by rw [hp]; exact hP2
      rw [show 4 - 1 = 3 from rfl]
      rw [← hp] at hR ⊢
      rcases Nat.lt_or_ge p 65536 with hl | hl
      · have HA : Hid (ans = badV) := Lib.hid (H2.out HC.out (.inl (by rw [← hp]; exact hl)))
        have tl : decide ((p : Int) < 65536) = true := decide_eq_true (by omega)
        clear hp hR
        go_wp2_with fail
        go_ret3
        exact ⟨by rw [HA.out]; rfl, rfl⟩
      · have tl : decide ((p : Int) < 65536) = false := decide_eq_false (by omega)
        cases hr : rightB p with
        | true =>
          have HA : Hid (ans = .tuple #[.int .i64 (p : Nat), .int .i64 4, .bool true]) := Lib.hid (by rw [hp]; exact H3.out HC.out (by rw [← hp]; exact hl) (by rw [← hp]; exact hr))
          rw [hr] at hR
          have HR := Lib.hid hR
          clear hp hR hr
          go_wp2_with fail
          refine (HR.out _).mono ?_
          rintro e' _ ⟨rfl, rfl⟩
          go_wp2_with fail
          go_ret3
          exact ⟨by rw [HA.out]; rfl, rfl⟩
        | false =>
          have HA : Hid (ans = badV) := Lib.hid (H2.out HC.out (.inr (by rw [← hp]; exact hr)))
          rw [hr] at hR
          have HR := Lib.hid hR
          clear hp hR hr
          go_wp2_with fail
          refine (HR.out _).mono ?_
          rintro e' _ ⟨rfl, rfl⟩
          go_wp2_with fail
          go_ret3
          exact ⟨by rw [HA.out]; rfl, rfl⟩
end Go.Proofs.YtpfamfkdfbcooaaGreatDoor
/- The document's answer for runes: piece is the language's own decoding. -/
namespace Go.Proofs.YtpfamfkdfbcooaaGreatDoor
open Go Go.RowKit Go.Proofs

theorem valid_right (c : Nat) : Utf8.valid (c : Int) = rightB c := by
  unfold Utf8.valid rightB
  rw [Bool.eq_iff_iff]
  simp
  omega
set_option maxRecDepth 100000 in
/-- Decoding, its bytes named. -/
theorem dec_eq (s : ByteArray) (i : Nat) : Utf8.decode s i =
    if cb s i 0 < 128 then (cb s i 0, 1)
    else if cb s i 0 / 32 = 6 ∧ (i + 1 < s.size ∧ cb s i 1 / 64 = 2) then (if 128 ≤ cb s i 0 % 32 * 64 + cb s i 1 % 64 then (cb s i 0 % 32 * 64 + cb s i 1 % 64, 2) else (65533, 1))
    else if cb s i 0 / 16 = 14 ∧ (i + 1 < s.size ∧ cb s i 1 / 64 = 2) ∧ (i + 2 < s.size ∧ cb s i 2 / 64 = 2) then (if 2048 ≤ cb s i 0 % 16 * 4096 + cb s i 1 % 64 * 64 + cb s i 2 % 64 ∧ rightB (cb s i 0 % 16 * 4096 + cb s i 1 % 64 * 64 + cb s i 2 % 64) = true then (cb s i 0 % 16 * 4096 + cb s i 1 % 64 * 64 + cb s i 2 % 64, 3) else (65533, 1))
    else if cb s i 0 / 8 = 30 ∧ (i + 1 < s.size ∧ cb s i 1 / 64 = 2) ∧ (i + 2 < s.size ∧ cb s i 2 / 64 = 2) ∧ (i + 3 < s.size ∧ cb s i 3 / 64 = 2) then (if 65536 ≤ cb s i 0 % 8 * 262144 + cb s i 1 % 64 * 4096 + cb s i 2 % 64 * 64 + cb s i 3 % 64 ∧ rightB (cb s i 0 % 8 * 262144 + cb s i 1 % 64 * 4096 + cb s i 2 % 64 * 64 + cb s i 3 % 64) = true then (cb s i 0 % 8 * 262144 + cb s i 1 % 64 * 4096 + cb s i 2 % 64 * 64 + cb s i 3 % 64, 4) else (65533, 1))
    else (65533, 1) := by
  unfold Utf8.decode
  simp only [Bool.and_eq_true, decide_eq_true_eq, beq_iff_eq, and_assoc, valid_right]
  rfl
theorem get0 (s : ByteArray) (i : Nat) : cb s i 0 = (s.get! i).toNat := by rw [cb, Nat.add_zero]
theorem piece_any (s : ByteArray) (i : Nat) (w : World) (hi : i < s.size) (hm : s.size < 1000000000) :
    Calls Tryz.prog 54 #[.string s, .int .i64 i] w fun e w' => e = .returned (pieceV s i) ∧ w = w' := by
  have hd := dec_eq s i
  have hb : (s[i]'hi).toNat = cb s i 0 := by rw [get0, get_get s i hi]
  have hb2 : cb s i 0 < 256 := cb_lt s i 0
  have hok : okAt s i = (decide (cb s i 0 < 128) || (Utf8.decode s i).2 != 1) := by rw [okAt, get0]
  obtain ⟨b, hbb⟩ : ∃ b, b = cb s i 0 := ⟨_, rfl⟩
  rw [← hbb] at hd hb hb2 hok
  have badE : Utf8.decode s i = (65533, 1) → 128 ≤ b → pieceV s i = badV := fun h h2 => by
    unfold pieceV badV
    rw [hok, h, decide_eq_false (by omega)]; rfl
  have f224 := and224 ⟨b, hb2⟩
  have f240 := and240 ⟨b, hb2⟩
  have f248 := and248 ⟨b, hb2⟩
  have q31 := and31 ⟨b, hb2⟩
  have q15 := and15' ⟨b, hb2⟩
  have q7 := and7 ⟨b, hb2⟩
  simp only at f224 f240 f248 q31 q15 q7
  by_cases h0 : b < 128
  · have hp : pieceV s i = .tuple #[.int .i64 b, .int .i64 1, .bool true] := by
      unfold pieceV
      rw [hok, hd, if_pos h0, decide_eq_true h0]; rfl
    rw [hp]
    exact piece_0 s i b w hi hb h0 hm
  rw [if_neg h0] at hd
  by_cases h2 : b / 32 = 6
  · rw [decide_eq_true h2] at f224
    have n3 : ¬ b / 16 = 14 := by omega
    have n4 : ¬ b / 8 = 30 := by omega
    rcases Nat.lt_or_ge s.size (i + 2) with hs | hs
    · rw [badE (by rw [hd, if_neg (fun h => by omega), if_neg (fun h => n3 h.1), if_neg (fun h => n4 h.1)]) (by omega)]
      exact piece_short2 s i b (b % 32) w hi hb (by omega) hb2 hm f224 q31 (by omega) hs
    · have ha : accP s i (b % 32) 1 = b % 32 * 64 + cb s i 1 % 64 := rfl
      refine piece_long2 s i b (b % 32) w hi hb (by omega) hb2 hm f224 q31 (by omega) hs _ (fun j hj => by
        obtain rfl : j = 0 := by omega
        show b % 32 < _; omega) (by rw [ha]; omega) ?_ ?_ ?_
      · intro k k1 k2 hk
        obtain rfl : k = 1 := by omega
        exact badE (by rw [hd, if_neg (fun h => hk h.2.2), if_neg (fun h => n3 h.1), if_neg (fun h => n4 h.1)]) (by omega)
      · intro hc hx
        have hc1 := hc 1 (by omega) (by omega)
        rw [ha] at hx
        refine badE ?_ (by omega)
        rcases hx with hx | hx
        · rw [hd, if_pos ⟨h2, by omega, hc1⟩, if_neg (by omega)]
        · exfalso
          unfold rightB at hx
          rw [decide_eq_true (by omega), decide_eq_true (by omega)] at hx
          cases hx
      · intro hc hx _
        have hc1 := hc 1 (by omega) (by omega)
        rw [ha] at hx ⊢
        unfold pieceV
        rw [hok, hd, if_pos ⟨h2, by omega, hc1⟩, if_pos hx, decide_eq_false h0]; rfl
  rw [decide_eq_false h2] at f224
  rw [if_neg (fun h => h2 h.1)] at hd
  by_cases h3 : b / 16 = 14
  · rw [decide_eq_true h3] at f240
    have n4 : ¬ b / 8 = 30 := by omega
    rcases Nat.lt_or_ge s.size (i + 3) with hs | hs
    · rw [badE (by rw [hd, if_neg (fun h => by omega), if_neg (fun h => n4 h.1)]) (by omega)]
      exact piece_short3 s i b (b % 16) w hi hb (by omega) hb2 hm f224 f240 q15 (by omega) hs
    · have ha : accP s i (b % 16) 2 = b % 16 * 4096 + cb s i 1 % 64 * 64 + cb s i 2 % 64 := by show (b % 16 * 64 + cb s i 1 % 64) * 64 + cb s i 2 % 64 = _; omega
      refine piece_long3 s i b (b % 16) w hi hb (by omega) hb2 hm f224 f240 q15 (by omega) hs _ (fun j hj => by
        have : j = 0 ∨ j = 1 := by omega
        rcases this with rfl | rfl
        · show b % 16 < _; omega
        · show b % 16 * 64 + cb s i 1 % 64 < _; omega) (by rw [ha]; omega) ?_ ?_ ?_
      · intro k k1 k2 hk
        refine badE ?_ (by omega)
        rw [hd, if_neg (fun h => ?_), if_neg (fun h => n4 h.1)]
        have : k = 1 ∨ k = 2 := by omega
        rcases this with rfl | rfl
        · exact hk h.2.1.2
        · exact hk h.2.2.2
      · intro hc hx
        have hc1 := hc 1 (by omega) (by omega)
        have hc2 := hc 2 (by omega) (by omega)
        rw [ha] at hx
        refine badE ?_ (by omega)
        rw [hd, if_pos ⟨h3, ⟨by omega, hc1⟩, ⟨by omega, hc2⟩⟩, if_neg (fun h => ?_)]
        rcases hx with hx | hx
        · omega
        · rw [h.2] at hx; cases hx
      · intro hc hx hr
        have hc1 := hc 1 (by omega) (by omega)
        have hc2 := hc 2 (by omega) (by omega)
        rw [ha] at hx hr ⊢
        unfold pieceV
        rw [hok, hd, if_pos ⟨h3, ⟨by omega, hc1⟩, ⟨by omega, hc2⟩⟩, if_pos ⟨hx, hr⟩, decide_eq_false h0]; rfl
  rw [decide_eq_false h3] at f240
  rw [if_neg (fun h => h3 h.1)] at hd
  by_cases h4 : b / 8 = 30
  · rw [decide_eq_true h4] at f248
    rcases Nat.lt_or_ge s.size (i + 4) with hs | hs
    · rw [badE (by rw [hd, if_neg (fun h => by omega)]) (by omega)]
      exact piece_short4 s i b (b % 8) w hi hb (by omega) hb2 hm f224 f240 f248 q7 (by omega) hs
    · have ha : accP s i (b % 8) 3 = b % 8 * 262144 + cb s i 1 % 64 * 4096 + cb s i 2 % 64 * 64 + cb s i 3 % 64 := by show ((b % 8 * 64 + cb s i 1 % 64) * 64 + cb s i 2 % 64) * 64 + cb s i 3 % 64 = _; omega
      refine piece_long4 s i b (b % 8) w hi hb (by omega) hb2 hm f224 f240 f248 q7 (by omega) hs _ (fun j hj => by
        have : j = 0 ∨ j = 1 ∨ j = 2 := by omega
        rcases this with rfl | rfl | rfl
        · show b % 8 < _; omega
        · show b % 8 * 64 + cb s i 1 % 64 < _; omega
        · show (b % 8 * 64 + cb s i 1 % 64) * 64 + cb s i 2 % 64 < _; omega) (by rw [ha]; omega) ?_ ?_ ?_
      · intro k k1 k2 hk
        refine badE ?_ (by omega)
        rw [hd, if_neg (fun h => ?_)]
        have : k = 1 ∨ k = 2 ∨ k = 3 := by omega
        rcases this with rfl | rfl | rfl
        · exact hk h.2.1.2
        · exact hk h.2.2.1.2
        · exact hk h.2.2.2.2
      · intro hc hx
        have hc1 := hc 1 (by omega) (by omega)
        have hc2 := hc 2 (by omega) (by omega)
        have hc3 := hc 3 (by omega) (by omega)
        rw [ha] at hx
        refine badE ?_ (by omega)
        rw [hd, if_pos ⟨h4, ⟨by omega, hc1⟩, ⟨by omega, hc2⟩, ⟨by omega, hc3⟩⟩, if_neg (fun h => ?_)]
        rcases hx with hx | hx
        · omega
        · rw [h.2] at hx; cases hx
      · intro hc hx hr
        have hc1 := hc 1 (by omega) (by omega)
        have hc2 := hc 2 (by omega) (by omega)
        have hc3 := hc 3 (by omega) (by omega)
        rw [ha] at hx hr ⊢
        unfold pieceV
        rw [hok, hd, if_pos ⟨h4, ⟨by omega, hc1⟩, ⟨by omega, hc2⟩, ⟨by omega, hc3⟩⟩, if_pos ⟨hx, hr⟩, decide_eq_false h0]; rfl
  rw [decide_eq_false h4] at f248
  rw [badE (by rw [hd, if_neg (fun h => h4 h.1)]) (by omega)]
  exact piece_none s i b w hi hb (by omega) hb2 hm f224 f240 f248
end Go.Proofs.YtpfamfkdfbcooaaGreatDoor
/- The document's answer: Valid, Colour. -/
namespace Go.Proofs.YtpfamfkdfbcooaaGreatDoor
open Go Go.RowKit Go.Proofs
def validFrom (s : ByteArray) : Nat → Nat → Bool
  | 0, _ => true
  | f + 1, p => if p < s.size then okAt s p && validFrom s f (p + (Utf8.decode s p).2) else true
def validB (s : ByteArray) : Bool := validFrom s s.size 0
theorem decode_width (s : ByteArray) (p : Nat) : (Utf8.decode s p).2 ≤ 4 := by
  rw [dec_eq]
  repeat' split
  all_goals simp
set_option maxHeartbeats 1000000 in
set_option maxRecDepth 100000 in
theorem valid_any (s : ByteArray) (w : World) (hm : s.size < 999999000) :
    Calls Tryz.prog 20 #[.string s] w fun e w' => e = .returned (.bool (validB s)) ∧ w = w' := by
  obtain ⟨r, hr⟩ : ∃ r, r = validB s := ⟨_, rfl⟩
  rw [← hr]
  have HR : Hid (r = validFrom s s.size 0) := Lib.hid hr
  clear hr
  go_enter Tryz.func20, Tryz.ntmps20
  go_wp2_with fail
  go_loop [3] (fun i => ∃ pos fuel : Nat, i = .int .i64 pos ∧ Hid (r = validFrom s fuel pos) ∧ s.size ≤ pos + fuel ∧ pos ≤ s.size + 4) (fun i => s.size - (intOf i).toNat)
  case atStart => exact ⟨0, s.size, rfl, HR, by omega, by omega⟩
  case round =>
    obtain ⟨pos, fuel, rfl, HV, hf, hp4⟩ := hrel
    rcases Nat.lt_or_ge pos s.size with hlt | hge
    · obtain ⟨f, rfl⟩ : ∃ f, fuel = f + 1 := ⟨fuel - 1, by omega⟩
      have hP := fun W => piece_any s pos W hlt (by omega)
      have hw1 := width_pos s pos hlt
      have hw4 := decode_width s pos
      have hv : r = (okAt s pos && validFrom s f (pos + (Utf8.decode s pos).2)) := by rw [HV.out, validFrom, if_pos hlt]
      unfold pieceV at hP
      obtain ⟨c, hc⟩ : ∃ c, c = (Utf8.decode s pos).1 := ⟨_, rfl⟩
      obtain ⟨n, hn⟩ : ∃ n, n = (Utf8.decode s pos).2 := ⟨_, rfl⟩
      rw [← hc, ← hn] at hP
      rw [← hn] at hw1 hw4 hv
      cases ho : okAt s pos with
      | true =>
        rw [ho] at hP hv
        have HP := Lib.hid hP
        have HV2 : Hid (r = validFrom s f (pos + n)) := Lib.hid (by rw [hv]; rfl)
        clear hP hv hc hn ho
        go_wp2_with fail
        refine (HP.out _).mono ?_
        rintro e' _ ⟨rfl, rfl⟩
        go_wp2_with fail
        all_goals go_round
        case rel => exact ⟨pos + n, f, by go_num, HV2, by omega, by omega⟩
        case measure => simp [intOf]; omega
      | false =>
        rw [ho] at hP hv
        have HP := Lib.hid hP
        have HV2 : Hid (r = false) := Lib.hid (by rw [hv]; rfl)
        clear hP hv hc hn ho
        go_wp2_with fail
        refine (HP.out _).mono ?_
        rintro e' _ ⟨rfl, rfl⟩
        go_wp2_with fail
        go_ret
        exact ⟨by rw [HV2.out]; rfl, rfl⟩
    · have HV2 : Hid (r = true) := Lib.hid (by
        rw [HV.out]
        cases fuel with
        | zero => rfl
        | succ f => rw [validFrom, if_neg (by omega)])
      go_wp2_with fail
      go_ret
      exact ⟨by rw [HV2.out]; rfl, rfl⟩
end Go.Proofs.YtpfamfkdfbcooaaGreatDoor
/- The document's answer: Quote. -/
namespace Go.Proofs.YtpfamfkdfbcooaaGreatDoor
open Go Go.RowKit Go.Proofs
section
variable {ops : Array Oper} {o : Oper} {a : Act} {K : Act → World → Prop} {Q : Exit → Act → World → Prop} {E : Prop}
/-- append(v, b1, ..) at a step of a region that draws its order. -/
theorem stepN {B : Nat} {w : World} {v : Value} {bs l : List UInt8} {W : World} {v1 : Value} (hgd : o.guard = none) (s x : Operand) (ho : o.op = .call { callee := .builtin .append, args := #[s, x], argTypes := #[60, 60] })
    (l2 : List UInt8) (m : Nat) (arr : Array Value) (hm : m = l2.length) (hs : a.eval s = v1) (hx : a.eval x = .slice (some ⟨W.heap.size, 0, none⟩) m m) (harr : arr.toList = Lib.byteCells l2)
    (hA : App B w v bs W v1 l) (hl : bs.length + l.length + l2.length ≤ 140737488355328)
    (h : ∀ v2 w2, App B w v bs w2 v2 (l ++ l2) → K (a.put o.dst v2) w2) :
    if Region.wanted o (yielded ops a.tmps) = true then Oper.wp Tryz.prog o a (W.alloc (.cells arr 5)) K Q else E := by
  have hw : Region.wanted o (yielded ops a.tmps) = true := by simp [Region.wanted, hgd]
  rw [if_pos hw]
  obtain ⟨i0, hi, hz0, hz1, hz2⟩ := info_parts info_u8
  subst hm
  have hown := hA.own
  have hlen : (bs ++ l).length + l2.length ≤ 140737488355328 := by rw [List.length_append]; exact hl
  have hnews : ∀ j u, (Lib.byteCells l2)[j]? = some u → (W.alloc (.cells arr 5)).cell? ((⟨W.heap.size, 0, none⟩ : Addr).add j) = some u := by
    intro j u hu
    have hc := heap_alloc_new W (.cells arr 5)
    have ha : (⟨W.heap.size, 0, none⟩ : Addr).add j = ⟨W.heap.size, j, none⟩ := by unfold Addr.add; split <;> simp_all
    rw [ha]
    simp only [World.cell?, hc]
    rw [← Array.getElem?_toList, harr, hu]
    rfl
  obtain ⟨v', w', hr, h2, h3, _, h5⟩ := run_append_own_at (P := Tryz.prog) (W.alloc (.cells arr 5)) B 60 o.type 5 i0 (.int .u8 0) 1 1 Tryz.underlying60 hi hz0 hz1 hz2 rfl (by decide) v1 _ _ (hown.alloc _) ⟨W.heap.size, 0, none⟩ l2.length l2.length (Lib.byteCells l2) (by rw [Lib.byteCells_length]; omega) hnews (Lib.byteCells_one l2) (by unfold maxLen; omega) (by omega) (by have := hA.base; simp; omega)
  have hnx : App B w v bs w' v' (l ++ l2) := by
    refine hA.next (l2 := l2) ?_ (World.grownBy.trans (World.grownBy_alloc W _ _) h3) ?_
    · unfold OwnB; rw [List.length_append, Lib.byteCells_append]; exact h2
    · rcases h5 with hat | hat
      · exact .inl hat
      · exact .inr ⟨_, hat, by simp⟩
  unfold Oper.wp execOp
  simp only [ho, resolve, invoke, builtin, Sem.run_bind, Sem.run_pure, Result.andThen_ok, List.map_toArray, List.map_cons, List.map_nil, hs, hx, hr]
  exact h v' w' hnx
end
theorem and15n (n : Nat) (h : n < 256) : bits BinOp.and IntKind.u8 (n : Int) 15 = ((n % 16 : Nat) : Int) := and15' ⟨n, h⟩
set_option maxHeartbeats 4000000 in
set_option maxRecDepth 100000 in
theorem refQuote_any (B : Nat) (w : World) (v : Value) (HO : OwnB B w v []) (hB : B ≤ w.heap.size) (s : List UInt8) (hl : s.length ≤ 100000000) :
    Calls Tryz.prog 100 #[v, .string ⟨s.toArray⟩] w fun e w' => ∃ v', e = .returned v' ∧ App B w v [] w' v' (quoteT s) := by
  have hA00 := App.start HO hB
  go_enter Tryz.func100, Tryz.ntmps100
  go_wp2_with (at_builtin; refine appN rfl _ _ rfl [34] 1 _ rfl rfl rfl rfl hA00 (by simp) ?_; intro v1 w1 hA01)
  clear hA00
  go_loopw [0, 6] (fun b i wr => ∃ (k : Nat), k ≤ s.length ∧ i = .int .i64 k ∧ App B w v [] wr b (34 :: (s.take k).flatMap qb)) (fun _ i _ => s.length - (intOf i).toNat)
  case atStart => exact ⟨0, Nat.zero_le _, rfl, hA01⟩
  case round =>
    clear hA01
    obtain ⟨k, hk, rfl, hA⟩ := hrel
    have hsz : (34 :: (s.take k).flatMap qb).length ≤ 1 + 6 * k := by
      have := flatMap_length (s.take k)
      rw [List.length_take, Nat.min_eq_left hk] at this
      simp only [List.length_cons]; omega
    rcases Nat.lt_or_ge k s.length with hlt | hge
    · obtain ⟨x, hx⟩ : ∃ x, x = s[k] := ⟨_, rfl⟩
      obtain ⟨P, hP⟩ : ∃ P, P = 34 :: (s.take k).flatMap qb := ⟨_, rfl⟩
      have hnext : ∀ W V, App B w v [] W V (P ++ qb x) → App B w v [] W V (34 :: (s.take (k + 1)).flatMap qb) := by
        intro W V hh
        have e : (34 :: (s.take (k + 1)).flatMap qb) = P ++ qb x := by
          rw [List.take_succ_eq_append_getElem hlt, List.flatMap_append, hx, hP]; simp
        rw [e]; exact hh
      rw [← hP] at hA hsz
      have hby : ∀ h, ((⟨s.toArray⟩ : ByteArray)[k]'h).toNat = x.toNat := fun h => by rw [hx]; rfl
      clear hP hx
      by_cases h34 : x = 34
      · subst h34
        have HQ : Hid (qb 34 = [92, 34]) := Lib.hid (by decide)
        have hby' : ∀ h, ((⟨s.toArray⟩ : ByteArray)[k]'h).toNat = 34 := hby
        clear hby
        go_wp2_with (at_builtin; refine appN rfl _ _ rfl [92, 34] 2 _ rfl rfl rfl rfl hA (by simp; omega) ?_; intro v2 w2 hA2; rw [← HQ.out] at hA2; have hF := hnext _ _ hA2; clear hA2)
        all_goals go_roundw
        case rel => exact ⟨k + 1, by omega, by go_num, hF⟩
        case measure => simp [intOf]; omega
      by_cases h92 : x = 92
      · subst h92
        have HQ : Hid (qb 92 = [92, 92]) := Lib.hid (by decide)
        have hby' : ∀ h, ((⟨s.toArray⟩ : ByteArray)[k]'h).toNat = 92 := hby
        clear hby
        go_wp2_with (at_builtin; refine appN rfl _ _ rfl [92, 92] 2 _ rfl rfl rfl rfl hA (by simp; omega) ?_; intro v2 w2 hA2; rw [← HQ.out] at hA2; have hF := hnext _ _ hA2; clear hA2)
        all_goals go_roundw
        case rel => exact ⟨k + 1, by omega, by go_num, hF⟩
        case measure => simp [intOf]; omega
      by_cases h8 : x = 8
      · subst h8
        have HQ : Hid (qb 8 = [92, 98]) := Lib.hid (by decide)
        have hby' : ∀ h, ((⟨s.toArray⟩ : ByteArray)[k]'h).toNat = 8 := hby
        clear hby
        go_wp2_with (at_builtin; refine appN rfl _ _ rfl [92, 98] 2 _ rfl rfl rfl rfl hA (by simp; omega) ?_; intro v2 w2 hA2; rw [← HQ.out] at hA2; have hF := hnext _ _ hA2; clear hA2)
        all_goals go_roundw
        case rel => exact ⟨k + 1, by omega, by go_num, hF⟩
        case measure => simp [intOf]; omega
      by_cases h12 : x = 12
      · subst h12
        have HQ : Hid (qb 12 = [92, 102]) := Lib.hid (by decide)
        have hby' : ∀ h, ((⟨s.toArray⟩ : ByteArray)[k]'h).toNat = 12 := hby
        clear hby
        go_wp2_with (at_builtin; refine appN rfl _ _ rfl [92, 102] 2 _ rfl rfl rfl rfl hA (by simp; omega) ?_; intro v2 w2 hA2; rw [← HQ.out] at hA2; have hF := hnext _ _ hA2; clear hA2)
        all_goals go_roundw
        case rel => exact ⟨k + 1, by omega, by go_num, hF⟩
        case measure => simp [intOf]; omega
      by_cases h10 : x = 10
      · subst h10
        have HQ : Hid (qb 10 = [92, 110]) := Lib.hid (by decide)
        have hby' : ∀ h, ((⟨s.toArray⟩ : ByteArray)[k]'h).toNat = 10 := hby
        clear hby
        go_wp2_with (at_builtin; refine appN rfl _ _ rfl [92, 110] 2 _ rfl rfl rfl rfl hA (by simp; omega) ?_; intro v2 w2 hA2; rw [← HQ.out] at hA2; have hF := hnext _ _ hA2; clear hA2)
        all_goals go_roundw
        case rel => exact ⟨k + 1, by omega, by go_num, hF⟩
        case measure => simp [intOf]; omega
      by_cases h13 : x = 13
      · subst h13
        have HQ : Hid (qb 13 = [92, 114]) := Lib.hid (by decide)
        have hby' : ∀ h, ((⟨s.toArray⟩ : ByteArray)[k]'h).toNat = 13 := hby
        clear hby
        go_wp2_with (at_builtin; refine appN rfl _ _ rfl [92, 114] 2 _ rfl rfl rfl rfl hA (by simp; omega) ?_; intro v2 w2 hA2; rw [← HQ.out] at hA2; have hF := hnext _ _ hA2; clear hA2)
        all_goals go_roundw
        case rel => exact ⟨k + 1, by omega, by go_num, hF⟩
        case measure => simp [intOf]; omega
      by_cases h9 : x = 9
      · subst h9
        have HQ : Hid (qb 9 = [92, 116]) := Lib.hid (by decide)
        have hby' : ∀ h, ((⟨s.toArray⟩ : ByteArray)[k]'h).toNat = 9 := hby
        clear hby
        go_wp2_with (at_builtin; refine appN rfl _ _ rfl [92, 116] 2 _ rfl rfl rfl rfl hA (by simp; omega) ?_; intro v2 w2 hA2; rw [← HQ.out] at hA2; have hF := hnext _ _ hA2; clear hA2)
        all_goals go_roundw
        case rel => exact ⟨k + 1, by omega, by go_num, hF⟩
        case measure => simp [intOf]; omega
      obtain ⟨n, hn⟩ : ∃ n, n = x.toNat := ⟨_, rfl⟩
      have hn256 : n < 256 := by have := x.toNat_lt; omega
      have t34 : ((n : Int) == 34) = false := by rw [beq_eq_false_iff_ne]; intro h; apply h34; apply UInt8.toNat_inj.1; show x.toNat = 34; omega
      have t92 : ((n : Int) == 92) = false := by rw [beq_eq_false_iff_ne]; intro h; apply h92; apply UInt8.toNat_inj.1; show x.toNat = 92; omega
      have t8 : ((n : Int) == 8) = false := by rw [beq_eq_false_iff_ne]; intro h; apply h8; apply UInt8.toNat_inj.1; show x.toNat = 8; omega
      have t12 : ((n : Int) == 12) = false := by rw [beq_eq_false_iff_ne]; intro h; apply h12; apply UInt8.toNat_inj.1; show x.toNat = 12; omega
      have t10 : ((n : Int) == 10) = false := by rw [beq_eq_false_iff_ne]; intro h; apply h10; apply UInt8.toNat_inj.1; show x.toNat = 10; omega
      have t13 : ((n : Int) == 13) = false := by rw [beq_eq_false_iff_ne]; intro h; apply h13; apply UInt8.toNat_inj.1; show x.toNat = 13; omega
      have t9 : ((n : Int) == 9) = false := by rw [beq_eq_false_iff_ne]; intro h; apply h9; apply UInt8.toNat_inj.1; show x.toNat = 9; omega
      rw [← hn] at hby
      have hqx : qb x = if 32 ≤ n ∧ n ≠ 127 then [x] else [92, 117, 48, 48, hexd (n / 16), hexd (n % 16)] := by
        unfold qb
        rw [if_neg h34, if_neg h92, if_neg h8, if_neg h12, if_neg h10, if_neg h13, if_neg h9, ← hn]
        have e : x ≠ 127 ↔ n ≠ 127 := by
          rw [hn]
          exact ⟨fun h h2 => h (UInt8.toNat_inj.1 h2), fun h h2 => h (by rw [h2]; rfl)⟩
        by_cases h : 32 ≤ n ∧ n ≠ 127
        · rw [if_pos h, if_pos ⟨h.1, e.2 h.2⟩]
        · rw [if_neg h, if_neg (fun h2 => h ⟨h2.1, e.1 h2.2⟩)]
      have HN := Lib.hid hn
      clear hn h34 h92 h8 h12 h10 h13 h9
      obtain ⟨lo, hlo⟩ : ∃ m, m = n % 16 := ⟨_, rfl⟩
      have hand := and15n n hn256
      obtain ⟨hi4, hhi4⟩ : ∃ m, m = n / 16 := ⟨_, rfl⟩
      have hdiv : (n : Int) / 16 = (hi4 : Int) := by omega
      have hilt : (hi4 : Int) < 16 := by omega
      have hlot : (lo : Int) < 16 := by omega
      have hxl := hex_at hi4 (by omega)
      have hxr := hex_at lo (by omega)
      rw [← hhi4] at hqx
      clear hhi4
      rw [← hlo] at hand hqx
      have hlo16 : lo < 16 := by omega
      clear hlo
      rcases Nat.lt_or_ge n 32 with hs | hs
      · have HQ : Hid (qb x = [92, 117, 48, 48, hexd hi4, hexd lo]) := Lib.hid (by rw [hqx, if_neg (by omega)])
        clear hqx
        have t32 : decide ((n : Int) < 32) = true := decide_eq_true (by omega)
        go_wp2_with fail
        have hA := hA.below (Below.refl _ _).drew
        go_region_law ((refine stepN rfl (.tmp 72) (.tmp 81) rfl [92, 117, 48, 48, hexd hi4, hexd lo] 6 _ rfl (by simp [Act.eval, Act.put]) (by simp [Act.eval, Act.put]) rfl hA (by simp; omega) ?_; intro v2 w2 hA2; rw [← HQ.out] at hA2; have hF := hnext _ _ hA2; clear hA2))
        all_goals
          go_wp2_with fail
          go_roundw
          case rel => exact ⟨k + 1, by omega, by go_num, hF⟩
          case measure => simp [intOf]; omega
      have t32 : decide ((n : Int) < 32) = false := decide_eq_false (by omega)
      by_cases h127 : n = 127
      · have HQ : Hid (qb x = [92, 117, 48, 48, hexd hi4, hexd lo]) := Lib.hid (by rw [hqx, if_neg (by omega)])
        have t127 : ((n : Int) == 127) = true := by rw [beq_iff_eq]; omega
        clear hqx h127
        go_wp2_with fail
        have hA := hA.below (Below.refl _ _).drew
        go_region_law ((refine stepN rfl (.tmp 72) (.tmp 81) rfl [92, 117, 48, 48, hexd hi4, hexd lo] 6 _ rfl (by simp [Act.eval, Act.put]) (by simp [Act.eval, Act.put]) rfl hA (by simp; omega) ?_; intro v2 w2 hA2; rw [← HQ.out] at hA2; have hF := hnext _ _ hA2; clear hA2))
        all_goals
          go_wp2_with fail
          go_roundw
          case rel => exact ⟨k + 1, by omega, by go_num, hF⟩
          case measure => simp [intOf]; omega
      · have HQ : Hid (qb x = [x]) := Lib.hid (by rw [hqx, if_pos ⟨hs, h127⟩])
        have t127 : ((n : Int) == 127) = false := by rw [beq_eq_false_iff_ne]; omega
        clear hqx hxl hxr
        go_wp2_with (at_builtin; refine appN rfl _ _ rfl [x] 1 _ rfl rfl rfl (by rw [HN.out]; rfl) hA (by simp; omega) ?_; intro v2 w2 hA2; rw [← HQ.out] at hA2; have hF := hnext _ _ hA2; clear hA2)
        all_goals go_roundw
        case rel => exact ⟨k + 1, by omega, by go_num, hF⟩
        case measure => simp [intOf]; omega
    · have HF : Hid (quoteT s = (34 :: (s.take k).flatMap qb) ++ [34]) := Lib.hid (by rw [List.take_of_length_le hge]; rfl)
      obtain ⟨P, hP⟩ : ∃ P, P = 34 :: (s.take k).flatMap qb := ⟨_, rfl⟩
      rw [← hP] at HF hA hsz
      clear hP
      go_wp2_with (at_builtin; refine appN rfl _ _ rfl [34] 1 _ rfl rfl rfl rfl hA (by simp; omega) ?_; intro v2 w2 hA2; rw [← HF.out] at hA2)
      go_ret
      exact ⟨_, rfl, hA2⟩
end Go.Proofs.YtpfamfkdfbcooaaGreatDoor
/- The document's answer: unit. -/
namespace Go.Proofs.YtpfamfkdfbcooaaGreatDoor
open Go Go.RowKit Go.Proofs
theorem and15i (x d : Nat) (h : x % 16 = d) : bits BinOp.and IntKind.i64 (x : Int) 15 = (d : Int) := by
  have := and_low 4 (by omega) (x : Int)
  rw [show ((2 : Int) ^ 4 - 1) = 15 from by decide, show ((2 : Int) ^ 4) = 16 from by decide] at this
  rw [this]; omega
end Go.Proofs.YtpfamfkdfbcooaaGreatDoor
/- The document's answer: Escape where the text stays as it is. -/
namespace Go.Proofs.YtpfamfkdfbcooaaGreatDoor
open Go Go.RowKit Go.Proofs
end Go.Proofs.YtpfamfkdfbcooaaGreatDoor
/- The document's answer: zero, Num, Arr. -/
namespace Go.Proofs.YtpfamfkdfbcooaaGreatDoor
open Go Go.RowKit Go.Proofs
theorem zero_any (b : Nat) (w : World) : Calls Tryz.prog 56 #[.float .f64 b] w fun e w' => ∃ r : Bool, e = .returned (.bool r) ∧ w = w' := by
  have h1 := bits64 b
  go_enter Tryz.func56, Tryz.ntmps56
  go_wp2_with fail
  go_ret
  exact ⟨_, rfl, rfl⟩
set_option maxRecDepth 100000 in
theorem num_any (b : Nat) (w : World) : Calls Tryz.prog 27 #[.float .f64 b] w fun e w' => e = .returned (.agg #[.int .i64 3, .float .f64 b, .string ⟨#[]⟩, .slice none 0 0, .slice none 0 0]) ∧ Below w.heap.size w w' := by
  go_enter Tryz.func27, Tryz.ntmps27
  go_wp2_with (refine wpList_store_row rfl 27 (.tmp 2) (.tmp 4) rfl _ #[.int .i64 3, .float .f64 b, .string ⟨#[]⟩, .slice none 0 0, .slice none 0 0] rfl rfl 27 #[.int .i64 0, .float .f64 0, .string ⟨#[]⟩, .slice none 0 0, .slice none 0 0] (heap_alloc_new _ _) (by kernel_rfl) rfl (one5 3 b ⟨#[]⟩ none none 0 0 0 0) ?_; rw [setRow_new])
  refine bodyPost_ret (results_cell_row rfl _ _ w.heap.size 27 _ (0, 0) _ rfl (heap_alloc_new _ _) Tryz.underlying27 rfl (by kernel_rfl)) rfl ?_
  exact ⟨rfl, (Below.refl _ _).alloc (Nat.le_refl _) _⟩
set_option maxRecDepth 100000 in
theorem arr_any (A : Option Addr) (n c : Nat) (w : World) : Calls Tryz.prog 23 #[.slice A n c] w fun e w' => e = .returned (.agg #[.int .i64 5, .float .f64 0, .string ⟨#[]⟩, .slice A n c, .slice none 0 0]) ∧ Below w.heap.size w w' := by
  go_enter Tryz.func23, Tryz.ntmps23
  go_wp2_with (refine wpList_store_row rfl 27 (.tmp 2) (.tmp 4) rfl _ #[.int .i64 5, .float .f64 0, .string ⟨#[]⟩, .slice A n c, .slice none 0 0] rfl rfl 27 #[.int .i64 0, .float .f64 0, .string ⟨#[]⟩, .slice none 0 0, .slice none 0 0] (heap_alloc_new _ _) (by kernel_rfl) rfl (one5 5 0 ⟨#[]⟩ A none n c 0 0) ?_; rw [setRow_new])
  refine bodyPost_ret (results_cell_row rfl _ _ w.heap.size 27 _ (0, 0) _ rfl (heap_alloc_new _ _) Tryz.underlying27 rfl (by kernel_rfl)) rfl ?_
  exact ⟨rfl, (Below.refl _ _).alloc (Nat.le_refl _) _⟩
end Go.Proofs.YtpfamfkdfbcooaaGreatDoor
