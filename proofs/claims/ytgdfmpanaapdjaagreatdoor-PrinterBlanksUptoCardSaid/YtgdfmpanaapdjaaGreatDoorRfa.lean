/- The document's answer for runes: more, Right, piece. -/
import Derived.Test.YtgdfmpanaapdjaaGreatDoorPrt
set_option linter.unusedVariables false
set_option linter.unusedSimpArgs false
namespace Go.Proofs.YtgdfmpanaapdjaaGreatDoor
open Go Go.RowKit Go.Proofs

theorem and192 : ∀ b : Fin 256, (bits BinOp.and IntKind.u8 ((b.val : Nat) : Int) 192 == 128) = decide (b.val / 64 = 2) := by decide +kernel
theorem and224 : ∀ b : Fin 256, (bits BinOp.and IntKind.u8 ((b.val : Nat) : Int) 224 == 192) = decide (b.val / 32 = 6) := by decide +kernel
theorem and240 : ∀ b : Fin 256, (bits BinOp.and IntKind.u8 ((b.val : Nat) : Int) 240 == 224) = decide (b.val / 16 = 14) := by decide +kernel
theorem and248 : ∀ b : Fin 256, (bits BinOp.and IntKind.u8 ((b.val : Nat) : Int) 248 == 240) = decide (b.val / 8 = 30) := by decide +kernel
theorem and31 : ∀ b : Fin 256, bits BinOp.and IntKind.u8 ((b.val : Nat) : Int) 31 = ((b.val % 32 : Nat) : Int) := by decide +kernel
theorem and15' : ∀ b : Fin 256, bits BinOp.and IntKind.u8 ((b.val : Nat) : Int) 15 = ((b.val % 16 : Nat) : Int) := by decide +kernel
theorem and7 : ∀ b : Fin 256, bits BinOp.and IntKind.u8 ((b.val : Nat) : Int) 7 = ((b.val % 8 : Nat) : Int) := by decide +kernel
theorem and63u : ∀ b : Fin 256, bits BinOp.and IntKind.u8 ((b.val : Nat) : Int) 63 = ((b.val % 64 : Nat) : Int) := by decide +kernel
theorem more_any (b : Nat) (hb : b < 256) (w : World) : Calls Tryz.prog 95 #[.int .u8 b] w fun e w' => e = .returned (.bool (decide (b / 64 = 2))) ∧ w = w' := by
  have h := and192 ⟨b, hb⟩
  simp only at h
  rw [← h]
  clear h
  go_enter Tryz.func95, Tryz.ntmps95
  go_wp2_with fail
  go_ret
  exact ⟨rfl, rfl⟩
def rightB (p : Nat) : Bool := decide (p ≤ 1114111) && (decide (p < 55296) || decide (57343 < p))
theorem right_any (p : Nat) (hp : p < 3000000) (w : World) : Calls Tryz.prog 96 #[.int .i64 p] w fun e w' => e = .returned (.bool (rightB p)) ∧ w = w' := by
  obtain ⟨r, hr⟩ : ∃ r, r = rightB p := ⟨_, rfl⟩
  rw [← hr]
  have t0 : decide ((0 : Int) ≤ (p : Int)) = true := decide_eq_true (by omega)
  rcases Nat.lt_or_ge 1114111 p with h1 | h1
  · have HR : Hid (r = false) := Lib.hid (by rw [hr, rightB, decide_eq_false (by omega)]; rfl)
    have t1 : decide ((p : Int) ≤ 1114111) = false := decide_eq_false (by omega)
    clear hr
    go_enter Tryz.func96, Tryz.ntmps96
    go_wp2_with fail
    go_ret
    exact ⟨by rw [HR.out]; rfl, rfl⟩
  · have t1 : decide ((p : Int) ≤ 1114111) = true := decide_eq_true (by omega)
    rcases Nat.lt_or_ge p 55296 with h2 | h2
    · have HR : Hid (r = true) := Lib.hid (by rw [hr, rightB, decide_eq_true h1, decide_eq_true h2]; rfl)
      have t2 : decide ((p : Int) < 55296) = true := decide_eq_true (by omega)
      clear hr
      go_enter Tryz.func96, Tryz.ntmps96
      go_wp2_with fail
      go_ret
      exact ⟨by rw [HR.out]; rfl, rfl⟩
    · have HR : Hid (r = decide (57343 < p)) := Lib.hid (by rw [hr, rightB, decide_eq_true h1, decide_eq_false (by omega)]; rfl)
      have t2 : decide ((p : Int) < 55296) = false := decide_eq_false (by omega)
      have t3 : decide ((57343 : Int) < (p : Int)) = decide (57343 < p) := by rw [decide_eq_decide]; omega
      clear hr
      go_enter Tryz.func96, Tryz.ntmps96
      go_wp2_with fail
      go_ret
      exact ⟨by rw [HR.out]; rfl, rfl⟩
theorem or_i64 (a b : Nat) (ha : a < 2 ^ 62) (hb : b < 2 ^ 62) : bits BinOp.or IntKind.i64 (a : Int) (b : Int) = ((a ||| b : Nat) : Int) := by
  show IntKind.i64.wrap ((BitVec.ofInt 64 (a : Int) ||| BitVec.ofInt 64 (b : Int)).toNat : Int) = _
  have e1 : ((a : Int) % ((2 ^ 64 : Nat) : Int)).toNat = a := by omega
  have e2 : ((b : Int) % ((2 ^ 64 : Nat) : Int)).toNat = b := by omega
  rw [BitVec.toNat_or, BitVec.toNat_ofInt, BitVec.toNat_ofInt, e1, e2, IntKind.wrap_i64]
  have := Nat.or_lt_two_pow ha hb
  omega
theorem or_join (p x : Nat) (hp : p < 65536) (hx : x < 64) : bits BinOp.or IntKind.i64 ((p : Int) * 64) (x : Int) = ((p * 64 + x : Nat) : Int) := by
  have h := or_i64 (p * 64) x (by omega) (by omega)
  rw [Int.natCast_mul] at h
  rw [show ((p : Int) * 64) = (p : Int) * ((64 : Nat) : Int) from rfl, h]
  rw [Nat.mul_comm p 64, show (64 : Nat) = 2 ^ 6 from rfl, ← Nat.two_pow_add_eq_or_of_lt (by omega : x < 2 ^ 6)]
/-- The piece at a byte is a code point's bytes. -/
def okAt (s : ByteArray) (i : Nat) : Bool := decide ((s.get! i).toNat < 128) || (Utf8.decode s i).2 != 1
/-- What 'piece' answers. -/
def pieceV (s : ByteArray) (i : Nat) : Value := .tuple #[.int .i64 ((Utf8.decode s i).1 : Nat), .int .i64 ((Utf8.decode s i).2 : Nat), .bool (okAt s i)]
def badV : Value := .tuple #[.int .i64 65533, .int .i64 1, .bool false]
theorem get_get (s : ByteArray) (i : Nat) (h : i < s.size) : s.get! i = s[i]'h := by
  simp [ByteArray.get!, ByteArray.getElem_eq_getElem_data, h]
set_option maxRecDepth 100000 in
theorem piece_0 (s : ByteArray) (i b : Nat) (w : World) (hi : i < s.size) (hb : (s[i]'hi).toNat = b) (h : b < 128) (hm : s.size < 1000000000) : Calls Tryz.prog 47 #[.string s, .int .i64 i] w fun e w' => e = .returned (.tuple #[.int .i64 b, .int .i64 1, .bool true]) ∧ w = w' := by
  go_enter Tryz.func47, Tryz.ntmps47
  go_wp2_with fail
  refine bodyPost_ret (results_tmp3 rfl _ _ _) rfl ?_
  exact ⟨rfl, rfl⟩
end Go.Proofs.YtgdfmpanaapdjaaGreatDoor
