/- printer.Escape: the unit \uXXXX. -/
import Derived.Test.YtopecjnmeeejhaaGreatDoorShl
import Derived.Lib.OthersKept
import Derived.BigCall
import Derived.Laws.DeepBits32
set_option linter.unusedVariables false
set_option linter.unusedSimpArgs false
namespace Go.Proofs.YtopecjnmeeejhaaGreatDoor
open Go Go.RowKit Go.Proofs

def unitT (r : Nat) : List UInt8 := [92, 117, hexd (r / 4096 % 16), hexd (r / 256 % 16), hexd (r / 16 % 16), hexd (r % 16)]
theorem and_low32 (k : Nat) (hk : k < 31) (s : Int) : bits BinOp.and IntKind.i32 s ((2 : Int) ^ k - 1) = s % (2 : Int) ^ k := by
  have hp : (2 : Nat) ^ k < 2 ^ 31 := Nat.pow_lt_pow_right (by omega) hk
  have hp0 : 0 < (2 : Nat) ^ k := Nat.pow_pos (by omega)
  have e2 : (2 : Int) ^ k = ((2 ^ k : Nat) : Int) := by simp
  rw [e2]
  show IntKind.i32.wrap ((BitVec.ofInt 32 s &&& BitVec.ofInt 32 (((2 ^ k : Nat) : Int) - 1)).toNat : Int) = _
  rw [BitVec.toNat_and, BitVec.toNat_ofInt, BitVec.toNat_ofInt]
  have hb : (((2 ^ k : Nat) : Int) - 1) % ((2 ^ 32 : Nat) : Int) = ((2 ^ k - 1 : Nat) : Int) := by
    rw [Int.emod_eq_of_lt (by omega) (by omega)]; omega
  rw [hb, Int.toNat_natCast, Nat.and_two_pow_sub_one_eq_mod]
  have hd : (2 : Nat) ^ k ∣ 2 ^ 32 := Nat.pow_dvd_pow 2 (by omega)
  have hm : ((s % ((2 ^ 32 : Nat) : Int)).toNat % 2 ^ k : Nat) = (s % ((2 ^ k : Nat) : Int)).toNat := by
    have h3 : 0 ≤ s % ((2 ^ 32 : Nat) : Int) := Int.emod_nonneg _ (by simp)
    have h4 : 0 ≤ s % ((2 ^ k : Nat) : Int) := Int.emod_nonneg _ (by omega)
    have : ((((s % ((2 ^ 32 : Nat) : Int)).toNat % 2 ^ k : Nat)) : Int) = s % ((2 ^ k : Nat) : Int) := by
      rw [Int.natCast_emod, Int.toNat_of_nonneg h3, Int.emod_emod_of_dvd _ (Int.natCast_dvd_natCast.2 hd)]
    omega
  rw [hm]
  have h4 : 0 ≤ s % ((2 ^ k : Nat) : Int) := Int.emod_nonneg _ (by omega)
  have h5 : s % ((2 ^ k : Nat) : Int) < ((2 ^ k : Nat) : Int) := Int.emod_lt_of_pos _ (by omega)
  rw [Int.toNat_of_nonneg h4]
  simp only [IntKind.wrap, IntKind.bits, IntKind.signed]
  simp
  omega
theorem and15 (x : Nat) (d : Nat) (h : x % 16 = d) : bits BinOp.and IntKind.i32 (x : Int) 15 = (d : Int) := by
  have := and_low32 4 (by omega) (x : Int)
  rw [show ((2 : Int) ^ 4 - 1) = 15 from by decide, show ((2 : Int) ^ 4) = 16 from by decide] at this
  rw [this]; omega
section
variable {b : Nat} {w : World} {v : Value} {bs : List UInt8}
set_option maxRecDepth 100000 in
theorem unit_any (h : Bw b 75 [] w v bs) (r : Nat) (hr : r < 65536) (hl : bs.length + 6 ≤ 140737488355328) :
    Calls Tryz.prog 60 #[.int .i32 r, .pointer (some ⟨b, 0, none⟩)] w fun e w' => e = .returned (.tuple #[]) ∧ ∃ v', BApp b 75 w v bs w' v' (unitT r) [] := by
  go_enter Tryz.func60, Tryz.ntmps60
  go_wp2_with fail
  refine (writeString_any (rest := []) fits_builder h [92, 117] (by simp; omega)).mono ?_
  rintro e' w1 ⟨rfl, v1, hA⟩
  go_wp2_with fail
  go_loopw [3] (fun i wr => ∃ (j : Nat) (vj : Value), j ≤ 4 ∧ i = .int .i64 (12 - 4 * (j : Int)) ∧ BApp b 75 w v bs wr vj ((unitT r).take (j + 2)) []) (fun i _ => (intOf i + 4).toNat)
  case atStart => exact ⟨0, v1, by omega, rfl, hA⟩
  case round =>
    clear hA
    obtain ⟨j, vj, hj, rfl, hA⟩ := hrel
    have h5 : j = 0 ∨ j = 1 ∨ j = 2 ∨ j = 3 ∨ j = 4 := by omega
    rcases h5 with rfl | rfl | rfl | rfl | rfl
    · obtain ⟨d, hd⟩ : ∃ d, d = r / 4096 % 16 := ⟨_, rfl⟩
      have hd16 : d < 16 := by omega
      have hb : bits BinOp.and IntKind.i32 ((r : Int) / 4096) 15 = (d : Int) := by
        have := and15 (r / 4096) d hd.symm
        rwa [Int.natCast_ediv] at this
      have hx := hex_at d hd16
      have ht : (unitT r).take (0 + 3) = (unitT r).take (0 + 2) ++ [hexd d] := by rw [hd]; rfl
      have HT := Lib.hid ht
      have hlen : ((unitT r).take (0 + 2)).length = 2 := rfl
      have HL := Lib.hid hlen
      clear hd ht hlen
      go_wp2_with fail
      refine (writeByte_any (rest := []) fits_builder hA.now _ (hexd d) rfl (by rw [List.length_append, HL.out]; omega)).mono ?_
      rintro e' w2 ⟨rfl, v2, hB⟩
      have hC := hA.join hB
      rw [← HT.out] at hC
      go_wp2_with fail
      all_goals go_roundw
      case rel => exact ⟨1, v2, by omega, by go_num, hC⟩
      case measure => simp [intOf]
    · obtain ⟨d, hd⟩ : ∃ d, d = r / 256 % 16 := ⟨_, rfl⟩
      have hd16 : d < 16 := by omega
      have hb : bits BinOp.and IntKind.i32 ((r : Int) / 256) 15 = (d : Int) := by
        have := and15 (r / 256) d hd.symm
        rwa [Int.natCast_ediv] at this
      have hx := hex_at d hd16
      have ht : (unitT r).take (1 + 3) = (unitT r).take (1 + 2) ++ [hexd d] := by rw [hd]; rfl
      have HT := Lib.hid ht
      have hlen : ((unitT r).take (1 + 2)).length = 3 := rfl
      have HL := Lib.hid hlen
      clear hd ht hlen
      go_wp2_with fail
      refine (writeByte_any (rest := []) fits_builder hA.now _ (hexd d) rfl (by rw [List.length_append, HL.out]; omega)).mono ?_
      rintro e' w2 ⟨rfl, v2, hB⟩
      have hC := hA.join hB
      rw [← HT.out] at hC
      go_wp2_with fail
      all_goals go_roundw
      case rel => exact ⟨2, v2, by omega, by go_num, hC⟩
      case measure => simp [intOf]
    · obtain ⟨d, hd⟩ : ∃ d, d = r / 16 % 16 := ⟨_, rfl⟩
      have hd16 : d < 16 := by omega
      have hb : bits BinOp.and IntKind.i32 ((r : Int) / 16) 15 = (d : Int) := by
        have := and15 (r / 16) d hd.symm
        rwa [Int.natCast_ediv] at this
      have hx := hex_at d hd16
      have ht : (unitT r).take (2 + 3) = (unitT r).take (2 + 2) ++ [hexd d] := by rw [hd]; rfl
      have HT := Lib.hid ht
      have hlen : ((unitT r).take (2 + 2)).length = 4 := rfl
      have HL := Lib.hid hlen
      clear hd ht hlen
      go_wp2_with fail
      refine (writeByte_any (rest := []) fits_builder hA.now _ (hexd d) rfl (by rw [List.length_append, HL.out]; omega)).mono ?_
      rintro e' w2 ⟨rfl, v2, hB⟩
      have hC := hA.join hB
      rw [← HT.out] at hC
      go_wp2_with fail
      all_goals go_roundw
      case rel => exact ⟨3, v2, by omega, by go_num, hC⟩
      case measure => simp [intOf]
    · obtain ⟨d, hd⟩ : ∃ d, d = r % 16 := ⟨_, rfl⟩
      have hd16 : d < 16 := by omega
      have hb : bits BinOp.and IntKind.i32 ((r : Int)) 15 = (d : Int) := by
        have := and15 (r) d hd.symm
        exact this
      have hx := hex_at d hd16
      have ht : (unitT r).take (3 + 3) = (unitT r).take (3 + 2) ++ [hexd d] := by rw [hd]; rfl
      have HT := Lib.hid ht
      have hlen : ((unitT r).take (3 + 2)).length = 5 := rfl
      have HL := Lib.hid hlen
      clear hd ht hlen
      go_wp2_with fail
      refine (writeByte_any (rest := []) fits_builder hA.now _ (hexd d) rfl (by rw [List.length_append, HL.out]; omega)).mono ?_
      rintro e' w2 ⟨rfl, v2, hB⟩
      have hC := hA.join hB
      rw [← HT.out] at hC
      go_wp2_with fail
      all_goals go_roundw
      case rel => exact ⟨4, v2, by omega, by go_num, hC⟩
      case measure => simp [intOf]
    · have ht : (unitT r).take (4 + 2) = unitT r := rfl
      rw [ht] at hA
      clear ht
      go_wp2_with fail
      go_end0
      exact ⟨rfl, vj, hA⟩
end
end Go.Proofs.YtopecjnmeeejhaaGreatDoor
