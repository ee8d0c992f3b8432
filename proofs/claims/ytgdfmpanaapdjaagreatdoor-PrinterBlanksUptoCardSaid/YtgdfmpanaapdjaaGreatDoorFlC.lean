/- Contract of Go's setDigits. -/
import Derived.Test.YtgdfmpanaapdjaaGreatDoorFlB
import Derived.Test.YtgdfmpanaapdjaaGreatDoorFlq
set_option linter.unusedVariables false
set_option linter.unusedSimpArgs false
namespace Go.Proofs.YtgdfmpanaapdjaaGreatDoor
open Go Go.RowKit Go.Proofs Go.Sort Go.Lib

def encB : UInt8 → Value := fun b => .int .u8 (b.toNat : Int)

def SetPost (w : World) (b d : Nat) (p : Int) (x : Ending) (w' : World) : Prop :=
  x = .returned (.tuple #[.int .i64 ((digs d).length + p), .int .i64 (stripZ (digs d)).length]) ∧ ∃ (n : Nat) (dk : Array UInt8), w' = (putRow encB w b 0 dk).drewN n ∧ dk.toList = digs d

set_option maxRecDepth 100000 in
theorem setDigits_any (b d : Nat) (p : Int) (w : World) (hd : d < 18446744073709551616) (hp0 : -1000 ≤ p) (hp1 : p ≤ 1000) (H : Holds encB w b 0 (Array.replicate 32 0)) :
    Calls Tryz.prog 251 #[.slice (some ⟨b, 0, none⟩) 32 32, .int .u64 d, .int .i64 p, .int .i64 (digs d).length] w (SetPost w b d p) := by
  obtain ⟨hl, hl20⟩ := digs_length d hd
  obtain ⟨L, hL⟩ : ∃ L, L = digs d := ⟨_, rfl⟩
  rw [← hL] at hl hl20 ⊢
  have hp : d < 10 ^ L.length := by
    rw [hl]
    split
    · rename_i h; subst h; decide
    · exact Lib.lt_pow_nDigits d
  have hH : Holds encB w b 0 (Array.replicate L.length 0) := fun j hj => by
    have h2 := H j (by simp at hj ⊢; omega)
    rw [getElem!_pos _ j (by simp at hj ⊢; omega)] at h2
    rw [getElem!_pos _ j hj]
    simpa using h2
  have hfmt := Tryz.internal_strconv_formatBase10 b 0 32 d (Array.replicate L.length 0) w hH (by simpa using hp) hd (by simp; omega)
  rw [Array.size_replicate] at hfmt
  have HH := Lib.hid hH
  have HL := Lib.hid hL
  have Hl := Lib.hid hl
  have Hfmt := Lib.hid hfmt
  clear hH H hL hl hp hfmt
  go_enter Tryz.func251, Tryz.ntmps251
  go_wp2_with fail
  refine Hfmt.out.mono ?_
  rintro e w1 ⟨rfl, n, v', dk, rfl, hF⟩
  have hL := HL.out
  have hl := Hl.out
  have hdk : dk.toList = L := by
    apply List.ext_getElem
    · simp [hF.size]
    · intro j h1 h2
      have hj : j < L.length := h2
      have := hF.done j (Nat.zero_le _) hj
      rw [getElem!_pos dk j (by rw [hF.size]; exact hj)] at this
      have e1 : dk.toList[j] = dk[j] := by simp
      rw [e1, this, hl]
      subst hL
      by_cases h0 : d = 0
      · subst h0; simp [digs] at h2
      · simp only [digs, if_neg h0]
        rw [List.getElem_of_eq (Lib.decDigits_eq d)]
        simp
  have hcell : ∀ j (h : j < L.length), ((putRow encB w b 0 dk).drewN n).cell? ⟨b, j, none⟩ = some (.int .u8 (L[j].toNat : Int)) := fun j h => by
    have hs : j < dk.size := by rw [hF.size]; exact h
    have := cell?_putRow encB w b 0 _ dk HH.out (by rw [hF.size, Array.size_replicate]) j hs
    rw [World.cell?_drewN]
    rw [Nat.zero_add] at this
    rw [this, getElem!_pos dk j hs]
    have : dk[j] = L[j] := by simp [← hdk]
    rw [this]; rfl
  have HP : Hid (∃ (n' : Nat) (dk' : Array UInt8), (putRow encB w b 0 dk).drewN n = (putRow encB w b 0 dk').drewN n' ∧ dk'.toList = digs d) := Lib.hid ⟨n, dk, rfl, hdk.trans hL⟩
  have HS : Hid (∀ k, k ≤ L.length → (∀ j (h : j < L.length), k ≤ j → L[j] = 48) → (k = 0 ∨ ∃ h : k - 1 < L.length, L[k - 1] ≠ 48) → stripZ L = L.take k) := Lib.hid fun k hk h1 h2 => stripZ_take L (L.length - k) k (by omega) h1 h2
  clear hF hL hl hdk
  obtain ⟨w2, hw2⟩ : ∃ w2, w2 = (putRow encB w b 0 dk).drewN n := ⟨_, rfl⟩
  rw [← hw2] at hcell
  have HW := Lib.hid hw2
  have HC := Lib.hid hcell
  rw [show (putRow (fun (b : UInt8) => Value.int IntKind.u8 (b.toNat : Int)) w b 0 dk).drewN n = w2 from hw2.symm]
  clear hw2 hcell
  go_wp2_with fail
  go_loop [3] (fun nd => ∃ k : Nat, k ≤ L.length ∧ nd = .int .i64 k ∧ Hid (∀ j (h : j < L.length), k ≤ j → L[j] = 48)) (fun nd => (RowKit.intOf nd).toNat)
  case atStart => exact ⟨L.length, Nat.le_refl _, rfl, Lib.hid fun j h hj => by omega⟩
  case round =>
    obtain ⟨k, hk, rfl, HK⟩ := hrel
    by_cases k0 : 0 < k
    · have hc := HC.out (k - 1) (by omega)
      by_cases hz : L[k - 1]'(by omega) = 48
      · rw [hz] at hc
        have HZ := Lib.hid hz
        clear hz
        go_wp2
        all_goals go_round
        case rel => exact ⟨k - 1, by omega, by go_num, Lib.hid fun j h hj => by
          by_cases e : j = k - 1
          · subst e; exact HZ.out
          · exact HK.out j h (by omega)⟩
        case measure => simp [RowKit.intOf]; omega
      · have ht : (((L[k - 1]'(by omega)).toNat : Int) == 48) = false := by
          rw [beq_eq_false_iff_ne]
          intro h
          apply hz
          apply UInt8.toNat_inj.1
          have : (48 : UInt8).toNat = 48 := rfl
          omega
        have HT : Hid (stripZ L = L.take k) := Lib.hid (HS.out k hk HK.out (.inr ⟨by omega, hz⟩))
        clear hz
        go_wp2
        go_ret2
        refine ⟨?_, ?_⟩
        · rw [← HL.out, HT.out, List.length_take, Nat.min_eq_left hk]; rfl
        · rw [HW.out]; exact HP.out
    · obtain rfl : k = 0 := by omega
      have HT : Hid (stripZ L = L.take 0) := Lib.hid (HS.out 0 hk HK.out (.inl rfl))
      go_wp2
      go_ret2
      refine ⟨?_, ?_⟩
      · rw [← HL.out, HT.out]; rfl
      · rw [HW.out]; exact HP.out
end Go.Proofs.YtgdfmpanaapdjaaGreatDoor
