/- printer.sheet.many, and the colours. -/
import Derived.Test.YticaihfcnbehpaaGreatDoorEse
set_option linter.unusedVariables false
set_option linter.unusedSimpArgs false
namespace Go.Proofs.YticaihfcnbehpaaGreatDoor
open Go Go.RowKit Go.Proofs

def sgn : List UInt8 := [49, 59, 51, 57]
def loopS (S : Sty) (lvl : Nat) (part : Nat → St → St) : Nat → Nat → St → St
  | 0, _, st => st
  | m + 1, i, st => if st.2 = true then st else loopS S lvl part m (i + 1) (part i (lineS S (if 0 < i then tokS S st [44] sgn else st) (lvl + 1)))
def manyS (S : Sty) (lvl : Nat) (part : Nat → St → St) (op cl : List UInt8) (n : Nat) (st : St) : St :=
  tokS S (if 0 < n then lineS S (loopS S lvl part n 0 (tokS S st op sgn)) lvl else loopS S lvl part n 0 (tokS S st op sgn)) cl sgn
theorem loopS_full (S : Sty) (lvl : Nat) (part : Nat → St → St) (m i : Nat) (st : St) (h : st.2 = true) : loopS S lvl part m i st = st := by
  cases m with
  | zero => rfl
  | succ m => rw [loopS, if_pos h]
def colT (k : Nat) : List UInt8 := if k = 0 then [49, 59, 51, 48] else if k = 4 then [48, 59, 51, 50] else if k ≤ 3 then [48, 59, 51, 57] else [49, 59, 51, 57]

section
variable {b : Nat} {S : Sty} {w : World} {v : Value} {st : St}
set_option maxHeartbeats 1000000 in
set_option maxRecDepth 100000 in
theorem many_arr (h : Sh b S w v st) (hi : S.ind ≤ 7) (c1 c2 c3 : Nat) (op cl : List UInt8) (hop : op.length ≤ 10) (hcl : cl.length ≤ 10) (n lvl : Nat) (hn : n ≤ 1000000000000) (hlv : lvl ≤ 1000000) (part : Nat → St → St)
    (hpart : ∀ (i : Nat), i < n → ∀ (w' : World) (v' : Value) (st' : St), SStep b S w v w' v' st' → Calls Tryz.prog 29 #[.int .i64 i, .pointer (some ⟨c1, 0, none⟩), .pointer (some ⟨c2, 0, none⟩), .pointer (some ⟨c3, 0, none⟩)] w' fun e w'' => e = .returned (.tuple #[]) ∧ ∃ v'', SStep b S w' v' w'' v'' (part i st')) :
    Calls Tryz.prog 28 #[.pointer (some ⟨b, 0, none⟩), .string ⟨op.toArray⟩, .string ⟨cl.toArray⟩, .int .i64 n, .int .i64 lvl, .func (.func 29) #[] #[.pointer (some ⟨c1, 0, none⟩), .pointer (some ⟨c2, 0, none⟩), .pointer (some ⟨c3, 0, none⟩)]] w fun e w' => e = .returned (.tuple #[]) ∧ ∃ v', SStep b S w v w' v' (manyS S lvl part op cl n st) := by
  obtain ⟨Z, hZ⟩ : ∃ Z, Z = manyS S lvl part op cl n st := ⟨_, rfl⟩
  rw [← hZ]
  have HZ := Lib.hid hZ
  have HP := Lib.hid hpart
  clear hZ hpart
  go_enter Tryz.func28, Tryz.ntmps28
  go_wp2_with fail
  refine (token_any h op sgn (by omega) (by decide)).mono ?_
  rintro e' w1 ⟨rfl, v1, hA⟩
  obtain ⟨st1, hst1⟩ : ∃ s, s = tokS S st op sgn := ⟨_, rfl⟩
  rw [← hst1] at hA
  have HS := Lib.hid hst1
  clear hst1
  go_wp2_with fail
  go_loopw [12] (fun i wr => ∃ (m : Nat) (vk : Value) (stk : St), m ≤ n ∧ i = .int .i64 ((n - m : Nat) : Int) ∧ SStep b S w v wr vk stk ∧ loopS S lvl part n 0 st1 = loopS S lvl part m (n - m) stk) (fun i _ => n - (intOf i).toNat)
  case atStart => exact ⟨n, v1, st1, Nat.le_refl _, by rw [Nat.sub_self]; rfl, hA, by rw [Nat.sub_self]⟩
  case round =>
    clear hA
    obtain ⟨m, vk, stk, hm, rfl, hA, hL⟩ := hrel
    have hfull := hA.now.cFull
    cases m with
    | zero =>
      have HL : Hid (loopS S lvl part n 0 st1 = stk) := Lib.hid hL
      clear hL hfull
      rw [Nat.sub_zero]
      rcases Nat.eq_zero_or_pos n with hn0 | hn0
      · have hZ2 : Z = tokS S stk cl sgn := by rw [HZ.out, manyS, ← HS.out, HL.out, if_neg (by omega)]
        have HZ2 := Lib.hid hZ2
        clear hZ2
        subst hn0
        go_wp2_with fail
        refine (token_any hA.now cl sgn (by omega) (by decide)).mono ?_
        rintro e' w2 ⟨rfl, v2, hB⟩
        have hF := hA.join hB
        rw [← HZ2.out] at hF
        go_wp2_with fail
        go_end0
        exact ⟨rfl, v2, hF⟩
      · have hZ2 : Z = tokS S (lineS S stk lvl) cl sgn := by rw [HZ.out, manyS, ← HS.out, HL.out, if_pos hn0]
        have HZ2 := Lib.hid hZ2
        clear hZ2
        go_wp2_with fail
        refine (line_any hA.now hi lvl (by omega)).mono ?_
        rintro e' w2 ⟨rfl, v2, hB⟩
        have hC := hA.join hB
        go_wp2_with fail
        refine (token_any hC.now cl sgn (by omega) (by decide)).mono ?_
        rintro e' w3 ⟨rfl, v3, hB⟩
        have hF := hC.join hB
        rw [← HZ2.out] at hF
        go_wp2_with fail
        go_end0
        exact ⟨rfl, v3, hF⟩
    | succ m =>
      obtain ⟨j, hj⟩ : ∃ j, j = n - (m + 1) := ⟨_, rfl⟩
      have hjn : j < n := by omega
      have hnm : n - m = j + 1 := by omega
      rw [← hj] at hL ⊢
      cases hk : stk.2 with
      | true =>
        rw [hk] at hfull
        have HL : Hid (loopS S lvl part n 0 st1 = stk) := Lib.hid (hL.trans (loopS_full S lvl part _ _ _ hk))
        have hn0 : 0 < n := by omega
        have hZ2 : Z = tokS S (lineS S stk lvl) cl sgn := by rw [HZ.out, manyS, ← HS.out, HL.out, if_pos hn0]
        have HZ2 := Lib.hid hZ2
        clear hZ2 hL hk hj hnm
        go_wp2_with fail
        refine (line_any hA.now hi lvl (by omega)).mono ?_
        rintro e' w2 ⟨rfl, v2, hB⟩
        have hC := hA.join hB
        go_wp2_with fail
        refine (token_any hC.now cl sgn (by omega) (by decide)).mono ?_
        rintro e' w3 ⟨rfl, v3, hB⟩
        have hF := hC.join hB
        rw [← HZ2.out] at hF
        go_wp2_with fail
        go_end0
        exact ⟨rfl, v3, hF⟩
      | false =>
        rw [hk] at hfull
        have HJ := Lib.hid hj
        have HNM := Lib.hid hnm
        rcases Nat.eq_zero_or_pos j with hj0 | hj0
        · have HL : Hid (loopS S lvl part n 0 st1 = loopS S lvl part m (j + 1) (part j (lineS S stk (lvl + 1)))) := Lib.hid (by rw [hL, loopS, if_neg (by rw [hk]; decide), if_neg (by omega)])
          clear hL hj hnm hk
          subst hj0
          go_wp2_with fail
          refine (line_any hA.now hi (lvl + 1) (by omega)).mono ?_
          rintro e' w2 ⟨rfl, v2, hB⟩
          have hC := hA.join hB
          go_wp2_with fail
          refine (HP.out 0 hjn w2 v2 _ hC).mono ?_
          rintro e' w3 ⟨rfl, v3, hB⟩
          have hD := hC.join hB
          go_wp2_with fail
          all_goals go_roundw
          case rel => exact ⟨m, v3, _, by omega, by rw [HNM.out]; go_num, hD, by rw [HNM.out]; exact HL.out⟩
          case measure => simp [intOf]; omega
        · have HL : Hid (loopS S lvl part n 0 st1 = loopS S lvl part m (j + 1) (part j (lineS S (tokS S stk [44] sgn) (lvl + 1)))) := Lib.hid (by rw [hL, loopS, if_neg (by rw [hk]; decide), if_pos hj0])
          clear hL hj hnm hk
          go_wp2_with fail
          refine (token_any hA.now [44] sgn (by decide) (by decide)).mono ?_
          rintro e' w2 ⟨rfl, v2, hB⟩
          have hA := hA.join hB
          go_wp2_with fail
          refine (line_any hA.now hi (lvl + 1) (by omega)).mono ?_
          rintro e' w2 ⟨rfl, v2, hB⟩
          have hC := hA.join hB
          go_wp2_with fail
          refine (HP.out j hjn w2 v2 _ hC).mono ?_
          rintro e' w3 ⟨rfl, v3, hB⟩
          have hD := hC.join hB
          go_wp2_with fail
          all_goals go_roundw
          case rel => exact ⟨m, v3, _, by omega, by rw [HNM.out]; go_num, hD, by rw [HNM.out]; exact HL.out⟩
          case measure => simp [intOf]; omega
end

section
variable {b : Nat} {S : Sty} {w : World} {v : Value} {st : St}
set_option maxHeartbeats 1000000 in
set_option maxRecDepth 100000 in
theorem many_obj (h : Sh b S w v st) (hi : S.ind ≤ 7) (c1 c2 c3 c4 : Nat) (op cl : List UInt8) (hop : op.length ≤ 10) (hcl : cl.length ≤ 10) (n lvl : Nat) (hn : n ≤ 1000000000000) (hlv : lvl ≤ 1000000) (part : Nat → St → St)
    (hpart : ∀ (i : Nat), i < n → ∀ (w' : World) (v' : Value) (st' : St), SStep b S w v w' v' st' → Calls Tryz.prog 31 #[.int .i64 i, .pointer (some ⟨c1, 0, none⟩), .pointer (some ⟨c2, 0, none⟩), .pointer (some ⟨c3, 0, none⟩), .pointer (some ⟨c4, 0, none⟩)] w' fun e w'' => e = .returned (.tuple #[]) ∧ ∃ v'', SStep b S w' v' w'' v'' (part i st')) :
    Calls Tryz.prog 28 #[.pointer (some ⟨b, 0, none⟩), .string ⟨op.toArray⟩, .string ⟨cl.toArray⟩, .int .i64 n, .int .i64 lvl, .func (.func 31) #[] #[.pointer (some ⟨c1, 0, none⟩), .pointer (some ⟨c2, 0, none⟩), .pointer (some ⟨c3, 0, none⟩), .pointer (some ⟨c4, 0, none⟩)]] w fun e w' => e = .returned (.tuple #[]) ∧ ∃ v', SStep b S w v w' v' (manyS S lvl part op cl n st) := by
  obtain ⟨Z, hZ⟩ : ∃ Z, Z = manyS S lvl part op cl n st := ⟨_, rfl⟩
  rw [← hZ]
  have HZ := Lib.hid hZ
  have HP := Lib.hid hpart
  clear hZ hpart
  go_enter Tryz.func28, Tryz.ntmps28
  go_wp2_with fail
  refine (token_any h op sgn (by omega) (by decide)).mono ?_
  rintro e' w1 ⟨rfl, v1, hA⟩
  obtain ⟨st1, hst1⟩ : ∃ s, s = tokS S st op sgn := ⟨_, rfl⟩
  rw [← hst1] at hA
  have HS := Lib.hid hst1
  clear hst1
  go_wp2_with fail
  go_loopw [12] (fun i wr => ∃ (m : Nat) (vk : Value) (stk : St), m ≤ n ∧ i = .int .i64 ((n - m : Nat) : Int) ∧ SStep b S w v wr vk stk ∧ loopS S lvl part n 0 st1 = loopS S lvl part m (n - m) stk) (fun i _ => n - (intOf i).toNat)
  case atStart => exact ⟨n, v1, st1, Nat.le_refl _, by rw [Nat.sub_self]; rfl, hA, by rw [Nat.sub_self]⟩
  case round =>
    clear hA
    obtain ⟨m, vk, stk, hm, rfl, hA, hL⟩ := hrel
    have hfull := hA.now.cFull
    cases m with
    | zero =>
      have HL : Hid (loopS S lvl part n 0 st1 = stk) := Lib.hid hL
      clear hL hfull
      rw [Nat.sub_zero]
      rcases Nat.eq_zero_or_pos n with hn0 | hn0
      · have hZ2 : Z = tokS S stk cl sgn := by rw [HZ.out, manyS, ← HS.out, HL.out, if_neg (by omega)]
        have HZ2 := Lib.hid hZ2
        clear hZ2
        subst hn0
        go_wp2_with fail
        refine (token_any hA.now cl sgn (by omega) (by decide)).mono ?_
        rintro e' w2 ⟨rfl, v2, hB⟩
        have hF := hA.join hB
        rw [← HZ2.out] at hF
        go_wp2_with fail
        go_end0
        exact ⟨rfl, v2, hF⟩
      · have hZ2 : Z = tokS S (lineS S stk lvl) cl sgn := by rw [HZ.out, manyS, ← HS.out, HL.out, if_pos hn0]
        have HZ2 := Lib.hid hZ2
        clear hZ2
        go_wp2_with fail
        refine (line_any hA.now hi lvl (by omega)).mono ?_
        rintro e' w2 ⟨rfl, v2, hB⟩
        have hC := hA.join hB
        go_wp2_with fail
        refine (token_any hC.now cl sgn (by omega) (by decide)).mono ?_
        rintro e' w3 ⟨rfl, v3, hB⟩
        have hF := hC.join hB
        rw [← HZ2.out] at hF
        go_wp2_with fail
        go_end0
        exact ⟨rfl, v3, hF⟩
    | succ m =>
      obtain ⟨j, hj⟩ : ∃ j, j = n - (m + 1) := ⟨_, rfl⟩
      have hjn : j < n := by omega
      have hnm : n - m = j + 1 := by omega
      rw [← hj] at hL ⊢
      cases hk : stk.2 with
      | true =>
        rw [hk] at hfull
        have HL : Hid (loopS S lvl part n 0 st1 = stk) := Lib.hid (hL.trans (loopS_full S lvl part _ _ _ hk))
        have hn0 : 0 < n := by omega
        have hZ2 : Z = tokS S (lineS S stk lvl) cl sgn := by rw [HZ.out, manyS, ← HS.out, HL.out, if_pos hn0]
        have HZ2 := Lib.hid hZ2
        clear hZ2 hL hk hj hnm
        go_wp2_with fail
        refine (line_any hA.now hi lvl (by omega)).mono ?_
        rintro e' w2 ⟨rfl, v2, hB⟩
        have hC := hA.join hB
        go_wp2_with fail
        refine (token_any hC.now cl sgn (by omega) (by decide)).mono ?_
        rintro e' w3 ⟨rfl, v3, hB⟩
        have hF := hC.join hB
        rw [← HZ2.out] at hF
        go_wp2_with fail
        go_end0
        exact ⟨rfl, v3, hF⟩
      | false =>
        rw [hk] at hfull
        have HJ := Lib.hid hj
        have HNM := Lib.hid hnm
        rcases Nat.eq_zero_or_pos j with hj0 | hj0
        · have HL : Hid (loopS S lvl part n 0 st1 = loopS S lvl part m (j + 1) (part j (lineS S stk (lvl + 1)))) := Lib.hid (by rw [hL, loopS, if_neg (by rw [hk]; decide), if_neg (by omega)])
          clear hL hj hnm hk
          subst hj0
          go_wp2_with fail
          refine (line_any hA.now hi (lvl + 1) (by omega)).mono ?_
          rintro e' w2 ⟨rfl, v2, hB⟩
          have hC := hA.join hB
          go_wp2_with fail
          refine (HP.out 0 hjn w2 v2 _ hC).mono ?_
          rintro e' w3 ⟨rfl, v3, hB⟩
          have hD := hC.join hB
          go_wp2_with fail
          all_goals go_roundw
          case rel => exact ⟨m, v3, _, by omega, by rw [HNM.out]; go_num, hD, by rw [HNM.out]; exact HL.out⟩
          case measure => simp [intOf]; omega
        · have HL : Hid (loopS S lvl part n 0 st1 = loopS S lvl part m (j + 1) (part j (lineS S (tokS S stk [44] sgn) (lvl + 1)))) := Lib.hid (by rw [hL, loopS, if_neg (by rw [hk]; decide), if_pos hj0])
          clear hL hj hnm hk
          go_wp2_with fail
          refine (token_any hA.now [44] sgn (by decide) (by decide)).mono ?_
          rintro e' w2 ⟨rfl, v2, hB⟩
          have hA := hA.join hB
          go_wp2_with fail
          refine (line_any hA.now hi (lvl + 1) (by omega)).mono ?_
          rintro e' w2 ⟨rfl, v2, hB⟩
          have hC := hA.join hB
          go_wp2_with fail
          refine (HP.out j hjn w2 v2 _ hC).mono ?_
          rintro e' w3 ⟨rfl, v3, hB⟩
          have hD := hC.join hB
          go_wp2_with fail
          all_goals go_roundw
          case rel => exact ⟨m, v3, _, by omega, by rw [HNM.out]; go_num, hD, by rw [HNM.out]; exact HL.out⟩
          case measure => simp [intOf]; omega
end
end Go.Proofs.YticaihfcnbehpaaGreatDoor
