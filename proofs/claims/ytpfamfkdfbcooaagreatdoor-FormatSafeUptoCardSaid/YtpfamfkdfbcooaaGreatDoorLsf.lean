/- colanderlaw13.FormatSafe, walked: for every value it returns true. -/
import Derived.Test.YtpfamfkdfbcooaaGreatDoorFml2
import Derived.Test.YtpfamfkdfbcooaaGreatDoorFhq
import Derived.Test.YtpfamfkdfbcooaaGreatDoorKpt
import Derived.Test.YtpfamfkdfbcooaaGreatDoorFbd
import Derived.Test.YtpfamfkdfbcooaaGreatDoorOkp
set_option linter.unusedVariables false
set_option linter.unusedSimpArgs false
namespace Go.Proofs.YtpfamfkdfbcooaaGreatDoor
open Go Go.RowKit Go.Proofs
theorem outV_gen (H : List UInt8) : ∃ (ka : Int) (X : List UInt8) (ba : Bool) (ke : Int) (ma : List UInt8), outV H = .tuple #[.agg #[.int .i64 ka, .float .f64 0, .string ⟨X.toArray⟩, .slice none 0 0, .slice none 0 0], .agg #[.bool ba, .int .i64 ke, .float .f64 0, .string ⟨ma.toArray⟩, .slice none 0 0, .slice none 0 0]] ∧ (X = H ∨ X = []) ∧ (ba = true → ma = largeT) ∧ X.length ≤ 1048576 := by
  rcases Nat.lt_or_ge 1048576 H.length with h | h
  · exact ⟨0, [], true, 4, largeT, by unfold outV; rw [if_neg (by omega)], .inr rfl, fun _ => rfl, by simp⟩
  · exact ⟨4, H, false, 0, [], by unfold outV; rw [if_pos h], .inl rfl, fun h => (by cases h), h⟩
set_option maxHeartbeats 20000000 in
set_option maxRecDepth 100000 in
theorem fsafe_walk (w : World) (TW : Tabs w) (d : Nat) (t : Tr) (y0 y1 y2 y3 y4 : Value) (hR : Rep d w t y0 y1 y2 y3 y4) (hwt : ∀ e, wtT e t ≤ 1048576) :
    Calls Tryz.prog 7 #[.agg #[y0, y1, y2, y3, y4]] w fun e w' => e = .returned (.bool true) ∧ Below w.heap.size w w' := by
  cases d with
  | zero => exact hR.elim
  | succ d =>
  obtain ⟨kk, nn, ss, A3, n3, e3, A4, n4, e4, rfl, rfl, rfl, rfl, rfl⟩ := rep_shape hR
  have HR : Hid (∀ W, Below w.heap.size w W → Calls Tryz.prog 8 #[.agg #[.int .i64 kk, .float .f64 nn, .string ss, .slice A3 n3 e3, .slice A4 n4 e4]] W fun e w' => e = .returned (.bool (rightT 10000 t)) ∧ Below W.heap.size W w') := Lib.hid (fun W hb => right_any2 (d + 1) W t _ _ _ _ _ (hR.below hb))
  have HH : Hid (∀ W, Below w.heap.size w W → Calls Tryz.prog 9 #[] W fun e w' => e = .returned (.bool true) ∧ Below W.heap.size W w') := Lib.hid (fun W hb => heads13_any W (TW.next hb))
  have hO := fun h => right_okp (d + 1) 10000 w t _ _ _ _ _ h hR
  have hFs : rightT 10000 t = true → ∃ S : List UInt8, (∀ W, Below w.heap.size w W → Calls Tryz.prog 11 #[.string ⟨#[104, 116, 109, 108]⟩, .agg #[.int .i64 kk, .float .f64 nn, .string ss, .slice A3 n3 e3, .slice A4 n4 e4]] W fun e w' => e = .returned (outV (S.flatMap htmlE)) ∧ Below W.heap.size W w') ∧ (∀ W, Below w.heap.size w W → Calls Tryz.prog 11 #[.string ⟨#[117, 114, 105]⟩, .agg #[.int .i64 kk, .float .f64 nn, .string ss, .slice A3 n3 e3, .slice A4 n4 e4]] W fun e w' => e = .returned (outV (S.flatMap uriE)) ∧ Below W.heap.size W w') := fun h => by
    have hok := hO h
    obtain ⟨k, rfl, hk6, hstr⟩ : ∃ k : Nat, kk = (k : Int) ∧ k ≤ 6 ∧ ∃ s : List UInt8, ss = ⟨s.toArray⟩ ∧ s.length ≤ 1048576 := by
      cases t with
      | mk k0 num str keys list =>
      have h1 := hok.1
      have h2 := hok.2.1
      obtain ⟨e0, _, e2, _, hs, _⟩ := hR
      injection e0 with _ e0
      injection e2 with e2
      refine ⟨kk.toNat, by omega, by omega, str, e2, hs⟩
    obtain ⟨s, rfl, hs⟩ := hstr
    have hz : (textT (d + 1) t).length ≤ 1200000000 := by
      have h1 := textT_len (d + 1) t
      have h2 := hwt (d + 1)
      omega
    have hTx : ∀ W, Below w.heap.size w W → Calls Tryz.prog 35 #[.agg #[.int .i64 k, .float .f64 nn, .string ⟨s.toArray⟩, .slice A3 n3 e3, .slice A4 n4 e4]] W fun e w' => e = .returned (.string ⟨(textT (d + 1) t).toArray⟩) ∧ Below W.heap.size W w' := fun W hW => valueTextT_any W (TW.next hW) d t _ _ _ _ _ (hR.below hW) hok (by omega)
    by_cases h4 : k = 4
    · subst h4
      refine ⟨s, fun W hW => ?_, fun W hW => ?_⟩
      · exact format_html W (TW.next hW) 4 nn (by omega) ⟨s.toArray⟩ A3 n3 e3 A4 n4 e4 (textT (d + 1) t) (by omega) (fun W2 h2 => hTx W2 (hW.trans (h2.mono hW.size))) s (by omega) (fun W2 h2 => fstring_str W2 nn _ A3 n3 e3 A4 n4 e4)
      · exact format_uri W (TW.next hW) 4 nn (by omega) ⟨s.toArray⟩ A3 n3 e3 A4 n4 e4 (textT (d + 1) t) (by omega) (fun W2 h2 => hTx W2 (hW.trans (h2.mono hW.size))) s (by omega) (fun W2 h2 => fstring_str W2 nn _ A3 n3 e3 A4 n4 e4)
    · have hSt : ∀ W W2 : World, Below w.heap.size w W → Below W.heap.size W W2 → Calls Tryz.prog 15 #[.agg #[.int .i64 k, .float .f64 nn, .string ⟨s.toArray⟩, .slice A3 n3 e3, .slice A4 n4 e4]] W2 fun e w' => e = .returned (.string ⟨(textT (d + 1) t).toArray⟩) ∧ Below W2.heap.size W2 w' := fun W W2 hW h2 => fstring_of W2 k nn h4 hk6 ⟨s.toArray⟩ A3 n3 e3 A4 n4 e4 (textT (d + 1) t) (fun W3 h3 => hTx W3 ((hW.trans (h2.mono hW.size)).trans (h3.mono (hW.trans (h2.mono hW.size)).size)))
      refine ⟨textT (d + 1) t, fun W hW => ?_, fun W hW => ?_⟩
      · exact format_html W (TW.next hW) k nn hk6 ⟨s.toArray⟩ A3 n3 e3 A4 n4 e4 (textT (d + 1) t) (by omega) (fun W2 h2 => hTx W2 (hW.trans (h2.mono hW.size))) (textT (d + 1) t) hz (fun W2 h2 => hSt W W2 hW h2)
      · exact format_uri W (TW.next hW) k nn hk6 ⟨s.toArray⟩ A3 n3 e3 A4 n4 e4 (textT (d + 1) t) (by omega) (fun W2 h2 => hTx W2 (hW.trans (h2.mono hW.size))) (textT (d + 1) t) hz (fun W2 h2 => hSt W W2 hW h2)
  obtain ⟨W1, hW1⟩ : ∃ W1, W1 = w.alloc (.cells #[.int .i64 kk, .float .f64 nn, .string ss, .slice A3 n3 e3, .slice A4 n4 e4] 27) := ⟨_, rfl⟩
  have hb1 : Below w.heap.size w W1 := by rw [hW1]; exact (Below.refl _ _).alloc (Nat.le_refl _) _
  have hr1 : W1.heap[w.heap.size]? = some (.cells #[.int .i64 kk, .float .f64 nn, .string ss, .slice A3 n3 e3, .slice A4 n4 e4] 27 (0, 0)) := by rw [hW1]; exact heap_alloc_new _ _
  obtain ⟨r, hr⟩ : ∃ r, r = rightT 10000 t := ⟨_, rfl⟩
  rw [← hr] at HR hFs
  have HRW := Lib.hid hr1
  have HW1 := Lib.hid hW1
  clear hO hr hR hwt TW hW1 hr1
  have hlg : (largeT == [118, 97, 108, 117, 101, 32, 105, 115, 32, 116, 111, 111, 32, 108, 97, 114, 103, 101]) = true := by decide
  go_enter Tryz.func7, Tryz.ntmps7
  go_upto_region 1 with fail
  rw [← HW1.out]
  obtain ⟨q0, q1, q2, q3, q4⟩ := parts5 HRW.out
  go_wp2_with fail
  refine (HR.out _ hb1).mono ?_
  rintro e' w3 ⟨rfl, hb3⟩
  have hw3 := hb1.trans (hb3.mono hb1.size)
  clear q0 q1 q2 q3 q4 HR
  cases r with
  | false =>
    clear hFs
    go_wp2_with fail
    refine (HH.out _ hw3).mono ?_
    rintro e' w4 ⟨rfl, hb4⟩
    have hw4 := hw3.trans (hb4.mono hw3.size)
    go_wp2_with fail
    go_ret
    exact ⟨rfl, hw4⟩
  | true =>
    obtain ⟨S, hF1, hF2⟩ := hFs rfl
    obtain ⟨ka, X, ba, ke, ma, hA1, hA2, hA3, hA4⟩ := outV_gen (S.flatMap htmlE)
    obtain ⟨kb, Y, bb, kf, mb, hB1, hB2, hB3, hB4⟩ := outV_gen (S.flatMap uriE)
    have HS1 : Hid (∀ c ∈ X, c ≠ 60 ∧ c ≠ 62 ∧ c ≠ 39 ∧ c ≠ 34) := Lib.hid (fun c hc => by
      rcases hA2 with h | h
      · rw [h] at hc; exact html_safe S c hc
      · rw [h] at hc; cases hc)
    have HS2 : Hid (∀ c ∈ Y, keptB c = true ∨ c = 37) := Lib.hid (fun c hc => by
      rcases hB2 with h | h
      · rw [h] at hc; exact uri_safe S c hc
      · rw [h] at hc; cases hc)
    rw [hA1] at hF1
    rw [hB1] at hF2
    have HF1 := Lib.hid hF1
    have HF2 := Lib.hid hF2
    have HM1 := Lib.hid hA3
    have HM2 := Lib.hid hB3
    obtain ⟨na, hna⟩ : ∃ n, n = X.length := ⟨_, rfl⟩
    obtain ⟨nb, hnb⟩ : ∃ n, n = Y.length := ⟨_, rfl⟩
    have hza : (⟨X.toArray⟩ : ByteArray).size = na := hna.symm
    have hzb : (⟨Y.toArray⟩ : ByteArray).size = nb := hnb.symm
    rw [← hna] at hA4
    rw [← hnb] at hB4
    have HNA := Lib.hid hna
    have HNB := Lib.hid hnb
    clear hFs hF1 hF2 hA1 hA2 hA3 hB1 hB2 hB3 hna hnb
    have HRW := Lib.hid (hlBelow hb3 HRW.out)
    obtain ⟨q0, q1, q2, q3, q4⟩ := parts5 HRW.out
    go_wp2_with fail
    refine (HF1.out _ hw3).mono ?_
    rintro e' w4 ⟨rfl, hb4⟩
    have hw4 := hw3.trans (hb4.mono hw3.size)
    have HT := Lib.hid (two_new w4)
    have HRW := Lib.hid (hlBelow hb4 HRW.out)
    clear q0 q1 q2 q3 q4
    go_wp2_with (first
      | (refine wpList_store_row rfl 27 (.tmp 3) (.tmp 17) rfl w4.heap.size #[.int .i64 ka, .float .f64 0, .string ⟨X.toArray⟩, .slice none 0 0, .slice none 0 0] rfl rfl 27 vZ HT.out.v (by kernel_rfl) rfl (by first | exact oneV _ _ | exact oneE _ _ _ | simp [Value.oneCell']) ?_; have HT2 := Lib.hid (HT.out.setV #[.int .i64 ka, .float .f64 0, .string ⟨X.toArray⟩, .slice none 0 0, .slice none 0 0]); obtain ⟨XHT, hX⟩ : ∃ Xq, Xq = ((w4.alloc (.cells vZ 27)).alloc (.cells eZ 32)).setRow w4.heap.size #[.int .i64 ka, .float .f64 0, .string ⟨X.toArray⟩, .slice none 0 0, .slice none 0 0] := ⟨_, rfl⟩; rw [← hX] at HT2 ⊢; clear hX)
      | (refine wpList_store_row rfl 32 (.tmp 4) (.tmp 18) rfl (w4.heap.size + 1) #[.bool ba, .int .i64 ke, .float .f64 0, .string ⟨ma.toArray⟩, .slice none 0 0, .slice none 0 0] rfl rfl 32 eZ HT2.out.e (by kernel_rfl) rfl (by first | exact oneV _ _ | exact oneE _ _ _ | simp [Value.oneCell']) ?_; have HT3 := Lib.hid (HT2.out.setE #[.bool ba, .int .i64 ke, .float .f64 0, .string ⟨ma.toArray⟩, .slice none 0 0, .slice none 0 0]); obtain ⟨Y4, hY⟩ : ∃ Yq, Yq = XHT.setRow (w4.heap.size + 1) #[.bool ba, .int .i64 ke, .float .f64 0, .string ⟨ma.toArray⟩, .slice none 0 0, .slice none 0 0] := ⟨_, rfl⟩; rw [← hY] at HT3 ⊢; clear hY HT2 HT; have hw5 := hw4.trans (HT3.out.below.mono hw4.size); have HRW := Lib.hid (hlBelow HT3.out.below HRW.out)))
    have HV4 := Lib.hid HT3.out.v
    have HE4 := Lib.hid HT3.out.e
    clear HT3 hb4
    obtain ⟨B4, hB4e⟩ : ∃ B, B = w4.heap.size := ⟨_, rfl⟩
    rw [← hB4e] at HV4 HE4 ⊢
    clear hB4e
    go_loopw [5] (fun i wr => ∃ (k : Nat), k ≤ na ∧ i = .int .i64 k ∧ Below Y4.heap.size Y4 wr) (fun i _ => na - (intOf i).toNat)
    case atStart => exact ⟨0, Nat.zero_le _, rfl, Below.refl _ _⟩
    case round =>
      obtain ⟨k, hk, rfl, hbr⟩ := hrel
      have g2 := cell_of_heap (j := 2) (hlBelow hbr HV4.out) rfl
      rcases Nat.lt_or_ge k na with hlt | hge
      · have hkl : k < X.length := by have := HNA.out; omega
        have hL := HS1.out X[k] (List.getElem_mem hkl)
        obtain ⟨c, hc⟩ : ∃ c, c = X[k] := ⟨_, rfl⟩
        rw [← hc] at hL
        have hby : ∀ h, ((⟨X.toArray⟩ : ByteArray)[k]'h).toNat = c.toNat := fun h => by rw [hc]; rfl
        have hcn : ∀ x : UInt8, c ≠ x → ((c.toNat : Int) == (x.toNat : Int)) = false := fun x hx => by
          rw [beq_eq_false_iff_ne]; intro e; exact hx (UInt8.toNat_inj.1 (by omega))
        have a1 : ((c.toNat : Int) == 60) = false := hcn 60 hL.1
        have a2 : ((c.toNat : Int) == 62) = false := hcn 62 hL.2.1
        have a3 : ((c.toNat : Int) == 39) = false := hcn 39 hL.2.2.1
        have a4 : ((c.toNat : Int) == 34) = false := hcn 34 hL.2.2.2
        clear hc hcn hL
        go_wp2_with fail
        all_goals go_roundw
        case rel => exact ⟨k + 1, by omega, by go_num, hbr⟩
        case measure => simp [intOf]; omega
      · obtain rfl : k = na := by omega
        have hw6 := hw5.trans (hbr.mono hw5.size)
        have HRW := Lib.hid (hlBelow hbr HRW.out)
        have HV4 := Lib.hid (hlBelow hbr HV4.out)
        have HE4 := Lib.hid (hlBelow hbr HE4.out)
        obtain ⟨q0, q1, q2, q3, q4⟩ := parts5 HRW.out
        clear hbr
        go_wp2_with fail
        refine (HF2.out _ hw6).mono ?_
        rintro e' w7 ⟨rfl, hb7⟩
        have hw7 := hw6.trans (hb7.mono hw6.size)
        have HU := Lib.hid (two_new w7)
        have HE4 := Lib.hid (hlBelow hb7 HE4.out)
        clear q0 q1 q2 q3 q4 g2 HF1 HF2 HRW hb7
        go_wp2_with (first
          | (refine wpList_store_row rfl 27 (.tmp 7) (.tmp 47) rfl w7.heap.size #[.int .i64 kb, .float .f64 0, .string ⟨Y.toArray⟩, .slice none 0 0, .slice none 0 0] rfl rfl 27 vZ HU.out.v (by kernel_rfl) rfl (by first | exact oneV _ _ | exact oneE _ _ _ | simp [Value.oneCell']) ?_; have HU2 := Lib.hid (HU.out.setV #[.int .i64 kb, .float .f64 0, .string ⟨Y.toArray⟩, .slice none 0 0, .slice none 0 0]); obtain ⟨XHU, hX⟩ : ∃ Xq, Xq = ((w7.alloc (.cells vZ 27)).alloc (.cells eZ 32)).setRow w7.heap.size #[.int .i64 kb, .float .f64 0, .string ⟨Y.toArray⟩, .slice none 0 0, .slice none 0 0] := ⟨_, rfl⟩; rw [← hX] at HU2 ⊢; clear hX)
          | (refine wpList_store_row rfl 32 (.tmp 8) (.tmp 48) rfl (w7.heap.size + 1) #[.bool bb, .int .i64 kf, .float .f64 0, .string ⟨mb.toArray⟩, .slice none 0 0, .slice none 0 0] rfl rfl 32 eZ HU2.out.e (by kernel_rfl) rfl (by first | exact oneV _ _ | exact oneE _ _ _ | simp [Value.oneCell']) ?_; have HU3 := Lib.hid (HU2.out.setE #[.bool bb, .int .i64 kf, .float .f64 0, .string ⟨mb.toArray⟩, .slice none 0 0, .slice none 0 0]); obtain ⟨Y7, hY⟩ : ∃ Yq, Yq = XHU.setRow (w7.heap.size + 1) #[.bool bb, .int .i64 kf, .float .f64 0, .string ⟨mb.toArray⟩, .slice none 0 0, .slice none 0 0] := ⟨_, rfl⟩; rw [← hY] at HU3 ⊢; clear hY HU2 HU; have hw8 := hw7.trans (HU3.out.below.mono hw7.size); have HE4 := Lib.hid (hlBelow HU3.out.below HE4.out)))
        have HV7 := Lib.hid HU3.out.v
        have HE7 := Lib.hid HU3.out.e
        clear HU3
        obtain ⟨B7, hB7e⟩ : ∃ B, B = w7.heap.size := ⟨_, rfl⟩
        rw [← hB7e] at HV7 HE7 ⊢
        clear hB7e
        go_loopw [9] (fun i wr => ∃ (k : Nat), k ≤ nb ∧ i = .int .i64 k ∧ Below Y7.heap.size Y7 wr) (fun i _ => nb - (intOf i).toNat)
        case atStart => exact ⟨0, Nat.zero_le _, rfl, Below.refl _ _⟩
        case round =>
          obtain ⟨k, hk, rfl, hbr⟩ := hrel
          have g2 := cell_of_heap (j := 2) (hlBelow hbr HV7.out) rfl
          rcases Nat.lt_or_ge k nb with hlt | hge
          · have hkl : k < Y.length := by have := HNB.out; omega
            have hL := HS2.out Y[k] (List.getElem_mem hkl)
            obtain ⟨c, hc⟩ : ∃ c, c = Y[k] := ⟨_, rfl⟩
            rw [← hc] at hL
            have hby : ∀ h, ((⟨Y.toArray⟩ : ByteArray)[k]'h).toNat = c.toNat := fun h => by rw [hc]; rfl
            have HK := Lib.hid (kept_any wr c)
            clear hc
            rcases hL with h | rfl
            · rw [h] at HK
              clear h
              go_wp2_with fail
              refine HK.out.mono ?_
              rintro e' w9 ⟨rfl, rfl⟩
              go_wp2_with fail
              all_goals go_roundw
              case rel => exact ⟨k + 1, by omega, by go_num, hbr⟩
              case measure => simp [intOf]; omega
            · rw [show keptB 37 = false from by decide] at HK
              go_wp2_with fail
              refine HK.out.mono ?_
              rintro e' w9 ⟨rfl, rfl⟩
              go_wp2_with fail
              all_goals go_roundw
              case rel => exact ⟨k + 1, by omega, by go_num, hbr⟩
              case measure => simp [intOf]; omega
          · obtain rfl : k = nb := by omega
            have hw9 := hw8.trans (hbr.mono hw8.size)
            have HE4 := Lib.hid (hlBelow hbr HE4.out)
            have HE7 := Lib.hid (hlBelow hbr HE7.out)
            clear hbr
            have l0 := cell_of_heap (j := 0) HE4.out rfl
            have l3 := cell_of_heap (j := 3) HE4.out rfl
            have m0 := cell_of_heap (j := 0) HE7.out rfl
            have m3 := cell_of_heap (j := 3) HE7.out rfl
            cases ba with
            | false =>
              cases bb with
              | false =>
                go_wp2_with fail
                refine (HH.out _ hw9).mono ?_
                rintro e' w10 ⟨rfl, hb10⟩
                go_wp2_with fail
                go_ret
                exact ⟨rfl, hw9.trans (hb10.mono hw9.size)⟩
              | true =>
                have e2 := HM2.out rfl
                subst e2
                go_wp2_with fail
                refine (HH.out _ hw9).mono ?_
                rintro e' w10 ⟨rfl, hb10⟩
                go_wp2_with fail
                go_ret
                exact ⟨rfl, hw9.trans (hb10.mono hw9.size)⟩
            | true =>
              have e1 := HM1.out rfl
              subst e1
              cases bb with
              | false =>
                go_wp2_with fail
                refine (HH.out _ hw9).mono ?_
                rintro e' w10 ⟨rfl, hb10⟩
                go_wp2_with fail
                go_ret
                exact ⟨rfl, hw9.trans (hb10.mono hw9.size)⟩
              | true =>
                have e2 := HM2.out rfl
                subst e2
                go_wp2_with fail
                refine (HH.out _ hw9).mono ?_
                rintro e' w10 ⟨rfl, hb10⟩
                go_wp2_with fail
                go_ret
                exact ⟨rfl, hw9.trans (hb10.mono hw9.size)⟩
end Go.Proofs.YtpfamfkdfbcooaaGreatDoor
