/- The document's answer for numbers: zeros, Digits. -/
import Derived.Test.YticaihfcnbehpaaGreatDoorNuv
import Derived.Test.YticaihfcnbehpaaGreatDoorOpr
import Derived.Test.YticaihfcnbehpaaGreatDoorSot
import Derived.LoopTactic
set_option linter.unusedVariables false
set_option linter.unusedSimpArgs false
namespace Go.Proofs.YticaihfcnbehpaaGreatDoor
open Go Go.RowKit Go.Proofs
theorem stripZ_last (l : List UInt8) (h : stripZ l ≠ []) : (stripZ l).getLast h ≠ 48 := by
  unfold stripZ at h ⊢
  have hd : l.reverse.dropWhile (· == 48) ≠ [] := by intro e; rw [e] at h; exact h rfl
  rw [List.getLast_reverse]
  have := List.head_dropWhile_not (· == (48 : UInt8)) hd
  simpa using this
theorem last_of (l : List UInt8) (L : List UInt8) (hL : L = (if stripZ l = [] then [48] else stripZ l)) (h : 1 < L.length) : L[L.length - 1] ≠ 48 := by
  by_cases he : stripZ l = []
  · rw [if_pos he] at hL; subst hL; simp at h
  · rw [if_neg he] at hL
    subst hL
    have := stripZ_last l he
    rw [List.getLast_eq_getElem] at this
    exact this
theorem manT_filter (D : List UInt8) (h : Dig D) : (manT D).filter (· != 46) = if D = [] then [48] else D := by
  have hf : ∀ l : List UInt8, Dig l → l.filter (· != 46) = l := fun l hl => List.filter_eq_self.2 (fun x hx => by
    have := (hl.ne 46 (by decide)) x hx
    simpa using this)
  unfold manT
  rcases D with _ | ⟨y, _ | ⟨z, D⟩⟩
  · rfl
  · have := hf [y] h
    simpa using this
  · have h1 := hf (y :: z :: D) h
    have h2 : ((y :: (46 :: z :: D)) : List UInt8).filter (· != 46) = y :: z :: D := by
      have hy : (y != 46) = true := by have := (h.ne 46 (by decide)) y (by simp); simpa using this
      have hz := hf (z :: D) (fun x hx => h x (by simp at hx ⊢; exact .inr hx))
      rw [List.filter_cons, if_pos hy, List.filter_cons, if_neg (by decide), hz]
    simpa using h2
theorem manT_ne (D : List UInt8) (h : Dig D) : ∀ x ∈ manT D, x ≠ 101 := by
  intro x hx
  unfold manT at hx
  rcases D with _ | ⟨y, _ | ⟨z, D⟩⟩
  · simp at hx; subst hx; decide
  · simp at hx; subst hx; exact h.ne 101 (by decide) x (by simp)
  · simp at hx
    rcases hx with rfl | rfl | rfl | hx
    · exact h.ne 101 (by decide) x (by simp)
    · decide
    · exact h.ne 101 (by decide) x (by simp)
    · exact h.ne 101 (by decide) x (by simp [hx])
set_option maxHeartbeats 2000000 in
set_option maxRecDepth 100000 in
theorem zerosRef_any (n : Nat) (hn : n ≤ 100000) (w : World) :
    Calls Tryz.prog 64 #[.int .i64 n] w fun e w' => e = .returned (.string ⟨(List.replicate n (48 : UInt8)).toArray⟩) ∧ w = w' := by
  obtain ⟨Z, hZ⟩ : ∃ Z, Z = List.replicate n (48 : UInt8) := ⟨_, rfl⟩
  rw [← hZ]
  have HZ := Lib.hid hZ
  clear hZ
  go_enter Tryz.func64, Tryz.ntmps64
  go_wp2_with fail
  go_loop [3, 4] (fun s i => ∃ (k : Nat) (R : List UInt8), k ≤ n ∧ i = .int .i64 k ∧ s = .string ⟨R.toArray⟩ ∧ R.length ≤ 100000 ∧ Hid (R = List.replicate k 48)) (fun _ i => n - (intOf i).toNat)
  case atStart => exact ⟨0, [], Nat.zero_le _, rfl, rfl, by simp, Lib.hid rfl⟩
  case round =>
    obtain ⟨k, R, hk, rfl, rfl, hRl, HR⟩ := hrel
    rcases Nat.lt_or_ge k n with hlt | hge
    · go_wp2_with fail
      all_goals go_round
      case rel => exact ⟨k + 1, R ++ [48], by omega, by go_num, by rw [show (⟨#[48]⟩ : ByteArray) = ⟨[48].toArray⟩ from rfl, ba_append], by rw [HR.out]; simp; omega, Lib.hid (by rw [HR.out, List.replicate_succ'])⟩
      case measure => simp [intOf]; omega
    · obtain rfl : k = n := by omega
      have HE : Hid (R = Z) := Lib.hid (by rw [HR.out, HZ.out])
      clear HR HZ
      obtain rfl := HE.out
      go_wp2_with fail
      go_ret
      exact ⟨rfl, rfl⟩
/-- A byte of a slice of the call's own. -/
theorem own_cell {B : Nat} {w : World} {v : Value} {bs : List UInt8} (h : OwnB B w v bs) (j : Nat) (hj : j < bs.length) : ∃ g c, v = .slice (some ⟨g, 0, none⟩) bs.length c ∧ w.cell? ⟨g, j, none⟩ = some (.int .u8 bs[j].toNat) := by
  obtain ⟨A, c, rfl⟩ := h.shape
  have hG : OwnG 5 1 B w (.slice A bs.length c) bs.length (Lib.byteCells bs) := h
  obtain ⟨_, _, h3⟩ := hG.cells rfl
  obtain ⟨g, rfl, _, hc⟩ := h3 (by rw [Lib.byteCells_length]; omega)
  exact ⟨g, c, rfl, hc j _ (by unfold Lib.byteCells; rw [List.getElem?_map, List.getElem?_eq_getElem hj]; rfl)⟩
set_option maxHeartbeats 8000000 in
set_option maxRecDepth 100000 in
theorem refDigits_any (b : Nat) (hb : b < 18446744073709551616) (w : World) (T : Tabs w) (h0 : 0 < b % 9223372036854775808) (h1 : b % 9223372036854775808 < 9218868437227405312) :
    Calls Tryz.prog 62 #[.float .f64 b] w fun e w' => e = .returned (.tuple #[.string ⟨(digT (b % 9223372036854775808)).1.toArray⟩, .int .i64 (digT (b % 9223372036854775808)).2]) ∧ Below w.heap.size w w' := by
  have hz : (FloatKind.f64.format.order b 0 == some .eq) = false := by rw [order_zero b (by omega), decide_eq_false (by omega)]
  have hn : decide (9218868437227405312 < b % 9223372036854775808) = false := decide_eq_false (by omega)
  have hi : decide (b % 9223372036854775808 = 9218868437227405312) = false := decide_eq_false (by omega)
  have hN := fun W => isNaN_any b W
  rw [hn] at hN
  have hI := fun W => isInf_any b hb (by omega) W
  rw [hi] at hI
  have hA := fun W => abs_any b hb W
  obtain ⟨a, ha⟩ : ∃ a, a = b % 9223372036854775808 := ⟨_, rfl⟩
  rw [← ha] at hA h0 h1 ⊢
  clear hn hi ha hb
  obtain ⟨p0, p1, p2, p3⟩ := digF_bounds a h0 h1
  have hcut : floatT a = manT (digF a).1 ++ 101 :: expT (if (digF a).1 = [] then 0 else (digF a).2 - 1) := by simp [floatT, fmtT, manT]
  have hfil := manT_filter (digF a).1 p0
  have hne := manT_ne (digF a).1 p0
  have hl : (floatT a).length ≤ 1000 := by
    unfold floatT fmtT
    have := expT_length (if (digF a).1 = [] then 0 else (digF a).2 - 1)
    split <;> simp <;> omega
  have hex := expT_length (if (digF a).1 = [] then 0 else (digF a).2 - 1)
  have hat := atoi_expT (if (digF a).1 = [] then 0 else (digF a).2 - 1) (by split <;> omega) (by split <;> omega)
  have hT : digT a = ((if (digF a).1 = [] then [48] else (digF a).1), (if (digF a).1 = [] then 0 else (digF a).2 - 1)) := by unfold digT; split <;> rfl
  have hpos : 1 ≤ (if (digF a).1 = [] then [48] else (digF a).1).length := by
    split
    · simp
    · rename_i he; exact List.length_pos_iff.2 he
  rw [hT]
  clear hT p0 p1 p2 p3
  obtain ⟨D, hD⟩ : ∃ D, D = (if (digF a).1 = [] then [48] else (digF a).1) := ⟨_, rfl⟩
  have hlast := last_of _ D hD
  obtain ⟨X, hX⟩ : ∃ X, X = (if (digF a).1 = [] then 0 else (digF a).2 - 1) := ⟨_, rfl⟩
  obtain ⟨M, hM⟩ : ∃ M, M = manT (digF a).1 := ⟨_, rfl⟩
  obtain ⟨E, hE⟩ : ∃ E, E = expT X := ⟨_, rfl⟩
  rw [← hD] at hfil hpos ⊢
  rw [← hX] at hcut hex hat ⊢
  rw [← hM] at hcut hfil hne
  rw [← hE] at hcut hex hat
  have hFF := fun W (TW : Tabs W) => format_any a W TW h0 h1
  obtain ⟨F, hF⟩ : ∃ F, F = floatT a := ⟨_, rfl⟩
  rw [← hF] at hcut hl hFF
  have hFl : F.length = M.length + 1 + E.length := by rw [hcut]; simp; omega
  clear hD hX hM hE hF
  have HA := Lib.hid hat
  have HI := Lib.hid hI
  have HN := Lib.hid hN
  have HB := Lib.hid hA
  have HF := Lib.hid hFF
  have HCut := Lib.hid hcut
  have HFil := Lib.hid hfil
  have HNe := Lib.hid hne
  have HLast := Lib.hid hlast
  have HFl := Lib.hid hFl
  have hMl : M.length + 1 ≤ F.length := by omega
  have hDl : D.length ≤ 1000 := by rw [← hfil]; exact Nat.le_trans (List.length_filter_le _ _) (by omega)
  clear hat hI hN hA hFF hcut hfil hne hlast hFl
  go_enter Tryz.func62, Tryz.ntmps62
  go_wp2_with fail
  refine (HN.out _).mono ?_
  rintro e' _ ⟨rfl, rfl⟩
  go_wp2_with fail
  refine (HI.out _).mono ?_
  rintro e' _ ⟨rfl, rfl⟩
  go_wp2_with fail
  refine (HB.out _).mono ?_
  rintro e' _ ⟨rfl, rfl⟩
  go_wp2_with fail
  refine (HF.out _ T).mono ?_
  rintro e' w1 ⟨rfl, hb1⟩
  have hA0 := App.start (OwnB.nil w1.heap.size w1) (Nat.le_refl _)
  have T1 := T.next hb1
  go_wp2_with fail
  go_loopw [5, 6] (fun v i wr => ∃ (k : Nat) (acc : List UInt8), k ≤ M.length ∧ i = .int .i64 k ∧ App w1.heap.size w1 (.slice none 0 0) [] wr v acc ∧ acc.length ≤ k ∧ Hid (acc = (M.take k).filter (· != 46))) (fun _ i _ => M.length - (intOf i).toNat)
  case atStart => exact ⟨0, [], Nat.zero_le _, rfl, hA0, by simp, Lib.hid rfl⟩
  case round =>
    clear hA0
    obtain ⟨k, acc, hk, rfl, hAc, hal, HV⟩ := hrel
    have hkF : k < F.length := by omega
    rcases Nat.lt_or_ge k M.length with hlt | hge
    · obtain ⟨x, hx⟩ : ∃ x, x = M[k] := ⟨_, rfl⟩
      have hx101 : x ≠ 101 := HNe.out x (by rw [hx]; exact List.getElem_mem hlt)
      have hby : ∀ h, ((⟨F.toArray⟩ : ByteArray)[k]'h).toNat = x.toNat := fun h => by
        have : F[k]'hkF = x := by
          rw [hx]
          simp only [HCut.out]
          rw [List.getElem_append_left hlt]
        exact congrArg UInt8.toNat this
      have htk : M.take (k + 1) = M.take k ++ [x] := by rw [List.take_succ_eq_append_getElem hlt, hx]
      obtain ⟨n, hn⟩ : ∃ n, n = x.toNat := ⟨_, rfl⟩
      rw [← hn] at hby
      have t1 : ((n : Int) == 101) = false := by rw [beq_eq_false_iff_ne]; intro h; apply hx101; apply UInt8.toNat_inj.1; show x.toNat = 101; omega
      have u1 : ((n : Int) != 101) = true := by rw [bne_iff_ne]; intro h; apply hx101; apply UInt8.toNat_inj.1; show x.toNat = 101; omega
      by_cases h46 : x = 46
      · have n46 : n = 46 := by rw [hn, h46]; rfl
        have t2 : ((n : Int) == 46) = true := by rw [beq_iff_eq]; omega
        have u2 : ((n : Int) != 46) = false := by rw [bne_eq_false_iff_eq]; omega
        have HV2 : Hid (acc = (M.take (k + 1)).filter (· != 46)) := Lib.hid (by rw [htk, List.filter_append, ← HV.out, h46]; simp)
        clear hx hx101 htk hn h46 n46 HV
        go_wp2_with fail
        all_goals go_roundw
        case rel => exact ⟨k + 1, acc, by omega, by go_num, hAc, by omega, HV2⟩
        case measure => simp [intOf]; omega
      · have t2 : ((n : Int) == 46) = false := by rw [beq_eq_false_iff_ne]; intro h; apply h46; apply UInt8.toNat_inj.1; show x.toNat = 46; omega
        have u2 : ((n : Int) != 46) = true := by rw [bne_iff_ne]; intro h; apply h46; apply UInt8.toNat_inj.1; show x.toNat = 46; omega
        have HV2 : Hid (acc ++ [x] = (M.take (k + 1)).filter (· != 46)) := Lib.hid (by rw [htk, List.filter_append, ← HV.out]; simp [h46])
        have HNN := Lib.hid hn
        clear hx hx101 htk hn h46 HV
        go_wp2_with (at_builtin; refine appN rfl _ _ rfl [x] 1 _ rfl rfl rfl (by rw [HNN.out]; rfl) hAc (by simp; omega) ?_; intro v2 w2 hA2)
        all_goals go_roundw
        case rel => exact ⟨k + 1, _, by omega, by go_num, hA2, by simp; omega, HV2⟩
        case measure => simp [intOf]; omega
    · obtain rfl : k = M.length := by omega
      have hby : ∀ h, ((⟨F.toArray⟩ : ByteArray)[M.length]'h).toNat = 101 := fun h => by
        have : F[M.length]'hkF = 101 := by
          simp only [HCut.out]
          rw [List.getElem_append_right (Nat.le_refl _)]
          simp
        exact congrArg UInt8.toNat this
      have HE : Hid (acc = D) := Lib.hid (by rw [HV.out, List.take_length, HFil.out])
      have hext : (⟨F.toArray⟩ : ByteArray).extract (M.length + 1) F.length = ⟨E.toArray⟩ := by
        rw [ba_extract]
        have e1 : F.drop (M.length + 1) = E := by
          rw [HCut.out, List.drop_append, List.drop_eq_nil_of_le (by omega)]
          simp
        rw [e1, List.take_of_length_le (by have := HFl.out; omega)]
      have hM1 : ((M.length : Nat) : Int) + 1 ≤ (F.length : Int) := by omega
      clear HV hal hkF
      go_wp2_with fail
      refine (atoi_any E X _ HA.out (by omega)).mono ?_
      rintro e' w3 ⟨rfl, hb3⟩
      have hbA : Below w1.heap.size w1 wr := hAc.fresh
      have hbw : Below w.heap.size w w3 := hb1.trans ((hbA.trans (hb3.mono hbA.size)).mono hb1.size)
      have hO3 := hAc.own.below hb3
      rw [List.nil_append, HE.out] at hO3
      have hcv := convOwn hO3
      obtain ⟨n, hn⟩ : ∃ n, n = D.length := ⟨_, rfl⟩
      obtain ⟨A, c, hv⟩ := hO3.shape
      rw [← hn] at hv hpos hDl
      subst hv
      have HO3 := Lib.hid hO3
      have HNn := Lib.hid hn
      have HBw := Lib.hid hbw
      clear hAc hO3 hb3 hbA hbw hn HE
      go_wp2_with fail
      go_loopw [5] (fun v' wr' => v' = .slice A n c ∧ wr' = w3) (fun _ _ => 0)
      case atStart => exact ⟨rfl, rfl⟩
      case round =>
        obtain ⟨hv', hw'⟩ := hrel
        have hw2 := hw'.symm
        subst hw2
        subst hv'
        clear hw'
        by_cases hn1 : 1 < n
        · have hj : n - 1 < D.length := by have := HNn.out; omega
          obtain ⟨g, c', hv, hcell⟩ := own_cell HO3.out (n - 1) hj
          injection hv with hv1 hv2 hv3
          subst hv1
          obtain ⟨x, hx⟩ : ∃ x, x = D[n - 1] := ⟨_, rfl⟩
          rw [← hx] at hcell
          have hx48 : x ≠ 48 := by
            have h2 := HLast.out (by have := HNn.out; omega)
            intro e
            apply h2
            rw [← e, hx]
            congr 1
            have := HNn.out; omega
          obtain ⟨y, hy⟩ : ∃ y, y = x.toNat := ⟨_, rfl⟩
          rw [← hy] at hcell
          have t1 : ((y : Int) == 48) = false := by rw [beq_eq_false_iff_ne]; intro h; apply hx48; apply UInt8.toNat_inj.1; show x.toNat = 48; omega
          have e1 : ((n : Int) - 1).toNat = n - 1 := by omega
          have hcell2 := hcell
          have d1 : decide ((n : Int) > 1) = true := decide_eq_true (by omega)
          have d2 : decide ((1 : Int) < (n : Int)) = true := decide_eq_true (by omega)
          clear hx hx48 hy hcell hj hv2 hv3 e1
          go_wp2_with fail
          refine bodyPost_ret (results_tmp2 rfl _ _ _) rfl ?_
          exact ⟨rfl, HBw.out⟩
        · have d1 : decide ((n : Int) > 1) = false := decide_eq_false (by omega)
          have d2 : decide ((1 : Int) < (n : Int)) = false := decide_eq_false (by omega)
          go_wp2_with fail
          refine bodyPost_ret (results_tmp2 rfl _ _ _) rfl ?_
          exact ⟨rfl, HBw.out⟩
end Go.Proofs.YticaihfcnbehpaaGreatDoor
