/- colanderlaw13.FormatRows, walked: for every row of texts it returns true. -/
import Derived.Test.YtpfamfkdfbcooaaGreatDoorLrq
set_option linter.unusedVariables false
set_option linter.unusedSimpArgs false
namespace Go.Proofs.YtpfamfkdfbcooaaGreatDoor
open Go Go.RowKit Go.Proofs
set_option maxHeartbeats 20000000 in
set_option maxRecDepth 100000 in
theorem frows_walk (w : World) (TW : Tabs w) (A0 : Option Addr) (c0 : Nat) (l : List (List UInt8)) (hl : l.length ≤ 1048576) (hK : KeyAt w A0 l) (hsum : (l.map fun s => s.length + 1).sum ≤ 1048576) (hs : ∀ s ∈ l, s.length ≤ 1048576) :
    Calls Tryz.prog 6 #[.slice A0 l.length c0] w fun e w' => e = .returned (.bool true) ∧ Below w.heap.size w w' := by
  have hCs : ∀ W, (joinB 44 (l.map csvQ)).length ≤ 1048576 → l ≠ [] → Calls Tryz.prog 25 #[.string ⟨(joinB 44 (l.map csvQ)).toArray⟩, .bool true] W fun e w' => ∃ A c, e = .returned (.slice A l.length c) ∧ Below W.heap.size W w' ∧ KeyAt w' A l := fun W h hne => cells_csv W _ l (by omega) (by
    cases l with
    | nil => exact absurd rfl hne
    | cons a l => exact csv_back a l)
  have hTs : ∀ W, (joinB 9 (l.map tsvQ)).length ≤ 1048576 → l ≠ [] → Calls Tryz.prog 25 #[.string ⟨(joinB 9 (l.map tsvQ)).toArray⟩, .bool false] W fun e w' => ∃ A c, e = .returned (.slice A l.length c) ∧ Below W.heap.size W w' ∧ KeyAt w' A l := fun W h hne => cells_tsv W _ l (by omega) (by
    cases l with
    | nil => exact absurd rfl hne
    | cons a l => exact tsv_back a l)
  have hTxt : ∀ (W : World) (A : Option Addr) (c : Nat), Below w.heap.size w W → KeyAt W A l → Calls Tryz.prog 17 #[.slice A l.length c, .slice A0 l.length c0] W fun e w' => e = .returned (.bool true) ∧ Below W.heap.size W w' := fun W A c hb h => texts_same W l A A0 c c0 hl h (fun i hi => by
    obtain ⟨ad, e, hc⟩ := hK i hi
    exact ⟨ad, e, (hb.cell (World.block_lt_of_cell? w _ hc)).trans hc⟩)
  have hNil : l = [] → joinB 44 (l.map csvQ) = [] ∧ joinB 9 (l.map tsvQ) = [] := fun h => by subst h; exact ⟨rfl, rfl⟩
  obtain ⟨n, hnn⟩ : ∃ n, n = l.length := ⟨_, rfl⟩
  rw [← hnn] at hl hCs hTs hTxt ⊢
  have HCs := Lib.hid hCs
  have HTs := Lib.hid hTs
  have HTx := Lib.hid hTxt
  have HNil := Lib.hid hNil
  clear hCs hTs hTxt hNil
  have HN := Lib.hid hnn
  have HK := Lib.hid hK
  have HV : Hid (∀ W (s : List UInt8), s.length ≤ 1048576 → Calls Tryz.prog 20 #[.string ⟨s.toArray⟩] W fun e w' => e = .returned (.bool (validB ⟨s.toArray⟩)) ∧ W = w') := Lib.hid (fun W s hs => valid_any ⟨s.toArray⟩ W (by show s.length < _; omega))
  have HH : Hid (∀ W, Below w.heap.size w W → Calls Tryz.prog 9 #[] W fun e w' => e = .returned (.bool true) ∧ Below W.heap.size W w') := Lib.hid (fun W hb => heads13_any W (TW.next hb))
  have HF : Hid (∀ (W : World) (A : Option Addr) (c : Nat), Below w.heap.size w W → OwnG 27 5 w.heap.size W (.slice A n c) n (vSs l) → RowF W A n c l) := Lib.hid (fun W A c hb h => row_formats (TW.next hb) h hnn hl hsum hs)
  have HLs : Hid (∀ i (h : i < l.length), l[i].length ≤ 1048576) := Lib.hid (fun i h => hs _ (List.getElem_mem h))
  clear hnn hK hs hsum TW
  have hlg : (largeT == [118, 97, 108, 117, 101, 32, 105, 115, 32, 116, 111, 111, 32, 108, 97, 114, 103, 101]) = true := by decide
  go_enter Tryz.func6, Tryz.ntmps6
  go_wp2_with fail
  go_loopw [3, 4] (fun vv i wr => ∃ (k : Nat), k ≤ n ∧ i = .int .i64 k ∧ Below w.heap.size w wr ∧ w.heap.size ≤ wr.heap.size ∧ OwnG 27 5 w.heap.size wr vv k (vSs (l.take k))) (fun _ i _ => n - (intOf i).toNat)
  case atStart => exact ⟨0, Nat.zero_le _, rfl, Below.refl _ _, Nat.le_refl _, OwnG.nil _ _ _ _⟩
  case round =>
    obtain ⟨k, hk, rfl, hb, hBs, HO⟩ := hrel
    rcases Nat.lt_or_ge k n with hlt | hge
    · have hkl : k < l.length := by have := HN.out; omega
      obtain ⟨ad, rfl, hx⟩ := HK.out k hkl
      have hsl := HLs.out k hkl
      have HTk : Hid (l.take (k + 1) = l.take k ++ [l[k]]) := Lib.hid (List.take_succ_eq_append_getElem hkl)
      obtain ⟨s, hs⟩ : ∃ s, s = l[k] := ⟨_, rfl⟩
      rw [← hs] at hx hsl HTk
      have hx2 := (hb.cell (World.block_lt_of_cell? w _ hx)).trans hx
      have HVk := Lib.hid (HV.out wr s hsl)
      have HSt := Lib.hid (rstr_any ⟨s.toArray⟩ wr)
      clear hs hx hsl
      cases hv : validB ⟨s.toArray⟩ with
      | false =>
        rw [hv] at HVk
        clear hv HSt HO
        go_wp2_with fail
        refine HVk.out.mono ?_
        rintro e' w1 ⟨rfl, rfl⟩
        go_wp2_with fail
        refine (HH.out _ hb).mono ?_
        rintro e' w2 ⟨rfl, hb2⟩
        go_wp2_with fail
        go_ret
        exact ⟨rfl, hb.trans (hb2.mono hb.size)⟩
      | true =>
        rw [hv] at HVk
        clear hv
        go_wp2_with fail
        refine HVk.out.mono ?_
        rintro e' w1 ⟨rfl, rfl⟩
        go_wp2_with fail
        refine HSt.out.mono ?_
        rintro e' w2 ⟨rfl, hb2⟩
        have hbw := hb.trans (hb2.mono hb.size)
        have hG0 := AppG.start (HO.below hb2) (Nat.le_trans hBs hb2.size)
        clear HO hb2 hx2 HVk HSt hb
        go_wp2_with (at_builtin; refine appGn eltVals rfl _ _ rfl (vS5 s) 1 1 _ _ rfl rfl rfl rfl (vS5_one s) hG0 (by unfold maxLen; omega) (by omega) ?_; intro v2 w3 hA2; have hbn := hbw.trans (hA2.keep.below hbw.size (fun q hq e => by have := (hG0.own.lt q e.symm).1; omega)); have hOw := hA2.own; clear hA2 hG0)
        all_goals go_roundw
        case rel => exact ⟨k + 1, by omega, by go_num, hbn, hbn.size, by rw [HTk.out, vSs_snoc]; simpa using hOw⟩
        case measure => simp [intOf]; omega
    · obtain rfl : k = n := by omega
      obtain ⟨AV, cv, rfl⟩ := HO.shape
      have HFo := Lib.hid (HF.out wr AV cv hb (by
        have h := HO
        rw [show l.take k = l from List.take_of_length_le (by have := HN.out; omega)] at h
        exact h))
      clear HO HF HV HLs
      obtain ⟨Y, hY⟩ : ∃ Y, Y = joinB 44 (l.map csvQ) := ⟨_, rfl⟩
      obtain ⟨Z, hZ⟩ : ∃ Z, Z = joinB 9 (l.map tsvQ) := ⟨_, rfl⟩
      have HFc := Lib.hid HFo.out.csv
      have HFt := Lib.hid HFo.out.tsv
      rw [← hY] at HFc HCs HNil
      rw [← hZ] at HFt HTs HNil
      clear hY hZ HFo
      rcases Nat.lt_or_ge 1048576 Y.length with hyl | hyl
      all_goals rcases Nat.lt_or_ge 1048576 Z.length with hzl | hzl
      · have HO : outV Y = .tuple #[.agg vZ, .agg (eS largeT)] := by unfold outV; rw [if_neg (by omega)]
        have HO2 : outV Z = .tuple #[.agg vZ, .agg (eS largeT)] := by unfold outV; rw [if_neg (by omega)]
        rw [HO] at HFc
        rw [HO2] at HFt
        clear HO HO2 HCs HTs hyl hzl
        go_wp2_with fail
        refine (arr_any _ _ _ _).mono ?_
        rintro e' w2 ⟨rfl, hb2⟩
        go_wp2_with fail
        refine (HFc.out _ hb2).mono ?_
        rintro e' w3 ⟨rfl, hb3⟩
        have hb3 := hb2.trans (hb3.mono hb2.size)
        have HT := Lib.hid (two_new w3)
        go_wp2_with (first
          | (refine wpList_store_row rfl 27 (.tmp 5) (.tmp 34) rfl w3.heap.size vZ rfl rfl 27 vZ HT.out.v (by kernel_rfl) rfl (by first | exact oneV _ _ | exact oneE _ _ _ | simp [Value.oneCell']) ?_; have HT2 := Lib.hid (HT.out.setV vZ); obtain ⟨XHT, hX⟩ : ∃ Xq, Xq = ((w3.alloc (.cells vZ 27)).alloc (.cells eZ 32)).setRow w3.heap.size vZ := ⟨_, rfl⟩; rw [← hX] at HT2 ⊢; clear hX)
          | (refine wpList_store_row rfl 32 (.tmp 6) (.tmp 35) rfl (w3.heap.size + 1) (eS largeT) rfl rfl 32 eZ HT2.out.e (by kernel_rfl) rfl (by first | exact oneV _ _ | exact oneE _ _ _ | simp [Value.oneCell']) ?_; have HT3 := Lib.hid (HT2.out.setE (eS largeT)); obtain ⟨Y9, hY⟩ : ∃ Yq, Yq = XHT.setRow (w3.heap.size + 1) (eS largeT) := ⟨_, rfl⟩; rw [← hY] at HT3 ⊢; clear hY HT2 HT; have hb9 := hb3.trans (HT3.out.below.mono hb3.size)))
        refine (arr_any _ _ _ _).mono ?_
        rintro e' w4 ⟨rfl, hb4⟩
        have hp4 := hb4
        have hb4 := hb9.trans (hb4.mono hb9.size)
        go_wp2_with fail
        refine (HFt.out _ hb4).mono ?_
        rintro e' w5 ⟨rfl, hb5⟩
        have hp5 := hp4.trans (hb5.mono hp4.size)
        have hb5 := hb4.trans (hb5.mono hb4.size)
        have HU := Lib.hid (two_new w5)
        have HV1 := Lib.hid (hlBelow hp5 HT3.out.v)
        have HE1 := Lib.hid (hlBelow hp5 HT3.out.e)
        clear HT3 hp4 hp5
        obtain ⟨B1, hB1⟩ : ∃ B1, B1 = w3.heap.size := ⟨_, rfl⟩
        rw [← hB1] at HV1 HE1 ⊢
        clear hB1 hb3 hb2
        go_wp2_with (first
          | (refine wpList_store_row rfl 27 (.tmp 7) (.tmp 40) rfl w5.heap.size vZ rfl rfl 27 vZ HU.out.v (by kernel_rfl) rfl (by first | exact oneV _ _ | exact oneE _ _ _ | simp [Value.oneCell']) ?_; have HU2 := Lib.hid (HU.out.setV vZ); obtain ⟨XHU, hX⟩ : ∃ Xq, Xq = ((w5.alloc (.cells vZ 27)).alloc (.cells eZ 32)).setRow w5.heap.size vZ := ⟨_, rfl⟩; rw [← hX] at HU2 ⊢; clear hX)
          | (refine wpList_store_row rfl 32 (.tmp 8) (.tmp 41) rfl (w5.heap.size + 1) (eS largeT) rfl rfl 32 eZ HU2.out.e (by kernel_rfl) rfl (by first | exact oneV _ _ | exact oneE _ _ _ | simp [Value.oneCell']) ?_; have HU3 := Lib.hid (HU2.out.setE (eS largeT)); obtain ⟨Y8, hY⟩ : ∃ Yq, Yq = XHU.setRow (w5.heap.size + 1) (eS largeT) := ⟨_, rfl⟩; rw [← hY] at HU3 ⊢; clear hY HU2 HU; have hb8 := hb5.trans (HU3.out.below.mono hb5.size); have hx8 := hb.trans (hb8.mono hb.size); have q0 := cell_of_heap (j := 0) (hlBelow HU3.out.below HE1.out) rfl; have q3 := cell_of_heap (j := 3) (hlBelow HU3.out.below HE1.out) rfl; have r0 := cell_of_heap (j := 0) HU3.out.e rfl; have r3 := cell_of_heap (j := 3) HU3.out.e rfl; have q2 := cell_of_heap (j := 2) (hlBelow HU3.out.below HV1.out) rfl; have r2 := cell_of_heap (j := 2) HU3.out.v rfl; clear hb4 hb5 hb9))
        refine (HH.out _ hx8).mono ?_
        rintro e' w10 ⟨rfl, hb10⟩
        go_wp2_with fail
        go_ret
        exact ⟨rfl, hx8.trans (hb10.mono hx8.size)⟩
      · have HO : outV Y = .tuple #[.agg vZ, .agg (eS largeT)] := by unfold outV; rw [if_neg (by omega)]
        have HO2 : outV Z = .tuple #[.agg (vS Z), .agg eZ] := by unfold outV; rw [if_pos hzl]
        rw [HO] at HFc
        rw [HO2] at HFt
        clear HO HO2 HCs HTs hyl hzl
        go_wp2_with fail
        refine (arr_any _ _ _ _).mono ?_
        rintro e' w2 ⟨rfl, hb2⟩
        go_wp2_with fail
        refine (HFc.out _ hb2).mono ?_
        rintro e' w3 ⟨rfl, hb3⟩
        have hb3 := hb2.trans (hb3.mono hb2.size)
        have HT := Lib.hid (two_new w3)
        go_wp2_with (first
          | (refine wpList_store_row rfl 27 (.tmp 5) (.tmp 34) rfl w3.heap.size vZ rfl rfl 27 vZ HT.out.v (by kernel_rfl) rfl (by first | exact oneV _ _ | exact oneE _ _ _ | simp [Value.oneCell']) ?_; have HT2 := Lib.hid (HT.out.setV vZ); obtain ⟨XHT, hX⟩ : ∃ Xq, Xq = ((w3.alloc (.cells vZ 27)).alloc (.cells eZ 32)).setRow w3.heap.size vZ := ⟨_, rfl⟩; rw [← hX] at HT2 ⊢; clear hX)
          | (refine wpList_store_row rfl 32 (.tmp 6) (.tmp 35) rfl (w3.heap.size + 1) (eS largeT) rfl rfl 32 eZ HT2.out.e (by kernel_rfl) rfl (by first | exact oneV _ _ | exact oneE _ _ _ | simp [Value.oneCell']) ?_; have HT3 := Lib.hid (HT2.out.setE (eS largeT)); obtain ⟨Y9, hY⟩ : ∃ Yq, Yq = XHT.setRow (w3.heap.size + 1) (eS largeT) := ⟨_, rfl⟩; rw [← hY] at HT3 ⊢; clear hY HT2 HT; have hb9 := hb3.trans (HT3.out.below.mono hb3.size)))
        refine (arr_any _ _ _ _).mono ?_
        rintro e' w4 ⟨rfl, hb4⟩
        have hp4 := hb4
        have hb4 := hb9.trans (hb4.mono hb9.size)
        go_wp2_with fail
        refine (HFt.out _ hb4).mono ?_
        rintro e' w5 ⟨rfl, hb5⟩
        have hp5 := hp4.trans (hb5.mono hp4.size)
        have hb5 := hb4.trans (hb5.mono hb4.size)
        have HU := Lib.hid (two_new w5)
        have HV1 := Lib.hid (hlBelow hp5 HT3.out.v)
        have HE1 := Lib.hid (hlBelow hp5 HT3.out.e)
        clear HT3 hp4 hp5
        obtain ⟨B1, hB1⟩ : ∃ B1, B1 = w3.heap.size := ⟨_, rfl⟩
        rw [← hB1] at HV1 HE1 ⊢
        clear hB1 hb3 hb2
        go_wp2_with (first
          | (refine wpList_store_row rfl 27 (.tmp 7) (.tmp 40) rfl w5.heap.size (vS Z) rfl rfl 27 vZ HU.out.v (by kernel_rfl) rfl (by first | exact oneV _ _ | exact oneE _ _ _ | simp [Value.oneCell']) ?_; have HU2 := Lib.hid (HU.out.setV (vS Z)); obtain ⟨XHU, hX⟩ : ∃ Xq, Xq = ((w5.alloc (.cells vZ 27)).alloc (.cells eZ 32)).setRow w5.heap.size (vS Z) := ⟨_, rfl⟩; rw [← hX] at HU2 ⊢; clear hX)
          | (refine wpList_store_row rfl 32 (.tmp 8) (.tmp 41) rfl (w5.heap.size + 1) eZ rfl rfl 32 eZ HU2.out.e (by kernel_rfl) rfl (by first | exact oneV _ _ | exact oneE _ _ _ | simp [Value.oneCell']) ?_; have HU3 := Lib.hid (HU2.out.setE eZ); obtain ⟨Y8, hY⟩ : ∃ Yq, Yq = XHU.setRow (w5.heap.size + 1) eZ := ⟨_, rfl⟩; rw [← hY] at HU3 ⊢; clear hY HU2 HU; have hb8 := hb5.trans (HU3.out.below.mono hb5.size); have hx8 := hb.trans (hb8.mono hb.size); have q0 := cell_of_heap (j := 0) (hlBelow HU3.out.below HE1.out) rfl; have q3 := cell_of_heap (j := 3) (hlBelow HU3.out.below HE1.out) rfl; have r0 := cell_of_heap (j := 0) HU3.out.e rfl; have r3 := cell_of_heap (j := 3) HU3.out.e rfl; have q2 := cell_of_heap (j := 2) (hlBelow HU3.out.below HV1.out) rfl; have r2 := cell_of_heap (j := 2) HU3.out.v rfl; clear hb4 hb5 hb9))
        refine (HH.out _ hx8).mono ?_
        rintro e' w10 ⟨rfl, hb10⟩
        go_wp2_with fail
        go_ret
        exact ⟨rfl, hx8.trans (hb10.mono hx8.size)⟩
      · have HO : outV Y = .tuple #[.agg (vS Y), .agg eZ] := by unfold outV; rw [if_pos hyl]
        have HO2 : outV Z = .tuple #[.agg vZ, .agg (eS largeT)] := by unfold outV; rw [if_neg (by omega)]
        rw [HO] at HFc
        rw [HO2] at HFt
        clear HO HO2 HCs HTs hyl hzl
        go_wp2_with fail
        refine (arr_any _ _ _ _).mono ?_
        rintro e' w2 ⟨rfl, hb2⟩
        go_wp2_with fail
        refine (HFc.out _ hb2).mono ?_
        rintro e' w3 ⟨rfl, hb3⟩
        have hb3 := hb2.trans (hb3.mono hb2.size)
        have HT := Lib.hid (two_new w3)
        go_wp2_with (first
          | (refine wpList_store_row rfl 27 (.tmp 5) (.tmp 34) rfl w3.heap.size (vS Y) rfl rfl 27 vZ HT.out.v (by kernel_rfl) rfl (by first | exact oneV _ _ | exact oneE _ _ _ | simp [Value.oneCell']) ?_; have HT2 := Lib.hid (HT.out.setV (vS Y)); obtain ⟨XHT, hX⟩ : ∃ Xq, Xq = ((w3.alloc (.cells vZ 27)).alloc (.cells eZ 32)).setRow w3.heap.size (vS Y) := ⟨_, rfl⟩; rw [← hX] at HT2 ⊢; clear hX)
          | (refine wpList_store_row rfl 32 (.tmp 6) (.tmp 35) rfl (w3.heap.size + 1) eZ rfl rfl 32 eZ HT2.out.e (by kernel_rfl) rfl (by first | exact oneV _ _ | exact oneE _ _ _ | simp [Value.oneCell']) ?_; have HT3 := Lib.hid (HT2.out.setE eZ); obtain ⟨Y9, hY⟩ : ∃ Yq, Yq = XHT.setRow (w3.heap.size + 1) eZ := ⟨_, rfl⟩; rw [← hY] at HT3 ⊢; clear hY HT2 HT; have hb9 := hb3.trans (HT3.out.below.mono hb3.size)))
        refine (arr_any _ _ _ _).mono ?_
        rintro e' w4 ⟨rfl, hb4⟩
        have hp4 := hb4
        have hb4 := hb9.trans (hb4.mono hb9.size)
        go_wp2_with fail
        refine (HFt.out _ hb4).mono ?_
        rintro e' w5 ⟨rfl, hb5⟩
        have hp5 := hp4.trans (hb5.mono hp4.size)
        have hb5 := hb4.trans (hb5.mono hb4.size)
        have HU := Lib.hid (two_new w5)
        have HV1 := Lib.hid (hlBelow hp5 HT3.out.v)
        have HE1 := Lib.hid (hlBelow hp5 HT3.out.e)
        clear HT3 hp4 hp5
        obtain ⟨B1, hB1⟩ : ∃ B1, B1 = w3.heap.size := ⟨_, rfl⟩
        rw [← hB1] at HV1 HE1 ⊢
        clear hB1 hb3 hb2
        go_wp2_with (first
          | (refine wpList_store_row rfl 27 (.tmp 7) (.tmp 40) rfl w5.heap.size vZ rfl rfl 27 vZ HU.out.v (by kernel_rfl) rfl (by first | exact oneV _ _ | exact oneE _ _ _ | simp [Value.oneCell']) ?_; have HU2 := Lib.hid (HU.out.setV vZ); obtain ⟨XHU, hX⟩ : ∃ Xq, Xq = ((w5.alloc (.cells vZ 27)).alloc (.cells eZ 32)).setRow w5.heap.size vZ := ⟨_, rfl⟩; rw [← hX] at HU2 ⊢; clear hX)
          | (refine wpList_store_row rfl 32 (.tmp 8) (.tmp 41) rfl (w5.heap.size + 1) (eS largeT) rfl rfl 32 eZ HU2.out.e (by kernel_rfl) rfl (by first | exact oneV _ _ | exact oneE _ _ _ | simp [Value.oneCell']) ?_; have HU3 := Lib.hid (HU2.out.setE (eS largeT)); obtain ⟨Y8, hY⟩ : ∃ Yq, Yq = XHU.setRow (w5.heap.size + 1) (eS largeT) := ⟨_, rfl⟩; rw [← hY] at HU3 ⊢; clear hY HU2 HU; have hb8 := hb5.trans (HU3.out.below.mono hb5.size); have hx8 := hb.trans (hb8.mono hb.size); have q0 := cell_of_heap (j := 0) (hlBelow HU3.out.below HE1.out) rfl; have q3 := cell_of_heap (j := 3) (hlBelow HU3.out.below HE1.out) rfl; have r0 := cell_of_heap (j := 0) HU3.out.e rfl; have r3 := cell_of_heap (j := 3) HU3.out.e rfl; have q2 := cell_of_heap (j := 2) (hlBelow HU3.out.below HV1.out) rfl; have r2 := cell_of_heap (j := 2) HU3.out.v rfl; clear hb4 hb5 hb9))
        refine (HH.out _ hx8).mono ?_
        rintro e' w10 ⟨rfl, hb10⟩
        go_wp2_with fail
        go_ret
        exact ⟨rfl, hx8.trans (hb10.mono hx8.size)⟩
      · have HO : outV Y = .tuple #[.agg (vS Y), .agg eZ] := by unfold outV; rw [if_pos hyl]
        have HO2 : outV Z = .tuple #[.agg (vS Z), .agg eZ] := by unfold outV; rw [if_pos hzl]
        rw [HO] at HFc
        rw [HO2] at HFt
        have HCy := Lib.hid (fun W => HCs.out W hyl)
        have HTy := Lib.hid (fun W => HTs.out W hzl)
        clear HO HO2 HCs HTs hyl hzl
        go_wp2_with fail
        refine (arr_any _ _ _ _).mono ?_
        rintro e' w2 ⟨rfl, hb2⟩
        go_wp2_with fail
        refine (HFc.out _ hb2).mono ?_
        rintro e' w3 ⟨rfl, hb3⟩
        have hb3 := hb2.trans (hb3.mono hb2.size)
        have HT := Lib.hid (two_new w3)
        go_wp2_with (first
          | (refine wpList_store_row rfl 27 (.tmp 5) (.tmp 34) rfl w3.heap.size (vS Y) rfl rfl 27 vZ HT.out.v (by kernel_rfl) rfl (by first | exact oneV _ _ | exact oneE _ _ _ | simp [Value.oneCell']) ?_; have HT2 := Lib.hid (HT.out.setV (vS Y)); obtain ⟨XHT, hX⟩ : ∃ Xq, Xq = ((w3.alloc (.cells vZ 27)).alloc (.cells eZ 32)).setRow w3.heap.size (vS Y) := ⟨_, rfl⟩; rw [← hX] at HT2 ⊢; clear hX)
          | (refine wpList_store_row rfl 32 (.tmp 6) (.tmp 35) rfl (w3.heap.size + 1) eZ rfl rfl 32 eZ HT2.out.e (by kernel_rfl) rfl (by first | exact oneV _ _ | exact oneE _ _ _ | simp [Value.oneCell']) ?_; have HT3 := Lib.hid (HT2.out.setE eZ); obtain ⟨Y9, hY⟩ : ∃ Yq, Yq = XHT.setRow (w3.heap.size + 1) eZ := ⟨_, rfl⟩; rw [← hY] at HT3 ⊢; clear hY HT2 HT; have hb9 := hb3.trans (HT3.out.below.mono hb3.size)))
        refine (arr_any _ _ _ _).mono ?_
        rintro e' w4 ⟨rfl, hb4⟩
        have hp4 := hb4
        have hb4 := hb9.trans (hb4.mono hb9.size)
        go_wp2_with fail
        refine (HFt.out _ hb4).mono ?_
        rintro e' w5 ⟨rfl, hb5⟩
        have hp5 := hp4.trans (hb5.mono hp4.size)
        have hb5 := hb4.trans (hb5.mono hb4.size)
        rcases Nat.eq_zero_or_pos k with hn | hn
        · have hl0 : l = [] := List.eq_nil_of_length_eq_zero (by have := HN.out; omega)
          obtain ⟨hY0, hZ0⟩ := HNil.out hl0
          subst hY0 hZ0
          have hn0 : ((k : Int) == 0) = true := by rw [beq_iff_eq]; omega
          have HU := Lib.hid (two_new w5)
          have HV1 := Lib.hid (hlBelow hp5 HT3.out.v)
          have HE1 := Lib.hid (hlBelow hp5 HT3.out.e)
          clear HT3 hp4 hp5
          obtain ⟨B1, hB1⟩ : ∃ B1, B1 = w3.heap.size := ⟨_, rfl⟩
          rw [← hB1] at HV1 HE1 ⊢
          clear hB1 hb3 hb2
          go_wp2_with (first
            | (refine wpList_store_row rfl 27 (.tmp 7) (.tmp 40) rfl w5.heap.size (vS []) rfl rfl 27 vZ HU.out.v (by kernel_rfl) rfl (by first | exact oneV _ _ | exact oneE _ _ _ | simp [Value.oneCell']) ?_; have HU2 := Lib.hid (HU.out.setV (vS [])); obtain ⟨XHU, hX⟩ : ∃ Xq, Xq = ((w5.alloc (.cells vZ 27)).alloc (.cells eZ 32)).setRow w5.heap.size (vS []) := ⟨_, rfl⟩; rw [← hX] at HU2 ⊢; clear hX)
            | (refine wpList_store_row rfl 32 (.tmp 8) (.tmp 41) rfl (w5.heap.size + 1) eZ rfl rfl 32 eZ HU2.out.e (by kernel_rfl) rfl (by first | exact oneV _ _ | exact oneE _ _ _ | simp [Value.oneCell']) ?_; have HU3 := Lib.hid (HU2.out.setE eZ); obtain ⟨Y8, hY⟩ : ∃ Yq, Yq = XHU.setRow (w5.heap.size + 1) eZ := ⟨_, rfl⟩; rw [← hY] at HU3 ⊢; clear hY HU2 HU; have hb8 := hb5.trans (HU3.out.below.mono hb5.size); have hx8 := hb.trans (hb8.mono hb.size); have q0 := cell_of_heap (j := 0) (hlBelow HU3.out.below HE1.out) rfl; have q3 := cell_of_heap (j := 3) (hlBelow HU3.out.below HE1.out) rfl; have r0 := cell_of_heap (j := 0) HU3.out.e rfl; have r3 := cell_of_heap (j := 3) HU3.out.e rfl; have q2 := cell_of_heap (j := 2) (hlBelow HU3.out.below HV1.out) rfl; have r2 := cell_of_heap (j := 2) HU3.out.v rfl; clear hb4 hb5 hb9))
          refine (HH.out _ hx8).mono ?_
          rintro e' w10 ⟨rfl, hb10⟩
          go_wp2_with fail
          go_ret
          exact ⟨rfl, hx8.trans (hb10.mono hx8.size)⟩
        · have hne : l ≠ [] := fun e => by have := HN.out; rw [e] at this; simp at this; omega
          have hn0 : ((k : Int) == 0) = false := by rw [beq_eq_false_iff_ne]; omega
          have HCz := Lib.hid (fun W => HCy.out W hne)
          have HTz := Lib.hid (fun W => HTy.out W hne)
          clear hne
          have HU := Lib.hid (two_new w5)
          have HV1 := Lib.hid (hlBelow hp5 HT3.out.v)
          have HE1 := Lib.hid (hlBelow hp5 HT3.out.e)
          clear HT3 hp4 hp5
          obtain ⟨B1, hB1⟩ : ∃ B1, B1 = w3.heap.size := ⟨_, rfl⟩
          rw [← hB1] at HV1 HE1 ⊢
          clear hB1 hb3 hb2
          go_wp2_with (first
            | (refine wpList_store_row rfl 27 (.tmp 7) (.tmp 40) rfl w5.heap.size (vS Z) rfl rfl 27 vZ HU.out.v (by kernel_rfl) rfl (by first | exact oneV _ _ | exact oneE _ _ _ | simp [Value.oneCell']) ?_; have HU2 := Lib.hid (HU.out.setV (vS Z)); obtain ⟨XHU, hX⟩ : ∃ Xq, Xq = ((w5.alloc (.cells vZ 27)).alloc (.cells eZ 32)).setRow w5.heap.size (vS Z) := ⟨_, rfl⟩; rw [← hX] at HU2 ⊢; clear hX)
            | (refine wpList_store_row rfl 32 (.tmp 8) (.tmp 41) rfl (w5.heap.size + 1) eZ rfl rfl 32 eZ HU2.out.e (by kernel_rfl) rfl (by first | exact oneV _ _ | exact oneE _ _ _ | simp [Value.oneCell']) ?_; have HU3 := Lib.hid (HU2.out.setE eZ); obtain ⟨Y8, hY⟩ : ∃ Yq, Yq = XHU.setRow (w5.heap.size + 1) eZ := ⟨_, rfl⟩; rw [← hY] at HU3 ⊢; clear hY HU2 HU; have hb8 := hb5.trans (HU3.out.below.mono hb5.size); have hx8 := hb.trans (hb8.mono hb.size); have q0 := cell_of_heap (j := 0) (hlBelow HU3.out.below HE1.out) rfl; have q3 := cell_of_heap (j := 3) (hlBelow HU3.out.below HE1.out) rfl; have r0 := cell_of_heap (j := 0) HU3.out.e rfl; have r3 := cell_of_heap (j := 3) HU3.out.e rfl; have q2 := cell_of_heap (j := 2) (hlBelow HU3.out.below HV1.out) rfl; have r2 := cell_of_heap (j := 2) HU3.out.v rfl; clear hb4 hb5 hb9))
          refine (HCz.out _).mono ?_
          rintro e' v1 ⟨A1, c1, rfl, hv1, hK1⟩
          have hx1 := hx8.trans (hv1.mono hx8.size)
          have HTa := Lib.hid (HTx.out v1 A1 c1 hx1 hK1)
          have r2 := cell_of_heap (j := 2) (hlBelow hv1 HU3.out.v) rfl
          clear hK1 q0 q3 r0 r3 q2
          go_wp2_with fail
          refine HTa.out.mono ?_
          rintro e' v2 ⟨rfl, hv2⟩
          have hx2 := hx1.trans (hv2.mono hx1.size)
          have r2 := cell_of_heap (j := 2) (hlBelow (hv1.trans (hv2.mono hv1.size)) HU3.out.v) rfl
          go_wp2_with fail
          refine (HTz.out _).mono ?_
          rintro e' v3 ⟨A3, c3, rfl, hv3, hK3⟩
          have hx3 := hx2.trans (hv3.mono hx2.size)
          have HTb := Lib.hid (HTx.out v3 A3 c3 hx3 hK3)
          clear hK3 r2
          go_wp2_with fail
          refine HTb.out.mono ?_
          rintro e' v4 ⟨rfl, hv4⟩
          have hx4 := hx3.trans (hv4.mono hx3.size)
          go_wp2_with fail
          refine (HH.out _ hx4).mono ?_
          rintro e' w10 ⟨rfl, hb10⟩
          go_wp2_with fail
          go_ret
          exact ⟨rfl, hx4.trans (hb10.mono hx4.size)⟩
end Go.Proofs.YtpfamfkdfbcooaaGreatDoor
