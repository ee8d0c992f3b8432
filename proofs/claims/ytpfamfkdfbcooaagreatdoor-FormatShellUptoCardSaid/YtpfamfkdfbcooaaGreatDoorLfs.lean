/- colanderlaw13.FormatShell, walked: for every row of texts it returns true. -/
import Derived.Test.YtpfamfkdfbcooaaGreatDoorLrq
set_option linter.unusedVariables false
set_option linter.unusedSimpArgs false
namespace Go.Proofs.YtpfamfkdfbcooaaGreatDoor
open Go Go.RowKit Go.Proofs
set_option maxHeartbeats 20000000 in
set_option maxRecDepth 100000 in
theorem fshell_walk (w : World) (TW : Tabs w) (A0 : Option Addr) (c0 : Nat) (l : List (List UInt8)) (hl : l.length ≤ 1048576) (hK : KeyAt w A0 l) (hsum : (l.map fun s => s.length + 1).sum ≤ 1048576) (hs : ∀ s ∈ l, s.length ≤ 1048576) :
    Calls Tryz.prog 5 #[.slice A0 l.length c0] w fun e w' => e = .returned (.bool true) ∧ Below w.heap.size w w' := by
  have hShF : ∀ W, (joinB 32 (l.map shQ)).length ≤ 1048576 → Calls Tryz.prog 24 #[.string ⟨(joinB 32 (l.map shQ)).toArray⟩] W fun e w' => ∃ A c, e = .returned (.tuple #[.slice A l.length c, .bool true]) ∧ Below W.heap.size W w' ∧ KeyAt w' A l := fun W h => shell_any W _ l (by omega) (by
    have := shell_back l
    unfold ShF
    rw [this]
    simp)
  have hTxt : ∀ (W : World) (A : Option Addr) (c : Nat), Below w.heap.size w W → KeyAt W A l → Calls Tryz.prog 17 #[.slice A l.length c, .slice A0 l.length c0] W fun e w' => e = .returned (.bool true) ∧ Below W.heap.size W w' := fun W A c hb h => texts_same W l A A0 c c0 hl h (fun i hi => by
    obtain ⟨ad, e, hc⟩ := hK i hi
    exact ⟨ad, e, (hb.cell (World.block_lt_of_cell? w _ hc)).trans hc⟩)
  obtain ⟨n, hnn⟩ : ∃ n, n = l.length := ⟨_, rfl⟩
  rw [← hnn] at hl hShF hTxt ⊢
  have HSh := Lib.hid hShF
  have HTx := Lib.hid hTxt
  clear hShF hTxt
  have HN := Lib.hid hnn
  have HK := Lib.hid hK
  have HV : Hid (∀ W (s : List UInt8), s.length ≤ 1048576 → Calls Tryz.prog 20 #[.string ⟨s.toArray⟩] W fun e w' => e = .returned (.bool (validB ⟨s.toArray⟩)) ∧ W = w') := Lib.hid (fun W s hs => valid_any ⟨s.toArray⟩ W (by show s.length < _; omega))
  have HH : Hid (∀ W, Below w.heap.size w W → Calls Tryz.prog 9 #[] W fun e w' => e = .returned (.bool true) ∧ Below W.heap.size W w') := Lib.hid (fun W hb => heads13_any W (TW.next hb))
  have HF : Hid (∀ (W : World) (A : Option Addr) (c : Nat), Below w.heap.size w W → OwnG 27 5 w.heap.size W (.slice A n c) n (vSs l) → RowF W A n c l) := Lib.hid (fun W A c hb h => row_formats (TW.next hb) h hnn hl hsum hs)
  have HLs : Hid (∀ i (h : i < l.length), l[i].length ≤ 1048576) := Lib.hid (fun i h => hs _ (List.getElem_mem h))
  clear hnn hK hs hsum TW
  have hlg : (largeT == [118, 97, 108, 117, 101, 32, 105, 115, 32, 116, 111, 111, 32, 108, 97, 114, 103, 101]) = true := by decide
  go_enter Tryz.func5, Tryz.ntmps5
  go_wp2_with fail
  go_loopw [3, 4] (fun vv i wr => ∃ (k : Nat), k ≤ n ∧ i = .int .i64 k ∧ Below w.heap.size w wr ∧ w.heap.size ≤ wr.heap.size ∧ OwnG 27 5 w.heap.size wr vv k (vSs (l.take k))) (fun _ i _ => n - (intOf i).toNat)
  case atStart => exact ⟨0, Nat.zero_le _, rfl, Below.refl _ _, Nat.le_refl _, OwnG.nil _ _ _ _⟩
  case round =>
    obtain ⟨k, hk, rfl, hb, hBs, HO⟩ := hrel
    rcases Nat.lt_or_ge k n with hlt | hge
    · have hkl : k < l.length := by have := HN.out; omega
      obtain ⟨ad, rfl, hx⟩ := HK.out k hkl
      have hsl := HLs.out k hkl
      have HTk : Hid (l.take (k + 1) = l.take k ++ [l[k]]) := Lib.hid (List.take_succ_eq_append_getElem hkl)
      obtain ⟨s, hs⟩ : ∃ s, s = l[k] := ⟨_, rfl⟩
      rw [← hs] at hx hsl HTk
      have hx2 := (hb.cell (World.block_lt_of_cell? w _ hx)).trans hx
      have HVk := Lib.hid (HV.out wr s hsl)
      have HSt := Lib.hid (rstr_any ⟨s.toArray⟩ wr)
      clear hs hx hsl
      cases hv : validB ⟨s.toArray⟩ with
      | false =>
        rw [hv] at HVk
        clear hv HSt HO
        go_wp2_with fail
        refine HVk.out.mono ?_
        rintro e' w1 ⟨rfl, rfl⟩
        go_wp2_with fail
        refine (HH.out _ hb).mono ?_
        rintro e' w2 ⟨rfl, hb2⟩
        go_wp2_with fail
        go_ret
        exact ⟨rfl, hb.trans (hb2.mono hb.size)⟩
      | true =>
        rw [hv] at HVk
        clear hv
        go_wp2_with fail
        refine HVk.out.mono ?_
        rintro e' w1 ⟨rfl, rfl⟩
        go_wp2_with fail
        refine HSt.out.mono ?_
        rintro e' w2 ⟨rfl, hb2⟩
        have hbw := hb.trans (hb2.mono hb.size)
        have hG0 := AppG.start (HO.below hb2) (Nat.le_trans hBs hb2.size)
        clear HO hb2 hx2 HVk HSt hb
        go_wp2_with (at_builtin; refine appGn eltVals rfl _ _ rfl (vS5 s) 1 1 _ _ rfl rfl rfl rfl (vS5_one s) hG0 (by unfold maxLen; omega) (by omega) ?_; intro v2 w3 hA2; have hbn := hbw.trans (hA2.keep.below hbw.size (fun q hq e => by have := (hG0.own.lt q e.symm).1; omega)); have hOw := hA2.own; clear hA2 hG0)
        all_goals go_roundw
        case rel => exact ⟨k + 1, by omega, by go_num, hbn, hbn.size, by rw [HTk.out, vSs_snoc]; simpa using hOw⟩
        case measure => simp [intOf]; omega
    · obtain rfl : k = n := by omega
      obtain ⟨AV, cv, rfl⟩ := HO.shape
      have HFo := Lib.hid (HF.out wr AV cv hb (by
        have h := HO
        rw [show l.take k = l from List.take_of_length_le (by have := HN.out; omega)] at h
        exact h))
      clear HO HF HV HLs
      obtain ⟨Y, hY⟩ : ∃ Y, Y = joinB 32 (l.map shQ) := ⟨_, rfl⟩
      have HFs := Lib.hid HFo.out.sh
      rw [← hY] at HFs HSh
      clear hY HFo
      rcases Nat.lt_or_ge 1048576 Y.length with hyl | hyl
      · have HO : outV Y = .tuple #[.agg vZ, .agg (eS largeT)] := by unfold outV; rw [if_neg (by omega)]
        rw [HO] at HFs
        clear HO HSh HTx hyl
        go_wp2_with fail
        refine (arr_any _ _ _ _).mono ?_
        rintro e' w2 ⟨rfl, hb2⟩
        go_wp2_with fail
        refine (HFs.out _ hb2).mono ?_
        rintro e' w3 ⟨rfl, hb3⟩
        have hb3 := hb2.trans (hb3.mono hb2.size)
        have hx3 := hb.trans (hb3.mono hb.size)
        have HT := Lib.hid (two_new w3)
        go_wp2_with (first
          | (refine wpList_store_row rfl 27 (.tmp 5) (.tmp 34) rfl w3.heap.size vZ rfl rfl 27 vZ HT.out.v (by kernel_rfl) rfl (by first | exact oneV _ _ | exact oneE _ _ _ | simp [Value.oneCell']) ?_; have HT2 := Lib.hid (HT.out.setV vZ); obtain ⟨XHT, hX⟩ : ∃ X, X = ((w3.alloc (.cells vZ 27)).alloc (.cells eZ 32)).setRow w3.heap.size vZ := ⟨_, rfl⟩; rw [← hX] at HT2 ⊢; clear hX)
          | (refine wpList_store_row rfl 32 (.tmp 6) (.tmp 35) rfl (w3.heap.size + 1) (eS largeT) rfl rfl 32 eZ HT2.out.e (by kernel_rfl) rfl (by first | exact oneV _ _ | exact oneE _ _ _ | simp [Value.oneCell']) ?_; have HT3 := Lib.hid (HT2.out.setE (eS largeT)); obtain ⟨Y9, hY⟩ : ∃ Y, Y = XHT.setRow (w3.heap.size + 1) (eS largeT) := ⟨_, rfl⟩; rw [← hY] at HT3 ⊢; clear hY HT2 HT; have hx9 := hx3.trans (HT3.out.below.mono hx3.size); have q0 := cell_of_heap (j := 0) HT3.out.e rfl; have q3 := cell_of_heap (j := 3) HT3.out.e rfl))
        refine (HH.out _ hx9).mono ?_
        rintro e' w10 ⟨rfl, hb10⟩
        go_wp2_with fail
        go_ret
        exact ⟨rfl, hx9.trans (hb10.mono hx9.size)⟩
      · have HO : outV Y = .tuple #[.agg (vS Y), .agg eZ] := by unfold outV; rw [if_pos hyl]
        rw [HO] at HFs
        have HSy := Lib.hid (fun W => HSh.out W hyl)
        clear HO HSh
        go_wp2_with fail
        refine (arr_any _ _ _ _).mono ?_
        rintro e' w2 ⟨rfl, hb2⟩
        go_wp2_with fail
        refine (HFs.out _ hb2).mono ?_
        rintro e' w3 ⟨rfl, hb3⟩
        have hb3 := hb2.trans (hb3.mono hb2.size)
        have hx3 := hb.trans (hb3.mono hb.size)
        have HT := Lib.hid (two_new w3)
        go_wp2_with (first
          | (refine wpList_store_row rfl 27 (.tmp 5) (.tmp 34) rfl w3.heap.size (vS Y) rfl rfl 27 vZ HT.out.v (by kernel_rfl) rfl (by first | exact oneV _ _ | exact oneE _ _ _ | simp [Value.oneCell']) ?_; have HT2 := Lib.hid (HT.out.setV (vS Y)); obtain ⟨XHT, hX⟩ : ∃ X, X = ((w3.alloc (.cells vZ 27)).alloc (.cells eZ 32)).setRow w3.heap.size (vS Y) := ⟨_, rfl⟩; rw [← hX] at HT2 ⊢; clear hX)
          | (refine wpList_store_row rfl 32 (.tmp 6) (.tmp 35) rfl (w3.heap.size + 1) eZ rfl rfl 32 eZ HT2.out.e (by kernel_rfl) rfl (by first | exact oneV _ _ | exact oneE _ _ _ | simp [Value.oneCell']) ?_; have HT3 := Lib.hid (HT2.out.setE eZ); obtain ⟨Y9, hY⟩ : ∃ Y, Y = XHT.setRow (w3.heap.size + 1) eZ := ⟨_, rfl⟩; rw [← hY] at HT3 ⊢; clear hY HT2 HT; have hx9 := hx3.trans (HT3.out.below.mono hx3.size); have q0 := cell_of_heap (j := 0) HT3.out.e rfl; have q2 := cell_of_heap (j := 2) HT3.out.v rfl))
        refine (HSy.out _).mono ?_
        rintro e' w4 ⟨A4, c4, rfl, hb4, hK4⟩
        have hx4 := hx9.trans (hb4.mono hx9.size)
        have HTy := Lib.hid (HTx.out w4 A4 c4 hx4 hK4)
        clear hK4 q0 q2
        go_wp2_with fail
        refine HTy.out.mono ?_
        rintro e' w5 ⟨rfl, hb5⟩
        have hx5 := hx4.trans (hb5.mono hx4.size)
        go_wp2_with fail
        refine (HH.out _ hx5).mono ?_
        rintro e' w10 ⟨rfl, hb10⟩
        go_wp2_with fail
        go_ret
        exact ⟨rfl, hx5.trans (hb10.mono hx5.size)⟩
end Go.Proofs.YtpfamfkdfbcooaaGreatDoor
