/- format's (row).cells where no cell is an array or an object: sh. -/
import Derived.Test.YtpfamfkdfbcooaaGreatDoorCeq
set_option linter.unusedVariables false
set_option linter.unusedSimpArgs false
namespace Go.Proofs.YtpfamfkdfbcooaaGreatDoor
open Go Go.RowKit Go.Proofs
set_option maxHeartbeats 16000000 in
set_option maxRecDepth 100000 in
theorem cells_leaf3 (w : World) (TW : Tabs w) (name wrong null : List UInt8) (x : UInt8) (Q : List UInt8 → List UInt8) (A : Option Addr) (c : Nat) (list : List Tr) (hn : list.length ≤ 1048576)
    (hL : ∀ i (h : i < list.length), ∃ ad, A = some ad ∧ LeafAt w (ad.add (i * 5)) list[i]) (hnull : null.length ≤ 10) (hQl : ∀ s, (Q s).length ≤ 6 * s.length + 1001)
    (HQ : ∀ W, Below w.heap.size w W → ∀ s : List UInt8, s.length ≤ 1048576 → Calls Tryz.prog 62 #[.string ⟨s.toArray⟩] W fun e w' => e = .returned (.string ⟨(Q s).toArray⟩) ∧ Below W.heap.size W w') :
    Calls Tryz.prog 32 #[.agg (rowA name [x] null 62 wrong), .slice A list.length c] w fun e w' => e = .returned (outV (joinB x (list.map (cellT null Q)))) ∧ Below w.heap.size w w' := by
  obtain ⟨Y, hY⟩ : ∃ Y, Y = joinB x (list.map (cellT null Q)) := ⟨_, rfl⟩
  rw [← hY]
  obtain ⟨va, ea, hO, hv5, he6, hva, hea⟩ := outV_parts Y
  have hlen : Y.length ≤ 140737488355328 := by
    have h1 := joinB_len x 6292457 (list.map (cellT null Q)) (fun a ha => by
      obtain ⟨t, ht, rfl⟩ := List.mem_map.1 ha
      obtain ⟨i, hi, rfl⟩ := List.getElem_of_mem ht
      obtain ⟨_, _, hR⟩ := hL i hi
      exact cellT_len hnull hQl hR)
    rw [← hY, List.length_map] at h1
    have h2 : list.length * (6292457 + 1) ≤ 1048576 * (6292457 + 1) := Nat.mul_le_mul_right _ hn
    omega
  have hT := three_new w (rowA name [x] null 62 wrong) 54
  obtain ⟨W1, hW1⟩ : ∃ W1, W1 = ((w.alloc (.cells (rowA name [x] null 62 wrong) 54)).alloc (.cells vZ 27)).alloc (.cells eZ 32) := ⟨_, rfl⟩
  have hr : W1.heap[w.heap.size]? = some (.cells (rowA name [x] null 62 wrong) 54 (0, 0)) := by
    rw [hW1]; exact hlOld (hlOld (heap_alloc_new _ _))
  rw [← hW1] at hT
  have hb1 : Below w.heap.size w W1 := hT.below
  obtain ⟨n, hnn⟩ : ∃ n, n = list.length := ⟨_, rfl⟩
  rw [← hnn] at hn ⊢
  obtain ⟨f, hf⟩ : ∃ f : Nat → List UInt8, f = fun j => cellT null Q (list.getD j default) := ⟨_, rfl⟩
  have hfm : (List.range n).map f = list.map (cellT null Q) := by
    rw [hf, hnn]
    refine List.ext_getElem (by simp) fun i h1 h2 => ?_
    rw [List.getElem_map, List.getElem_map, List.getElem_range, List.getD_eq_getElem?_getD, List.getElem?_eq_getElem (by simpa using h2)]
    rfl
  obtain ⟨i0, hi, hz0, hz1, hz2⟩ := info_parts eltStrs.info
  have hmk : ∀ W, (Instr.makeSlice 25 (.int .i64 (n : Int)) (.int .i64 (n : Int))).run Tryz.prog W = .ok (.slice (some ⟨W.heap.size, 0, none⟩) n n) (W.alloc (.cells (madeCells #[.string ⟨#[]⟩] n) 9)) := fun W => by
    have h := run_make (P := Tryz.prog) W 25 9 i0 (.string ⟨#[]⟩) Tryz.underlying25 hi hz0 .i64 .i64 (n : Int) (n : Int) (by omega) (Int.le_refl _) (by rw [hz2]; omega) (by omega)
    rw [hz1, Int.toNat_natCast, Nat.mul_one] at h
    exact h
  obtain ⟨MC, hMC⟩ : ∃ MC, MC = madeCells #[Value.string ⟨#[]⟩] n := ⟨_, rfl⟩
  have hMs : MC.size = n := by rw [hMC, size_madeCells]
  rw [← hMC] at hmk
  clear hMC hi hz0 hz1 hz2
  obtain ⟨Bf, hBf⟩ : ∃ Bf, Bf = W1.heap.size := ⟨_, rfl⟩
  have hI0 : OutI W1 Bf n f (W1.alloc (.cells MC 9)) 0 := ⟨(Below.refl _ _).alloc (Nat.le_refl _) _, ⟨MC, by rw [hBf]; exact heap_alloc_new _ _, hMs, fun j hj => absurd hj (Nat.not_lt_zero _)⟩, by omega⟩
  obtain ⟨W2, hW2⟩ : ∃ W2, W2 = W1.alloc (.cells MC 9) := ⟨_, rfl⟩
  rw [← hW2] at hI0
  have HI0 := Lib.hid hI0
  have HW2 : Hid (W1.alloc (.cells MC 9) = W2) := Lib.hid hW2.symm
  have HBE : Hid (W1.heap.size = Bf) := Lib.hid hBf.symm
  have K : Hid (∀ W, Below W1.heap.size W1 W → W.cell? ⟨w.heap.size, 1, none⟩ = some (.string ⟨#[x]⟩) ∧ W.cell? ⟨w.heap.size, 2, none⟩ = some (.string ⟨null.toArray⟩) ∧ W.cell? ⟨w.heap.size, 3, none⟩ = some (.func (.func 62) #[] #[])) := Lib.hid (fun W hW => by
    have h2 := hlBelow hW hr
    exact ⟨Go.Proofs.YtpfamfkdfbcooaaGreatDoor.cell_of_heap (j := 1) h2 rfl, Go.Proofs.YtpfamfkdfbcooaaGreatDoor.cell_of_heap (j := 2) h2 rfl, Go.Proofs.YtpfamfkdfbcooaaGreatDoor.cell_of_heap (j := 3) h2 rfl⟩)
  have HLE : Hid (∀ i, i < n → ∃ ad, A = some ad ∧ ∃ (kk : Int) (nn : Nat) (ss : List UInt8) (A3 : Option Addr) (n3 e3 : Nat) (A4 : Option Addr) (n4 e4 : Nat), (∀ W, Below W1.heap.size W1 W → Cells5 W (ad.add (i * 5)) (.int .i64 kk) (.float .f64 nn) (.string ⟨ss.toArray⟩) (.slice A3 n3 e3) (.slice A4 n4 e4)) ∧ nn < 18446744073709551616 ∧ ss.length ≤ 1048576 ∧ 0 ≤ kk ∧ kk ≤ 4 ∧ f i = if kk = 0 then null else if kk = 4 then Q ss else plainT kk.toNat nn ss) := Lib.hid (fun i hi => by
    have hi' : i < list.length := by omega
    obtain ⟨ad, e, hR⟩ := hL i hi'
    have hfi : f i = cellT null Q list[i] := by rw [hf]; show cellT null Q (list.getD i default) = _; rw [List.getD_eq_getElem?_getD, List.getElem?_eq_getElem hi']; rfl
    rw [hfi]
    obtain ⟨t, ht⟩ : ∃ t, t = list[i] := ⟨_, rfl⟩
    rw [← ht] at hR ⊢
    cases t with
    | mk k num str keys li =>
    obtain ⟨h1, h2, hnum, hs, A3, n3, e3, A4, n4, e4, h5⟩ := hR
    exact ⟨ad, e, k, num, str, A3, n3, e3, A4, n4, e4, fun W hW => (h5.below hb1).below hW, hnum, hs, h1, h2, rfl⟩)
  have HQ1 : Hid (∀ W, Below W1.heap.size W1 W → ∀ s : List UInt8, s.length ≤ 1048576 → Calls Tryz.prog 62 #[.string ⟨s.toArray⟩] W fun e w' => e = .returned (.string ⟨(Q s).toArray⟩) ∧ Below W.heap.size W w') := Lib.hid (fun W hW => HQ W (hb1.trans (hW.mono hb1.size)))
  have HTx : Hid (∀ W, Below W1.heap.size W1 W → ∀ (k : Nat), k ≤ 4 → ∀ (num : Nat), num < 18446744073709551616 → ∀ (s : List UInt8), s.length ≤ 1048576 → ∀ (A3 : Option Addr) (n3 e3 : Nat) (A4 : Option Addr) (n4 e4 : Nat), Calls Tryz.prog 35 #[.agg #[.int .i64 k, .float .f64 num, .string ⟨s.toArray⟩, .slice A3 n3 e3, .slice A4 n4 e4]] W fun e w' => e = .returned (.string ⟨(plainT k num s).toArray⟩) ∧ Below W.heap.size W w') := Lib.hid (fun W hW k hk num hnum s hs A3 n3 e3 A4 n4 e4 => valueText_any W ((TW.next hb1).next hW) k hk num hnum s _ _ ⟨_, _, _, rfl⟩ ⟨_, _, _, rfl⟩ (by omega))
  have HJ : Hid (∀ W, OutI W1 Bf n f W n → Calls Tryz.prog 63 #[.slice (some ⟨Bf, 0, none⟩) n n, .string ⟨#[x]⟩] W fun e w' => e = .returned (.string ⟨Y.toArray⟩) ∧ Below W.heap.size W w') := Lib.hid (fun W hI => by
    obtain ⟨cs, h1, h2, h3⟩ := hI.row
    have hxl : ((List.range n).map fun j => (⟨(f j).toArray⟩ : ByteArray)).length = n := by simp
    have hmap : (((List.range n).map fun j => (⟨(f j).toArray⟩ : ByteArray)).map (·.data.toList)) = list.map (cellT null Q) := by
      rw [← hfm, List.map_map]
      refine List.map_congr_left fun j _ => ?_
      simp
    have hj : Lib.join (((List.range n).map fun j => (⟨(f j).toArray⟩ : ByteArray)).map (·.data.toList)) (⟨#[x]⟩ : ByteArray).data.toList = Y := by
      rw [hmap, show (⟨#[x]⟩ : ByteArray).data.toList = [x] from rfl, join_joinB, hY]
    have h := Tryz.strings_Join Bf 0 n ((List.range n).map fun j => (⟨(f j).toArray⟩ : ByteArray)) ⟨#[x]⟩ W (fun j b hb => by
      have hjn : j < n := by
        rcases Nat.lt_or_ge j n with h | h
        · exact h
        · rw [List.getElem?_eq_none (by rw [hxl]; exact h)] at hb; cases hb
      rw [Nat.zero_add]
      refine cell_of_heap h1 ?_
      rw [h3 j hjn]
      simp [hjn] at hb
      rw [← hb]) (lt_of_heap h1) (by rw [hxl]; omega) (by rw [hxl]; exact Nat.le_refl _) (by rw [hj]; exact hlen)
    rw [hj, hxl] at h
    exact h)
  have HSt : Hid (∀ W, Calls Tryz.prog 34 #[.string ⟨Y.toArray⟩] W fun e w' => e = .returned (.tuple #[.agg va, .agg ea]) ∧ Below W.heap.size W w') := Lib.hid (fun W => by
    have := str_any W Y
    rw [hO] at this
    exact this)
  have HT := Lib.hid hT
  have HW1 := Lib.hid hW1
  have HO := Lib.hid hO
  have HVA := Lib.hid (And.intro hva hea)
  have HV5 := Lib.hid (And.intro hv5 he6)
  clear hL HQ hQl hnull hr hb1 hT hW1 hO hva hea hv5 he6 hlen hfm hf hY hBf hW2 hMs hI0 TW hnn
  go_enter Tryz.func32, Tryz.ntmps32
  go_upto_region 1 with fail
  rw [← HW1.out]
  go_upto_region 2 with fail
  rw [HW2.out, HBE.out]
  go_wp2_with fail
  go_loopw [14] (fun i wr => ∃ (k : Nat), k ≤ n ∧ i = .int .i64 k ∧ Hid (OutI W1 Bf n f wr k)) (fun i _ => n - (intOf i).toNat)
  case atStart => exact ⟨0, Nat.zero_le _, rfl, HI0⟩
  case round =>
    clear HI0
    obtain ⟨k, hk, rfl, HI⟩ := hrel
    rcases Nat.lt_or_ge k n with hlt | hge
    · obtain ⟨ad, rfl, kk, nn, ss, A3, n3, e3, A4, n4, e4, h5, hnum, hss, hk0, hk4, hfk⟩ := HLE.out k hlt
      obtain ⟨g0, g1, g2, g3, g4⟩ := h5 wr HI.out.below
      have HFk := Lib.hid hfk
      have hbn : Below wr.heap.size wr (wr.alloc (.cells #[.int .i64 kk, .float .f64 nn, .string ⟨ss.toArray⟩, .slice A3 n3 e3, .slice A4 n4 e4] 27)) := (Below.refl _ _).alloc (Nat.le_refl _) _
      have hrow := heap_alloc_new wr (.cells #[.int .i64 kk, .float .f64 nn, .string ⟨ss.toArray⟩, .slice A3 n3 e3, .slice A4 n4 e4] 27)
      obtain ⟨W3, hW3⟩ : ∃ W3, W3 = wr.alloc (.cells #[.int .i64 kk, .float .f64 nn, .string ⟨ss.toArray⟩, .slice A3 n3 e3, .slice A4 n4 e4] 27) := ⟨_, rfl⟩
      rw [← hW3] at hbn hrow
      have HI3 := Lib.hid (HI.out.later hbn)
      obtain ⟨f1, f2, f3⟩ := K.out W3 HI3.out.below
      obtain ⟨⟨u, hcl⟩, hfz⟩ := HI3.out.cell hlt
      obtain ⟨q0, q1, q2, q3, q4⟩ : W3.cell? ⟨wr.heap.size, 0, none⟩ = some (.int .i64 kk) ∧ W3.cell? ⟨wr.heap.size, 1, none⟩ = some (.float .f64 nn) ∧ W3.cell? ⟨wr.heap.size, 2, none⟩ = some (.string ⟨ss.toArray⟩) ∧ W3.cell? ⟨wr.heap.size, 3, none⟩ = some (.slice A3 n3 e3) ∧ W3.cell? ⟨wr.heap.size, 4, none⟩ = some (.slice A4 n4 e4) := ⟨Go.Proofs.YtpfamfkdfbcooaaGreatDoor.cell_of_heap (j := 0) hrow rfl, Go.Proofs.YtpfamfkdfbcooaaGreatDoor.cell_of_heap (j := 1) hrow rfl, Go.Proofs.YtpfamfkdfbcooaaGreatDoor.cell_of_heap (j := 2) hrow rfl, Go.Proofs.YtpfamfkdfbcooaaGreatDoor.cell_of_heap (j := 3) hrow rfl, Go.Proofs.YtpfamfkdfbcooaaGreatDoor.cell_of_heap (j := 4) hrow rfl⟩
      have HW3 : Hid (wr.alloc (.cells #[.int .i64 kk, .float .f64 nn, .string ⟨ss.toArray⟩, .slice A3 n3 e3, .slice A4 n4 e4] 27) = W3) := Lib.hid hW3.symm
      clear h5 hfk hbn hrow hW3
      have k5 : (kk == 5) = false := by rw [beq_eq_false_iff_ne]; omega
      have k6 : (kk == 6) = false := by rw [beq_eq_false_iff_ne]; omega
      by_cases z0 : kk = 0
      · subst z0
        have HN := Lib.hid (HI3.out.put hlt (s := null) (by rw [HFk.out, if_pos rfl]))
        clear HFk k5 k6 hk0 hk4
        go_wp2_with (refine wpList_store_row rfl 27 (.tmp 8) (.tmp 18) rfl wr.heap.size #[.int .i64 0, .float .f64 nn, .string ⟨ss.toArray⟩, .slice A3 n3 e3, .slice A4 n4 e4] rfl rfl 27 vZ (heap_alloc_new _ _) (by kernel_rfl) rfl (by simp [Value.oneCell']) ?_; rw [setRow_new, HW3.out])
        all_goals go_roundw
        case rel => exact ⟨k + 1, by omega, by go_num, HN⟩
        case measure => simp [intOf]; omega
      · have t0 : (kk == 0) = false := by rw [beq_eq_false_iff_ne]; exact z0
        by_cases z4 : kk = 4
        · subst z4
          have hfk : Q ss = f k := by rw [HFk.out, if_neg (by decide), if_pos rfl]
          have HC := Lib.hid (HQ1.out W3 HI3.out.below ss hss)
          have HNx := Lib.hid (fun W (hb : Below W3.heap.size W3 W) => (HI3.out.later hb).put hlt hfk)
          have HCl := Lib.hid (fun W (hb : Below W3.heap.size W3 W) => (HI3.out.later hb).cell hlt)
          clear HFk k5 k6 hk0 hk4 t0 z0 hfk
          go_wp2_with (refine wpList_store_row rfl 27 (.tmp 8) (.tmp 18) rfl wr.heap.size #[.int .i64 4, .float .f64 nn, .string ⟨ss.toArray⟩, .slice A3 n3 e3, .slice A4 n4 e4] rfl rfl 27 vZ (heap_alloc_new _ _) (by kernel_rfl) rfl (by simp [Value.oneCell']) ?_; rw [setRow_new, HW3.out])
          refine HC.out.mono ?_
          rintro e' w4 ⟨rfl, hb4⟩
          have HNy := Lib.hid (HNx.out w4 hb4)
          obtain ⟨⟨u4, hcl4⟩, hfz4⟩ := HCl.out w4 hb4
          clear hcl hfz q0 q1 q2 q3 q4 f1 f2 f3
          go_wp2_with fail
          all_goals go_roundw
          case rel => exact ⟨k + 1, by omega, by go_num, HNy⟩
          case measure => simp [intOf]; omega
        · have t4 : (kk == 4) = false := by rw [beq_eq_false_iff_ne]; exact z4
          obtain ⟨kn, rfl⟩ : ∃ kn : Nat, kk = (kn : Int) := ⟨kk.toNat, by omega⟩
          have hfk : plainT kn nn ss = f k := by rw [HFk.out, if_neg z0, if_neg z4, Int.toNat_natCast]
          have HC := Lib.hid (HTx.out W3 HI3.out.below kn (by omega) nn hnum ss hss A3 n3 e3 A4 n4 e4)
          have HNx := Lib.hid (fun W (hb : Below W3.heap.size W3 W) => (HI3.out.later hb).put hlt hfk)
          have HCl := Lib.hid (fun W (hb : Below W3.heap.size W3 W) => (HI3.out.later hb).cell hlt)
          clear HFk hk0 hk4 z0 z4 hfk
          go_wp2_with (refine wpList_store_row rfl 27 (.tmp 8) (.tmp 18) rfl wr.heap.size #[.int .i64 kn, .float .f64 nn, .string ⟨ss.toArray⟩, .slice A3 n3 e3, .slice A4 n4 e4] rfl rfl 27 vZ (heap_alloc_new _ _) (by kernel_rfl) rfl (by simp [Value.oneCell']) ?_; rw [setRow_new, HW3.out])
          refine HC.out.mono ?_
          rintro e' w4 ⟨rfl, hb4⟩
          have HNy := Lib.hid (HNx.out w4 hb4)
          obtain ⟨⟨u4, hcl4⟩, hfz4⟩ := HCl.out w4 hb4
          clear hcl hfz q0 q1 q2 q3 q4 f1 f2 f3
          go_wp2_with fail
          all_goals go_roundw
          case rel => exact ⟨k + 1, by omega, by go_num, HNy⟩
          case measure => simp [intOf]; omega
    · obtain rfl : k = n := by omega
      obtain ⟨f1, f2, f3⟩ := K.out wr HI.out.below
      have HJ2 := Lib.hid (HJ.out wr HI.out)
      have HTr := Lib.hid (HT.out.below' HI.out.below)
      clear HLE HQ1 HTx HJ HT
      go_wp2_with fail
      refine HJ2.out.mono ?_
      rintro e' w4 ⟨rfl, hb4⟩
      have HT := Lib.hid (HTr.out.below' hb4)
      clear HTr HJ2 hb4 f1 f2 f3
      go_wp2_with fail
      refine (HSt.out _).mono ?_
      rintro e' w7 ⟨rfl, hb7⟩
      have HT := Lib.hid (HT.out.below' hb7)
      clear hb7 HSt
      have hi5 : (Tryz.prog.info? 27).map (·.size) = some va.size := (by rw [HV5.out.1]; kernel_rfl)
      have hi6 : (Tryz.prog.info? 32).map (·.size) = some ea.size := (by rw [HV5.out.2]; kernel_rfl)
      have hz5 : vZ.size = va.size := HV5.out.1.symm
      have hz6 : eZ.size = ea.size := HV5.out.2.symm
      have HI := Lib.hid (And.intro hi5 (And.intro hi6 (And.intro hz5 hz6)))
      clear hi5 hi6 hz5 hz6
      go_wp2_with (first
        | (refine wpList_store_row rfl 27 (.tmp 4) (.tmp 65) rfl (w.heap.size + 1) va rfl rfl 27 vZ HT.out.v HI.out.1 HI.out.2.2.1 HVA.out.1 ?_; have HT2 := Lib.hid (HT.out.setV va); obtain ⟨W8, hW8⟩ : ∃ W8, W8 = w7.setRow (w.heap.size + 1) va := ⟨_, rfl⟩; rw [← hW8] at HT2 ⊢; clear hW8)
        | (refine wpList_store_row rfl 32 (.tmp 5) (.tmp 66) rfl (w.heap.size + 1 + 1) ea rfl rfl 32 eZ HT2.out.e HI.out.2.1 HI.out.2.2.2 HVA.out.2 ?_; have HT3 := Lib.hid (HT2.out.setE ea); obtain ⟨W9, hW9⟩ : ∃ W9, W9 = W8.setRow (w.heap.size + 1 + 1) ea := ⟨_, rfl⟩; rw [← hW9] at HT3 ⊢; clear hW9))
      obtain ⟨l1, l2⟩ := HT3.out.ret HV5.out.1 HV5.out.2
      refine bodyPost_ret (results_cell_cell rfl _ _ (w.heap.size + 1) (w.heap.size + 1 + 1) _ _ rfl l1 rfl l2) rfl ?_
      exact ⟨by rw [HO.out], HT3.out.below⟩
end Go.Proofs.YtpfamfkdfbcooaaGreatDoor
