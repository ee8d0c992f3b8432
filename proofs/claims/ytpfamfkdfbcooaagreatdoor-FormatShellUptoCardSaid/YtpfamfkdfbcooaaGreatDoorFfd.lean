/- format.Format of a string: base64d. -/
import Derived.Test.YtpfamfkdfbcooaaGreatDoorFfm
import Derived.Test.YtpfamfkdfbcooaaGreatDoorRac
set_option linter.unusedVariables false
set_option linter.unusedSimpArgs false
namespace Go.Proofs.YtpfamfkdfbcooaaGreatDoor
open Go Go.RowKit Go.Proofs
set_option maxHeartbeats 4000000 in
set_option maxRecDepth 100000 in
theorem format_b64d (w : World) (TW : Tabs w) (s out0 : List UInt8) (hs : s.length ≤ 1048576) (hu : unT 0 0 (cutQ (cutQ s)) = some out0) (h4 : (cutQ (cutQ s)).length % 4 ≠ 1) (hv : validB ⟨out0.toArray⟩ = true) (ho0 : out0.length ≤ 1048576) :
    Calls Tryz.prog 11 #[.string ⟨#[98, 97, 115, 101, 54, 52, 100]⟩, .agg (vS s)] w fun e w' => e = .returned (outV out0) ∧ Below w.heap.size w w' := by
  have hT := three_new w (vS s) 27
  obtain ⟨W1, hW1⟩ : ∃ W1, W1 = ((w.alloc (.cells (vS s) 27)).alloc (.cells vZ 27)).alloc (.cells eZ 32) := ⟨_, rfl⟩
  have hr : W1.heap[w.heap.size]? = some (.cells (vS s) 27 (0, 0)) := by
    rw [hW1]; exact hlOld (hlOld (heap_alloc_new _ _))
  rw [← hW1] at hT
  have T1 : Tabs W1 := TW.next hT.below
  have K : Hid (∀ W, Below W1.heap.size W1 W → W.cell? ⟨w.heap.size, 0, none⟩ = some (.int .i64 4) ∧ W.cell? ⟨w.heap.size, 1, none⟩ = some (.float .f64 0) ∧ W.cell? ⟨w.heap.size, 2, none⟩ = some (.string ⟨s.toArray⟩) ∧ W.cell? ⟨w.heap.size, 3, none⟩ = some (.slice none 0 0) ∧ W.cell? ⟨w.heap.size, 4, none⟩ = some (.slice none 0 0)) := Lib.hid (fun W hW => by
    have h2 := hlBelow hW hr
    exact ⟨Go.Proofs.YtpfamfkdfbcooaaGreatDoor.cell_of_heap (j := 0) h2 rfl, Go.Proofs.YtpfamfkdfbcooaaGreatDoor.cell_of_heap (j := 1) h2 rfl, Go.Proofs.YtpfamfkdfbcooaaGreatDoor.cell_of_heap (j := 2) h2 rfl, Go.Proofs.YtpfamfkdfbcooaaGreatDoor.cell_of_heap (j := 3) h2 rfl, Go.Proofs.YtpfamfkdfbcooaaGreatDoor.cell_of_heap (j := 4) h2 rfl⟩)
  have HN : Hid (∀ W, Calls Tryz.prog 29 #[.agg #[.int .i64 4, .float .f64 0, .string ⟨s.toArray⟩, .slice none 0 0, .slice none 0 0]] W fun e w' => e = .returned (.string ⟨#[115, 116, 114, 105, 110, 103]⟩) ∧ Below W.heap.size W w') := Lib.hid (fun W => name_any W 4 (by omega) 0 _ _ _ _ _ _ _)
  have HS : Hid (∀ W, Below W1.heap.size W1 W → Calls Tryz.prog 30 #[.agg #[.int .i64 4, .float .f64 0, .string ⟨s.toArray⟩, .slice none 0 0, .slice none 0 0]] W fun e w' => ∃ out : ByteArray, out.size ≤ 30000000 ∧ e = .returned (.string out) ∧ Below W.heap.size W w') := Lib.hid (fun W hW => by
    have hpl : (plainT 4 0 s).length ≤ 13000000 := by
      have := flatMap_length s
      show (quoteT s).length ≤ _
      unfold quoteT
      rw [List.length_cons, List.length_append, List.length_singleton]
      omega
    exact (short_of W 4 0 ⟨s.toArray⟩ none 0 0 none 0 0 (plainT 4 0 s) (by omega) (fun W2 hb2 => valueText_any W2 ((T1.next hW).next hb2) 4 (by omega) 0 (by omega) s _ _ ⟨_, _, _, rfl⟩ ⟨_, _, _, rfl⟩ (by omega))).mono (fun e w' ⟨o, ho, he, hb⟩ => ⟨o, by omega, he, hb⟩))
  have HST : Hid (∀ W, Calls Tryz.prog 15 #[.agg #[.int .i64 4, .float .f64 0, .string ⟨s.toArray⟩, .slice none 0 0, .slice none 0 0]] W fun e w' => e = .returned (.string ⟨s.toArray⟩) ∧ Below W.heap.size W w') := Lib.hid (fun W => fstring_str W 0 _ _ _ _ _ _ _)
  have HB : Hid (∀ W, Calls Tryz.prog 39 #[.string ⟨s.toArray⟩] W fun e w' => ∃ v, e = .returned (.tuple #[v, .bool true]) ∧ Below W.heap.size W w' ∧ OwnB W.heap.size w' v out0) := Lib.hid (fun W => (bytes_any W s (by omega)).mono (fun e w' ⟨v, ok, he, hb, _, h1, _⟩ => by
    obtain ⟨hO, hk⟩ := h1 out0 hu
    rw [hk, decide_eq_true h4] at he
    exact ⟨v, he, hb, hO⟩))
  have HCl : Hid (∀ W v B, OwnB B W v out0 → Calls Tryz.prog 40 #[v] W fun e w' => e = .returned (.string ⟨out0.toArray⟩) ∧ Below W.heap.size W w') := Lib.hid (fun W v B hO => clean_text W v out0 hO (by omega) hv)
  clear hu h4 hv
  have HR : Hid (∀ W, Calls Tryz.prog 31 #[.string ⟨#[98, 97, 115, 101, 54, 52, 100]⟩] W fun e w' => e = .returned (.tuple #[.agg rowZ, .bool false]) ∧ Below W.heap.size W w') := Lib.hid (fun W => rows_no W [98, 97, 115, 101, 54, 52, 100] rfl rfl rfl)
  have HT := Lib.hid hT
  have HW1 := Lib.hid hW1
  clear hr hW1 hT T1 TW
  go_enter Tryz.func11, Tryz.ntmps11
  go_upto_region 1 with fail
  rw [← HW1.out]
  have hx : Below W1.heap.size W1 W1 := Below.refl _ _
  obtain ⟨p0, p1, p2, p3, p4⟩ := K.out _ hx.drew
  go_region_with (first | (go_at_call 29; refine (HN.out _).mono ?_; rintro e' we ⟨rfl, hbe⟩; have hx := Below.also (by first | exact hx | exact hx.drew) hbe; clear hbe; obtain ⟨r0, r1, r2, r3, r4⟩ := K.out _ hx) | (go_at_call 30; refine (HS.out _ (by first | exact hx | exact hx.drew)).mono ?_; rintro e' ws ⟨out, ho, rfl, hbe⟩; have hadd1 : (⟨#[115, 116, 114, 105, 110, 103, 32, 40]⟩ : ByteArray).size + out.size ≤ 9223372036854775807 := (by have : (⟨#[115, 116, 114, 105, 110, 103, 32, 40]⟩ : ByteArray).size = 8 := rfl; omega); have hoz : (out.size : Int) ≤ 30000000 := (by omega); have hx := Below.also (by first | exact hx | exact hx.drew) hbe; clear hbe; obtain ⟨s0, s1, s2, s3, s4⟩ := K.out _ hx))
  all_goals
    have HT := Lib.hid (HT.out.below' hx)
    clear p0 p1 p2 p3 p4 r0 r1 r2 r3 r4 s0 s1 s2 s3 s4
    go_wp2_with fail
    refine (HR.out _).mono ?_
    rintro e' w3 ⟨rfl, hb3⟩
    have HT := Lib.hid (HT.out.below' hb3)
    have hx := Below.also hx hb3
    clear hb3
    go_wp2_with (refine wpList_store_row rfl 54 (.tmp 7) (.tmp 22) rfl w3.heap.size rowZ rfl rfl 54 rowZ (heap_alloc_new _ _) (by kernel_rfl) rfl (by simp [Value.oneCell']) ?_; rw [setRow_new]; have hx4 := hx.alloc hx.size (.cells rowZ 54); have HT4 := Lib.hid (HT.out.below' ((Below.refl w3.heap.size w3).alloc (Nat.le_refl _) (.cells rowZ 54))); obtain ⟨W4, hW4⟩ : ∃ W4, W4 = w3.alloc (.cells rowZ 54) := ⟨_, rfl⟩; rw [← hW4] at hx4 HT4 ⊢; clear hW4 hx HT; obtain ⟨q0, q1, q2, q3, q4⟩ := K.out _ hx4)
    refine (HST.out _).mono ?_
    rintro e' w5 ⟨rfl, hb5⟩
    have HT := Lib.hid (HT4.out.below' hb5)
    have hx := Below.also hx4 hb5
    clear hb5 hx4 HT4 q0 q1 q2 q3 q4
    go_wp2_with fail
    refine (HB.out _).mono ?_
    rintro e' w6 ⟨vb, rfl, hb6, hO⟩
    have HT := Lib.hid (HT.out.below' hb6)
    clear hb6 hx
    have hCl := HCl.out _ _ _ hO
    clear hO HCl
    go_wp2_with fail
    refine hCl.mono ?_
    rintro e' w66 ⟨rfl, hb66⟩
    have HT := Lib.hid (HT.out.below' hb66)
    clear hb66 hCl
    have HO : Hid (outV out0 = .tuple #[.agg (vS out0), .agg eZ]) := Lib.hid (by unfold outV; rw [if_pos ho0])
    have HS2 := Lib.hid (str_any w66 out0)
    have HS2 := Lib.hid HS2.out
    rw [HO.out] at HS2
    clear ho0 HB HST HR HS HN K HW1
    go_wp2_with fail
    refine HS2.out.mono ?_
    rintro e' w7 ⟨rfl, hb7⟩
    have HT := Lib.hid (HT.out.below' hb7)
    clear hb7 HS2
    go_wp2_with (first
      | (refine wpList_store_row rfl 27 (.tmp 4) (.tmp 107) rfl (w.heap.size + 1) (vS out0) rfl rfl 27 vZ HT.out.v (by kernel_rfl) rfl (oneV _ _) ?_; have HT2 := Lib.hid (HT.out.setV (vS out0)); obtain ⟨W8, hW8⟩ : ∃ W8, W8 = w7.setRow (w.heap.size + 1) (vS out0) := ⟨_, rfl⟩; rw [← hW8] at HT2 ⊢; clear hW8)
      | (refine wpList_store_row rfl 32 (.tmp 5) (.tmp 108) rfl (w.heap.size + 1 + 1) eZ rfl rfl 32 eZ HT2.out.e (by kernel_rfl) rfl (by simp [Value.oneCell']) ?_; have HT3 := Lib.hid (HT2.out.setE eZ); obtain ⟨W9, hW9⟩ : ∃ W9, W9 = W8.setRow (w.heap.size + 1 + 1) eZ := ⟨_, rfl⟩; rw [← hW9] at HT3 ⊢; clear hW9))
    obtain ⟨l1, l2⟩ := HT3.out.ret rfl rfl
    refine bodyPost_ret (results_cell_cell rfl _ _ (w.heap.size + 1) (w.heap.size + 1 + 1) _ _ rfl l1 rfl l2) rfl ?_
    exact ⟨by rw [HO.out], HT3.out.below⟩
end Go.Proofs.YtpfamfkdfbcooaaGreatDoor
