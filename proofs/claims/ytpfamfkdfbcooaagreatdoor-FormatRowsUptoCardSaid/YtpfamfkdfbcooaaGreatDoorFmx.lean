/- format.Format of a name that is no format's. -/
import Derived.Test.YtpfamfkdfbcooaaGreatDoorFmq
set_option linter.unusedVariables false
set_option linter.unusedSimpArgs false
namespace Go.Proofs.YtpfamfkdfbcooaaGreatDoor
open Go Go.RowKit Go.Proofs
set_option maxHeartbeats 8000000 in
set_option maxRecDepth 100000 in
theorem format_none (w : World) (TW : Tabs w) (name : List UInt8) (hnl9 : name.length ≤ 100000000) (z0 : (name == [99, 115, 118]) = false) (z1 : (name == [116, 115, 118]) = false) (z2 : (name == [115, 104]) = false) (z3 : (name == [116, 101, 120, 116]) = false) (z4 : (name == [106, 115, 111, 110]) = false) (z5 : (name == [104, 116, 109, 108]) = false) (z6 : (name == [117, 114, 105]) = false) (z7 : (name == [98, 97, 115, 101, 54, 52]) = false) (z8 : (name == [98, 97, 115, 101, 54, 52, 100]) = false) (k num : Nat) (hk : k ≤ 6) (str : ByteArray) (A3 : Option Addr) (n3 e3 : Nat) (A4 : Option Addr) (n4 e4 : Nat) (Z : List UInt8) (hZ : Z.length ≤ 130000000000000)
    (HT : ∀ W, Below w.heap.size w W → Calls Tryz.prog 35 #[.agg #[.int .i64 k, .float .f64 num, .string str, .slice A3 n3 e3, .slice A4 n4 e4]] W fun e w' => e = .returned (.string ⟨Z.toArray⟩) ∧ Below W.heap.size W w')
    (S : List UInt8) (hS : S.length ≤ 1200000000) (HST : ∀ W, Below w.heap.size w W → Calls Tryz.prog 15 #[.agg #[.int .i64 k, .float .f64 num, .string str, .slice A3 n3 e3, .slice A4 n4 e4]] W fun e w' => e = .returned (.string ⟨S.toArray⟩) ∧ Below W.heap.size W w') :
    Calls Tryz.prog 11 #[.string ⟨name.toArray⟩, .agg #[.int .i64 k, .float .f64 num, .string str, .slice A3 n3 e3, .slice A4 n4 e4]] w fun e w' => e = .returned (failV (name ++ noForm)) ∧ Below w.heap.size w w' := by
  obtain ⟨va, ea, hO, hv5, he6, hva, hea⟩ := failV_parts (name ++ noForm)
  have hT := three_new w #[.int .i64 k, .float .f64 num, .string str, .slice A3 n3 e3, .slice A4 n4 e4] 27
  obtain ⟨W1, hW1⟩ : ∃ W1, W1 = ((w.alloc (.cells #[.int .i64 k, .float .f64 num, .string str, .slice A3 n3 e3, .slice A4 n4 e4] 27)).alloc (.cells vZ 27)).alloc (.cells eZ 32) := ⟨_, rfl⟩
  have HF := Lib.hid (fmt_of w W1 k num hk str A3 n3 e3 A4 n4 e4 Z hZ HT hW1)
  rw [← hW1] at hT
  have hb1 : Below w.heap.size w W1 := hT.below
  have T1 : Tabs W1 := TW.next hb1
  have HSt : Hid (∀ W, Below W1.heap.size W1 W → Calls Tryz.prog 15 #[.agg #[.int .i64 k, .float .f64 num, .string str, .slice A3 n3 e3, .slice A4 n4 e4]] W fun e w' => e = .returned (.string ⟨S.toArray⟩) ∧ Below W.heap.size W w') := Lib.hid (fun W hW => HST W (hb1.trans (hW.mono hb1.size)))
  have hnl : (⟨(nameT k).toArray⟩ : ByteArray).size ≤ 7 := nameT_len k
  obtain ⟨NM, hNM⟩ : ∃ NM : ByteArray, NM = ⟨(nameT k).toArray⟩ := ⟨_, rfl⟩
  rw [← hNM] at HF hnl
  have hns : (⟨name.toArray⟩ : ByteArray).size = name.length := rfl
  have HB : Hid (∀ W, Calls Tryz.prog 33 #[.string (⟨name.toArray⟩ ++ ⟨#[32, 105, 115, 32, 110, 111, 116, 32, 97, 32, 118, 97, 108, 105, 100, 32, 102, 111, 114, 109, 97, 116]⟩)] W fun e w' => e = .returned (failV (name ++ noForm)) ∧ Below W.heap.size W w') := Lib.hid (fun W => by
    rw [show (⟨name.toArray⟩ : ByteArray) ++ ⟨#[32, 105, 115, 32, 110, 111, 116, 32, 97, 32, 118, 97, 108, 105, 100, 32, 102, 111, 114, 109, 97, 116]⟩ = ⟨(name ++ noForm).toArray⟩ from ba_app _ noForm]
    exact fail_any W _)
  have HR : Hid (∀ W, Calls Tryz.prog 31 #[.string ⟨name.toArray⟩] W fun e w' => e = .returned (.tuple #[.agg rowZ, .bool false]) ∧ Below W.heap.size W w') := Lib.hid (fun W => rows_no W name z0 z1 z2)
  clear z0 z1 z2
  have HT := Lib.hid hT
  have HW1 := Lib.hid hW1
  have HO := Lib.hid hO
  have HVA := Lib.hid (And.intro hva hea)
  have HV5 := Lib.hid (And.intro hv5 he6)
  clear hW1 hT T1 TW hNM hb1 hO hva hea hv5 he6 hZ HST
  go_enter Tryz.func11, Tryz.ntmps11
  go_upto_region 1 with fail
  rw [← HW1.out]
  have hx : Below W1.heap.size W1 W1 := Below.refl _ _
  obtain ⟨p0, p1, p2, p3, p4⟩ := HF.out.cells _ hx.drew
  go_region_with (first | (go_at_call 29; refine (HF.out.name _).mono ?_; rintro e' we ⟨rfl, hbe⟩; have hx := Below.also (by first | exact hx | exact hx.drew) hbe; clear hbe; obtain ⟨r0, r1, r2, r3, r4⟩ := HF.out.cells _ hx) | (go_at_call 30; refine (HF.out.short _ (by first | exact hx | exact hx.drew)).mono ?_; rintro e' ws ⟨out, ho, rfl, hbe⟩; have hadd1 : NM.size + (⟨#[32, 40]⟩ : ByteArray).size ≤ 9223372036854775807 := (by have : (⟨#[32, 40]⟩ : ByteArray).size = 2 := rfl; omega); have hadd2 : NM.size + (⟨#[32, 40]⟩ : ByteArray).size + out.size ≤ 9223372036854775807 := (by have : (⟨#[32, 40]⟩ : ByteArray).size = 2 := rfl; omega); have hoz : (out.size : Int) ≤ 130000000000003 := (by omega); have hx := Below.also (by first | exact hx | exact hx.drew) hbe; clear hbe; obtain ⟨s0, s1, s2, s3, s4⟩ := HF.out.cells _ hx))
  all_goals
    have HT := Lib.hid (HT.out.below' hx)
    clear p0 p1 p2 p3 p4 r0 r1 r2 r3 r4 s0 s1 s2 s3 s4
    go_wp2_with fail
    refine (HR.out _).mono ?_
    rintro e' w3 ⟨rfl, hb3⟩
    have HT := Lib.hid (HT.out.below' hb3)
    have hx := Below.also hx hb3
    clear hb3
    go_wp2_with (refine wpList_store_row rfl 54 (.tmp 7) (.tmp 22) rfl w3.heap.size rowZ rfl rfl 54 rowZ (heap_alloc_new _ _) (by kernel_rfl) rfl (by simp [Value.oneCell']) ?_; rw [setRow_new]; have hx4 := hx.alloc hx.size (.cells rowZ 54); have HT4 := Lib.hid (HT.out.below' ((Below.refl w3.heap.size w3).alloc (Nat.le_refl _) (.cells rowZ 54))); obtain ⟨W4, hW4⟩ : ∃ W4, W4 = w3.alloc (.cells rowZ 54) := ⟨_, rfl⟩; rw [← hW4] at hx4 HT4 ⊢; clear hW4 hx HT; obtain ⟨q0, q1, q2, q3, q4⟩ := HF.out.cells _ hx4)
    refine (HSt.out _ hx4).mono ?_
    rintro e' w5 ⟨rfl, hb5⟩
    have HT := Lib.hid (HT4.out.below' hb5)
    have hx := Below.also hx4 hb5
    clear hb5 hx4 HT4 q0 q1 q2 q3 q4
    go_wp2_with fail
    have HS2 := Lib.hid (HB.out w5)
    have HS2 := Lib.hid HS2.out
    rw [HO.out] at HS2
    clear HB hx
    clear HSt HR HF HW1
    refine HS2.out.mono ?_
    rintro e' w7 ⟨rfl, hb7⟩
    have HT := Lib.hid (HT.out.below' hb7)
    clear hb7 HS2
    have hi5 : (Tryz.prog.info? 27).map (·.size) = some va.size := (by rw [HV5.out.1]; kernel_rfl)
    have hi6 : (Tryz.prog.info? 32).map (·.size) = some ea.size := (by rw [HV5.out.2]; kernel_rfl)
    have hz5 : vZ.size = va.size := HV5.out.1.symm
    have hz6 : eZ.size = ea.size := HV5.out.2.symm
    have HI := Lib.hid (And.intro hi5 (And.intro hi6 (And.intro hz5 hz6)))
    clear hi5 hi6 hz5 hz6
    go_wp2_with (first
      | (refine wpList_store_row rfl 27 (.tmp 4) (.tmp 112) rfl (w.heap.size + 1) va rfl rfl 27 vZ HT.out.v HI.out.1 HI.out.2.2.1 HVA.out.1 ?_; have HT2 := Lib.hid (HT.out.setV va); obtain ⟨W8, hW8⟩ : ∃ W8, W8 = w7.setRow (w.heap.size + 1) va := ⟨_, rfl⟩; rw [← hW8] at HT2 ⊢; clear hW8)
      | (refine wpList_store_row rfl 32 (.tmp 5) (.tmp 113) rfl (w.heap.size + 1 + 1) ea rfl rfl 32 eZ HT2.out.e HI.out.2.1 HI.out.2.2.2 HVA.out.2 ?_; have HT3 := Lib.hid (HT2.out.setE ea); obtain ⟨W9, hW9⟩ : ∃ W9, W9 = W8.setRow (w.heap.size + 1 + 1) ea := ⟨_, rfl⟩; rw [← hW9] at HT3 ⊢; clear hW9))
    obtain ⟨l1, l2⟩ := HT3.out.ret HV5.out.1 HV5.out.2
    refine bodyPost_ret (results_cell_cell rfl _ _ (w.heap.size + 1) (w.heap.size + 1 + 1) _ _ rfl l1 rfl l2) rfl ?_
    exact ⟨by rw [HO.out], HT3.out.below⟩
end Go.Proofs.YtpfamfkdfbcooaaGreatDoor
