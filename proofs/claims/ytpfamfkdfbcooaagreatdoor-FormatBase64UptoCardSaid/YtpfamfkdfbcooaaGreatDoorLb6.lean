/- colanderlaw13.FormatBase64, walked: for every text it returns true. -/
import Derived.Test.YtpfamfkdfbcooaaGreatDoorFfd
import Derived.Test.YtpfamfkdfbcooaaGreatDoorKpt
import Derived.Test.YtpfamfkdfbcooaaGreatDoorFhq
set_option linter.unusedVariables false
set_option linter.unusedSimpArgs false
namespace Go.Proofs.YtpfamfkdfbcooaaGreatDoor
open Go Go.RowKit Go.Proofs
theorem b64L_ok (c : UInt8) (h : b64L c = true) : (keptB c = true ∧ c ≠ 45 ∧ c ≠ 95 ∧ c ≠ 46 ∧ c ≠ 126) ∨ c = 43 ∨ c = 47 := by
  have key : ∀ n : Fin 256, b64L (UInt8.ofNat n.val) = true → (keptB (UInt8.ofNat n.val) = true ∧ UInt8.ofNat n.val ≠ 45 ∧ UInt8.ofNat n.val ≠ 95 ∧ UInt8.ofNat n.val ≠ 46 ∧ UInt8.ofNat n.val ≠ 126) ∨ UInt8.ofNat n.val = 43 ∨ UInt8.ofNat n.val = 47 := by decide +kernel
  have := key ⟨c.toNat, c.toNat_lt⟩
  simp only [UInt8.ofNat_toNat] at this
  exact this h
theorem Two.cells {B : Nat} {w W : World} {v e : Array Value} (h : Two B w W v e) : (∀ (W' : World), Below W.heap.size W W' → ∀ (j : Nat) (u : Value), v[j]? = some u → W'.cell? ⟨B, j, none⟩ = some u) ∧ (∀ (W' : World), Below W.heap.size W W' → ∀ (j : Nat) (u : Value), e[j]? = some u → W'.cell? ⟨B + 1, j, none⟩ = some u) :=
  ⟨fun _ hW _ _ hu => cell_of_heap (hlBelow hW h.v) hu, fun _ hW _ _ hu => cell_of_heap (hlBelow hW h.e) hu⟩
set_option maxHeartbeats 16000000 in
set_option maxRecDepth 100000 in
theorem fbase_walk (w : World) (TW : Tabs w) (s : List UInt8) (hs : s.length ≤ 1048576) :
    Calls Tryz.prog 4 #[.string ⟨s.toArray⟩] w fun e w' => e = .returned (.bool true) ∧ Below w.heap.size w w' := by
  have HVd : Hid (∀ W, Calls Tryz.prog 20 #[.string ⟨s.toArray⟩] W fun e w' => e = .returned (.bool (validB ⟨s.toArray⟩)) ∧ W = w') := Lib.hid (fun W => valid_any ⟨s.toArray⟩ W (by show s.length < _; omega))
  have HH : Hid (∀ W, Below w.heap.size w W → Calls Tryz.prog 9 #[] W fun e w' => e = .returned (.bool true) ∧ Below W.heap.size W w') := Lib.hid (fun W hb => heads13_any W (TW.next hb))
  have HSt : Hid (∀ W, Calls Tryz.prog 21 #[.string ⟨s.toArray⟩] W fun e w' => e = .returned (.agg #[.int .i64 4, .float .f64 0, .string ⟨s.toArray⟩, .slice none 0 0, .slice none 0 0]) ∧ Below W.heap.size W w') := Lib.hid (fun W => rstr_any _ W)
  have HF1 : Hid (∀ W, Below w.heap.size w W → Calls Tryz.prog 11 #[.string ⟨#[98, 97, 115, 101, 54, 52]⟩, .agg #[.int .i64 4, .float .f64 0, .string ⟨s.toArray⟩, .slice none 0 0, .slice none 0 0]] W fun e w' => e = .returned (outV (b64T s)) ∧ Below W.heap.size W w') := Lib.hid (fun W hb => format_b64 W (TW.next hb) s hs)
  have hZl : (b64T s).length = (s.length + 2) / 3 * 4 := b64_length s
  have hsz : (⟨s.toArray⟩ : ByteArray).size = s.length := rfl
  have hb0 : Below w.heap.size w w := Below.refl _ _
  cases hvv : validB ⟨s.toArray⟩ with
  | false =>
    rw [hvv] at HVd
    clear hvv HSt HF1 hZl
    go_enter Tryz.func4, Tryz.ntmps4
    go_wp2_with fail
    refine (HVd.out _).mono ?_
    rintro e' w1 ⟨rfl, rfl⟩
    go_wp2_with fail
    refine (HH.out _ hb0).mono ?_
    rintro e' w2 ⟨rfl, hb2⟩
    go_wp2_with fail
    go_ret
    exact ⟨rfl, hb2⟩
  | true =>
    rw [hvv] at HVd
    have HF2 : Hid (∀ W, Below w.heap.size w W → (b64T s).length ≤ 1048576 → Calls Tryz.prog 11 #[.string ⟨#[98, 97, 115, 101, 54, 52, 100]⟩, .agg #[.int .i64 4, .float .f64 0, .string ⟨(b64T s).toArray⟩, .slice none 0 0, .slice none 0 0]] W fun e w' => e = .returned (.tuple #[.agg #[.int .i64 4, .float .f64 0, .string ⟨s.toArray⟩, .slice none 0 0, .slice none 0 0], .agg eZ]) ∧ Below W.heap.size W w') := Lib.hid (fun W hb hl => by
      have h1 := b64_back s 0
      have := format_b64d W (TW.next hb) (b64T s) s hl h1.1 h1.2 hvv hs
      rw [show outV s = .tuple #[.agg #[.int .i64 4, .float .f64 0, .string ⟨s.toArray⟩, .slice none 0 0, .slice none 0 0], .agg eZ] from by unfold outV; rw [if_pos hs]] at this
      exact this)
    have HLt := Lib.hid (b64_letters s)
    obtain ⟨Z, hZ⟩ : ∃ Z, Z = b64T s := ⟨_, rfl⟩
    rw [← hZ] at HF1 HF2 HLt hZl
    have hzs : (⟨Z.toArray⟩ : ByteArray).size = Z.length := rfl
    clear hvv hZ TW
    rcases Nat.lt_or_ge 1048576 Z.length with hl | hl
    · have HO : outV Z = .tuple #[.agg vZ, .agg (eS largeT)] := by unfold outV; rw [if_neg (by omega)]
      rw [HO] at HF1
      have t1 : decide ((786432 : Int) < (s.length : Int)) = true := decide_eq_true (by omega)
      clear HO HF2 HLt hZl hl
      go_enter Tryz.func4, Tryz.ntmps4
      go_wp2_with fail
      refine (HVd.out _).mono ?_
      rintro e' w1 ⟨rfl, rfl⟩
      go_wp2_with fail
      refine (HSt.out _).mono ?_
      rintro e' w2 ⟨rfl, hb2⟩
      go_wp2_with fail
      refine (HF1.out _ hb2).mono ?_
      rintro e' w3 ⟨rfl, hb3⟩
      have hx3 := hb2.trans (hb3.mono hb2.size)
      have HT := Lib.hid (two_new w3)
      clear hb3
      go_wp2_with (first
        | (refine wpList_store_row rfl 27 (.tmp 3) (.tmp 17) rfl w3.heap.size vZ rfl rfl 27 vZ HT.out.v (by kernel_rfl) rfl (by simp [Value.oneCell']) ?_; have HT2 := Lib.hid (HT.out.setV vZ); obtain ⟨W8, hW8⟩ : ∃ W8, W8 = ((w3.alloc (.cells vZ 27)).alloc (.cells eZ 32)).setRow w3.heap.size vZ := ⟨_, rfl⟩; rw [← hW8] at HT2 ⊢; clear hW8)
        | (refine wpList_store_row rfl 32 (.tmp 4) (.tmp 18) rfl (w3.heap.size + 1) (eS largeT) rfl rfl 32 eZ HT2.out.e (by kernel_rfl) rfl (oneE _ _ _) ?_; have HT3 := Lib.hid (HT2.out.setE (eS largeT)); obtain ⟨W9, hW9⟩ : ∃ W9, W9 = W8.setRow (w3.heap.size + 1) (eS largeT) := ⟨_, rfl⟩; rw [← hW9] at HT3 ⊢; clear hW9; have q0 := HT3.out.cells.2 W9 (Below.refl _ _) 0 (.bool true) rfl; have hx9 := hx3.trans (HT3.out.below.mono hx3.size)))
      refine (HH.out _ hx9).mono ?_
      rintro e' w10 ⟨rfl, hb10⟩
      go_wp2_with fail
      go_ret
      exact ⟨rfl, hx9.trans (hb10.mono hx9.size)⟩
    · have HO : outV Z = .tuple #[.agg #[.int .i64 4, .float .f64 0, .string ⟨Z.toArray⟩, .slice none 0 0, .slice none 0 0], .agg eZ] := by unfold outV; rw [if_pos hl]
      rw [HO] at HF1
      have t1 : decide ((786432 : Int) < (s.length : Int)) = false := decide_eq_false (by omega)
      have u1 : (s != s) = false := by simp
      have u2 : (s == s) = true := by simp
      have u3 : (((Z.length : Int) % 4) != 0) = false := by rw [bne_eq_false_iff_eq]; omega
      have HF3 := Lib.hid (fun W hb => HF2.out W hb hl)
      clear HO HF2
      go_enter Tryz.func4, Tryz.ntmps4
      go_wp2_with fail
      refine (HVd.out _).mono ?_
      rintro e' w1 ⟨rfl, rfl⟩
      go_wp2_with fail
      refine (HSt.out _).mono ?_
      rintro e' w2 ⟨rfl, hb2⟩
      go_wp2_with fail
      refine (HF1.out _ hb2).mono ?_
      rintro e' w3 ⟨rfl, hb3⟩
      have hx3 := hb2.trans (hb3.mono hb2.size)
      have HT := Lib.hid (two_new w3)
      clear hb3
      go_wp2_with (first
        | (refine wpList_store_row rfl 27 (.tmp 3) (.tmp 17) rfl w3.heap.size (vS Z) rfl rfl 27 vZ HT.out.v (by kernel_rfl) rfl (oneV _ _) ?_; have HT2 := Lib.hid (HT.out.setV (vS Z)); obtain ⟨W8, hW8⟩ : ∃ W8, W8 = ((w3.alloc (.cells vZ 27)).alloc (.cells eZ 32)).setRow w3.heap.size (vS Z) := ⟨_, rfl⟩; rw [← hW8] at HT2 ⊢; clear hW8)
        | (refine wpList_store_row rfl 32 (.tmp 4) (.tmp 18) rfl (w3.heap.size + 1) eZ rfl rfl 32 eZ HT2.out.e (by kernel_rfl) rfl (by simp [Value.oneCell']) ?_; have HT3 := Lib.hid (HT2.out.setE eZ); obtain ⟨W9, hW9⟩ : ∃ W9, W9 = W8.setRow (w3.heap.size + 1) eZ := ⟨_, rfl⟩; rw [← hW9] at HT3 ⊢; clear hW9; have q0 := HT3.out.cells.2 W9 (Below.refl _ _) 0 (.bool false) rfl; have hx9 := hx3.trans (HT3.out.below.mono hx3.size); obtain ⟨p0, p1, p2, p3, p4⟩ := parts5 HT3.out.v))
      refine (HF3.out _ hx9).mono ?_
      rintro e' w5 ⟨rfl, hb5⟩
      have HV5 := Lib.hid (hlBelow hb5 HT3.out.v)
      have hx5 := hx9.trans (hb5.mono hx9.size)
      have HT5 := Lib.hid (two_new w5)
      clear hb5 p0 p1 p2 p3 p4 q0 HT3
      obtain ⟨B3, hB3⟩ : ∃ B3, B3 = w3.heap.size := ⟨_, rfl⟩
      rw [← hB3] at HV5 ⊢
      clear hB3
      go_wp2_with (first
        | (refine wpList_store_row rfl 27 (.tmp 5) (.tmp 39) rfl w5.heap.size (vS s) rfl rfl 27 vZ HT5.out.v (by kernel_rfl) rfl (oneV _ _) ?_; have HT6 := Lib.hid (HT5.out.setV (vS s)); obtain ⟨WA, hWA⟩ : ∃ WA, WA = ((w5.alloc (.cells vZ 27)).alloc (.cells eZ 32)).setRow w5.heap.size (vS s) := ⟨_, rfl⟩; rw [← hWA] at HT6 ⊢; clear hWA)
        | (refine wpList_store_row rfl 32 (.tmp 6) (.tmp 40) rfl (w5.heap.size + 1) eZ rfl rfl 32 eZ HT6.out.e (by kernel_rfl) rfl (by simp [Value.oneCell']) ?_; have HT7 := Lib.hid (HT6.out.setE eZ); obtain ⟨WB, hWB⟩ : ∃ WB, WB = WA.setRow (w5.heap.size + 1) eZ := ⟨_, rfl⟩; rw [← hWB] at HT7 ⊢; clear hWB; have r0 := HT7.out.cells.2 WB (Below.refl _ _) 0 (.bool false) rfl; have hxB := hx5.trans (HT7.out.below.mono hx5.size); obtain ⟨s0, s1, s2, s3, s4⟩ := parts5 HT7.out.v; have HVB := Lib.hid (hlBelow HT7.out.below HV5.out); obtain ⟨p0, p1, p2, p3, p4⟩ := parts5 HVB.out))
      clear r0 s0 s1 s2 s3 s4 p0 p1 p2 p3 p4 HT7 HT6 HT5 HT2 HT u1 u2 u3 t1
      obtain ⟨n, hn⟩ : ∃ n, n = Z.length := ⟨_, rfl⟩
      have HN := Lib.hid hn
      rw [← hn] at hl hzs
      clear hn hZl
      go_loopw [7] (fun i wr => ∃ (k : Nat), k ≤ n ∧ i = .int .i64 k ∧ Below WB.heap.size WB wr) (fun i _ => n - (intOf i).toNat)
      case atStart => exact ⟨0, Nat.zero_le _, rfl, Below.refl _ _⟩
      case round =>
        obtain ⟨k, hk, rfl, hbr⟩ := hrel
        obtain ⟨p0, p1, p2, p3, p4⟩ := parts5 (hlBelow hbr HVB.out)
        rcases Nat.lt_or_ge k n with hlt | hge
        · have hkl : k < Z.length := by have := HN.out; omega
          have hL := HLt.out k hkl
          obtain ⟨c, hc⟩ : ∃ c, c = Z[k] := ⟨_, rfl⟩
          rw [← hc] at hL
          have hby : ∀ h, ((⟨Z.toArray⟩ : ByteArray)[k]'h).toNat = c.toNat := fun h => by rw [hc]; rfl
          have hcn : ∀ x : UInt8, c ≠ x → ((c.toNat : Int) == (x.toNat : Int)) = false := fun x hx => by
            rw [beq_eq_false_iff_ne]; intro e; exact hx (UInt8.toNat_inj.1 (by omega))
          have HK := Lib.hid (kept_any wr c)
          clear hc
          have hL2 : (keptB c = true ∧ c ≠ 45 ∧ c ≠ 95 ∧ c ≠ 46 ∧ c ≠ 126) ∨ c = 43 ∨ c = 47 ∨ (c = 61 ∧ n ≤ k + 2) := by
            rcases hL with h | ⟨h, h2⟩
            · rcases b64L_ok c h with h | h | h
              · exact .inl h
              · exact .inr (.inl h)
              · exact .inr (.inr (.inl h))
            · exact .inr (.inr (.inr ⟨h, by have := HN.out; omega⟩))
          clear hL
          rcases hL2 with ⟨h, n1, n2, n3, n4⟩ | rfl | rfl | ⟨rfl, h2⟩
          · rw [h] at HK
            have a1 : ((c.toNat : Int) == 45) = false := hcn 45 n1
            have a2 : ((c.toNat : Int) == 95) = false := hcn 95 n2
            have a3 : ((c.toNat : Int) == 46) = false := hcn 46 n3
            have a4 : ((c.toNat : Int) == 126) = false := hcn 126 n4
            clear hcn h n1 n2 n3 n4
            go_wp2_with fail
            refine HK.out.mono ?_
            rintro e' w3 ⟨rfl, rfl⟩
            go_wp2_with fail
            all_goals go_roundw
            case rel => exact ⟨k + 1, by omega, by go_num, hbr⟩
            case measure => simp [intOf]; omega
          · rw [show keptB 43 = false from by decide] at HK
            clear hcn
            go_wp2_with fail
            refine HK.out.mono ?_
            rintro e' w3 ⟨rfl, rfl⟩
            go_wp2_with fail
            all_goals go_roundw
            case rel => exact ⟨k + 1, by omega, by go_num, hbr⟩
            case measure => simp [intOf]; omega
          · rw [show keptB 47 = false from by decide] at HK
            clear hcn
            go_wp2_with fail
            refine HK.out.mono ?_
            rintro e' w3 ⟨rfl, rfl⟩
            go_wp2_with fail
            all_goals go_roundw
            case rel => exact ⟨k + 1, by omega, by go_num, hbr⟩
            case measure => simp [intOf]; omega
          · rw [show keptB 61 = false from by decide] at HK
            have a1 : decide ((n : Int) - 2 ≤ (k : Int)) = true := decide_eq_true (by omega)
            clear hcn h2
            go_wp2_with fail
            refine HK.out.mono ?_
            rintro e' w3 ⟨rfl, rfl⟩
            go_wp2_with fail
            all_goals go_roundw
            case rel => exact ⟨k + 1, by omega, by go_num, hbr⟩
            case measure => simp [intOf]; omega
        · obtain rfl : k = n := by omega
          have hxr := hxB.trans (hbr.mono hxB.size)
          go_wp2_with fail
          refine (HH.out _ hxr).mono ?_
          rintro e' w10 ⟨rfl, hb10⟩
          go_wp2_with fail
          go_ret
          exact ⟨rfl, hxr.trans (hb10.mono hxr.size)⟩
end Go.Proofs.YtpfamfkdfbcooaaGreatDoor
