/- The document's printer: many: arrays. -/
import Derived.Test.YticaihfcnbehpaaGreatDoorRuv
set_option linter.unusedVariables false
set_option linter.unusedSimpArgs false
namespace Go.Proofs.YticaihfcnbehpaaGreatDoor
open Go Go.RowKit Go.Proofs
theorem jtx_snoc (S : Sty) (lvl : Nat) (f : Nat → List UInt8) : ∀ (m i : Nat), jtx S lvl f (m + 1) i = jtx S lvl f m i ++ ((if 0 < i + m then tokT S [44] sgn else []) ++ ltx S (lvl + 1) ++ f (i + m))
  | 0, i => by simp [jtx]
  | m + 1, i => by
    rw [jtx, jtx_snoc S lvl f m (i + 1), jtx, show i + 1 + m = i + (m + 1) by omega]
    simp only [List.append_assoc]
theorem jtx_split (S : Sty) (lvl : Nat) (f : Nat → List UInt8) : ∀ (k r i : Nat), jtx S lvl f (k + r) i = jtx S lvl f k i ++ jtx S lvl f r (i + k)
  | 0, r, i => by rw [Nat.zero_add, Nat.add_zero]; rfl
  | k + 1, r, i => by
    rw [show k + 1 + r = (k + r) + 1 by omega, jtx, jtx_split S lvl f k r (i + 1), jtx, show i + 1 + k = i + (k + 1) by omega]
    simp only [List.append_assoc]
section
variable {b : Nat} {S : Sty} {w : World} {v : Value} {st : St}
theorem rmargin_at (h : Rn b S w v st) (hi : S.ind ≤ 7) (n : Nat) (hn : n ≤ 10000000) (x : Int) (hx : x = (n : Int)) :
    Calls Tryz.prog 54 #[.pointer (some ⟨b, 0, none⟩), .int .i64 x] w (RP b S w v st (ltx S n)) := by
  subst hx; exact rmargin_any h hi n hn
set_option maxHeartbeats 20000000 in
set_option maxRecDepth 100000 in
theorem rmany_arr (h : Rn b S w v st) (hi : S.ind ≤ 7) (w0 : World) (hb : w0.heap.size ≤ b) (h0 : Below w0.heap.size w0 w) (d : Nat) (num : Nat) (str : ByteArray) (A A2 : Option Addr) (n c m c2 lvl : Nat) (hn : n ≤ 1048576) (hlv : lvl + 1 + d ≤ 900000) (f : Nat → List UInt8)
    (hpart : ∀ i, i < n → ∃ ad, A = some ad ∧ ∃ (kk : Int) (nn : Nat) (ss : ByteArray) (A3 : Option Addr) (n3 e3 : Nat) (A4 : Option Addr) (n4 e4 : Nat), Cells5 w0 (ad.add (i * 5)) (.int .i64 kk) (.float .f64 nn) (.string ss) (.slice A3 n3 e3) (.slice A4 n4 e4) ∧
      ∀ (w' : World) (v' : Value) (st' : St) (x : Int), x = ((lvl + 1 : Nat) : Int) → Below w0.heap.size w0 w' → Rn b S w' v' st' → Calls Tryz.prog 17 #[.pointer (some ⟨b, 0, none⟩), .agg #[.int .i64 kk, .float .f64 nn, .string ss, .slice A3 n3 e3, .slice A4 n4 e4], .int .i64 x] w' (RP b S w' v' st' (f i))) :
    Calls Tryz.prog 36 #[.pointer (some ⟨b, 0, none⟩), .agg #[.int .i64 5, .float .f64 num, .string str, .slice A n c, .slice A2 m c2], .int .i64 lvl] w (RP b S w v st (mtx S lvl f [91] [93] n)) := by
  obtain ⟨W1, hW1⟩ : ∃ W1, W1 = w.alloc (.cells #[.int .i64 5, .float .f64 num, .string str, .slice A n c, .slice A2 m c2] 27) := ⟨_, rfl⟩
  obtain ⟨hbw, e0, e1, e2, e3, e4⟩ := after_new _ _ _ _ _ _ _ _ hW1
  have hS1 : RStep b S w v W1 v st := (RStep.start h).below hbw
  have hfar : w.heap.size ≠ b ∧ v.ownBlock ≠ some w.heap.size := h.away (Nat.le_refl _)
  have K : Hid (∀ W V s, RStep b S W1 v W V s → W.cell? ⟨w.heap.size, 0, none⟩ = some (.int .i64 5) ∧ W.cell? ⟨w.heap.size, 3, none⟩ = some (.slice A n c) ∧ W.cell? ⟨w.heap.size, 4, none⟩ = some (.slice A2 m c2)) := Lib.hid (fun W V s hA => by
    have go : ∀ {o : Nat} {u : Value}, W1.cell? ⟨w.heap.size, o, none⟩ = some u → W.cell? ⟨w.heap.size, o, none⟩ = some u := fun hc => hA.far (a := ⟨w.heap.size, _, none⟩) hc hfar
    exact ⟨go e0, go e3, go e4⟩)
  have HP := Lib.hid hpart
  have B0 : Hid (∀ W V s, RStep b S W1 v W V s → Below w0.heap.size w0 W) := Lib.hid (fun W V s hA => hA.below0 hS1.now hb (hS1.below0 h hb h0))
  have HW1 := Lib.hid hW1
  have HSt := Lib.hid hS1
  have HSt1 := Lib.hid (RStep.start hS1.now)
  clear hW1 hpart hS1 hb h0 hfar e0 e1 e2 e3 e4 hbw
  go_enter Tryz.func36, Tryz.ntmps36
  go_upto_region 2 with fail
  rw [← HW1.out]
  obtain ⟨q0, q3, q4⟩ := K.out W1 v st HSt1.out
  go_wp2_with fail
  clear q0 q3 q4
  refine (rsign_any HSt1.out.now 91 91 rfl).mono ?_
  rintro e' w2 ⟨rfl, v2, s2, hA, hF⟩
  have HJ := Lib.hid hA
  have HF0 : Hid (Fr st s2 (tokT S [91] sgn ++ jtx S lvl f 0 0)) := Lib.hid (by rw [show jtx S lvl f 0 0 = [] from rfl, List.append_nil]; exact hF)
  clear hA hF
  go_wp2_with fail
  go_loopw [9] (fun i wr => ∃ (k : Nat) (vk : Value) (sk : St), k ≤ n ∧ i = .int .i64 k ∧ Hid (RStep b S W1 v wr vk sk) ∧ Hid (Fr st sk (tokT S [91] sgn ++ jtx S lvl f k 0))) (fun i _ => n - (intOf i).toNat)
  case atStart => exact ⟨0, v2, s2, Nat.zero_le _, rfl, HJ, HF0⟩
  case round =>
    clear HJ HF0
    obtain ⟨k, vk, sk, hk, rfl, HJ, HF⟩ := hrel
    obtain ⟨q0, q3, q4⟩ := K.out wr vk sk HJ.out
    have hbad := HJ.out.now.cellAt 6 (.bool sk.2) rfl
    have leave : k = n ∨ sk.2 = true → Hid (Fr st sk (tokT S [91] sgn ++ jtx S lvl f n 0)) := fun hh => Lib.hid (by
      rcases hh with rfl | hs
      · exact HF.out
      · have := HF.out.more hs (jtx S lvl f (n - k) (0 + k))
        rw [List.append_assoc, ← jtx_split, show k + (n - k) = n by omega] at this
        exact this)
    rcases Nat.lt_or_ge k n with hlt | hge
    · cases hs : sk.2 with
      | true =>
        rw [hs] at hbad
        have HL := leave (.inr hs)
        have hnpos : 0 < n := by omega
        clear leave hs HF
        go_wp2_with fail
        refine (rmargin_at HJ.out.now hi lvl (by omega) _ rfl).mono ?_
        rintro e' w7 ⟨rfl, v7, s7, hA, hG⟩
        have HJ7 := Lib.hid (HJ.out.join hA)
        have HF7 := Lib.hid (HL.out.trans hG)
        clear hA hG q0 q3 q4 hbad
        go_wp2_with fail
        refine (rsign_any HJ7.out.now 93 93 rfl).mono ?_
        rintro e' w8 ⟨rfl, v8, s8, hA, hG⟩
        have hE := HSt.out.join (HJ7.out.join hA)
        have hFF := HF7.out.trans hG
        go_wp2_with fail
        go_end0
        exact ⟨rfl, v8, s8, hE, by unfold mtx; rw [if_pos hnpos]; exact hFF⟩
      | false =>
        rw [hs] at hbad
        clear leave hs
        obtain ⟨ad, rfl, kk, nn, ss, A3, n3, e3, A4, n4, e4, hc5, hV⟩ := HP.out k hlt
        have HC5 := Lib.hid hc5
        have HV := Lib.hid hV
        clear hc5 hV
        have HR : Hid (jtx S lvl f (k + 1) 0 = jtx S lvl f k 0 ++ ((if 0 < k then tokT S [44] sgn else []) ++ ltx S (lvl + 1) ++ f k)) := Lib.hid (by rw [jtx_snoc, Nat.zero_add])
        by_cases hk0 : 0 < k
        · have HR2 : Hid (jtx S lvl f (k + 1) 0 = jtx S lvl f k 0 ++ (tokT S [44] sgn ++ ltx S (lvl + 1) ++ f k)) := Lib.hid (by rw [HR.out, if_pos hk0])
          have tz : decide ((0 : Int) < (k : Int)) = true := decide_eq_true (by omega)
          have tz2 : decide (0 < k) = true := decide_eq_true (by omega)
          clear HR
          go_wp2_with fail
          refine (rsign_any HJ.out.now 44 44 rfl).mono ?_
          rintro e' w3 ⟨rfl, v3, s3, hA, hG⟩
          have HJ3 := Lib.hid (HJ.out.join hA)
          have HF3 := Lib.hid (HF.out.trans hG)
          clear hA hG q0 q3 q4 hbad tz tz2
          go_wp2_with fail
          refine (rmargin_at HJ3.out.now hi (lvl + 1) (by omega) _ (by first | omega | (rw [IntKind.wrap_i64]; omega))).mono ?_
          rintro e' w4 ⟨rfl, v4, s4, hA, hG⟩
          have HJ4 := Lib.hid (HJ3.out.join hA)
          have HF4 := Lib.hid (HF3.out.trans hG)
          clear hA hG
          obtain ⟨q0, q3, q4⟩ := K.out w4 v4 s4 HJ4.out
          have hb04 := B0.out w4 v4 s4 HJ4.out
          obtain ⟨g0, g1, g2, g3, g4⟩ := HC5.out.below hb04
          have Hb04 := Lib.hid hb04
          clear hb04
          go_wp2_with (refine wpList_store_row rfl 27 (.tmp 10) (.tmp 52) rfl _ #[.int .i64 kk, .float .f64 nn, .string ss, .slice A3 n3 e3, .slice A4 n4 e4] rfl rfl 27 #[.int .i64 0, .float .f64 0, .string ⟨#[]⟩, .slice none 0 0, .slice none 0 0] (heap_alloc_new _ _) (by kernel_rfl) rfl (one5 kk nn ss A3 A4 n3 e3 n4 e4) ?_; rw [setRow_new]; obtain ⟨W5, hW5⟩ : ∃ W5, W5 = World.alloc w4 (.cells #[.int .i64 kk, .float .f64 nn, .string ss, .slice A3 n3 e3, .slice A4 n4 e4] 27) := ⟨_, rfl⟩; rw [← hW5]; have A5 := after_new _ _ _ _ _ _ _ _ hW5; clear hW5; obtain ⟨hb5, x0, x1, x2, x3, x4⟩ := A5; have p0 := (hb5.cell (World.block_lt_of_cell? _ _ q0)).trans q0; clear q0 q3 q4 g0 g1 g2 g3 g4)
          have hE5 := HJ4.out.below hb5
          refine (HV.out W5 _ _ _ (by first | omega | (rw [IntKind.wrap_i64]; omega)) (Hb04.out.trans (hb5.mono Hb04.out.size)) hE5.now).mono ?_
          rintro e' w6 ⟨rfl, v6, s6, hA, hG⟩
          have HJ6 := Lib.hid (hE5.join hA)
          have HF6 : Hid (Fr st s6 (tokT S [91] sgn ++ jtx S lvl f (k + 1) 0)) := Lib.hid (by
            have := HF4.out.trans hG
            rw [HR2.out]
            simpa only [List.append_assoc] using this)
          clear hA hG hE5 x0 x1 x2 x3 x4 p0 hb5
          go_wp2_with fail
          all_goals go_roundw
          case rel => exact ⟨k + 1, v6, s6, by omega, by go_num, HJ6, HF6⟩
          case measure => simp [intOf]; omega
        · have HR2 : Hid (jtx S lvl f (k + 1) 0 = jtx S lvl f k 0 ++ (ltx S (lvl + 1) ++ f k)) := Lib.hid (by rw [HR.out, if_neg hk0, List.nil_append])
          have tz : decide ((0 : Int) < (k : Int)) = false := decide_eq_false (by omega)
          have tz2 : decide (0 < k) = false := decide_eq_false (by omega)
          have HJ3 := HJ
          have HF3 := HF
          clear HR HJ HF
          go_wp2_with fail
          clear q0 q3 q4 hbad tz tz2
          refine (rmargin_at HJ3.out.now hi (lvl + 1) (by omega) _ (by first | omega | (rw [IntKind.wrap_i64]; omega))).mono ?_
          rintro e' w4 ⟨rfl, v4, s4, hA, hG⟩
          have HJ4 := Lib.hid (HJ3.out.join hA)
          have HF4 := Lib.hid (HF3.out.trans hG)
          clear hA hG
          obtain ⟨q0, q3, q4⟩ := K.out w4 v4 s4 HJ4.out
          have hb04 := B0.out w4 v4 s4 HJ4.out
          obtain ⟨g0, g1, g2, g3, g4⟩ := HC5.out.below hb04
          have Hb04 := Lib.hid hb04
          clear hb04
          go_wp2_with (refine wpList_store_row rfl 27 (.tmp 10) (.tmp 52) rfl _ #[.int .i64 kk, .float .f64 nn, .string ss, .slice A3 n3 e3, .slice A4 n4 e4] rfl rfl 27 #[.int .i64 0, .float .f64 0, .string ⟨#[]⟩, .slice none 0 0, .slice none 0 0] (heap_alloc_new _ _) (by kernel_rfl) rfl (one5 kk nn ss A3 A4 n3 e3 n4 e4) ?_; rw [setRow_new]; obtain ⟨W5, hW5⟩ : ∃ W5, W5 = World.alloc w4 (.cells #[.int .i64 kk, .float .f64 nn, .string ss, .slice A3 n3 e3, .slice A4 n4 e4] 27) := ⟨_, rfl⟩; rw [← hW5]; have A5 := after_new _ _ _ _ _ _ _ _ hW5; clear hW5; obtain ⟨hb5, x0, x1, x2, x3, x4⟩ := A5; have p0 := (hb5.cell (World.block_lt_of_cell? _ _ q0)).trans q0; clear q0 q3 q4 g0 g1 g2 g3 g4)
          have hE5 := HJ4.out.below hb5
          refine (HV.out W5 _ _ _ (by first | omega | (rw [IntKind.wrap_i64]; omega)) (Hb04.out.trans (hb5.mono Hb04.out.size)) hE5.now).mono ?_
          rintro e' w6 ⟨rfl, v6, s6, hA, hG⟩
          have HJ6 := Lib.hid (hE5.join hA)
          have HF6 : Hid (Fr st s6 (tokT S [91] sgn ++ jtx S lvl f (k + 1) 0)) := Lib.hid (by
            have := HF4.out.trans hG
            rw [HR2.out]
            simpa only [List.append_assoc] using this)
          clear hA hG hE5 x0 x1 x2 x3 x4 p0 hb5
          go_wp2_with fail
          all_goals go_roundw
          case rel => exact ⟨k + 1, v6, s6, by omega, by go_num, HJ6, HF6⟩
          case measure => simp [intOf]; omega
    · obtain rfl : k = n := by omega
      have HL := leave (.inl rfl)
      clear leave HF hge
      rcases Nat.eq_zero_or_pos k with hn0 | hnpos
      · have t1 : decide ((0 : Int) < (k : Int)) = false := decide_eq_false (by omega)
        have t2 : decide (0 < k) = false := decide_eq_false (by omega)
        have HJ7 := HJ
        have HF7 : Hid (Fr st sk ((tokT S [91] sgn ++ jtx S lvl f k 0) ++ [])) := Lib.hid (by rw [List.append_nil]; exact HL.out)
        go_wp2_with fail
        clear q0 q3 q4 hbad
        refine (rsign_any HJ7.out.now 93 93 rfl).mono ?_
        rintro e' w8 ⟨rfl, v8, s8, hA, hG⟩
        have hE := HSt.out.join (HJ7.out.join hA)
        have hFF := HF7.out.trans hG
        go_wp2_with fail
        go_end0
        exact ⟨rfl, v8, s8, hE, by unfold mtx; rw [if_neg (by omega)]; exact hFF⟩
      · go_wp2_with fail
        refine (rmargin_at HJ.out.now hi lvl (by omega) _ rfl).mono ?_
        rintro e' w7 ⟨rfl, v7, s7, hA, hG⟩
        have HJ7 := Lib.hid (HJ.out.join hA)
        have HF7 := Lib.hid (HL.out.trans hG)
        clear hA hG q0 q3 q4 hbad
        go_wp2_with fail
        refine (rsign_any HJ7.out.now 93 93 rfl).mono ?_
        rintro e' w8 ⟨rfl, v8, s8, hA, hG⟩
        have hE := HSt.out.join (HJ7.out.join hA)
        have hFF := HF7.out.trans hG
        go_wp2_with fail
        go_end0
        exact ⟨rfl, v8, s8, hE, by unfold mtx; rw [if_pos hnpos]; exact hFF⟩
end
end Go.Proofs.YticaihfcnbehpaaGreatDoor
