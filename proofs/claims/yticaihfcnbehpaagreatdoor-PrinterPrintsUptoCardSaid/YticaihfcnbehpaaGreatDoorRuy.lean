/- The document's printer: many: objects, keys as they stand. -/
import Derived.Test.YticaihfcnbehpaaGreatDoorRud
set_option linter.unusedVariables false
set_option linter.unusedSimpArgs false
namespace Go.Proofs.YticaihfcnbehpaaGreatDoor
open Go Go.RowKit Go.Proofs
section
variable {b : Nat} {S : Sty} {w : World} {v : Value} {st : St}
set_option maxHeartbeats 20000000 in
set_option maxRecDepth 100000 in
theorem rmany_obj0 (hs : S.srt = false) (h : Rn b S w v st) (hi : S.ind ≤ 7) (w0 : World) (hb : w0.heap.size ≤ b) (h0 : Below w0.heap.size w0 w) (num : Nat) (str : ByteArray) (A A2 : Option Addr) (n c c2 lvl : Nat) (hn : n ≤ 1048576) (hlv : lvl + 1 ≤ 900000) (ys : List Txt) (hys : ys.length = n) (hyl : ∀ i (h : i < ys.length), ys[i].length ≤ 1048576) (g : Nat → List UInt8)
    (hrow : ∀ i, i < n → ∃ ad, A = some ad ∧ ∃ (kk : Int) (nn : Nat) (ss : ByteArray) (A3 : Option Addr) (n3 e3 : Nat) (A4 : Option Addr) (n4 e4 : Nat), Cells5 w0 (ad.add (i * 5)) (.int .i64 kk) (.float .f64 nn) (.string ss) (.slice A3 n3 e3) (.slice A4 n4 e4))
    (hk0 : S.srt = false → ∀ i (h : i < ys.length), ∃ ad, A2 = some ad ∧ w0.cell? (ad.add i) = some (.string ⟨ys[i].toArray⟩))
    (hk1 : S.srt = true → ∀ W, Below w0.heap.size w0 W → Calls Tryz.prog 52 #[.agg #[.int .i64 6, .float .f64 num, .string str, .slice A n c, .slice A2 n c2]] W fun e w' => ∃ v', e = .returned v' ∧ OwnG 9 1 W.heap.size w' v' ys.length (strCs ys) ∧ Below W.heap.size W w')
    (hget : ∀ i (h : i < ys.length), GetsAt w0 b S lvl n c c2 num str A A2 ys[i] (g i)) :
    Calls Tryz.prog 36 #[.pointer (some ⟨b, 0, none⟩), .agg #[.int .i64 6, .float .f64 num, .string str, .slice A n c, .slice A2 n c2], .int .i64 lvl] w (RP b S w v st (mtx S lvl (fun i => ktx S (ys.getD i []) ++ g i) [123] [125] n)) := by
  have Hs := Lib.hid hs
  clear hs
  obtain ⟨W1, hW1⟩ : ∃ W1, W1 = w.alloc (.cells #[.int .i64 6, .float .f64 num, .string str, .slice A n c, .slice A2 n c2] 27) := ⟨_, rfl⟩
  obtain ⟨hbw, e0, e1, e2, e3, e4⟩ := after_new _ _ _ _ _ _ _ _ hW1
  have hS1 : RStep b S w v W1 v st := (RStep.start h).below hbw
  have hfar : w.heap.size ≠ b ∧ v.ownBlock ≠ some w.heap.size := h.away (Nat.le_refl _)
  have K : Hid (∀ W V s, RStep b S W1 v W V s → W.cell? ⟨w.heap.size, 0, none⟩ = some (.int .i64 6) ∧ W.cell? ⟨w.heap.size, 1, none⟩ = some (.float .f64 num) ∧ W.cell? ⟨w.heap.size, 2, none⟩ = some (.string str) ∧ W.cell? ⟨w.heap.size, 3, none⟩ = some (.slice A n c) ∧ W.cell? ⟨w.heap.size, 4, none⟩ = some (.slice A2 n c2)) := Lib.hid (fun W V s hA => by
    have go : ∀ {o : Nat} {u : Value}, W1.cell? ⟨w.heap.size, o, none⟩ = some u → W.cell? ⟨w.heap.size, o, none⟩ = some u := fun hc => hA.far (a := ⟨w.heap.size, _, none⟩) hc hfar
    exact ⟨go e0, go e1, go e2, go e3, go e4⟩)
  have hB01 := hS1.below0 h hb h0
  have B0 : Hid (∀ W V s, RStep b S W1 v W V s → Below w0.heap.size w0 W) := Lib.hid (fun W V s hA => hA.below0 hS1.now hb hB01)
  have HK0 : Hid (S.srt = false → KeyFar b v W1 A2 ys) := Lib.hid (fun hs i hi => by
    obtain ⟨ad, e, hc⟩ := hk0 hs i hi
    have hl := World.block_lt_of_cell? w0 _ hc
    refine ⟨ad, e, (hB01.cell hl).trans hc, by omega, fun e2 => ?_⟩
    have := (h.own.lt _ e2).1
    omega)
  have HK1 : Hid (S.srt = true → Calls Tryz.prog 52 #[.agg #[.int .i64 6, .float .f64 num, .string str, .slice A n c, .slice A2 n c2]] W1 fun e w' => ∃ AK cK, e = .returned (.slice AK n cK) ∧ KeyFar b v w' AK ys ∧ Below W1.heap.size W1 w') := Lib.hid (fun hs => (hk1 hs W1 hB01).mono (fun e w' ⟨v', he, hO, hb'⟩ => by
    obtain ⟨AK, cK, rfl⟩ := hO.shape
    obtain ⟨_, _, h3⟩ := hO.cells rfl
    refine ⟨AK, cK, by rw [he, hys], fun i hi => ?_, hb'⟩
    obtain ⟨gk, rfl, hg, hc⟩ := h3 (by simp [strCs]; omega)
    have hl := (hO.lt _ hg).1
    obtain ⟨f1, f2⟩ := hS1.now.away hl
    refine ⟨_, rfl, ?_, by rw [add_mk]; exact f1, by rw [add_mk]; exact f2⟩
    rw [add_mk, Nat.zero_add]
    exact hc i _ (by unfold strCs; rw [List.getElem?_map, List.getElem?_eq_getElem hi]; rfl)))
  have hsrt := hS1.now.cellAt 2 (.bool S.srt) rfl
  have HG := Lib.hid hget
  have HR := Lib.hid hrow
  have HY := Lib.hid hyl
  have HN := Lib.hid hys
  have HW1 := Lib.hid hW1
  have HSt := Lib.hid hS1
  have HSt1 := Lib.hid (RStep.start hS1.now)
  obtain ⟨f, hf⟩ : ∃ f : Nat → List UInt8, f = fun i => ktx S (ys.getD i []) ++ g i := ⟨_, rfl⟩
  rw [← hf]
  have HF := Lib.hid hf
  obtain ⟨q0, q1, q2, q3, q4⟩ := K.out W1 v st HSt1.out
  clear hf hW1 hrow hget hk0 hk1 hyl hys hS1 hb h0 hfar e0 e1 e2 e3 e4 hbw hB01 h
  go_enter Tryz.func36, Tryz.ntmps36
  go_upto_region 2 with fail
  rw [← HW1.out]
  have hs := Hs.out
  rw [hs] at hsrt
  have HKF0 := Lib.hid (HK0.out hs)
  clear HK0 HK1 hs
  go_wp2_with fail
  obtain ⟨AK, hAK⟩ : ∃ AK, AK = A2 := ⟨_, rfl⟩
  obtain ⟨cK, hcK⟩ : ∃ cK, cK = c2 := ⟨_, rfl⟩
  obtain ⟨w2, hw2⟩ : ∃ w2, w2 = W1 := ⟨_, rfl⟩
  have HKF : Hid (KeyFar b v w2 AK ys) := Lib.hid (by rw [hAK, hw2]; exact HKF0.out)
  have HJ1 : Hid (RStep b S W1 v w2 v st) := Lib.hid (by rw [hw2]; exact HSt1.out)
  clear HKF0
  rw [← hw2, ← hAK, ← hcK]
  clear hw2 hAK hcK
  clear q0 q1 q2 q3 q4 hsrt
  refine (rsign_any HJ1.out.now 123 123 rfl).mono ?_
  rintro e' w3 ⟨rfl, v3, s3, hA, hFr⟩
  have HJ := Lib.hid (HJ1.out.join hA)
  have HK := Lib.hid (HKF.out.step hA)
  have HF0 : Hid (Fr st s3 (tokT S [123] sgn ++ jtx S lvl f 0 0)) := Lib.hid (by rw [show jtx S lvl f 0 0 = [] from rfl, List.append_nil]; exact hFr)
  clear hA hFr HKF HJ1
  go_wp2_with fail
  go_loopw [9] (fun i wr => ∃ (k : Nat) (vk : Value) (sk : St), k ≤ n ∧ i = .int .i64 k ∧ Hid (RStep b S W1 v wr vk sk) ∧ Hid (KeyFar b vk wr AK ys) ∧ Hid (Fr st sk (tokT S [123] sgn ++ jtx S lvl f k 0))) (fun i _ => n - (intOf i).toNat)
  case atStart => exact ⟨0, v3, s3, Nat.zero_le _, rfl, HJ, HK, HF0⟩
  case round =>
    clear HJ HF0 HK
    obtain ⟨k, vk, sk, hk, rfl, HJ, HK, HFr⟩ := hrel
    obtain ⟨q0, q1, q2, q3, q4⟩ := K.out wr vk sk HJ.out
    have hbad := HJ.out.now.cellAt 6 (.bool sk.2) rfl
    have leave : k = n ∨ sk.2 = true → Hid (Fr st sk (tokT S [123] sgn ++ jtx S lvl f n 0)) := fun hh => Lib.hid (by
      rcases hh with rfl | hs
      · exact HFr.out
      · have := HFr.out.more hs (jtx S lvl f (n - k) (0 + k))
        rw [List.append_assoc, ← jtx_split, show k + (n - k) = n by omega] at this
        exact this)
    rcases Nat.lt_or_ge k n with hlt | hge
    · cases hs : sk.2 with
      | true =>
        rw [hs] at hbad
        have HL := leave (.inr hs)
        have hnpos : 0 < n := by omega
        clear leave hs HFr
        go_wp2_with fail
        refine (rmargin_at HJ.out.now hi lvl (by omega) _ rfl).mono ?_
        rintro e' w7 ⟨rfl, v7, s7, hA, hG⟩
        have HJ7 := Lib.hid (HJ.out.join hA)
        have HF7 := Lib.hid (HL.out.trans hG)
        clear hA hG q0 q1 q2 q3 q4 hbad
        go_wp2_with fail
        refine (rsign_any HJ7.out.now 125 125 rfl).mono ?_
        rintro e' w8 ⟨rfl, v8, s8, hA, hG⟩
        have hE := HSt.out.join (HJ7.out.join hA)
        have hFF := HF7.out.trans hG
        go_wp2_with fail
        go_end0
        exact ⟨rfl, v8, s8, hE, by unfold mtx; rw [if_pos hnpos]; exact hFF⟩
      | false =>
        rw [hs] at hbad
        clear leave hs
        obtain ⟨ad, rfl, kk, nn, ss, A3, n3, e3, A4, n4, e4, hc5⟩ := HR.out k hlt
        have HC5 := Lib.hid hc5
        have hky : k < ys.length := by have := HN.out; omega
        have HG5 := Lib.hid (HG.out k hky)
        obtain ⟨y, hy⟩ : ∃ y, y = ys[k] := ⟨_, rfl⟩
        rw [← hy] at HG5
        have hyl : y.length ≤ 1048576 := by rw [hy]; exact HY.out k hky
        have HFk : Hid (f k = ktx S y ++ g k) := Lib.hid (by rw [HF.out]; show ktx S (ys.getD k []) ++ g k = _; rw [List.getD_eq_getElem?_getD, List.getElem?_eq_getElem hky, hy]; rfl)
        have Hy := Lib.hid hy
        clear hc5 hy
        have HRj : Hid (jtx S lvl f (k + 1) 0 = jtx S lvl f k 0 ++ ((if 0 < k then tokT S [44] sgn else []) ++ ltx S (lvl + 1) ++ f k)) := Lib.hid (by rw [jtx_snoc, Nat.zero_add])
        by_cases hk0 : 0 < k
        · have HR2 : Hid (jtx S lvl f (k + 1) 0 = jtx S lvl f k 0 ++ (tokT S [44] sgn ++ ltx S (lvl + 1) ++ f k)) := Lib.hid (by rw [HRj.out, if_pos hk0])
          have tz : decide ((0 : Int) < (k : Int)) = true := decide_eq_true (by omega)
          have tz2 : decide (0 < k) = true := decide_eq_true (by omega)
          clear HRj
          go_wp2_with fail
          refine (rsign_any HJ.out.now 44 44 rfl).mono ?_
          rintro e' w3 ⟨rfl, v3, s3, hA, hG⟩
          have HJ3 := Lib.hid (HJ.out.join hA)
          have HK3 := Lib.hid (HK.out.step hA)
          have HF3 := Lib.hid (HFr.out.trans hG)
          clear hA hG q0 q1 q2 q3 q4 hbad tz tz2
          go_wp2_with fail
          refine (rmargin_at HJ3.out.now hi (lvl + 1) (by omega) _ (by first | omega | (rw [IntKind.wrap_i64]; omega))).mono ?_
          rintro e' w4 ⟨rfl, v4, s4, hA, hG⟩
          have HJ4 := Lib.hid (HJ3.out.join hA)
          have HK4 := Lib.hid (HK3.out.step hA)
          have HF4 := Lib.hid (HF3.out.trans hG)
          clear hA hG
          obtain ⟨q0, q1, q2, q3, q4⟩ := K.out w4 v4 s4 HJ4.out
          have hb04 := B0.out w4 v4 s4 HJ4.out
          obtain ⟨g0, g1, g2, g3, g4⟩ := HC5.out.below hb04
          have Hb04 := Lib.hid hb04
          obtain ⟨adk, rfl, hkc, hkn⟩ := HK4.out k hky
          rw [← Hy.out] at hkc
          have Hkn := Lib.hid hkn
          have q0' := Lib.hid (World.block_lt_of_cell? w4 _ q0)
          have qk' := Lib.hid (World.block_lt_of_cell? w4 _ hkc)
          have away4 := Lib.hid (HJ4.out.now.away (Nat.le_refl _))
          have HQ := Lib.hid (And.intro q0 (And.intro q1 (And.intro q2 (And.intro q3 (And.intro q4 hkc)))))
          clear hb04 hkn
          go_wp2_with (refine wpList_store_row rfl 27 (.tmp 10) (.tmp 52) rfl _ #[.int .i64 kk, .float .f64 nn, .string ss, .slice A3 n3 e3, .slice A4 n4 e4] rfl rfl 27 #[.int .i64 0, .float .f64 0, .string ⟨#[]⟩, .slice none 0 0, .slice none 0 0] (heap_alloc_new _ _) (by kernel_rfl) rfl (one5 kk nn ss A3 A4 n3 e3 n4 e4) ?_; rw [setRow_new]; obtain ⟨W5, hW5⟩ : ∃ W5, W5 = World.alloc w4 (.cells #[.int .i64 kk, .float .f64 nn, .string ss, .slice A3 n3 e3, .slice A4 n4 e4] 27) := ⟨_, rfl⟩; rw [← hW5]; have hz5 : W5.heap[w4.heap.size]? = some (.cells #[.int .i64 kk, .float .f64 nn, .string ss, .slice A3 n3 e3, .slice A4 n4 e4] 27 (0, 0)) := (by rw [hW5]; exact heap_alloc_new _ _); have A5 := after_new _ _ _ _ _ _ _ _ hW5; clear hW5; obtain ⟨hb5, x0, x1, x2, x3, x4⟩ := A5; clear x0 x1 x2 x3 x4; have Hz5 := Lib.hid hz5; have Hb5 := Lib.hid hb5; clear hz5 g0 g1 g2 g3 g4 q0 q1 q2 q3 q4 hkc; have p0 := (Hb5.out.cell (World.block_lt_of_cell? _ _ HQ.out.1)).trans HQ.out.1; clear hb5)
          have K16 : Hid (∀ W, Keep (fun b' => b' = w4.heap.size) W5 W → W.cell? ⟨w.heap.size, 0, none⟩ = some (.int .i64 6) ∧ W.cell? ⟨w.heap.size, 1, none⟩ = some (.float .f64 num) ∧ W.cell? ⟨w.heap.size, 2, none⟩ = some (.string str) ∧ W.cell? ⟨w.heap.size, 3, none⟩ = some (.slice (some ad) n c) ∧ W.cell? ⟨w.heap.size, 4, none⟩ = some (.slice A2 n c2) ∧ W.cell? (adk.add k) = some (.string ⟨y.toArray⟩)) := Lib.hid (fun W hW => by
            have go : ∀ {q : Addr} {u : Value}, q.block < w4.heap.size → w4.cell? q = some u → W.cell? q = some u := fun hq hc => by
              have h5 := (Hb5.out.cell hq).trans hc
              exact (World.cell?_of_block (hW.block _ (Nat.lt_of_lt_of_le hq Hb5.out.size) (by omega))).trans h5
            obtain ⟨c0, c1, c2', c3, c4, ck⟩ := HQ.out
            exact ⟨go q0'.out c0, go q0'.out c1, go q0'.out c2', go q0'.out c3, go q0'.out c4, go qk'.out ck⟩)
          have hsf := run_store_float
          obtain ⟨r0, r1, r2, r3, r4, r5⟩ := K16.out _ (Keep.of_below (Below.refl _ W5).drew)
          have Kh := Lib.hid K16
          clear p0 K16
          go_region_with
            (first | (go_at_call 55; refine (HG5.out _ (by first | exact Hb04.out.trans (Hb5.out.mono Hb04.out.size) | exact (Hb04.out.trans (Hb5.out.mono Hb04.out.size)).drew)).mono ?_; rintro e' w6 ⟨k6, n6, t6, C3, l3, h3, C4, l4, h4, rfl, hb6, hV6⟩; have hbx : Below W5.heap.size W5 w6 := Below.also (by first | exact Below.refl _ _ | exact (Below.refl _ _).drew) hb6; have hH := hlBelow hbx Hz5.out; have z0 := Go.Proofs.YticaihfcnbehpaaGreatDoor.cell_of_heap (j := 0) hH rfl; have z1 := Go.Proofs.YticaihfcnbehpaaGreatDoor.cell_of_heap (j := 1) hH rfl; have z2 := Go.Proofs.YticaihfcnbehpaaGreatDoor.cell_of_heap (j := 2) hH rfl; have z3 := Go.Proofs.YticaihfcnbehpaaGreatDoor.cell_of_heap (j := 3) hH rfl; have z4 := Go.Proofs.YticaihfcnbehpaaGreatDoor.cell_of_heap (j := 4) hH rfl; have f0 := Go.Proofs.YticaihfcnbehpaaGreatDoor.frozen_of_heap 0 hH; have f1 := Go.Proofs.YticaihfcnbehpaaGreatDoor.frozen_of_heap 1 hH; have f2 := Go.Proofs.YticaihfcnbehpaaGreatDoor.frozen_of_heap 2 hH; have f3 := Go.Proofs.YticaihfcnbehpaaGreatDoor.frozen_of_heap 3 hH; have f4 := Go.Proofs.YticaihfcnbehpaaGreatDoor.frozen_of_heap 4 hH; have HH := Lib.hid hH; have HV := Lib.hid hV6; clear hH hV6 hb6) | (fail))
          all_goals
            obtain ⟨W7, hW7⟩ : ∃ W7, W7 = (((((w6.setCell ⟨w4.heap.size, 0, none⟩ (.int .i64 k6)).setCell ⟨w4.heap.size, 1, none⟩ (.float .f64 n6)).setCell ⟨w4.heap.size, 2, none⟩ (.string t6)).setCell ⟨w4.heap.size, 3, none⟩ (.slice C3 l3 h3)).setCell ⟨w4.heap.size, 4, none⟩ (.slice C4 l4 h4)) := ⟨_, rfl⟩
            rw [← hW7]
            have hb47 : Below w4.heap.size w4 W7 := by rw [hW7]; exact below_set5 (Hb5.out.trans (hbx.mono Hb5.out.size)) (Nat.le_refl _)
            have hz7 : W7.heap[w4.heap.size]? = some (.cells #[.int .i64 k6, .float .f64 n6, .string t6, .slice C3 l3 h3, .slice C4 l4 h4] 27 (0, 0)) := by rw [hW7]; exact set5 HH.out
            have HJ7 := Lib.hid (HJ4.out.below hb47)
            have HK7 := Lib.hid (HK4.out.below hb47)
            have hkc7 : W7.cell? (adk.add k) = some (.string ⟨y.toArray⟩) := (hb47.cell qk'.out).trans HQ.out.2.2.2.2.2
            have hasc := HJ7.out.now.cellAt 3 (.bool S.asc) rfl
            have XC : Hid (∀ W V s, RStep b S W7 v4 W V s → W.cell? ⟨w4.heap.size, 0, none⟩ = some (.int .i64 k6) ∧ W.cell? ⟨w4.heap.size, 1, none⟩ = some (.float .f64 n6) ∧ W.cell? ⟨w4.heap.size, 2, none⟩ = some (.string t6) ∧ W.cell? ⟨w4.heap.size, 3, none⟩ = some (.slice C3 l3 h3) ∧ W.cell? ⟨w4.heap.size, 4, none⟩ = some (.slice C4 l4 h4)) := Lib.hid (fun W V s hr =>
              ⟨hr.far (a := ⟨w4.heap.size, 0, none⟩) (Go.Proofs.YticaihfcnbehpaaGreatDoor.cell_of_heap (j := 0) hz7 rfl) away4.out, hr.far (a := ⟨w4.heap.size, 1, none⟩) (Go.Proofs.YticaihfcnbehpaaGreatDoor.cell_of_heap (j := 1) hz7 rfl) away4.out, hr.far (a := ⟨w4.heap.size, 2, none⟩) (Go.Proofs.YticaihfcnbehpaaGreatDoor.cell_of_heap (j := 2) hz7 rfl) away4.out, hr.far (a := ⟨w4.heap.size, 3, none⟩) (Go.Proofs.YticaihfcnbehpaaGreatDoor.cell_of_heap (j := 3) hz7 rfl) away4.out, hr.far (a := ⟨w4.heap.size, 4, none⟩) (Go.Proofs.YticaihfcnbehpaaGreatDoor.cell_of_heap (j := 4) hz7 rfl) away4.out⟩)
            have K17 : Hid (∀ W, Below W7.heap.size W7 W → W.cell? (adk.add k) = some (.string ⟨y.toArray⟩) ∧ W.cell? ⟨b, 3, none⟩ = some (.bool S.asc)) := Lib.hid (fun W hW => ⟨(hW.cell (World.block_lt_of_cell? W7 _ hkc7)).trans hkc7, (hW.cell (World.block_lt_of_cell? W7 _ hasc)).trans hasc⟩)
            have KR17 : Hid (∀ W wt vt stt, Below W7.heap.size W7 W → RStep b S W v4 wt vt stt → wt.cell? (adk.add k) = some (.string ⟨y.toArray⟩) ∧ wt.cell? ⟨b, 3, none⟩ = some (.bool S.asc)) := Lib.hid (fun W wt vt stt hW hr => ⟨hr.far (K17.out W hW).1 Hkn.out, hr.now.cellAt 3 (.bool S.asc) rfl⟩)
            have HE17 : Hid (∀ W, Below W7.heap.size W7 W → Calls Tryz.prog 38 #[.string ⟨y.toArray⟩, .bool S.asc] W fun e w' => ∃ v', e = .returned v' ∧ Byt b w' v4 v' (escT y S.asc) ∧ Below W.heap.size W w') := Lib.hid (fun W hW => (refEscape_any W y S.asc (by omega)).mono (fun e w' ⟨v', he, hA⟩ => ⟨v', he, Byt.own (HJ7.out.now.below hW) hA, hA.fresh⟩))
            have hlen : (escT y S.asc).length ≤ 900000000 := escT_length y S.asc hyl
            have HTok17 : Hid (∀ W yv, Below W7.heap.size W7 W → Byt b W v4 yv (escT y S.asc) → Calls Tryz.prog 37 #[.pointer (some ⟨b, 0, none⟩), yv, .string ⟨#[51, 52, 59, 49]⟩] W (RP b S W v4 s4 (tokT S (escT y S.asc) [51, 52, 59, 49]))) := Lib.hid (fun W yv hW hy2 => rtoken_any (HJ7.out.now.below hW) yv _ [51, 52, 59, 49] hy2 hlen (by decide))
            have HS7 := Lib.hid (RStep.start HJ7.out.now)
            have hx : Below W7.heap.size W7 W7 := Below.refl _ _
            clear hW7 hb47 hz7 hkc7 hasc hlen hbx hsf HH z0 z1 z2 z3 z4 f0 f1 f2 f3 f4 r0 r1 r2 r3 r4 r5
            go_wp2_with fail
            go_region_held3 (fun W => W.cell? (adk.add k) = some (.string ⟨y.toArray⟩) ∧ W.cell? ⟨b, 3, none⟩ = some (.bool S.asc))
              ((first | with_reducible exact KR17.out _ _ _ _ hx hA | (refine K17.out _ ?_; first | with_reducible exact hx | with_reducible exact hx.drew)))
              (first | (go_at_call 38; refine (HE17.out _ (by first | exact hx | exact hx.drew)).mono ?_; rintro e' we ⟨ve, rfl, hBy, hbe⟩; have hx := Below.also (by first | exact hx | exact hx.drew) hbe; clear hbe) | (go_at_call 37; refine (HTok17.out _ _ hx (by assumption)).mono ?_; rintro e' wt ⟨rfl, vt, stt, hA, hG⟩; have hE := (HS7.out.below hx).join hA))
            all_goals
              have RX8 := Lib.hid hE
              have HF8 := Lib.hid (HF4.out.trans hG)
              clear hE hA hG
              go_wp2_with fail
              refine (rsign_any RX8.out.now 58 58 rfl).mono ?_
              rintro e' w9 ⟨rfl, v9, s9, hA, hG⟩
              have RX9 := Lib.hid (RX8.out.join hA)
              have HF9 := Lib.hid (HF8.out.trans hG)
              have c0 := RX9.out.now.cellAt 0 (.int .i64 S.ind) rfl
              have c1 := RX9.out.now.cellAt 1 (.bool S.tab) rfl
              clear hA hG hx hBy
              by_cases hi0 : 0 < S.ind
              · have d1 : decide ((0 : Int) < (S.ind : Int)) = true := decide_eq_true (by omega)
                have d2 : decide (0 < S.ind) = true := decide_eq_true hi0
                have hl : S.loose = true := by unfold Sty.loose; rw [d2, Bool.or_true]
                have RB := Lib.hid (RX9.out.below ((Below.refl _ _).alloc (Nat.le_refl _) (.cells #[.int .u8 32] 5)))
                have HP := Lib.hid (rput_rp RB.out.now (.slice (some ⟨w9.heap.size, 0, none⟩) 1 1) [32] (Byt.new RX9.out.now #[.int .u8 32] [32] 1 1 rfl rfl) (by simp))
                have hx0 := (XC.out _ _ _ RX9.out).1
                clear hx0
                go_wp2_with fail
                refine HP.out.mono ?_
                rintro e' wp ⟨rfl, vp, sp, hA, hG⟩
                have RX := Lib.hid (RB.out.join hA)
                have FX : Hid (Fr st sp ((((tokT S [123] sgn ++ jtx S lvl f k 0) ++ tokT S [44] sgn) ++ ltx S (lvl + 1)) ++ ktx S y)) := Lib.hid (by
                  have := HF9.out.trans hG
                  unfold ktx
                  rw [if_pos hl]
                  simpa only [List.append_assoc] using this)
                clear hA hG c0 c1 d1 d2 RB HP
                obtain ⟨x0, x1, x2, x3, x4⟩ := XC.out _ _ _ RX.out
                go_wp2_with fail
                refine (HV.out _ _ _ _ (by first | omega | (rw [IntKind.wrap_i64]; omega)) (B0.out _ _ _ (HJ7.out.join RX.out)) RX.out.now).mono ?_
                rintro e' wv ⟨rfl, vv, sv, hA, hG⟩
                have HJe := Lib.hid (HJ7.out.join (RX.out.join hA))
                have HKe := Lib.hid ((HK7.out.step RX.out).step hA)
                have HFe : Hid (Fr st sv (tokT S [123] sgn ++ jtx S lvl f (k + 1) 0)) := Lib.hid (by
                  have := FX.out.trans hG
                  rw [HR2.out, HFk.out]
                  simpa only [List.append_assoc, List.append_nil, List.nil_append] using this)
                clear hA hG x0 x1 x2 x3 x4
                go_wp2_with fail
                all_goals go_roundw
                case rel => exact ⟨k + 1, vv, sv, by omega, by go_num, HJe, HKe, HFe⟩
                case measure => simp [intOf]; omega
              · have d1 : decide ((0 : Int) < (S.ind : Int)) = false := decide_eq_false (by omega)
                have d2 : decide (0 < S.ind) = false := decide_eq_false hi0
                cases ht : S.tab with
                | true =>
                  have hl : S.loose = true := by unfold Sty.loose; rw [ht, Bool.true_or]
                  rw [ht] at c1
                  have RB := Lib.hid (RX9.out.below ((Below.refl _ _).alloc (Nat.le_refl _) (.cells #[.int .u8 32] 5)))
                  have HP := Lib.hid (rput_rp RB.out.now (.slice (some ⟨w9.heap.size, 0, none⟩) 1 1) [32] (Byt.new RX9.out.now #[.int .u8 32] [32] 1 1 rfl rfl) (by simp))
                  have hx0 := (XC.out _ _ _ RX9.out).1
                  clear hx0
                  go_wp2_with fail
                  refine HP.out.mono ?_
                  rintro e' wp ⟨rfl, vp, sp, hA, hG⟩
                  have RX := Lib.hid (RB.out.join hA)
                  have FX : Hid (Fr st sp ((((tokT S [123] sgn ++ jtx S lvl f k 0) ++ tokT S [44] sgn) ++ ltx S (lvl + 1)) ++ ktx S y)) := Lib.hid (by
                    have := HF9.out.trans hG
                    unfold ktx
                    rw [if_pos hl]
                    simpa only [List.append_assoc] using this)
                  clear hA hG c0 c1 d1 d2 RB HP
                  obtain ⟨x0, x1, x2, x3, x4⟩ := XC.out _ _ _ RX.out
                  go_wp2_with fail
                  refine (HV.out _ _ _ _ (by first | omega | (rw [IntKind.wrap_i64]; omega)) (B0.out _ _ _ (HJ7.out.join RX.out)) RX.out.now).mono ?_
                  rintro e' wv ⟨rfl, vv, sv, hA, hG⟩
                  have HJe := Lib.hid (HJ7.out.join (RX.out.join hA))
                  have HKe := Lib.hid ((HK7.out.step RX.out).step hA)
                  have HFe : Hid (Fr st sv (tokT S [123] sgn ++ jtx S lvl f (k + 1) 0)) := Lib.hid (by
                    have := FX.out.trans hG
                    rw [HR2.out, HFk.out]
                    simpa only [List.append_assoc, List.append_nil, List.nil_append] using this)
                  clear hA hG x0 x1 x2 x3 x4
                  go_wp2_with fail
                  all_goals go_roundw
                  case rel => exact ⟨k + 1, vv, sv, by omega, by go_num, HJe, HKe, HFe⟩
                  case measure => simp [intOf]; omega
                | false =>
                  have hl : ¬ S.loose = true := by unfold Sty.loose; rw [ht, d2]; decide
                  rw [ht] at c1
                  have RX := RX9
                  have FX : Hid (Fr st s9 ((((tokT S [123] sgn ++ jtx S lvl f k 0) ++ tokT S [44] sgn) ++ ltx S (lvl + 1)) ++ ktx S y)) := Lib.hid (by
                    have := HF9.out
                    unfold ktx
                    rw [if_neg hl, List.append_nil]
                    simpa only [List.append_assoc] using this)
                  obtain ⟨x0, x1, x2, x3, x4⟩ := XC.out _ _ _ RX.out
                  go_wp2_with fail
                  refine (HV.out _ _ _ _ (by first | omega | (rw [IntKind.wrap_i64]; omega)) (B0.out _ _ _ (HJ7.out.join RX.out)) RX.out.now).mono ?_
                  rintro e' wv ⟨rfl, vv, sv, hA, hG⟩
                  have HJe := Lib.hid (HJ7.out.join (RX.out.join hA))
                  have HKe := Lib.hid ((HK7.out.step RX.out).step hA)
                  have HFe : Hid (Fr st sv (tokT S [123] sgn ++ jtx S lvl f (k + 1) 0)) := Lib.hid (by
                    have := FX.out.trans hG
                    rw [HR2.out, HFk.out]
                    simpa only [List.append_assoc, List.append_nil, List.nil_append] using this)
                  clear hA hG x0 x1 x2 x3 x4
                  go_wp2_with fail
                  all_goals go_roundw
                  case rel => exact ⟨k + 1, vv, sv, by omega, by go_num, HJe, HKe, HFe⟩
                  case measure => simp [intOf]; omega
        · have HR2 : Hid (jtx S lvl f (k + 1) 0 = jtx S lvl f k 0 ++ (ltx S (lvl + 1) ++ f k)) := Lib.hid (by rw [HRj.out, if_neg hk0, List.nil_append])
          have tz : decide ((0 : Int) < (k : Int)) = false := decide_eq_false (by omega)
          have tz2 : decide (0 < k) = false := decide_eq_false (by omega)
          have HJ3 := HJ
          have HK3 := HK
          have HF3 := HFr
          clear HRj HJ HFr HK
          go_wp2_with fail
          clear q0 q1 q2 q3 q4 hbad tz tz2
          refine (rmargin_at HJ3.out.now hi (lvl + 1) (by omega) _ (by first | omega | (rw [IntKind.wrap_i64]; omega))).mono ?_
          rintro e' w4 ⟨rfl, v4, s4, hA, hG⟩
          have HJ4 := Lib.hid (HJ3.out.join hA)
          have HK4 := Lib.hid (HK3.out.step hA)
          have HF4 := Lib.hid (HF3.out.trans hG)
          clear hA hG
          obtain ⟨q0, q1, q2, q3, q4⟩ := K.out w4 v4 s4 HJ4.out
          have hb04 := B0.out w4 v4 s4 HJ4.out
          obtain ⟨g0, g1, g2, g3, g4⟩ := HC5.out.below hb04
          have Hb04 := Lib.hid hb04
          obtain ⟨adk, rfl, hkc, hkn⟩ := HK4.out k hky
          rw [← Hy.out] at hkc
          have Hkn := Lib.hid hkn
          have q0' := Lib.hid (World.block_lt_of_cell? w4 _ q0)
          have qk' := Lib.hid (World.block_lt_of_cell? w4 _ hkc)
          have away4 := Lib.hid (HJ4.out.now.away (Nat.le_refl _))
          have HQ := Lib.hid (And.intro q0 (And.intro q1 (And.intro q2 (And.intro q3 (And.intro q4 hkc)))))
          clear hb04 hkn
          go_wp2_with (refine wpList_store_row rfl 27 (.tmp 10) (.tmp 52) rfl _ #[.int .i64 kk, .float .f64 nn, .string ss, .slice A3 n3 e3, .slice A4 n4 e4] rfl rfl 27 #[.int .i64 0, .float .f64 0, .string ⟨#[]⟩, .slice none 0 0, .slice none 0 0] (heap_alloc_new _ _) (by kernel_rfl) rfl (one5 kk nn ss A3 A4 n3 e3 n4 e4) ?_; rw [setRow_new]; obtain ⟨W5, hW5⟩ : ∃ W5, W5 = World.alloc w4 (.cells #[.int .i64 kk, .float .f64 nn, .string ss, .slice A3 n3 e3, .slice A4 n4 e4] 27) := ⟨_, rfl⟩; rw [← hW5]; have hz5 : W5.heap[w4.heap.size]? = some (.cells #[.int .i64 kk, .float .f64 nn, .string ss, .slice A3 n3 e3, .slice A4 n4 e4] 27 (0, 0)) := (by rw [hW5]; exact heap_alloc_new _ _); have A5 := after_new _ _ _ _ _ _ _ _ hW5; clear hW5; obtain ⟨hb5, x0, x1, x2, x3, x4⟩ := A5; clear x0 x1 x2 x3 x4; have Hz5 := Lib.hid hz5; have Hb5 := Lib.hid hb5; clear hz5 g0 g1 g2 g3 g4 q0 q1 q2 q3 q4 hkc; have p0 := (Hb5.out.cell (World.block_lt_of_cell? _ _ HQ.out.1)).trans HQ.out.1; clear hb5)
          have K16 : Hid (∀ W, Keep (fun b' => b' = w4.heap.size) W5 W → W.cell? ⟨w.heap.size, 0, none⟩ = some (.int .i64 6) ∧ W.cell? ⟨w.heap.size, 1, none⟩ = some (.float .f64 num) ∧ W.cell? ⟨w.heap.size, 2, none⟩ = some (.string str) ∧ W.cell? ⟨w.heap.size, 3, none⟩ = some (.slice (some ad) n c) ∧ W.cell? ⟨w.heap.size, 4, none⟩ = some (.slice A2 n c2) ∧ W.cell? (adk.add k) = some (.string ⟨y.toArray⟩)) := Lib.hid (fun W hW => by
            have go : ∀ {q : Addr} {u : Value}, q.block < w4.heap.size → w4.cell? q = some u → W.cell? q = some u := fun hq hc => by
              have h5 := (Hb5.out.cell hq).trans hc
              exact (World.cell?_of_block (hW.block _ (Nat.lt_of_lt_of_le hq Hb5.out.size) (by omega))).trans h5
            obtain ⟨c0, c1, c2', c3, c4, ck⟩ := HQ.out
            exact ⟨go q0'.out c0, go q0'.out c1, go q0'.out c2', go q0'.out c3, go q0'.out c4, go qk'.out ck⟩)
          have hsf := run_store_float
          obtain ⟨r0, r1, r2, r3, r4, r5⟩ := K16.out _ (Keep.of_below (Below.refl _ W5).drew)
          have Kh := Lib.hid K16
          clear p0 K16
          go_region_with
            (first | (go_at_call 55; refine (HG5.out _ (by first | exact Hb04.out.trans (Hb5.out.mono Hb04.out.size) | exact (Hb04.out.trans (Hb5.out.mono Hb04.out.size)).drew)).mono ?_; rintro e' w6 ⟨k6, n6, t6, C3, l3, h3, C4, l4, h4, rfl, hb6, hV6⟩; have hbx : Below W5.heap.size W5 w6 := Below.also (by first | exact Below.refl _ _ | exact (Below.refl _ _).drew) hb6; have hH := hlBelow hbx Hz5.out; have z0 := Go.Proofs.YticaihfcnbehpaaGreatDoor.cell_of_heap (j := 0) hH rfl; have z1 := Go.Proofs.YticaihfcnbehpaaGreatDoor.cell_of_heap (j := 1) hH rfl; have z2 := Go.Proofs.YticaihfcnbehpaaGreatDoor.cell_of_heap (j := 2) hH rfl; have z3 := Go.Proofs.YticaihfcnbehpaaGreatDoor.cell_of_heap (j := 3) hH rfl; have z4 := Go.Proofs.YticaihfcnbehpaaGreatDoor.cell_of_heap (j := 4) hH rfl; have f0 := Go.Proofs.YticaihfcnbehpaaGreatDoor.frozen_of_heap 0 hH; have f1 := Go.Proofs.YticaihfcnbehpaaGreatDoor.frozen_of_heap 1 hH; have f2 := Go.Proofs.YticaihfcnbehpaaGreatDoor.frozen_of_heap 2 hH; have f3 := Go.Proofs.YticaihfcnbehpaaGreatDoor.frozen_of_heap 3 hH; have f4 := Go.Proofs.YticaihfcnbehpaaGreatDoor.frozen_of_heap 4 hH; have HH := Lib.hid hH; have HV := Lib.hid hV6; clear hH hV6 hb6) | (fail))
          all_goals
            obtain ⟨W7, hW7⟩ : ∃ W7, W7 = (((((w6.setCell ⟨w4.heap.size, 0, none⟩ (.int .i64 k6)).setCell ⟨w4.heap.size, 1, none⟩ (.float .f64 n6)).setCell ⟨w4.heap.size, 2, none⟩ (.string t6)).setCell ⟨w4.heap.size, 3, none⟩ (.slice C3 l3 h3)).setCell ⟨w4.heap.size, 4, none⟩ (.slice C4 l4 h4)) := ⟨_, rfl⟩
            rw [← hW7]
            have hb47 : Below w4.heap.size w4 W7 := by rw [hW7]; exact below_set5 (Hb5.out.trans (hbx.mono Hb5.out.size)) (Nat.le_refl _)
            have hz7 : W7.heap[w4.heap.size]? = some (.cells #[.int .i64 k6, .float .f64 n6, .string t6, .slice C3 l3 h3, .slice C4 l4 h4] 27 (0, 0)) := by rw [hW7]; exact set5 HH.out
            have HJ7 := Lib.hid (HJ4.out.below hb47)
            have HK7 := Lib.hid (HK4.out.below hb47)
            have hkc7 : W7.cell? (adk.add k) = some (.string ⟨y.toArray⟩) := (hb47.cell qk'.out).trans HQ.out.2.2.2.2.2
            have hasc := HJ7.out.now.cellAt 3 (.bool S.asc) rfl
            have XC : Hid (∀ W V s, RStep b S W7 v4 W V s → W.cell? ⟨w4.heap.size, 0, none⟩ = some (.int .i64 k6) ∧ W.cell? ⟨w4.heap.size, 1, none⟩ = some (.float .f64 n6) ∧ W.cell? ⟨w4.heap.size, 2, none⟩ = some (.string t6) ∧ W.cell? ⟨w4.heap.size, 3, none⟩ = some (.slice C3 l3 h3) ∧ W.cell? ⟨w4.heap.size, 4, none⟩ = some (.slice C4 l4 h4)) := Lib.hid (fun W V s hr =>
              ⟨hr.far (a := ⟨w4.heap.size, 0, none⟩) (Go.Proofs.YticaihfcnbehpaaGreatDoor.cell_of_heap (j := 0) hz7 rfl) away4.out, hr.far (a := ⟨w4.heap.size, 1, none⟩) (Go.Proofs.YticaihfcnbehpaaGreatDoor.cell_of_heap (j := 1) hz7 rfl) away4.out, hr.far (a := ⟨w4.heap.size, 2, none⟩) (Go.Proofs.YticaihfcnbehpaaGreatDoor.cell_of_heap (j := 2) hz7 rfl) away4.out, hr.far (a := ⟨w4.heap.size, 3, none⟩) (Go.Proofs.YticaihfcnbehpaaGreatDoor.cell_of_heap (j := 3) hz7 rfl) away4.out, hr.far (a := ⟨w4.heap.size, 4, none⟩) (Go.Proofs.YticaihfcnbehpaaGreatDoor.cell_of_heap (j := 4) hz7 rfl) away4.out⟩)
            have K17 : Hid (∀ W, Below W7.heap.size W7 W → W.cell? (adk.add k) = some (.string ⟨y.toArray⟩) ∧ W.cell? ⟨b, 3, none⟩ = some (.bool S.asc)) := Lib.hid (fun W hW => ⟨(hW.cell (World.block_lt_of_cell? W7 _ hkc7)).trans hkc7, (hW.cell (World.block_lt_of_cell? W7 _ hasc)).trans hasc⟩)
            have KR17 : Hid (∀ W wt vt stt, Below W7.heap.size W7 W → RStep b S W v4 wt vt stt → wt.cell? (adk.add k) = some (.string ⟨y.toArray⟩) ∧ wt.cell? ⟨b, 3, none⟩ = some (.bool S.asc)) := Lib.hid (fun W wt vt stt hW hr => ⟨hr.far (K17.out W hW).1 Hkn.out, hr.now.cellAt 3 (.bool S.asc) rfl⟩)
            have HE17 : Hid (∀ W, Below W7.heap.size W7 W → Calls Tryz.prog 38 #[.string ⟨y.toArray⟩, .bool S.asc] W fun e w' => ∃ v', e = .returned v' ∧ Byt b w' v4 v' (escT y S.asc) ∧ Below W.heap.size W w') := Lib.hid (fun W hW => (refEscape_any W y S.asc (by omega)).mono (fun e w' ⟨v', he, hA⟩ => ⟨v', he, Byt.own (HJ7.out.now.below hW) hA, hA.fresh⟩))
            have hlen : (escT y S.asc).length ≤ 900000000 := escT_length y S.asc hyl
            have HTok17 : Hid (∀ W yv, Below W7.heap.size W7 W → Byt b W v4 yv (escT y S.asc) → Calls Tryz.prog 37 #[.pointer (some ⟨b, 0, none⟩), yv, .string ⟨#[51, 52, 59, 49]⟩] W (RP b S W v4 s4 (tokT S (escT y S.asc) [51, 52, 59, 49]))) := Lib.hid (fun W yv hW hy2 => rtoken_any (HJ7.out.now.below hW) yv _ [51, 52, 59, 49] hy2 hlen (by decide))
            have HS7 := Lib.hid (RStep.start HJ7.out.now)
            have hx : Below W7.heap.size W7 W7 := Below.refl _ _
            clear hW7 hb47 hz7 hkc7 hasc hlen hbx hsf HH z0 z1 z2 z3 z4 f0 f1 f2 f3 f4 r0 r1 r2 r3 r4 r5
            go_wp2_with fail
            go_region_held3 (fun W => W.cell? (adk.add k) = some (.string ⟨y.toArray⟩) ∧ W.cell? ⟨b, 3, none⟩ = some (.bool S.asc))
              ((first | with_reducible exact KR17.out _ _ _ _ hx hA | (refine K17.out _ ?_; first | with_reducible exact hx | with_reducible exact hx.drew)))
              (first | (go_at_call 38; refine (HE17.out _ (by first | exact hx | exact hx.drew)).mono ?_; rintro e' we ⟨ve, rfl, hBy, hbe⟩; have hx := Below.also (by first | exact hx | exact hx.drew) hbe; clear hbe) | (go_at_call 37; refine (HTok17.out _ _ hx (by assumption)).mono ?_; rintro e' wt ⟨rfl, vt, stt, hA, hG⟩; have hE := (HS7.out.below hx).join hA))
            all_goals
              have RX8 := Lib.hid hE
              have HF8 := Lib.hid (HF4.out.trans hG)
              clear hE hA hG
              go_wp2_with fail
              refine (rsign_any RX8.out.now 58 58 rfl).mono ?_
              rintro e' w9 ⟨rfl, v9, s9, hA, hG⟩
              have RX9 := Lib.hid (RX8.out.join hA)
              have HF9 := Lib.hid (HF8.out.trans hG)
              have c0 := RX9.out.now.cellAt 0 (.int .i64 S.ind) rfl
              have c1 := RX9.out.now.cellAt 1 (.bool S.tab) rfl
              clear hA hG hx hBy
              by_cases hi0 : 0 < S.ind
              · have d1 : decide ((0 : Int) < (S.ind : Int)) = true := decide_eq_true (by omega)
                have d2 : decide (0 < S.ind) = true := decide_eq_true hi0
                have hl : S.loose = true := by unfold Sty.loose; rw [d2, Bool.or_true]
                have RB := Lib.hid (RX9.out.below ((Below.refl _ _).alloc (Nat.le_refl _) (.cells #[.int .u8 32] 5)))
                have HP := Lib.hid (rput_rp RB.out.now (.slice (some ⟨w9.heap.size, 0, none⟩) 1 1) [32] (Byt.new RX9.out.now #[.int .u8 32] [32] 1 1 rfl rfl) (by simp))
                have hx0 := (XC.out _ _ _ RX9.out).1
                clear hx0
                go_wp2_with fail
                refine HP.out.mono ?_
                rintro e' wp ⟨rfl, vp, sp, hA, hG⟩
                have RX := Lib.hid (RB.out.join hA)
                have FX : Hid (Fr st sp (((tokT S [123] sgn ++ jtx S lvl f k 0) ++ ltx S (lvl + 1)) ++ ktx S y)) := Lib.hid (by
                  have := HF9.out.trans hG
                  unfold ktx
                  rw [if_pos hl]
                  simpa only [List.append_assoc] using this)
                clear hA hG c0 c1 d1 d2 RB HP
                obtain ⟨x0, x1, x2, x3, x4⟩ := XC.out _ _ _ RX.out
                go_wp2_with fail
                refine (HV.out _ _ _ _ (by first | omega | (rw [IntKind.wrap_i64]; omega)) (B0.out _ _ _ (HJ7.out.join RX.out)) RX.out.now).mono ?_
                rintro e' wv ⟨rfl, vv, sv, hA, hG⟩
                have HJe := Lib.hid (HJ7.out.join (RX.out.join hA))
                have HKe := Lib.hid ((HK7.out.step RX.out).step hA)
                have HFe : Hid (Fr st sv (tokT S [123] sgn ++ jtx S lvl f (k + 1) 0)) := Lib.hid (by
                  have := FX.out.trans hG
                  rw [HR2.out, HFk.out]
                  simpa only [List.append_assoc, List.append_nil, List.nil_append] using this)
                clear hA hG x0 x1 x2 x3 x4
                go_wp2_with fail
                all_goals go_roundw
                case rel => exact ⟨k + 1, vv, sv, by omega, by go_num, HJe, HKe, HFe⟩
                case measure => simp [intOf]; omega
              · have d1 : decide ((0 : Int) < (S.ind : Int)) = false := decide_eq_false (by omega)
                have d2 : decide (0 < S.ind) = false := decide_eq_false hi0
                cases ht : S.tab with
                | true =>
                  have hl : S.loose = true := by unfold Sty.loose; rw [ht, Bool.true_or]
                  rw [ht] at c1
                  have RB := Lib.hid (RX9.out.below ((Below.refl _ _).alloc (Nat.le_refl _) (.cells #[.int .u8 32] 5)))
                  have HP := Lib.hid (rput_rp RB.out.now (.slice (some ⟨w9.heap.size, 0, none⟩) 1 1) [32] (Byt.new RX9.out.now #[.int .u8 32] [32] 1 1 rfl rfl) (by simp))
                  have hx0 := (XC.out _ _ _ RX9.out).1
                  clear hx0
                  go_wp2_with fail
                  refine HP.out.mono ?_
                  rintro e' wp ⟨rfl, vp, sp, hA, hG⟩
                  have RX := Lib.hid (RB.out.join hA)
                  have FX : Hid (Fr st sp (((tokT S [123] sgn ++ jtx S lvl f k 0) ++ ltx S (lvl + 1)) ++ ktx S y)) := Lib.hid (by
                    have := HF9.out.trans hG
                    unfold ktx
                    rw [if_pos hl]
                    simpa only [List.append_assoc] using this)
                  clear hA hG c0 c1 d1 d2 RB HP
                  obtain ⟨x0, x1, x2, x3, x4⟩ := XC.out _ _ _ RX.out
                  go_wp2_with fail
                  refine (HV.out _ _ _ _ (by first | omega | (rw [IntKind.wrap_i64]; omega)) (B0.out _ _ _ (HJ7.out.join RX.out)) RX.out.now).mono ?_
                  rintro e' wv ⟨rfl, vv, sv, hA, hG⟩
                  have HJe := Lib.hid (HJ7.out.join (RX.out.join hA))
                  have HKe := Lib.hid ((HK7.out.step RX.out).step hA)
                  have HFe : Hid (Fr st sv (tokT S [123] sgn ++ jtx S lvl f (k + 1) 0)) := Lib.hid (by
                    have := FX.out.trans hG
                    rw [HR2.out, HFk.out]
                    simpa only [List.append_assoc, List.append_nil, List.nil_append] using this)
                  clear hA hG x0 x1 x2 x3 x4
                  go_wp2_with fail
                  all_goals go_roundw
                  case rel => exact ⟨k + 1, vv, sv, by omega, by go_num, HJe, HKe, HFe⟩
                  case measure => simp [intOf]; omega
                | false =>
                  have hl : ¬ S.loose = true := by unfold Sty.loose; rw [ht, d2]; decide
                  rw [ht] at c1
                  have RX := RX9
                  have FX : Hid (Fr st s9 (((tokT S [123] sgn ++ jtx S lvl f k 0) ++ ltx S (lvl + 1)) ++ ktx S y)) := Lib.hid (by
                    have := HF9.out
                    unfold ktx
                    rw [if_neg hl, List.append_nil]
                    simpa only [List.append_assoc] using this)
                  obtain ⟨x0, x1, x2, x3, x4⟩ := XC.out _ _ _ RX.out
                  go_wp2_with fail
                  refine (HV.out _ _ _ _ (by first | omega | (rw [IntKind.wrap_i64]; omega)) (B0.out _ _ _ (HJ7.out.join RX.out)) RX.out.now).mono ?_
                  rintro e' wv ⟨rfl, vv, sv, hA, hG⟩
                  have HJe := Lib.hid (HJ7.out.join (RX.out.join hA))
                  have HKe := Lib.hid ((HK7.out.step RX.out).step hA)
                  have HFe : Hid (Fr st sv (tokT S [123] sgn ++ jtx S lvl f (k + 1) 0)) := Lib.hid (by
                    have := FX.out.trans hG
                    rw [HR2.out, HFk.out]
                    simpa only [List.append_assoc, List.append_nil, List.nil_append] using this)
                  clear hA hG x0 x1 x2 x3 x4
                  go_wp2_with fail
                  all_goals go_roundw
                  case rel => exact ⟨k + 1, vv, sv, by omega, by go_num, HJe, HKe, HFe⟩
                  case measure => simp [intOf]; omega
    · obtain rfl : k = n := by omega
      have HL := leave (.inl rfl)
      clear leave HFr hge
      rcases Nat.eq_zero_or_pos k with hn0 | hnpos
      · have t1 : decide ((0 : Int) < (k : Int)) = false := decide_eq_false (by omega)
        have t2 : decide (0 < k) = false := decide_eq_false (by omega)
        have HJ7 := HJ
        have HF7 : Hid (Fr st sk ((tokT S [123] sgn ++ jtx S lvl f k 0) ++ [])) := Lib.hid (by rw [List.append_nil]; exact HL.out)
        go_wp2_with fail
        clear q0 q1 q2 q3 q4 hbad
        refine (rsign_any HJ7.out.now 125 125 rfl).mono ?_
        rintro e' w8 ⟨rfl, v8, s8, hA, hG⟩
        have hE := HSt.out.join (HJ7.out.join hA)
        have hFF := HF7.out.trans hG
        go_wp2_with fail
        go_end0
        exact ⟨rfl, v8, s8, hE, by unfold mtx; rw [if_neg (by omega)]; exact hFF⟩
      · go_wp2_with fail
        refine (rmargin_at HJ.out.now hi lvl (by omega) _ rfl).mono ?_
        rintro e' w7 ⟨rfl, v7, s7, hA, hG⟩
        have HJ7 := Lib.hid (HJ.out.join hA)
        have HF7 := Lib.hid (HL.out.trans hG)
        clear hA hG q0 q1 q2 q3 q4 hbad
        go_wp2_with fail
        refine (rsign_any HJ7.out.now 125 125 rfl).mono ?_
        rintro e' w8 ⟨rfl, v8, s8, hA, hG⟩
        have hE := HSt.out.join (HJ7.out.join hA)
        have hFF := HF7.out.trans hG
        go_wp2_with fail
        go_end0
        exact ⟨rfl, v8, s8, hE, by unfold mtx; rw [if_pos hnpos]; exact hFF⟩
end
end Go.Proofs.YticaihfcnbehpaaGreatDoor
