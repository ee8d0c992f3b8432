/- In one text: printer.sheet.value's second closure, where keys are sorted; value.Get at an earlier world's tree.; printer.sheet.value of a tree, printer.Print, where keys are sorted. -/
import Derived.Test.YticaihfcnbehpaaGreatDoorSq
import Derived.Test.YticaihfcnbehpaaGreatDoorVap
set_option linter.unusedVariables false
set_option linter.unusedSimpArgs false
/- printer.sheet.value's second closure, where keys are sorted; value.Get at an earlier world's tree. -/
namespace Go.Proofs.YticaihfcnbehpaaGreatDoor
open Go Go.RowKit Go.Proofs
/-- What is found: a place of an earlier world's tree. -/
theorem get_any0 (d : Nat) (w0 w : World) (h0 : Below w0.heap.size w0 w) (kk : Int) (num : Nat) (str : Txt) (keys : List Txt) (list : List Tr) (y0 y1 y2 y3 y4 : Value) (y : Txt) (hR : Rep (d + 1) w0 (.mk kk num str keys list) y0 y1 y2 y3 y4)
    (i : Nat) (hi : i < list.length) (hat : atT keys y = (i : Int)) :
    Calls Tryz.prog 35 #[.agg #[y0, y1, y2, y3, y4], .string ⟨y.toArray⟩] w fun e w' => ∃ z0 z1 z2 z3 z4, Rep d w0 list[i] z0 z1 z2 z3 z4 ∧ e = .returned (.tuple #[.agg #[z0, z1, z2, z3, z4], .bool true]) ∧ Below w.heap.size w w' := by
  have hA := fun W (h : Below w.heap.size w W) => at_any (d + 1) W kk num str keys list _ _ _ _ _ y ((hR.below h0).below h)
  rw [hat] at hA
  obtain ⟨rfl, rfl, rfl, hnum, hstr, hll, hkl, A, c, A2, c2, rfl, rfl, hL, hK, hc2, hc, hn2, hn⟩ := hR
  obtain ⟨ad, rfl, z0, z1, z2, z3, z4, h5, hZ⟩ := hL i hi
  have h5 := h5.below h0
  obtain ⟨n, hnn⟩ : ∃ n, n = keys.length := ⟨_, rfl⟩
  obtain ⟨nl, hnl⟩ : ∃ n, n = list.length := ⟨_, rfl⟩
  rw [← hnn] at hkl hc2
  rw [← hnl] at hll hc
  rw [← hnn, ← hnl] at hA ⊢
  have hil : i < nl := by omega
  obtain ⟨k0, k1, s2, a3, m3, c3, a4, m4, c4, rfl, rfl, rfl, rfl, rfl⟩ := rep_shape hZ
  have HA := Lib.hid hA
  have HZ := Lib.hid hZ
  clear hL hK hnn hnl hn2 hn hnum hstr hA hat hZ
  obtain ⟨g0, g1, g2, g3, g4⟩ := h5
  have hb1 := ((Below.refl w.heap.size w).alloc (Nat.le_refl _) (.cells #[.int .i64 kk, .float .f64 num, .string ⟨str.toArray⟩, .slice (some ad) nl c, .slice A2 n c2] 27)).alloc (by simp) (.cells #[.int .i64 0, .float .f64 0, .string ⟨#[]⟩, .slice none 0 0, .slice none 0 0] 27)
  go_enter Tryz.func35, Tryz.ntmps35
  go_wp2_with fail
  refine (HA.out _ hb1).mono ?_
  rintro e' w2 ⟨rfl, hb2⟩
  have hb3 := hb1.trans (hb2.mono hb1.size)
  have hc3 : w2.cell? ⟨w.heap.size, 3, none⟩ = some (.slice (some ad) nl c) := by
    have h1 : (w.alloc (.cells #[.int .i64 kk, .float .f64 num, .string ⟨str.toArray⟩, .slice (some ad) nl c, .slice A2 n c2] 27)).cell? ⟨w.heap.size, 3, none⟩ = some (.slice (some ad) nl c) := by rw [World.cell?_alloc_new]; rfl
    have hl1 := World.block_lt_of_cell? _ _ h1
    have h2 := ((Below.refl _ (w.alloc (.cells #[.int .i64 kk, .float .f64 num, .string ⟨str.toArray⟩, .slice (some ad) nl c, .slice A2 n c2] 27))).alloc (Nat.le_refl _) (.cells #[.int .i64 0, .float .f64 0, .string ⟨#[]⟩, .slice none 0 0, .slice none 0 0] 27)).trans (hb2.mono (by simp))
    exact (h2.cell (p := ⟨w.heap.size, 3, none⟩) hl1).trans h1
  have hrow : w2.heap[w.heap.size + 1]? = some (.cells #[.int .i64 0, .float .f64 0, .string ⟨#[]⟩, .slice none 0 0, .slice none 0 0] 27) := hlBelow hb2 (hlNew1 w _ _)
  obtain ⟨f0, f1, f2, f3, f4⟩ := Cells5.below ⟨g0, g1, g2, g3, g4⟩ hb3
  have HRow := Lib.hid hrow
  have Hb3 := Lib.hid hb3
  clear hb1 hb2 hb3 hrow g0 g1 g2 g3 g4
  go_wp2_with (refine wpList_store_row rfl 27 (.tmp 4) (.tmp 16) rfl (w.heap.size + 1) #[.int .i64 k0, .float .f64 k1, .string s2, .slice a3 m3 c3, .slice a4 m4 c4] rfl rfl 27 #[.int .i64 0, .float .f64 0, .string ⟨#[]⟩, .slice none 0 0, .slice none 0 0] HRow.out (by kernel_rfl) rfl (one5 k0 k1 s2 _ _ _ _ _ _) ?_)
  refine bodyPost_ret (results_cell_tmp rfl _ _ (w.heap.size + 1) _ rfl (run_loadVar_row _ _ _ 27 _ (0, 0) _ (setRow_heap _ _ _ _ _ _ HRow.out) Tryz.underlying27 rfl (by kernel_rfl))) rfl ?_
  exact ⟨_, _, _, _, _, HZ.out, rfl, Go.Proofs.YticaihfcnbehpaaGreatDoor.below_setRow Hb3.out (by omega) _⟩
section
variable {b : Nat} {S : Sty} {w : World} {v : Value} {st : St}
/-- A value is handed back; what is written of it is t's text. -/
def GetV (S : Sty) (w0 : World) (d : Nat) (t : Tr) (W : World) (e : Ending) (w' : World) : Prop :=
  ∃ (k0 : Int) (k1 : Nat) (s2 : ByteArray) (a3 : Option Addr) (m3 c3 : Nat) (a4 : Option Addr) (m4 c4 : Nat), Vals S w0 d t (.int .i64 k0) (.float .f64 k1) (.string s2) (.slice a3 m3 c3) (.slice a4 m4 c4) ∧
    e = .returned (.tuple #[.agg #[.int .i64 k0, .float .f64 k1, .string s2, .slice a3 m3 c3, .slice a4 m4 c4], .bool true]) ∧ Below W.heap.size W w'
set_option maxHeartbeats 4000000 in
set_option maxRecDepth 100000 in
theorem value2s_any (h : Sh b S w v st) (hS : S.srt = true) (w0 : World) (T0 : Tabs w0) (hb : w0.heap.size ≤ b) (h0 : Below w0.heap.size w0 w) (d : Nat) (t : Tr) (c1 c4 c2 c3 i n cc n2 cc2 lvl : Nat) (ad ad2 : Addr) (key : List UInt8) (num : Nat) (str : ByteArray) (A4 : Option Addr) (n4 e4 : Nat)
    (kk : Int) (nn : Nat) (ss : ByteArray) (A3 A5 : Option Addr) (n3 e3 n5 e5 : Nat) (hin : i < n) (hin2 : i < n2) (hlv : lvl + 1 + d ≤ 900000) (hk : key.length ≤ 1048576)
    (h1 : w.cell? ⟨c1, 0, none⟩ = some (.pointer (some ⟨b, 0, none⟩))) (h3 : w.cell? ⟨c3, 0, none⟩ = some (.int .i64 lvl)) (h4 : w.cell? ⟨c4, 0, none⟩ = some (.slice (some ad2) n2 cc2))
    (v0 : w.cell? ⟨c2, 0, none⟩ = some (.int .i64 6)) (v1 : w.cell? ⟨c2, 1, none⟩ = some (.float .f64 num)) (v2 : w.cell? ⟨c2, 2, none⟩ = some (.string str)) (v3 : w.cell? ⟨c2, 3, none⟩ = some (.slice (some ad) n cc)) (v4 : w.cell? ⟨c2, 4, none⟩ = some (.slice A4 n4 e4))
    (hd1 : c1 ≠ b ∧ v.ownBlock ≠ some c1) (hd2 : c2 ≠ b ∧ v.ownBlock ≠ some c2) (hd3 : c3 ≠ b ∧ v.ownBlock ≠ some c3) (hd4 : c4 ≠ b ∧ v.ownBlock ≠ some c4) (hd5 : (ad2.add i).block ≠ b ∧ v.ownBlock ≠ some (ad2.add i).block)
    (hkw : w.cell? (ad2.add i) = some (.string ⟨key.toArray⟩)) (hc5 : Cells5 w0 (ad.add (i * 5)) (.int .i64 kk) (.float .f64 nn) (.string ss) (.slice A3 n3 e3) (.slice A5 n5 e5))
    (hG : ∀ W, Below w0.heap.size w0 W → Calls Tryz.prog 35 #[.agg #[.int .i64 6, .float .f64 num, .string str, .slice (some ad) n cc, .slice A4 n4 e4], .string ⟨key.toArray⟩] W fun e w' => GetV S w0 d t W e w') :
    Calls Tryz.prog 31 #[.int .i64 i, .pointer (some ⟨c1, 0, none⟩), .pointer (some ⟨c4, 0, none⟩), .pointer (some ⟨c2, 0, none⟩), .pointer (some ⟨c3, 0, none⟩)] w fun e w' => e = .returned (.tuple #[]) ∧ ∃ v', SStep b S w v w' v' (pv S d t (lvl + 1) (keyS S st key)) := by
  have hasc := h.cAsc
  have TW : Tabs w := T0.next h0
  have hlen := escT_length key S.asc hk
  have K1 : ∀ W, Below w.heap.size w W → W.cell? ⟨c1, 0, none⟩ = some (.pointer (some ⟨b, 0, none⟩)) ∧ W.cell? ⟨c4, 0, none⟩ = some (.slice (some ad2) n2 cc2) ∧ W.cell? (ad2.add i) = some (.string ⟨key.toArray⟩) ∧ W.cell? ⟨b, 5, none⟩ = some (.bool S.asc) := fun W hb => ⟨(hb.cell (World.block_lt_of_cell? w _ h1)).trans h1, (hb.cell (World.block_lt_of_cell? w _ h4)).trans h4, (hb.cell (World.block_lt_of_cell? w _ hkw)).trans hkw, (hb.cell (World.block_lt_of_cell? w _ hasc)).trans hasc⟩
  have far : ∀ W W' v' st' (a : Addr) (u : Value), Below w.heap.size w W → SStep b S W v W' v' st' → a.block ≠ b ∧ v.ownBlock ≠ some a.block → W.cell? a = some u → W'.cell? a = some u := fun W W' v' st' a u hbW hA hn hc => by
    have hbl := hA.keep.block a.block (World.block_lt_of_cell? W _ hc) (fun e => by
      rcases e with e | e
      · exact hn.1 e
      · exact hn.2 e.symm)
    exact (World.cell?_of_block hbl).trans hc
  have K2 : ∀ W W' v' st', Below w.heap.size w W → SStep b S W v W' v' st' → W'.cell? ⟨c1, 0, none⟩ = some (.pointer (some ⟨b, 0, none⟩)) ∧ W'.cell? ⟨c4, 0, none⟩ = some (.slice (some ad2) n2 cc2) ∧ W'.cell? (ad2.add i) = some (.string ⟨key.toArray⟩) ∧ W'.cell? ⟨b, 5, none⟩ = some (.bool S.asc) := fun W W' v' st' hbW hA => by
    obtain ⟨k1, k2, k3, k4⟩ := K1 W hbW
    exact ⟨far W W' v' st' _ _ hbW hA hd1 k1, far W W' v' st' _ _ hbW hA hd4 k2, far W W' v' st' _ _ hbW hA hd5 k3, hA.now.cAsc⟩
  have HFar := Lib.hid far
  clear far
  go_enter Tryz.func31, Tryz.ntmps31
  go_wp2_with fail
  go_region_held3 (fun W => W.cell? ⟨c1, 0, none⟩ = some (.pointer (some ⟨b, 0, none⟩)) ∧ W.cell? ⟨c4, 0, none⟩ = some (.slice (some ad2) n2 cc2) ∧ W.cell? (ad2.add i) = some (.string ⟨key.toArray⟩) ∧ W.cell? ⟨b, 5, none⟩ = some (.bool S.asc))
    (first | exact K1 _ (Below.refl _ _).drew | exact K1 _ hbx | exact K2 _ _ _ _ hbx hA)
    (first | (go_at_call 13; refine (escape_any _ (TW.below (Nat.le_refl _) (Below.refl _ _).drew) key S.asc (by omega)).mono ?_; rintro e' w1 ⟨rfl, hb1⟩; have hbx := Below.also (Below.refl _ _).drew hb1) | (go_at_call 32; refine (token_any (h.below hbx) (escT key S.asc) [51, 52, 59, 49] hlen (by decide)).mono ?_; rintro e' w2 ⟨rfl, v2', hA⟩))
  have hE : SStep b S w v w2 v2' (tokS S st (escT key S.asc) [51, 52, 59, 49]) := ((SStep.start h).below hbx).join hA
  obtain ⟨s1, hs1⟩ : ∃ s, s = tokS S st (escT key S.asc) [51, 52, 59, 49] := ⟨_, rfl⟩
  obtain ⟨s2, hs2⟩ : ∃ s, s = tokS S s1 [58] sgn := ⟨_, rfl⟩
  have hkS : keyS S st key = if S.loose = true then putS s2 [32] else s2 := by rw [hs2, hs1]; rfl
  rw [← hs1] at hE
  have HK := Lib.hid hkS
  have HS2 := Lib.hid hs2
  clear hA hs1 hs2 hkS K1 K2 hb1 hbx hlen
  have HG := Lib.hid hG
  clear hG
  have k1 := hE.cell h h1 hd1.1 hd1.2
  go_wp2_with fail
  refine (token_any hE.now [58] sgn (by decide) (by decide)).mono ?_
  rintro e' w3 ⟨rfl, v3', hA⟩
  rw [← HS2.out] at hA
  have hE := hE.join hA
  clear hA k1
  have k1 := hE.cell h h1 hd1.1 hd1.2
  go_wp2_with fail
  refine (loose_any hE.now).mono ?_
  rintro e' _ ⟨rfl, rfl⟩
  cases hL : S.loose with
  | false =>
    have HK2 : Hid (keyS S st key = s2) := Lib.hid (by rw [HK.out, hL, if_neg (by decide)])
    clear hL k1
    have fr : ∀ (a : Addr) (u : Value), (a.block ≠ b ∧ v.ownBlock ≠ some a.block) → w.cell? a = some u → w3.cell? a = some u := fun a u hn hc => HFar.out w w3 _ _ a u (Below.refl _ _) hE hn hc
    have k1 := fr _ _ hd1 h1
    have k3 := fr _ _ hd3 h3
    have k4 := fr _ _ hd4 h4
    have k5 := fr _ _ hd5 hkw
    have u0 := fr _ _ hd2 v0
    have u1 := fr _ _ hd2 v1
    have u2 := fr _ _ hd2 v2
    have u3 := fr _ _ hd2 v3
    have u4 := fr _ _ hd2 v4
    rw [← HK2.out] at hE
    have h00 := hE.below0 h hb h0
    obtain ⟨g0, g1, g2, g3, g4⟩ := hc5.below h00
    have hsrt := hE.now.cSrt
    rw [hS] at hsrt
    have HE0 := Lib.hid hE
    have HK1 := Lib.hid k1
    have HK3 := Lib.hid k3
    have H00 := Lib.hid h00
    have HK6 : Hid (∀ W, Below w3.heap.size w3 W → W.cell? ⟨c2, 0, none⟩ = some (.int .i64 6) ∧ W.cell? ⟨c2, 1, none⟩ = some (.float .f64 num) ∧ W.cell? ⟨c2, 2, none⟩ = some (.string str) ∧ W.cell? ⟨c2, 3, none⟩ = some (.slice (some ad) n cc) ∧ W.cell? ⟨c2, 4, none⟩ = some (.slice A4 n4 e4) ∧ W.cell? ⟨c4, 0, none⟩ = some (.slice (some ad2) n2 cc2) ∧ W.cell? (ad2.add i) = some (.string ⟨key.toArray⟩)) := Lib.hid (fun W hbW => by
      have go : ∀ {a : Addr} {u : Value}, w3.cell? a = some u → W.cell? a = some u := fun hc => (hbW.cell (World.block_lt_of_cell? w3 _ hc)).trans hc
      exact ⟨go u0, go u1, go u2, go u3, go u4, go k4, go k5⟩)
    clear fr h1 h3 h4 hkw v0 v1 v2 v3 v4 h00 hE
    go_upto_region 6 with (refine wpList_store_row rfl 27 (.tmp 6) (.tmp 29) rfl _ #[.int .i64 kk, .float .f64 nn, .string ss, .slice A3 n3 e3, .slice A5 n5 e5] rfl rfl 27 #[.int .i64 0, .float .f64 0, .string ⟨#[]⟩, .slice none 0 0, .slice none 0 0] (heap_alloc_new _ _) (by kernel_rfl) rfl (one5 kk nn ss A3 A5 n3 e3 n5 e5) ?_; rw [setRow_new]; obtain ⟨X, hX⟩ : ∃ X, X = w3.heap.size := ⟨_, rfl⟩; obtain ⟨W5, hW5⟩ : ∃ W5, W5 = World.alloc w3 (.cells #[.int .i64 kk, .float .f64 nn, .string ss, .slice A3 n3 e3, .slice A5 n5 e5] 27) := ⟨_, rfl⟩; have hrow : W5.heap[X]? = some (.cells #[.int .i64 kk, .float .f64 nn, .string ss, .slice A3 n3 e3, .slice A5 n5 e5] 27) := (by rw [hW5, hX]; exact heap_alloc_new _ _); rw [← hW5, ← hX]; have A5 := after_new _ _ _ _ _ _ _ _ hW5; clear hW5; obtain ⟨hb5, -, -, -, -, -⟩ := A5; have HX := Lib.hid hX; clear hX; have q1 := (hb5.cell (World.block_lt_of_cell? _ _ k1)).trans k1; have q3 := (hb5.cell (World.block_lt_of_cell? _ _ k3)).trans k3; have q4 := (hb5.cell (World.block_lt_of_cell? _ _ k4)).trans k4; have q5 := (hb5.cell (World.block_lt_of_cell? _ _ k5)).trans k5; have p0 := (hb5.cell (World.block_lt_of_cell? _ _ u0)).trans u0; have p1 := (hb5.cell (World.block_lt_of_cell? _ _ u1)).trans u1; have p2 := (hb5.cell (World.block_lt_of_cell? _ _ u2)).trans u2; have p3 := (hb5.cell (World.block_lt_of_cell? _ _ u3)).trans u3; have p4 := (hb5.cell (World.block_lt_of_cell? _ _ u4)).trans u4; have qs := (hb5.cell (World.block_lt_of_cell? _ _ hsrt)).trans hsrt; clear k1 k3 k4 k5 u0 u1 u2 u3 u4 hsrt g0 g1 g2 g3 g4)
    have K6 : ∀ W, Below w3.heap.size w3 W → W.cell? ⟨c2, 0, none⟩ = some (.int .i64 6) ∧ W.cell? ⟨c2, 1, none⟩ = some (.float .f64 num) ∧ W.cell? ⟨c2, 2, none⟩ = some (.string str) ∧ W.cell? ⟨c2, 3, none⟩ = some (.slice (some ad) n cc) ∧ W.cell? ⟨c2, 4, none⟩ = some (.slice A4 n4 e4) ∧ W.cell? ⟨c4, 0, none⟩ = some (.slice (some ad2) n2 cc2) ∧ W.cell? (ad2.add i) = some (.string ⟨key.toArray⟩) := HK6.out
    have hsf := run_store_float
    go_region_held3 (fun W => W.cell? ⟨c2, 0, none⟩ = some (.int .i64 6) ∧ W.cell? ⟨c2, 1, none⟩ = some (.float .f64 num) ∧ W.cell? ⟨c2, 2, none⟩ = some (.string str) ∧ W.cell? ⟨c2, 3, none⟩ = some (.slice (some ad) n cc) ∧ W.cell? ⟨c2, 4, none⟩ = some (.slice A4 n4 e4) ∧ W.cell? ⟨c4, 0, none⟩ = some (.slice (some ad2) n2 cc2) ∧ W.cell? (ad2.add i) = some (.string ⟨key.toArray⟩))
      ((refine K6 _ ?_; repeat (first | with_reducible exact hb6 | with_reducible exact hb5.drew | with_reducible exact hb5 | with_reducible refine Below.setCell ?_ (by rw [HX.out]; exact Nat.le_refl _) _)))
      ((go_at_call 35; refine (HG.out _ ((H00.out.trans (Below.mono hb5 H00.out.size)).drew)).mono ?_; rintro e' w6 ⟨k0, k1, s2, a3, m3, c3', a4, m4, c4', hV, rfl, hb6'⟩; have hb56 := Below.also (w := W5) (Below.refl _ _).drew hb6'; have hH := hlBelow hb56 hrow; have hb6 := hb5.trans (hb56.mono hb5.size); clear hb56 hb6'; have z0 := cell_of_heap (j := 0) hH rfl; have z1 := cell_of_heap (j := 1) hH rfl; have z2 := cell_of_heap (j := 2) hH rfl; have z3 := cell_of_heap (j := 3) hH rfl; have z4 := cell_of_heap (j := 4) hH rfl; have f0 := frozen_of_heap 0 hH; have f1 := frozen_of_heap 1 hH; have f2 := frozen_of_heap 2 hH; have f3 := frozen_of_heap 3 hH; have f4 := frozen_of_heap 4 hH; have HH := Lib.hid hH; clear hH))
    all_goals
      have hb7 : Below w3.heap.size w3 _ := below_set5 (h := X) (x0 := .int .i64 k0) (x1 := .float .f64 k1) (x2 := .string s2) (x3 := .slice a3 m3 c3') (x4 := .slice a4 m4 c4') hb6 (by rw [HX.out]; exact Nat.le_refl _)
      have hr7 := set5 (x0 := .int .i64 k0) (x1 := .float .f64 k1) (x2 := .string s2) (x3 := .slice a3 m3 c3') (x4 := .slice a4 m4 c4') HH.out
      obtain ⟨W7, hW7⟩ : ∃ W7, W7 = ((((w6.setCell ⟨X, 0, none⟩ (.int .i64 k0)).setCell ⟨X, 1, none⟩ (.float .f64 k1)).setCell ⟨X, 2, none⟩ (.string s2)).setCell ⟨X, 3, none⟩ (.slice a3 m3 c3')).setCell ⟨X, 4, none⟩ (.slice a4 m4 c4') := ⟨_, rfl⟩
      rw [← hW7] at hb7 hr7 ⊢
      have r1 := (hb7.cell (World.block_lt_of_cell? _ _ HK1.out)).trans HK1.out
      have r3 := (hb7.cell (World.block_lt_of_cell? _ _ HK3.out)).trans HK3.out
      have x0 := cell_of_heap (j := 0) hr7 rfl
      have x1 := cell_of_heap (j := 1) hr7 rfl
      have x2 := cell_of_heap (j := 2) hr7 rfl
      have x3 := cell_of_heap (j := 3) hr7 rfl
      have x4 := cell_of_heap (j := 4) hr7 rfl
      have hE7 := HE0.out.below hb7
      have h07 := H00.out.trans (hb7.mono H00.out.size)
      clear hW7 hr7 hb7 z0 z1 z2 z3 z4 f0 f1 f2 f3 f4 HH K6 hsf hb6 q1 q3 q4 q5 p0 p1 p2 p3 p4 qs hrow hb5
      go_wp2_with fail
      refine (hV b W7 _ _ (lvl + 1) _ (by first | omega | (rw [IntKind.wrap_i64]; omega)) (by omega) hb h07 hE7.now).mono ?_
      rintro e' w8 ⟨rfl, v8, hA⟩
      have hF := hE7.join hA
      go_wp2_with fail
      go_end0
      exact ⟨rfl, v8, hF⟩
  | true =>
    have HK2 : Hid (keyS S st key = putS s2 [32]) := Lib.hid (by rw [HK.out, hL, if_pos rfl])
    clear hL
    go_wp2_with fail
    refine (put_any hE.now [32] (by decide)).mono ?_
    rintro e' w4 ⟨rfl, v4', hA⟩
    have hE := hE.join hA
    clear hA k1
    have fr : ∀ (a : Addr) (u : Value), (a.block ≠ b ∧ v.ownBlock ≠ some a.block) → w.cell? a = some u → w4.cell? a = some u := fun a u hn hc => HFar.out w w4 _ _ a u (Below.refl _ _) hE hn hc
    have k1 := fr _ _ hd1 h1
    have k3 := fr _ _ hd3 h3
    have k4 := fr _ _ hd4 h4
    have k5 := fr _ _ hd5 hkw
    have u0 := fr _ _ hd2 v0
    have u1 := fr _ _ hd2 v1
    have u2 := fr _ _ hd2 v2
    have u3 := fr _ _ hd2 v3
    have u4 := fr _ _ hd2 v4
    rw [← HK2.out] at hE
    have h00 := hE.below0 h hb h0
    obtain ⟨g0, g1, g2, g3, g4⟩ := hc5.below h00
    have hsrt := hE.now.cSrt
    rw [hS] at hsrt
    have HE0 := Lib.hid hE
    have HK1 := Lib.hid k1
    have HK3 := Lib.hid k3
    have H00 := Lib.hid h00
    have HK6 : Hid (∀ W, Below w4.heap.size w4 W → W.cell? ⟨c2, 0, none⟩ = some (.int .i64 6) ∧ W.cell? ⟨c2, 1, none⟩ = some (.float .f64 num) ∧ W.cell? ⟨c2, 2, none⟩ = some (.string str) ∧ W.cell? ⟨c2, 3, none⟩ = some (.slice (some ad) n cc) ∧ W.cell? ⟨c2, 4, none⟩ = some (.slice A4 n4 e4) ∧ W.cell? ⟨c4, 0, none⟩ = some (.slice (some ad2) n2 cc2) ∧ W.cell? (ad2.add i) = some (.string ⟨key.toArray⟩)) := Lib.hid (fun W hbW => by
      have go : ∀ {a : Addr} {u : Value}, w4.cell? a = some u → W.cell? a = some u := fun hc => (hbW.cell (World.block_lt_of_cell? w4 _ hc)).trans hc
      exact ⟨go u0, go u1, go u2, go u3, go u4, go k4, go k5⟩)
    clear fr h1 h3 h4 hkw v0 v1 v2 v3 v4 h00 hE
    go_upto_region 6 with (refine wpList_store_row rfl 27 (.tmp 6) (.tmp 29) rfl _ #[.int .i64 kk, .float .f64 nn, .string ss, .slice A3 n3 e3, .slice A5 n5 e5] rfl rfl 27 #[.int .i64 0, .float .f64 0, .string ⟨#[]⟩, .slice none 0 0, .slice none 0 0] (heap_alloc_new _ _) (by kernel_rfl) rfl (one5 kk nn ss A3 A5 n3 e3 n5 e5) ?_; rw [setRow_new]; obtain ⟨X, hX⟩ : ∃ X, X = w4.heap.size := ⟨_, rfl⟩; obtain ⟨W5, hW5⟩ : ∃ W5, W5 = World.alloc w4 (.cells #[.int .i64 kk, .float .f64 nn, .string ss, .slice A3 n3 e3, .slice A5 n5 e5] 27) := ⟨_, rfl⟩; have hrow : W5.heap[X]? = some (.cells #[.int .i64 kk, .float .f64 nn, .string ss, .slice A3 n3 e3, .slice A5 n5 e5] 27) := (by rw [hW5, hX]; exact heap_alloc_new _ _); rw [← hW5, ← hX]; have A5 := after_new _ _ _ _ _ _ _ _ hW5; clear hW5; obtain ⟨hb5, -, -, -, -, -⟩ := A5; have HX := Lib.hid hX; clear hX; have q1 := (hb5.cell (World.block_lt_of_cell? _ _ k1)).trans k1; have q3 := (hb5.cell (World.block_lt_of_cell? _ _ k3)).trans k3; have q4 := (hb5.cell (World.block_lt_of_cell? _ _ k4)).trans k4; have q5 := (hb5.cell (World.block_lt_of_cell? _ _ k5)).trans k5; have p0 := (hb5.cell (World.block_lt_of_cell? _ _ u0)).trans u0; have p1 := (hb5.cell (World.block_lt_of_cell? _ _ u1)).trans u1; have p2 := (hb5.cell (World.block_lt_of_cell? _ _ u2)).trans u2; have p3 := (hb5.cell (World.block_lt_of_cell? _ _ u3)).trans u3; have p4 := (hb5.cell (World.block_lt_of_cell? _ _ u4)).trans u4; have qs := (hb5.cell (World.block_lt_of_cell? _ _ hsrt)).trans hsrt; clear k1 k3 k4 k5 u0 u1 u2 u3 u4 hsrt g0 g1 g2 g3 g4)
    have K6 : ∀ W, Below w4.heap.size w4 W → W.cell? ⟨c2, 0, none⟩ = some (.int .i64 6) ∧ W.cell? ⟨c2, 1, none⟩ = some (.float .f64 num) ∧ W.cell? ⟨c2, 2, none⟩ = some (.string str) ∧ W.cell? ⟨c2, 3, none⟩ = some (.slice (some ad) n cc) ∧ W.cell? ⟨c2, 4, none⟩ = some (.slice A4 n4 e4) ∧ W.cell? ⟨c4, 0, none⟩ = some (.slice (some ad2) n2 cc2) ∧ W.cell? (ad2.add i) = some (.string ⟨key.toArray⟩) := HK6.out
    have hsf := run_store_float
    go_region_held3 (fun W => W.cell? ⟨c2, 0, none⟩ = some (.int .i64 6) ∧ W.cell? ⟨c2, 1, none⟩ = some (.float .f64 num) ∧ W.cell? ⟨c2, 2, none⟩ = some (.string str) ∧ W.cell? ⟨c2, 3, none⟩ = some (.slice (some ad) n cc) ∧ W.cell? ⟨c2, 4, none⟩ = some (.slice A4 n4 e4) ∧ W.cell? ⟨c4, 0, none⟩ = some (.slice (some ad2) n2 cc2) ∧ W.cell? (ad2.add i) = some (.string ⟨key.toArray⟩))
      ((refine K6 _ ?_; repeat (first | with_reducible exact hb6 | with_reducible exact hb5.drew | with_reducible exact hb5 | with_reducible refine Below.setCell ?_ (by rw [HX.out]; exact Nat.le_refl _) _)))
      ((go_at_call 35; refine (HG.out _ ((H00.out.trans (Below.mono hb5 H00.out.size)).drew)).mono ?_; rintro e' w6 ⟨k0, k1, s2, a3, m3, c3', a4, m4, c4', hV, rfl, hb6'⟩; have hb56 := Below.also (w := W5) (Below.refl _ _).drew hb6'; have hH := hlBelow hb56 hrow; have hb6 := hb5.trans (hb56.mono hb5.size); clear hb56 hb6'; have z0 := cell_of_heap (j := 0) hH rfl; have z1 := cell_of_heap (j := 1) hH rfl; have z2 := cell_of_heap (j := 2) hH rfl; have z3 := cell_of_heap (j := 3) hH rfl; have z4 := cell_of_heap (j := 4) hH rfl; have f0 := frozen_of_heap 0 hH; have f1 := frozen_of_heap 1 hH; have f2 := frozen_of_heap 2 hH; have f3 := frozen_of_heap 3 hH; have f4 := frozen_of_heap 4 hH; have HH := Lib.hid hH; clear hH))
    all_goals
      have hb7 : Below w4.heap.size w4 _ := below_set5 (h := X) (x0 := .int .i64 k0) (x1 := .float .f64 k1) (x2 := .string s2) (x3 := .slice a3 m3 c3') (x4 := .slice a4 m4 c4') hb6 (by rw [HX.out]; exact Nat.le_refl _)
      have hr7 := set5 (x0 := .int .i64 k0) (x1 := .float .f64 k1) (x2 := .string s2) (x3 := .slice a3 m3 c3') (x4 := .slice a4 m4 c4') HH.out
      obtain ⟨W7, hW7⟩ : ∃ W7, W7 = ((((w6.setCell ⟨X, 0, none⟩ (.int .i64 k0)).setCell ⟨X, 1, none⟩ (.float .f64 k1)).setCell ⟨X, 2, none⟩ (.string s2)).setCell ⟨X, 3, none⟩ (.slice a3 m3 c3')).setCell ⟨X, 4, none⟩ (.slice a4 m4 c4') := ⟨_, rfl⟩
      rw [← hW7] at hb7 hr7 ⊢
      have r1 := (hb7.cell (World.block_lt_of_cell? _ _ HK1.out)).trans HK1.out
      have r3 := (hb7.cell (World.block_lt_of_cell? _ _ HK3.out)).trans HK3.out
      have x0 := cell_of_heap (j := 0) hr7 rfl
      have x1 := cell_of_heap (j := 1) hr7 rfl
      have x2 := cell_of_heap (j := 2) hr7 rfl
      have x3 := cell_of_heap (j := 3) hr7 rfl
      have x4 := cell_of_heap (j := 4) hr7 rfl
      have hE7 := HE0.out.below hb7
      have h07 := H00.out.trans (hb7.mono H00.out.size)
      clear hW7 hr7 hb7 z0 z1 z2 z3 z4 f0 f1 f2 f3 f4 HH K6 hsf hb6 q1 q3 q4 q5 p0 p1 p2 p3 p4 qs hrow hb5
      go_wp2_with fail
      refine (hV b W7 _ _ (lvl + 1) _ (by first | omega | (rw [IntKind.wrap_i64]; omega)) (by omega) hb h07 hE7.now).mono ?_
      rintro e' w8 ⟨rfl, v8, hA⟩
      have hF := hE7.join hA
      go_wp2_with fail
      go_end0
      exact ⟨rfl, v8, hF⟩
end
end Go.Proofs.YticaihfcnbehpaaGreatDoor
/- printer.sheet.value of a tree, printer.Print, where keys are sorted. -/
namespace Go.Proofs.YticaihfcnbehpaaGreatDoor
open Go Go.RowKit Go.Proofs
set_option maxHeartbeats 1000000 in
set_option maxRecDepth 100000 in
theorem value_arr_s (S : Sty) (hi : S.ind ≤ 7) (w0 : World) (d : Nat) (num : Nat) (str : List UInt8) (keys : List (List UInt8)) (list : List Tr) (x0 x1 x2 x3 x4 : Value)
    (ih : ∀ (t : Tr) (y0 y1 y2 y3 y4 : Value), Rep d w0 t y0 y1 y2 y3 y4 → Okp d t → Vals S w0 d (srtT d t) y0 y1 y2 y3 y4)
    (hR : Rep (d + 1) w0 (.mk 5 num str keys list) x0 x1 x2 x3 x4) (hO : Okp (d + 1) (.mk 5 num str keys list)) : Vals S w0 (d + 1) (srtT (d + 1) (.mk 5 num str keys list)) x0 x1 x2 x3 x4 := by
  obtain ⟨rfl, rfl, rfl, hnum, hstr, hll, hkl, A, c, A2, c2, rfl, rfl, hL, hK, _⟩ := hR
  obtain ⟨_, _, _, hOl⟩ := hO
  intro b w v st lvl x hx hlv hb h0 h
  subst hx
  have hpv : pv S (d + 1) (srtT (d + 1) (.mk 5 num str keys list)) lvl st = manyS S lvl (fun i st => pv S d ((list.map (srtT d)).getD i default) (lvl + 1) st) [91] [93] list.length st := by rw [srtT, if_pos rfl, pv, if_pos rfl, List.length_map]
  rw [hpv]
  clear hpv
  obtain ⟨B, hB⟩ : ∃ B, B = w.heap.size := ⟨_, rfl⟩
  obtain ⟨W1, hW1⟩ : ∃ W1, W1 = ((w.alloc (.cells #[.pointer (some ⟨b, 0, none⟩)] 45)).alloc (.cells #[.int .i64 5, .float .f64 num, .string ⟨str.toArray⟩, .slice A list.length c, .slice A2 keys.length c2] 27)).alloc (.cells #[.int .i64 lvl] 3) := ⟨_, rfl⟩
  have hbw : Below w.heap.size w W1 := by rw [hW1]; exact below_boxes _ _ _ _
  have e1 : W1.cell? ⟨B, 0, none⟩ = some (.pointer (some ⟨b, 0, none⟩)) := by rw [hW1, hB]; exact (boxes3 w _ _ _ _ _ _ 0).1
  have e2 : W1.cell? ⟨B + 1, 3, none⟩ = some (.slice A list.length c) := by rw [hW1, hB]; exact (boxes3 w _ _ _ _ _ _ 3).2.1
  have e3 : W1.cell? ⟨B + 1 + 1, 0, none⟩ = some (.int .i64 lvl) := by rw [hW1, hB]; exact (boxes3 w _ _ _ _ _ _ 0).2.2
  have e4 : W1.cell? ⟨B + 1, 0, none⟩ = some (.int .i64 5) := by rw [hW1, hB]; exact (boxes3 w _ _ _ _ _ _ 0).2.1
  have hN : ∀ k, B ≤ k → k ≠ b ∧ v.ownBlock ≠ some k := fun k hk => ⟨by have := h.lt; omega, fun e => by have := (h.bw.own.lt k e).2; omega⟩
  have hS1 : SStep b S w v W1 v st := (SStep.start h).below hbw
  have hM := many_arr hS1.now hi B (B + 1) (B + 1 + 1) [91] [93] (by decide) (by decide) list.length lvl (by omega) (by omega) (fun i st => pv S d ((list.map (srtT d)).getD i default) (lvl + 1) st) (fun i hin w' v' st' hst => by
    obtain ⟨ad, rfl, y0, y1, y2, y3, y4, hc5, hRi⟩ := hL i hin
    have hNN : ∀ k, B ≤ k → k < W1.heap.size → k ≠ b ∧ v.ownBlock ≠ some k := fun k hk _ => hN k hk
    have hVi := ih list[i] y0 y1 y2 y3 y4 hRi (hOl i hin)
    have hg : (list.map (srtT d)).getD i default = srtT d list[i] := by simp [hin]
    rw [hg]
    refine value1_any hst.now w0 hb (hst.below0 hS1.now hb (hS1.below0 h hb h0)) d (srtT d list[i]) B (B + 1) (B + 1 + 1) i list.length c lvl ad y0 y1 y2 y3 y4 hin (by omega) (hst.cell hS1.now e1 (hN _ (by omega)).1 (hN _ (by omega)).2) (hst.cell hS1.now e2 (hN _ (by omega)).1 (hN _ (by omega)).2) (hst.cell hS1.now e3 (hN _ (by omega)).1 (hN _ (by omega)).2) hc5 hVi)
  have HM := Lib.hid hM
  have HB := Lib.hid hB
  clear hM hL hK hOl ih hN hB
  obtain ⟨Z, hZ⟩ : ∃ Z, Z = manyS S lvl (fun i st => pv S d ((list.map (srtT d)).getD i default) (lvl + 1) st) [91] [93] list.length st := ⟨_, rfl⟩
  rw [← hZ] at HM ⊢
  clear hZ
  go_enter Tryz.func15, Tryz.ntmps15
  go_wp2_with fail
  rw [← hW1]
  have HM2 := HM.out
  rw [HB.out] at HM2
  refine HM2.mono ?_
  clear HM HM2
  rintro e' w2 ⟨rfl, v2, hA⟩
  have hF := hS1.join hA
  go_wp2_with fail
  go_end0
  exact ⟨rfl, v2, hF⟩
set_option maxHeartbeats 4000000 in
set_option maxRecDepth 100000 in
theorem value_obj_s (S : Sty) (hi : S.ind ≤ 7) (hS : S.srt = true) (w0 : World) (T0 : Tabs w0) (d : Nat) (num : Nat) (str : List UInt8) (keys : List (List UInt8)) (list : List Tr) (x0 x1 x2 x3 x4 : Value)
    (ih : ∀ (t : Tr) (y0 y1 y2 y3 y4 : Value), Rep d w0 t y0 y1 y2 y3 y4 → Okp d t → Vals S w0 d (srtT d t) y0 y1 y2 y3 y4)
    (hR : Rep (d + 1) w0 (.mk 6 num str keys list) x0 x1 x2 x3 x4) (hO : Okp (d + 1) (.mk 6 num str keys list)) : Vals S w0 (d + 1) (srtT (d + 1) (.mk 6 num str keys list)) x0 x1 x2 x3 x4 := by
  have hR0 := hR
  obtain ⟨rfl, rfl, rfl, hnum, hstr, hll, hkl, A, c, A2, c2, rfl, rfl, hL, hK, _⟩ := hR
  obtain ⟨_, _, hOk, hOl⟩ := hO
  have hkl2 := hOk rfl
  intro b w v st lvl x hx hlv hb h0 h
  subst hx
  obtain ⟨K, hKK⟩ : ∃ K, K = sortT keys.length keys := ⟨_, rfl⟩
  have hKl : K.length = keys.length := by rw [hKK, sortT_len]
  have hKm : ∀ y ∈ K, y ∈ keys := fun y hy => (sortT_perm keys.length keys).mem_iff.1 (by rw [← hKK]; exact hy)
  obtain ⟨L, hLL⟩ : ∃ L : List Tr, L = K.map fun y => srtT d (list.getD (atT keys y).toNat default) := ⟨_, rfl⟩
  have hpv : pv S (d + 1) (srtT (d + 1) (.mk 6 num str keys list)) lvl st = manyS S lvl (fun i st => pv S d (L.getD i default) (lvl + 1) (keyS S st (K.getD i []))) [123] [125] keys.length st := by rw [srtT, if_neg (by decide), if_pos rfl, pv, if_neg (by decide), if_pos rfl, ← hKK, hKl, hLL]
  rw [hpv]
  clear hpv
  obtain ⟨B, hB⟩ : ∃ B, B = w.heap.size := ⟨_, rfl⟩
  obtain ⟨W1, hW1⟩ : ∃ W1, W1 = (((w.alloc (.cells #[.pointer (some ⟨b, 0, none⟩)] 45)).alloc (.cells #[.int .i64 6, .float .f64 num, .string ⟨str.toArray⟩, .slice A list.length c, .slice A2 keys.length c2] 27)).alloc (.cells #[.int .i64 lvl] 3)).alloc (.cells #[.slice A2 keys.length c2] 25) := ⟨_, rfl⟩
  have hbw : Below w.heap.size w W1 := by rw [hW1]; exact (below_boxes _ _ _ _).alloc (by simp; omega) _
  have hsz1 : W1.heap.size = B + 1 + 1 + 1 + 1 := by rw [hW1, hB]; simp
  have e1 : W1.cell? ⟨B, 0, none⟩ = some (.pointer (some ⟨b, 0, none⟩)) := by rw [hW1, hB]; rw [old_cell _ _ _ _ (by simp; omega)]; exact (boxes3 w _ _ _ _ _ _ 0).1
  have ev : ∀ j u, (#[.int .i64 6, .float .f64 num, .string ⟨str.toArray⟩, .slice A list.length c, .slice A2 keys.length c2] : Array Value)[j]? = some u → W1.cell? ⟨B + 1, j, none⟩ = some u := fun j u hu => by rw [hW1, hB]; rw [old_cell _ _ _ _ (by simp)]; exact ((boxes3 w _ _ _ _ _ _ j).2.1).trans hu
  have e3 : W1.cell? ⟨B + 1 + 1, 0, none⟩ = some (.int .i64 lvl) := by rw [hW1, hB]; rw [old_cell _ _ _ _ (by simp)]; exact (boxes3 w _ _ _ _ _ _ 0).2.2
  have e5 : W1.heap[B + 1 + 1 + 1]? = some (.cells #[.slice A2 keys.length c2] 25) := by
    have sz : (((w.alloc (.cells #[.pointer (some ⟨b, 0, none⟩)] 45)).alloc (.cells #[.int .i64 6, .float .f64 num, .string ⟨str.toArray⟩, .slice A list.length c, .slice A2 keys.length c2] 27)).alloc (.cells #[.int .i64 lvl] 3)).heap.size = w.heap.size + 1 + 1 + 1 := by simp
    rw [hW1, hB, ← sz]; exact heap_alloc_new _ _
  have hN : ∀ k, B ≤ k → k ≠ b ∧ v.ownBlock ≠ some k := fun k hk => ⟨by have := h.lt; omega, fun e => by have := (h.bw.own.lt k e).2; omega⟩
  have hS1 : SStep b S w v W1 v st := (SStep.start h).below hbw
  have hw01 := hS1.below0 h hb h0
  have hKeys := vkeys_any (d + 1) W1 6 num str keys list _ _ _ _ _ (hR0.below hw01)
  rw [← hKK] at hKeys
  have after : ∀ w2 v2, OwnG 9 1 W1.heap.size w2 v2 K.length (strCs K) → Below W1.heap.size W1 w2 → ∃ A' c', v2 = .slice A' keys.length c' ∧ Hid (Calls Tryz.prog 28 #[.pointer (some ⟨b, 0, none⟩), .string ⟨[123].toArray⟩, .string ⟨[125].toArray⟩, .int .i64 keys.length, .int .i64 lvl, .func (.func 31) #[] #[.pointer (some ⟨B, 0, none⟩), .pointer (some ⟨B + 1 + 1 + 1, 0, none⟩), .pointer (some ⟨B + 1, 0, none⟩), .pointer (some ⟨B + 1 + 1, 0, none⟩)]] (w2.setCell ⟨B + 1 + 1 + 1, 0, none⟩ v2) fun e w' => e = .returned (.tuple #[]) ∧ ∃ v', SStep b S w v w' v' (manyS S lvl (fun i st => pv S d (L.getD i default) (lvl + 1) (keyS S st (K.getD i []))) [123] [125] keys.length st)) ∧
      Hid ((w2.setCell ⟨B + 1 + 1 + 1, 0, none⟩ v2).cell? ⟨B + 1 + 1 + 1, 0, none⟩ = some v2 ∧ (w2.setCell ⟨B + 1 + 1 + 1, 0, none⟩ v2).cell? ⟨B, 0, none⟩ = some (.pointer (some ⟨b, 0, none⟩)) ∧ (w2.setCell ⟨B + 1 + 1 + 1, 0, none⟩ v2).cell? ⟨B + 1 + 1, 0, none⟩ = some (.int .i64 lvl) ∧ w2.frozen? ⟨B + 1 + 1 + 1, 0, none⟩ = false ∧ w2.cell? ⟨B + 1 + 1 + 1, 0, none⟩ = some (.slice A2 keys.length c2)) := by
    intro w2 v2 hO2 hb2
    obtain ⟨A', c', rfl⟩ := hO2.shape
    obtain ⟨-, -, hcl⟩ := hO2.cells rfl
    have h5 : w2.heap[B + 1 + 1 + 1]? = some (.cells #[.slice A2 keys.length c2] 25) := (hb2.block _ (by omega)).trans e5
    obtain ⟨W2, hW2⟩ : ∃ W2, W2 = w2.setCell ⟨B + 1 + 1 + 1, 0, none⟩ (.slice A' K.length c') := ⟨_, rfl⟩
    have hbW2 : Below w.heap.size w W2 := by rw [hW2]; exact (hbw.trans (hb2.mono (by omega))).setCell (by show w.heap.size ≤ B + 1 + 1 + 1; omega) _
    have hS2 : SStep b S w v W2 v st := (SStep.start h).below hbW2
    have ot : ∀ (a : Addr) (u : Value), a.block ≠ B + 1 + 1 + 1 → w2.cell? a = some u → W2.cell? a = some u := fun a u hn hc => by
      rw [hW2]
      exact (World.cell?_of_block (Below.heap_setCell w2 ⟨B + 1 + 1 + 1, 0, none⟩ _ a.block hn)).trans hc
    have od : ∀ (a : Addr) (u : Value), a.block ≠ B + 1 + 1 + 1 → W1.cell? a = some u → W2.cell? a = some u := fun a u hn hc => ot a u hn ((hb2.cell (World.block_lt_of_cell? W1 _ hc)).trans hc)
    have f1 := od ⟨B, 0, none⟩ _ (by show B ≠ _; omega) e1
    have fv := fun j u hu => od ⟨B + 1, j, none⟩ u (by show B + 1 ≠ _; omega) (ev j u hu)
    have f3 := od ⟨B + 1 + 1, 0, none⟩ _ (by show B + 1 + 1 ≠ _; omega) e3
    have f4 : W2.cell? ⟨B + 1 + 1 + 1, 0, none⟩ = some (.slice A' K.length c') := by
      rw [hW2]
      have := Go.heap_setCell_same _ _ 0 _ _ (.slice A' K.length c') h5
      exact Go.Proofs.YticaihfcnbehpaaGreatDoor.cell_of_heap this (by simp)
    refine ⟨A', c', by rw [hKl], ?_, ?_⟩
    · rw [← hW2]
      refine Lib.hid ?_
      refine (many_obj hS2.now hi B (B + 1 + 1 + 1) (B + 1) (B + 1 + 1) [123] [125] (by decide) (by decide) keys.length lvl (by omega) (by omega) (fun i st => pv S d (L.getD i default) (lvl + 1) (keyS S st (K.getD i []))) (fun i hik w' v' st' hst => ?_)).mono (fun e w' h => ⟨h.1, h.2.elim fun v' hh => ⟨v', hS2.join hh⟩⟩)
      have hin : i < list.length := by omega
      have hiK : i < K.length := by omega
      obtain ⟨ad, hadA, y0, y1, y2, y3, y4, hc5, hRi⟩ := hL i hin
      obtain ⟨kk, nn, ss, A3, n3, e3', A4, n4, e4', rfl, rfl, rfl, rfl, rfl⟩ := rep_shape hRi
      obtain ⟨g, rfl, hown, hcg⟩ := hcl (by simp [strCs]; omega)
      have hgB : B + 1 + 1 + 1 < g := by have := (hO2.lt g hown).1; omega
      obtain ⟨j, hj, ej, ey⟩ := atT_mem keys K[i] (hKm _ (List.getElem_mem hiK))
      have hjl : j < list.length := by omega
      have hg : L.getD i default = srtT d list[j] := by
        rw [hLL]
        simp only [List.getD_eq_getElem?_getD, List.getElem?_map, List.getElem?_eq_getElem hiK, Option.map_some, Option.getD_some, ej, Int.toNat_natCast, List.getElem?_eq_getElem hjl]
      have hg2 : K.getD i [] = K[i] := by simp [hiK]
      have hkl3 : (K[i]).length ≤ 1048576 := by rw [← ey]; exact (hK j hj).1
      have hkc : W2.cell? ((⟨g, 0, none⟩ : Addr).add i) = some (.string ⟨(K[i]).toArray⟩) := by
        rw [add_mk, Nat.zero_add]
        exact ot ⟨g, i, none⟩ _ (by show g ≠ _; omega) (hcg i _ (by simp [strCs, hiK]))
      have hab : ((⟨g, 0, none⟩ : Addr).add i).block = g := by rw [add_mk]
      rw [hg, hg2]
      have far : ∀ (a : Addr) (u : Value), B ≤ a.block → W2.cell? a = some u → w'.cell? a = some u := fun a u hn hc => by
        have hbl := hst.keep.block a.block (World.block_lt_of_cell? W2 _ hc) (fun e => by
          rcases e with e | e
          · exact (hN _ hn).1 e
          · exact (hN _ hn).2 e.symm)
        exact (World.cell?_of_block hbl).trans hc
      have nb : ∀ k, B ≤ k → k < W2.heap.size → k ≠ b ∧ v'.ownBlock ≠ some k := fun k hk hk2 => hst.far (hN k hk) hk2
      refine value2s_any hst.now hS w0 T0 hb (hst.below0 hS2.now hb (hS2.below0 h hb h0)) d (srtT d list[j]) B (B + 1 + 1 + 1) (B + 1) (B + 1 + 1) i list.length c K.length c' lvl ad ⟨g, 0, none⟩ K[i] num ⟨str.toArray⟩ A2 keys.length c2 kk nn ss A3 A4 n3 e3' n4 e4' hin hiK (by omega) hkl3
        (far _ _ (by show B ≤ B; omega) f1) (far _ _ (by show B ≤ B + 1 + 1; omega) f3) (far _ _ (by show B ≤ B + 1 + 1 + 1; omega) f4) (far _ _ (by show B ≤ B + 1; omega) (fv 0 _ rfl)) (far _ _ (by show B ≤ B + 1; omega) (fv 1 _ rfl)) (far _ _ (by show B ≤ B + 1; omega) (fv 2 _ rfl)) (far _ _ (by show B ≤ B + 1; omega) (by rw [← hadA]; exact fv 3 _ rfl)) (far _ _ (by show B ≤ B + 1; omega) (fv 4 _ rfl))
        (nb _ (by omega) (World.block_lt_of_cell? W2 _ f1)) (nb _ (by omega) (World.block_lt_of_cell? W2 _ (fv 0 _ rfl))) (nb _ (by omega) (World.block_lt_of_cell? W2 _ f3)) (nb _ (by omega) (World.block_lt_of_cell? W2 _ f4)) (nb _ (by rw [hab]; omega) (World.block_lt_of_cell? W2 _ hkc))
        (far _ _ (by rw [hab]; omega) hkc) hc5 (fun W hbW => ?_)
      rw [← hadA]
      refine (get_any0 d w0 W hbW 6 num str keys list _ _ _ _ _ K[i] hR0 j hjl ej).mono ?_
      rintro e W' ⟨z0, z1, z2, z3, z4, hZ, he, hbb⟩
      obtain ⟨k0, k1, s2, a3, m3, c3, a4, m4, c4, rfl, rfl, rfl, rfl, rfl⟩ := rep_shape hZ
      exact ⟨k0, k1, s2, a3, m3, c3, a4, m4, c4, ih list[j] _ _ _ _ _ hZ (hOl j hjl), he, hbb⟩
    · rw [← hW2]
      exact Lib.hid ⟨f4, f1, f3, Go.Proofs.YticaihfcnbehpaaGreatDoor.frozen_of_heap 0 h5, Go.Proofs.YticaihfcnbehpaaGreatDoor.cell_of_heap h5 rfl⟩
  obtain ⟨Z, hZ⟩ : ∃ Z, Z = manyS S lvl (fun i st => pv S d (L.getD i default) (lvl + 1) (keyS S st (K.getD i []))) [123] [125] keys.length st := ⟨_, rfl⟩
  rw [← hZ] at after ⊢
  have hsrt1 := hS1.now.cSrt
  rw [hS] at hsrt1
  rw [hB] at after
  have HAft := Lib.hid after
  have HKeys := Lib.hid hKeys
  have HB := Lib.hid hB
  have hbl := h.lt
  have f1 := e1
  have f3 := e3
  have fv0 := ev 0 _ rfl
  have fv1 := ev 1 _ rfl
  have fv2 := ev 2 _ rfl
  have fv3 := ev 3 _ rfl
  have fv4 := ev 4 _ rfl
  rw [hB] at f1 f3 fv0 fv1 fv2 fv3 fv4
  clear hKeys after hZ hLL hKK hKm hKl hL hK hOl ih hN hkl2 hOk hR0 hB e1 ev e3 e5 hsz1
  go_enter Tryz.func15, Tryz.ntmps15
  go_upto_region 7 with fail
  rw [← hW1]
  have HW1 := Lib.hid hW1
  clear hW1
  go_wp2_with fail
  refine HKeys.out.mono ?_
  rintro e' w2 ⟨v2, rfl, hO2, hb2⟩
  obtain ⟨A', c', rfl, HM, HC⟩ := HAft.out w2 v2 hO2 hb2
  obtain ⟨g4, g1, g3, gz, gc⟩ := HC.out
  clear HC HKeys HAft hO2 fv0 fv1 fv2 fv3 fv4 f1 f3 hsrt1 hb2
  go_wp2_with fail
  refine HM.out.mono ?_
  rintro e' w3 ⟨rfl, v3, hA⟩
  go_wp2_with fail
  go_end0
  exact ⟨rfl, v3, hA⟩
theorem value_tree_s (S : Sty) (hi : S.ind ≤ 7) (hS : S.srt = true) (w0 : World) (T0 : Tabs w0) : ∀ (d : Nat) (t : Tr) (y0 y1 y2 y3 y4 : Value), Rep d w0 t y0 y1 y2 y3 y4 → Okp d t → Vals S w0 d (srtT d t) y0 y1 y2 y3 y4 := by
  intro d
  induction d with
  | zero => intro t _ _ _ _ _ h; exact h.elim
  | succ d ih =>
    intro t y0 y1 y2 y3 y4 hR hO
    cases t with
    | mk k num str keys list =>
      have hk : 0 ≤ k ∧ k ≤ 6 := ⟨hO.1, hO.2.1⟩
      have h7 : k = 0 ∨ k = 1 ∨ k = 2 ∨ k = 3 ∨ k = 4 ∨ k = 5 ∨ k = 6 := by omega
      rcases h7 with rfl | rfl | rfl | rfl | rfl | rfl | rfl
      · exact value_0 S w0 T0 d num str keys list _ _ _ _ _ hR
      · exact value_1 S w0 T0 d num str keys list _ _ _ _ _ hR
      · exact value_2 S w0 T0 d num str keys list _ _ _ _ _ hR
      · exact value_3 S w0 T0 d num str keys list _ _ _ _ _ hR
      · exact value_4 S w0 T0 d num str keys list _ _ _ _ _ hR
      · exact value_arr_s S hi w0 d num str keys list _ _ _ _ _ ih hR hO
      · exact value_obj_s S hi hS w0 T0 d num str keys list _ _ _ _ _ ih hR hO
/-- The tree that is printed. -/
def styT (S : Sty) (d : Nat) (t : Tr) : Tr := if S.srt = true then srtT d t else t
theorem okp_sty (S : Sty) (d : Nat) (t : Tr) (h : Okp d t) : Okp d (styT S d t) := by
  unfold styT
  split
  · exact okp_srt d t h
  · exact h
theorem value_tree_any (S : Sty) (hi : S.ind ≤ 7) (w0 : World) (T0 : Tabs w0) (d : Nat) (t : Tr) (y0 y1 y2 y3 y4 : Value) (hR : Rep d w0 t y0 y1 y2 y3 y4) (hO : Okp d t) : Vals S w0 d (styT S d t) y0 y1 y2 y3 y4 := by
  unfold styT
  split
  · rename_i h; exact value_tree_s S hi h w0 T0 d t _ _ _ _ _ hR hO
  · rename_i h; exact value_tree S hi (by cases e : S.srt with | false => rfl | true => exact absurd e h) w0 T0 d t _ _ _ _ _ hR hO
set_option maxHeartbeats 1000000 in
set_option maxRecDepth 100000 in
theorem print_any_s (S : Sty) (hi : S.ind ≤ 7) (w : World) (T0 : Tabs w) (d : Nat) (hd : d ≤ 800000) (t : Tr) (y0 y1 y2 y3 y4 : Value) (hR : Rep (d + 1) w t y0 y1 y2 y3 y4) (hO : Okp (d + 1) t) :
    Calls Tryz.prog 7 #[.agg #[y0, y1, y2, y3, y4], .agg #[.int .i64 S.ind, .bool S.tab, .bool S.srt, .bool S.asc, .bool S.col]] w fun e w' =>
      e = .returned (printV (printS S (d + 1) (styT S (d + 1) t))) ∧ Below w.heap.size w w' := by
  have hV := value_tree_any S hi w T0 (d + 1) t y0 y1 y2 y3 y4 hR hO
  have hpos := printS_pos S d (styT S (d + 1) t)
  obtain ⟨kk, nn, ss, A3, n3, e3, A4, n4, e4, rfl, rfl, rfl, rfl, rfl⟩ := rep_shape hR
  obtain ⟨r, hr⟩ : ∃ r, r = printS S (d + 1) (styT S (d + 1) t) := ⟨_, rfl⟩
  rw [← hr] at hpos ⊢
  have HR := Lib.hid hr
  have HV := Lib.hid hV
  clear hV hR hO hr
  have t1 : decide ((S.ind : Int) < 0) = false := decide_eq_false (by omega)
  have t2 : decide ((7 : Int) < (S.ind : Int)) = false := decide_eq_false (by omega)
  go_enter Tryz.func7, Tryz.ntmps7
  go_wp2_with fail
  obtain ⟨W2, hW2⟩ : ∃ W2, W2 = (w.alloc (.cells #[.int .i64 kk, .float .f64 nn, .string ss, .slice A3 n3 e3, .slice A4 n4 e4] 27)).alloc (.cells #[.int .i64 S.ind, .bool S.tab, .bool S.srt, .bool S.asc, .bool S.col] 29) := ⟨_, rfl⟩
  have hsz : W2.heap.size = w.heap.size + 1 + 1 := by rw [hW2]; simp
  have hb2 : Below w.heap.size w W2 := by rw [hW2]; exact ((Below.refl _ _).alloc (Nat.le_refl _) _).alloc (by simp) _
  rw [← hW2]
  clear hW2
  have hsh := sh_new S W2
  obtain ⟨W3, hW3⟩ : ∃ W3, W3 = W2.alloc (.cells #[.pointer none, .slice none 0 0, .int .i64 S.ind, .bool S.tab, .bool S.srt, .bool S.asc, .bool S.col, .bool false] 51) := ⟨_, rfl⟩
  have hb3 : Below w.heap.size w W3 := by rw [hW3]; exact hb2.alloc hb2.size _
  rw [← hW3] at hsh ⊢
  clear hW3
  rw [hsz] at hsh
  clear hsz
  refine (HV.out (w.heap.size + 1 + 1) W3 _ _ 0 0 rfl (by omega) (by omega) hb3 hsh).mono ?_
  rintro e' w4 ⟨rfl, v4, hA⟩
  have hb4 := hA.below0 hsh (by omega) hb3
  have hN := hA.now
  rw [show pv S (d + 1) (styT S (d + 1) t) 0 ([], false) = r from HR.out.symm] at hN
  clear hA hsh HV HR hb3 hb2
  have hfull := hN.cFull
  cases hf : r.2 with
  | true =>
    rw [hf] at hfull
    have HP : Hid (printV r = .tuple #[.string ⟨#[]⟩, .int .i64 171]) := Lib.hid (by unfold printV; rw [if_pos hf])
    clear hN hpos hf
    go_wp2_with fail
    go_ret2
    exact ⟨by rw [HP.out]; rfl, hb4⟩
  | false =>
    rw [hf] at hfull
    have hp := hpos hf
    have HP : Hid (printV r = .tuple #[.string ⟨r.1.toArray⟩, .int .i64 0]) := Lib.hid (by unfold printV; rw [if_neg (by rw [hf]; decide)])
    clear hpos hf
    go_wp2_with fail
    refine (string_any hN.bw hp).mono ?_
    rintro e' w5 ⟨rfl, hb5⟩
    have hb6 : Below w.heap.size w w5 := hb4.trans (hb5.mono (by omega))
    go_wp2_with fail
    go_ret2
    exact ⟨by rw [HP.out]; rfl, hb6⟩
end Go.Proofs.YticaihfcnbehpaaGreatDoor
