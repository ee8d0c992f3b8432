/- The document's printer: value of true. -/
import Derived.Test.YticaihfcnbehpaaGreatDoorRuv
set_option linter.unusedVariables false
set_option linter.unusedSimpArgs false
namespace Go.Proofs.YticaihfcnbehpaaGreatDoor
open Go Go.RowKit Go.Proofs
set_option maxHeartbeats 4000000 in
set_option maxRecDepth 100000 in
theorem rvalue_2 (S : Sty) (w0 : World) (T0 : Tabs w0) (d : Nat) (num : Nat) (str : List UInt8) (keys : List (List UInt8)) (list : List Tr) (x0 x1 x2 x3 x4 : Value)
    (hR : Rep (d + 1) w0 (.mk 2 num str keys list) x0 x1 x2 x3 x4) : RVals S w0 (d + 1) (.mk 2 num str keys list) x0 x1 x2 x3 x4 := by
  obtain ⟨rfl, rfl, rfl, hnum, hstr, hll, hkl, A, c, A2, c2, rfl, rfl, hL, hK, _⟩ := hR
  clear hL hK
  intro b w v st lvl x hx hlv hb h0 h
  subst hx
  obtain ⟨Z, hZ⟩ : ∃ Z, Z = plainT 2 num str := ⟨_, rfl⟩
  have hft : ftx S (d + 1) (.mk 2 num str keys list) lvl = tokT S Z (colT 2) := by rw [hZ]; rw [ftx, if_neg (by decide), if_neg (by decide), if_neg (by decide)]; rfl
  rw [hft]
  have hlen : Z.length ≤ 900000000 := by rw [hZ]; exact Nat.le_trans (plainT_length 2 num str) (by omega)
  obtain ⟨W1, hW1⟩ : ∃ W1, W1 = w.alloc (.cells #[.int .i64 2, .float .f64 num, .string ⟨str.toArray⟩, .slice A list.length c, .slice A2 keys.length c2] 27) := ⟨_, rfl⟩
  obtain ⟨hbw, e0, e1, e2, e3, e4⟩ := after_new _ _ _ _ _ _ _ _ hW1
  have hS1 : RStep b S w v W1 v st := (RStep.start h).below hbw
  have TW : Tabs W1 := T0.next (hS1.below0 h hb h0)
  have hasc := hS1.now.cellAt 3 (.bool S.asc) rfl
  have K : Hid (∀ W, Below W1.heap.size W1 W → W.cell? ⟨w.heap.size, 0, none⟩ = some (.int .i64 2) ∧ W.cell? ⟨w.heap.size, 1, none⟩ = some (.float .f64 num) ∧ W.cell? ⟨w.heap.size, 2, none⟩ = some (.string ⟨str.toArray⟩) ∧ W.cell? ⟨w.heap.size, 3, none⟩ = some (.slice A list.length c) ∧ W.cell? ⟨w.heap.size, 4, none⟩ = some (.slice A2 keys.length c2) ∧ W.cell? ⟨b, 3, none⟩ = some (.bool S.asc)) := Lib.hid (fun W hbW => by
    have go : ∀ {q : Addr} {u : Value}, W1.cell? q = some u → W.cell? q = some u := fun hc => (hbW.cell (World.block_lt_of_cell? W1 _ hc)).trans hc
    exact ⟨go e0, go e1, go e2, go e3, go e4, go hasc⟩)
  have KR : Hid (∀ W wt vt stt, Below W1.heap.size W1 W → RStep b S W v wt vt stt → wt.cell? ⟨w.heap.size, 0, none⟩ = some (.int .i64 2) ∧ wt.cell? ⟨w.heap.size, 1, none⟩ = some (.float .f64 num) ∧ wt.cell? ⟨w.heap.size, 2, none⟩ = some (.string ⟨str.toArray⟩) ∧ wt.cell? ⟨w.heap.size, 3, none⟩ = some (.slice A list.length c) ∧ wt.cell? ⟨w.heap.size, 4, none⟩ = some (.slice A2 keys.length c2) ∧ wt.cell? ⟨b, 3, none⟩ = some (.bool S.asc)) := Lib.hid (fun W wt vt stt hW hr => by
    have hn : w.heap.size ≠ b ∧ v.ownBlock ≠ some w.heap.size := ⟨by have := h.lt; omega, fun e => by have := h.own.lt _ e; omega⟩
    obtain ⟨c0, c1, c2, c3, c4, _⟩ := K.out W hW
    exact ⟨hr.far c0 hn, hr.far c1 hn, hr.far c2 hn, hr.far c3 hn, hr.far c4 hn, hr.now.cellAt 3 (.bool S.asc) rfl⟩)
  have HT : Hid (∀ W, Below W1.heap.size W1 W → Tabs W) := Lib.hid (fun W hbW => TW.next hbW)
  have HC : Hid (∀ W, Calls Tryz.prog 39 #[.agg #[.int .i64 2, .float .f64 num, .string ⟨str.toArray⟩, .slice A list.length c, .slice A2 keys.length c2]] W fun e w' => e = .returned (.string ⟨(colT 2).toArray⟩) ∧ Below W.heap.size W w') := Lib.hid (fun W => refColour_any W 2 (by omega) num _ _ _ ⟨_, _, _, rfl⟩ ⟨_, _, _, rfl⟩)
  have HTok : Hid (∀ W y, Below W1.heap.size W1 W → Byt b W v y Z → Calls Tryz.prog 37 #[.pointer (some ⟨b, 0, none⟩), y, .string ⟨(colT 2).toArray⟩] W (RP b S W v st (tokT S Z (colT 2)))) := Lib.hid (fun W y hW hy => rtoken_any (hS1.now.below hW) y Z (colT 2) hy hlen (colT_length 2))
  have HS1 := Lib.hid hS1
  have HE : Hid (∀ W, Below W1.heap.size W1 W → Calls Tryz.prog 41 #[.agg #[.int .i64 2, .float .f64 num, .string ⟨str.toArray⟩, .slice A list.length c, .slice A2 keys.length c2]] W fun e w' => e = .returned (.string ⟨Z.toArray⟩) ∧ Below W.heap.size W w') := Lib.hid (fun W hW => (refText3_any W (TW.next hW) 2 (by omega) num hnum str _ _ ⟨_, _, _, rfl⟩ ⟨_, _, _, rfl⟩ (by omega)).mono (fun e w' ⟨he, hb⟩ => ⟨by rw [hZ]; exact he, hb⟩))
  have HByt : Hid (∀ W c', Below W1.heap.size W1 W → Byt b (Lib.bytesWorld W 5 ⟨Z.toArray⟩) v (.slice (some ⟨W.heap.size, 0, none⟩) Z.length c') Z) := Lib.hid (fun W c' hW => Byt.conv (hS1.now.below hW) Z c')
  have kc : ∀ W : World, (convert 9 47 (.string ⟨Z.toArray⟩)).run Tryz.prog W = .ok (.slice (some ⟨W.heap.size, 0, none⟩) Z.length (grownCap W Z.length 0 5)) (Lib.bytesWorld W 5 ⟨Z.toArray⟩) := fun W => Lib.run_convert_string_bytes (P := Tryz.prog) W 9 47 5 ⟨Z.toArray⟩ Tryz.underlying9 Tryz.underlying47 Tryz.underlying5
  obtain ⟨C, hC⟩ : ∃ C, C = colT 2 := ⟨_, rfl⟩
  rw [← hC] at HC HTok ⊢
  clear hC hft hZ hS1 TW hasc e1 e2 e3 e4 hbw h0 hb hlen h
  have HW1 := Lib.hid hW1
  clear hW1
  go_enter Tryz.func17, Tryz.ntmps17
  go_upto_region 2 with fail
  rw [← HW1.out]
  have hx : Below W1.heap.size W1 W1 := Below.refl _ _
  obtain ⟨p0, p1, p2, p3, p4, p5⟩ := K.out _ hx.drew
  go_region_with (first | (go_at_call 41; refine (HE.out _ (by first | exact hx | exact hx.drew)).mono ?_; rintro e' we ⟨rfl, hbe⟩; have hx := Below.also (by first | exact hx | exact hx.drew) hbe; clear hbe; obtain ⟨r0, r1, r2, r3, r4, r5⟩ := K.out _ hx; have hBy := HByt.out we (grownCap we Z.length 0 5) hx; have hxb := Below.also hx (bytesWorld_below we 5 ⟨Z.toArray⟩); obtain ⟨s0, s1, s2, s3, s4, s5⟩ := K.out _ hxb) | (go_at_call 39; refine (HC.out _).mono ?_; rintro e' wc ⟨rfl, hbc⟩; first | (have hBy := Byt.below hBy hbc; have hx := Below.also hxb hbc) | (have hx := Below.also hx hbc; have hBy := HByt.out wc (grownCap wc Z.length 0 5) hx; have hxb := Below.also hx (bytesWorld_below wc 5 ⟨Z.toArray⟩)); clear hbc) | (go_at_call 37; refine (HTok.out _ _ (by first | exact hx | exact hxb) (by assumption)).mono ?_; rintro e' wt ⟨rfl, vt, stt, hA, hF⟩; have hE := (HS1.out.below (by first | exact hx | exact hxb)).join hA))
  all_goals
    clear K
    go_wp2_with fail
    go_end0
    exact ⟨rfl, vt, stt, hE, hF⟩
end Go.Proofs.YticaihfcnbehpaaGreatDoor
