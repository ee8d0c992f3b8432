/- The document's printer: value of what has no parts. -/
import Derived.Test.YticaihfcnbehpaaGreatDoorRup
import Derived.Test.YticaihfcnbehpaaGreatDoorRtx
import Derived.Deep.RegionHeld3
set_option linter.unusedVariables false
set_option linter.unusedSimpArgs false
namespace Go.Proofs.YticaihfcnbehpaaGreatDoor
open Go Go.RowKit Go.Proofs
/-- What run.value is claimed to do of a tree, at whatever place. -/
def RVals (S : Sty) (w0 : World) (d : Nat) (t : Tr) (y0 y1 y2 y3 y4 : Value) : Prop :=
  ∀ (b : Nat) (w : World) (v : Value) (st : St) (lvl : Nat) (x : Int), x = (lvl : Int) → lvl + d ≤ 900000 → w0.heap.size ≤ b → Below w0.heap.size w0 w → Rn b S w v st →
    Calls Tryz.prog 17 #[.pointer (some ⟨b, 0, none⟩), .agg #[y0, y1, y2, y3, y4], .int .i64 x] w (RP b S w v st (ftx S d t lvl))
theorem Byt.below {b : Nat} {w w' : World} {v x : Value} {l : List UInt8} (h : Byt b w v x l) (hb : Below w.heap.size w w') : Byt b w' v x l := by
  obtain ⟨A, c, hx, hA, hn⟩ := h
  exact ⟨A, c, hx, hA.below hb, fun ad had => ⟨Nat.lt_of_lt_of_le (hn ad had).1 hb.size, (hn ad had).2⟩⟩
set_option maxHeartbeats 4000000 in
set_option maxRecDepth 100000 in
theorem rvalue_4 (S : Sty) (w0 : World) (T0 : Tabs w0) (d : Nat) (num : Nat) (str : List UInt8) (keys : List (List UInt8)) (list : List Tr) (x0 x1 x2 x3 x4 : Value)
    (hR : Rep (d + 1) w0 (.mk 4 num str keys list) x0 x1 x2 x3 x4) : RVals S w0 (d + 1) (.mk 4 num str keys list) x0 x1 x2 x3 x4 := by
  obtain ⟨rfl, rfl, rfl, hnum, hstr, hll, hkl, A, c, A2, c2, rfl, rfl, hL, hK, _⟩ := hR
  clear hL hK
  intro b w v st lvl x hx hlv hb h0 h
  subst hx
  obtain ⟨Z, hZ⟩ : ∃ Z, Z = escT str S.asc := ⟨_, rfl⟩
  have hft : ftx S (d + 1) (.mk 4 num str keys list) lvl = tokT S Z (colT 4) := by rw [hZ]; rw [ftx, if_neg (by decide), if_neg (by decide), if_pos rfl]; rfl
  rw [hft]
  have hlen : Z.length ≤ 900000000 := by rw [hZ]; exact escT_length str S.asc hstr
  obtain ⟨W1, hW1⟩ : ∃ W1, W1 = w.alloc (.cells #[.int .i64 4, .float .f64 num, .string ⟨str.toArray⟩, .slice A list.length c, .slice A2 keys.length c2] 27) := ⟨_, rfl⟩
  obtain ⟨hbw, e0, e1, e2, e3, e4⟩ := after_new _ _ _ _ _ _ _ _ hW1
  have hS1 : RStep b S w v W1 v st := (RStep.start h).below hbw
  have TW : Tabs W1 := T0.next (hS1.below0 h hb h0)
  have hasc := hS1.now.cellAt 3 (.bool S.asc) rfl
  have K : Hid (∀ W, Below W1.heap.size W1 W → W.cell? ⟨w.heap.size, 0, none⟩ = some (.int .i64 4) ∧ W.cell? ⟨w.heap.size, 1, none⟩ = some (.float .f64 num) ∧ W.cell? ⟨w.heap.size, 2, none⟩ = some (.string ⟨str.toArray⟩) ∧ W.cell? ⟨w.heap.size, 3, none⟩ = some (.slice A list.length c) ∧ W.cell? ⟨w.heap.size, 4, none⟩ = some (.slice A2 keys.length c2) ∧ W.cell? ⟨b, 3, none⟩ = some (.bool S.asc)) := Lib.hid (fun W hbW => by
    have go : ∀ {q : Addr} {u : Value}, W1.cell? q = some u → W.cell? q = some u := fun hc => (hbW.cell (World.block_lt_of_cell? W1 _ hc)).trans hc
    exact ⟨go e0, go e1, go e2, go e3, go e4, go hasc⟩)
  have KR : Hid (∀ W wt vt stt, Below W1.heap.size W1 W → RStep b S W v wt vt stt → wt.cell? ⟨w.heap.size, 0, none⟩ = some (.int .i64 4) ∧ wt.cell? ⟨w.heap.size, 1, none⟩ = some (.float .f64 num) ∧ wt.cell? ⟨w.heap.size, 2, none⟩ = some (.string ⟨str.toArray⟩) ∧ wt.cell? ⟨w.heap.size, 3, none⟩ = some (.slice A list.length c) ∧ wt.cell? ⟨w.heap.size, 4, none⟩ = some (.slice A2 keys.length c2) ∧ wt.cell? ⟨b, 3, none⟩ = some (.bool S.asc)) := Lib.hid (fun W wt vt stt hW hr => by
    have hn : w.heap.size ≠ b ∧ v.ownBlock ≠ some w.heap.size := ⟨by have := h.lt; omega, fun e => by have := h.own.lt _ e; omega⟩
    obtain ⟨c0, c1, c2, c3, c4, _⟩ := K.out W hW
    exact ⟨hr.far c0 hn, hr.far c1 hn, hr.far c2 hn, hr.far c3 hn, hr.far c4 hn, hr.now.cellAt 3 (.bool S.asc) rfl⟩)
  have HT : Hid (∀ W, Below W1.heap.size W1 W → Tabs W) := Lib.hid (fun W hbW => TW.next hbW)
  have HC : Hid (∀ W, Calls Tryz.prog 39 #[.agg #[.int .i64 4, .float .f64 num, .string ⟨str.toArray⟩, .slice A list.length c, .slice A2 keys.length c2]] W fun e w' => e = .returned (.string ⟨(colT 4).toArray⟩) ∧ Below W.heap.size W w') := Lib.hid (fun W => refColour_any W 4 (by omega) num _ _ _ ⟨_, _, _, rfl⟩ ⟨_, _, _, rfl⟩)
  have HTok : Hid (∀ W y, Below W1.heap.size W1 W → Byt b W v y Z → Calls Tryz.prog 37 #[.pointer (some ⟨b, 0, none⟩), y, .string ⟨(colT 4).toArray⟩] W (RP b S W v st (tokT S Z (colT 4)))) := Lib.hid (fun W y hW hy => rtoken_any (hS1.now.below hW) y Z (colT 4) hy hlen (colT_length 4))
  have HS1 := Lib.hid hS1
  have HE : Hid (∀ W, Below W1.heap.size W1 W → Calls Tryz.prog 38 #[.string ⟨str.toArray⟩, .bool S.asc] W fun e w' => ∃ v', e = .returned v' ∧ Byt b w' v v' Z ∧ Below W.heap.size W w') := Lib.hid (fun W hW => (refEscape_any W str S.asc (by omega)).mono (fun e w' ⟨v', he, hA⟩ => ⟨v', he, by rw [hZ]; exact Byt.own (hS1.now.below hW) hA, hA.fresh⟩))
  obtain ⟨C, hC⟩ : ∃ C, C = colT 4 := ⟨_, rfl⟩
  rw [← hC] at HC HTok ⊢
  clear hC hft hZ hS1 TW hasc e1 e2 e3 e4 hbw h0 hb hlen h
  have HW1 := Lib.hid hW1
  clear hW1
  go_enter Tryz.func17, Tryz.ntmps17
  go_upto_region 7 with fail
  rw [← HW1.out]
  have hx : Below W1.heap.size W1 W1 := Below.refl _ _
  go_region_held3 (fun W => W.cell? ⟨w.heap.size, 0, none⟩ = some (.int .i64 4) ∧ W.cell? ⟨w.heap.size, 1, none⟩ = some (.float .f64 num) ∧ W.cell? ⟨w.heap.size, 2, none⟩ = some (.string ⟨str.toArray⟩) ∧ W.cell? ⟨w.heap.size, 3, none⟩ = some (.slice A list.length c) ∧ W.cell? ⟨w.heap.size, 4, none⟩ = some (.slice A2 keys.length c2) ∧ W.cell? ⟨b, 3, none⟩ = some (.bool S.asc))
    ((first | with_reducible exact KR.out _ _ _ _ hx hA | with_reducible exact KR.out _ _ _ _ (Below.also hx (bytesWorld_below _ _ _)) hA | with_reducible exact KR.out _ _ _ _ (Below.also hx.drew (bytesWorld_below _ _ _)) hA | (refine K.out _ ?_; first | with_reducible exact hx | with_reducible exact hx.drew | with_reducible exact Below.also hx (bytesWorld_below _ _ _) | with_reducible exact Below.also hx.drew (bytesWorld_below _ _ _))))
    (first | (go_at_call 38; refine (HE.out _ (by first | exact hx | exact hx.drew)).mono ?_; rintro e' we ⟨ve, rfl, hBy, hbe⟩; have hx := Below.also (by first | exact hx | exact hx.drew) hbe; clear hbe) | (go_at_call 39; refine (HC.out _).mono ?_; rintro e' wc ⟨rfl, hbc⟩; first | (with_reducible (have hBy := Byt.below (by assumption) hbc); have hx := Below.also (by first | exact hx | exact hx.drew) hbc; clear hbc) | (have hx := Below.also (by first | exact hx | exact hx.drew) hbc; clear hbc) | (have hBy := Byt.below (HByt.out we (grownCap we Z.length 0 5) hx) hbc; have hx := Below.also (Below.also hx (bytesWorld_below _ _ _)) hbc; clear hbc) | (have hBy := Byt.below (HByt.out we.drew (grownCap we.drew Z.length 0 5) hx.drew) hbc; have hx := Below.also (Below.also hx.drew (bytesWorld_below _ _ _)) hbc; clear hbc)) | (go_at_call 37; refine (HTok.out _ _ (by first | exact hx | exact Below.also hx (bytesWorld_below _ _ _) | exact Below.also hx.drew (bytesWorld_below _ _ _)) (by first | assumption | exact HByt.out _ _ hx | exact HByt.out _ _ hx.drew)).mono ?_; rintro e' wt ⟨rfl, vt, stt, hA, hF⟩; have hE := (HS1.out.below (by first | exact hx | exact Below.also hx (bytesWorld_below _ _ _) | exact Below.also hx.drew (bytesWorld_below _ _ _))).join hA))
  all_goals
    clear K
    go_wp2_with fail
    go_end0
    exact ⟨rfl, vt, stt, hE, hF⟩
end Go.Proofs.YticaihfcnbehpaaGreatDoor
