/- In one text: printer.sheet.value of a tree, where keys are not sorted.; printer.sheet.value of what has no parts; of every tree.; printer.Print, where keys are not sorted. -/
import Derived.Test.YticaihfcnbehpaaGreatDoorCot
import Derived.Deep.DeepCutAuto
set_option linter.unusedVariables false
set_option linter.unusedSimpArgs false
/- printer.sheet.value of a tree, where keys are not sorted. -/
namespace Go.Proofs.YticaihfcnbehpaaGreatDoor
open Go Go.RowKit Go.Proofs
theorem below_boxes (w : World) (o1 o2 o3 : Obj) : Below w.heap.size w (((w.alloc o1).alloc o2).alloc o3) :=
  (((Below.refl _ _).alloc (Nat.le_refl _) o1).alloc (by simp) o2).alloc (by simp; omega) o3
theorem SStep.far {b : Nat} {S : Sty} {w : World} {v : Value} {w1 : World} {v1 : Value} {s1 : St} (h : SStep b S w v w1 v1 s1) {k : Nat} (hn : k ≠ b ∧ v.ownBlock ≠ some k) (hk : k < w.heap.size) : k ≠ b ∧ v1.ownBlock ≠ some k := by
  refine ⟨hn.1, fun e => ?_⟩
  rcases h.moved with h1 | ⟨c, h1, h2⟩
  · exact hn.2 (by rw [← h1, e])
  · rw [h1] at e; have := Option.some.inj e; omega
theorem rep_shape {d : Nat} {w : World} {t : Tr} {y0 y1 y2 y3 y4 : Value} (h : Rep d w t y0 y1 y2 y3 y4) : ∃ (kk : Int) (nn : Nat) (ss : ByteArray) (A3 : Option Addr) (n3 e3 : Nat) (A4 : Option Addr) (n4 e4 : Nat), y0 = .int .i64 kk ∧ y1 = .float .f64 nn ∧ y2 = .string ss ∧ y3 = .slice A3 n3 e3 ∧ y4 = .slice A4 n4 e4 := by
  cases d with
  | zero => exact h.elim
  | succ d =>
    cases t with
    | mk k num str keys list =>
      obtain ⟨rfl, rfl, rfl, _, _, _, _, A, c, A2, c2, rfl, rfl, _⟩ := h
      exact ⟨_, _, _, _, _, _, _, _, _, rfl, rfl, rfl, rfl, rfl⟩
theorem old_cell (w : World) (o : Obj) (k j : Nat) (h : k < w.heap.size) : (w.alloc o).cell? ⟨k, j, none⟩ = w.cell? ⟨k, j, none⟩ := ((Below.refl w.heap.size w).alloc (Nat.le_refl _) o).cell (p := ⟨k, j, none⟩) h
theorem boxes3 (w : World) (c1 c2 c3 : Array Value) (t1 t2 t3 : TypeId) (j : Nat) :
    (((w.alloc (.cells c1 t1)).alloc (.cells c2 t2)).alloc (.cells c3 t3)).cell? ⟨w.heap.size, j, none⟩ = c1[j]? ∧ (((w.alloc (.cells c1 t1)).alloc (.cells c2 t2)).alloc (.cells c3 t3)).cell? ⟨w.heap.size + 1, j, none⟩ = c2[j]? ∧ (((w.alloc (.cells c1 t1)).alloc (.cells c2 t2)).alloc (.cells c3 t3)).cell? ⟨w.heap.size + 1 + 1, j, none⟩ = c3[j]? := by
  have s1 : (w.alloc (.cells c1 t1)).heap.size = w.heap.size + 1 := by simp
  have s2 : ((w.alloc (.cells c1 t1)).alloc (.cells c2 t2)).heap.size = w.heap.size + 1 + 1 := by simp
  refine ⟨?_, ?_, ?_⟩
  · rw [old_cell _ _ _ _ (by omega), old_cell _ _ _ _ (by omega), World.cell?_alloc_new]
  · rw [old_cell _ _ _ _ (by omega), ← s1, World.cell?_alloc_new]
  · rw [← s2, World.cell?_alloc_new]
set_option maxHeartbeats 1000000 in
set_option maxRecDepth 100000 in
theorem value_arr (S : Sty) (hi : S.ind ≤ 7) (w0 : World) (d : Nat) (num : Nat) (str : List UInt8) (keys : List (List UInt8)) (list : List Tr) (x0 x1 x2 x3 x4 : Value)
    (ih : ∀ (t : Tr) (y0 y1 y2 y3 y4 : Value), Rep d w0 t y0 y1 y2 y3 y4 → Okp d t → Vals S w0 d t y0 y1 y2 y3 y4)
    (hR : Rep (d + 1) w0 (.mk 5 num str keys list) x0 x1 x2 x3 x4) (hO : Okp (d + 1) (.mk 5 num str keys list)) : Vals S w0 (d + 1) (.mk 5 num str keys list) x0 x1 x2 x3 x4 := by
  obtain ⟨rfl, rfl, rfl, hnum, hstr, hll, hkl, A, c, A2, c2, rfl, rfl, hL, hK, _⟩ := hR
  obtain ⟨_, _, _, hOl⟩ := hO
  intro b w v st lvl x hx hlv hb h0 h
  subst hx
  have hpv : pv S (d + 1) (.mk 5 num str keys list) lvl st = manyS S lvl (fun i st => pv S d (list.getD i default) (lvl + 1) st) [91] [93] list.length st := by rw [pv, if_pos rfl]
  rw [hpv]
  clear hpv
  obtain ⟨B, hB⟩ : ∃ B, B = w.heap.size := ⟨_, rfl⟩
  obtain ⟨W1, hW1⟩ : ∃ W1, W1 = ((w.alloc (.cells #[.pointer (some ⟨b, 0, none⟩)] 45)).alloc (.cells #[.int .i64 5, .float .f64 num, .string ⟨str.toArray⟩, .slice A list.length c, .slice A2 keys.length c2] 27)).alloc (.cells #[.int .i64 lvl] 3) := ⟨_, rfl⟩
  have hbw : Below w.heap.size w W1 := by rw [hW1]; exact below_boxes _ _ _ _
  have e1 : W1.cell? ⟨B, 0, none⟩ = some (.pointer (some ⟨b, 0, none⟩)) := by rw [hW1, hB]; exact (boxes3 w _ _ _ _ _ _ 0).1
  have e2 : W1.cell? ⟨B + 1, 3, none⟩ = some (.slice A list.length c) := by rw [hW1, hB]; exact (boxes3 w _ _ _ _ _ _ 3).2.1
  have e3 : W1.cell? ⟨B + 1 + 1, 0, none⟩ = some (.int .i64 lvl) := by rw [hW1, hB]; exact (boxes3 w _ _ _ _ _ _ 0).2.2
  have e4 : W1.cell? ⟨B + 1, 0, none⟩ = some (.int .i64 5) := by rw [hW1, hB]; exact (boxes3 w _ _ _ _ _ _ 0).2.1
  have hN : ∀ k, B ≤ k → k ≠ b ∧ v.ownBlock ≠ some k := fun k hk => ⟨by have := h.lt; omega, fun e => by have := (h.bw.own.lt k e).2; omega⟩
  have hS1 : SStep b S w v W1 v st := (SStep.start h).below hbw
  have hM := many_arr hS1.now hi B (B + 1) (B + 1 + 1) [91] [93] (by decide) (by decide) list.length lvl (by omega) (by omega) (fun i st => pv S d (list.getD i default) (lvl + 1) st) (fun i hin w' v' st' hst => by
    obtain ⟨ad, rfl, y0, y1, y2, y3, y4, hc5, hRi⟩ := hL i hin
    have hNN : ∀ k, B ≤ k → k < W1.heap.size → k ≠ b ∧ v.ownBlock ≠ some k := fun k hk _ => hN k hk
    have hVi := ih list[i] y0 y1 y2 y3 y4 hRi (hOl i hin)
    have hg : list.getD i default = list[i] := by simp [hin]
    rw [hg]
    refine value1_any hst.now w0 hb (hst.below0 hS1.now hb (hS1.below0 h hb h0)) d list[i] B (B + 1) (B + 1 + 1) i list.length c lvl ad y0 y1 y2 y3 y4 hin (by omega) (hst.cell hS1.now e1 (hN _ (by omega)).1 (hN _ (by omega)).2) (hst.cell hS1.now e2 (hN _ (by omega)).1 (hN _ (by omega)).2) (hst.cell hS1.now e3 (hN _ (by omega)).1 (hN _ (by omega)).2) hc5 hVi)
  have HM := Lib.hid hM
  have HB := Lib.hid hB
  clear hM hL hK hOl ih hN hB
  obtain ⟨Z, hZ⟩ : ∃ Z, Z = manyS S lvl (fun i st => pv S d (list.getD i default) (lvl + 1) st) [91] [93] list.length st := ⟨_, rfl⟩
  rw [← hZ] at HM ⊢
  clear hZ
  go_enter Tryz.func15, Tryz.ntmps15
  go_wp2_with fail
  rw [← hW1]
  have HM2 := HM.out
  rw [HB.out] at HM2
  refine HM2.mono ?_
  clear HM HM2
  rintro e' w2 ⟨rfl, v2, hA⟩
  have hF := hS1.join hA
  go_wp2_with fail
  go_end0
  exact ⟨rfl, v2, hF⟩
set_option maxHeartbeats 1000000 in
set_option maxRecDepth 100000 in
theorem value_obj (S : Sty) (hi : S.ind ≤ 7) (hS : S.srt = false) (w0 : World) (T0 : Tabs w0) (d : Nat) (num : Nat) (str : List UInt8) (keys : List (List UInt8)) (list : List Tr) (x0 x1 x2 x3 x4 : Value)
    (ih : ∀ (t : Tr) (y0 y1 y2 y3 y4 : Value), Rep d w0 t y0 y1 y2 y3 y4 → Okp d t → Vals S w0 d t y0 y1 y2 y3 y4)
    (hR : Rep (d + 1) w0 (.mk 6 num str keys list) x0 x1 x2 x3 x4) (hO : Okp (d + 1) (.mk 6 num str keys list)) : Vals S w0 (d + 1) (.mk 6 num str keys list) x0 x1 x2 x3 x4 := by
  obtain ⟨rfl, rfl, rfl, hnum, hstr, hll, hkl, A, c, A2, c2, rfl, rfl, hL, hK, _⟩ := hR
  obtain ⟨_, _, hOk, hOl⟩ := hO
  have hkl2 := hOk rfl
  intro b w v st lvl x hx hlv hb h0 h
  subst hx
  have hpv : pv S (d + 1) (.mk 6 num str keys list) lvl st = manyS S lvl (fun i st => pv S d (list.getD i default) (lvl + 1) (keyS S st (keys.getD i []))) [123] [125] keys.length st := by rw [pv, if_neg (by decide), if_pos rfl]
  rw [hpv]
  clear hpv
  obtain ⟨B, hB⟩ : ∃ B, B = w.heap.size := ⟨_, rfl⟩
  obtain ⟨W1, hW1⟩ : ∃ W1, W1 = (((w.alloc (.cells #[.pointer (some ⟨b, 0, none⟩)] 45)).alloc (.cells #[.int .i64 6, .float .f64 num, .string ⟨str.toArray⟩, .slice A list.length c, .slice A2 keys.length c2] 27)).alloc (.cells #[.int .i64 lvl] 3)).alloc (.cells #[.slice A2 keys.length c2] 25) := ⟨_, rfl⟩
  have hbw : Below w.heap.size w W1 := by rw [hW1]; exact (below_boxes _ _ _ _).alloc (by simp; omega) _
  have e1 : W1.cell? ⟨B, 0, none⟩ = some (.pointer (some ⟨b, 0, none⟩)) := by rw [hW1, hB]; rw [old_cell _ _ _ _ (by simp; omega)]; exact (boxes3 w _ _ _ _ _ _ 0).1
  have e2 : W1.cell? ⟨B + 1, 3, none⟩ = some (.slice A list.length c) := by rw [hW1, hB]; rw [old_cell _ _ _ _ (by simp)]; exact (boxes3 w _ _ _ _ _ _ 3).2.1
  have e3 : W1.cell? ⟨B + 1 + 1, 0, none⟩ = some (.int .i64 lvl) := by rw [hW1, hB]; rw [old_cell _ _ _ _ (by simp)]; exact (boxes3 w _ _ _ _ _ _ 0).2.2
  have e4 : W1.cell? ⟨B + 1, 0, none⟩ = some (.int .i64 6) := by rw [hW1, hB]; rw [old_cell _ _ _ _ (by simp)]; exact (boxes3 w _ _ _ _ _ _ 0).2.1
  have e5 : W1.cell? ⟨B + 1 + 1 + 1, 0, none⟩ = some (.slice A2 keys.length c2) := by
    have sz : (((w.alloc (.cells #[.pointer (some ⟨b, 0, none⟩)] 45)).alloc (.cells #[.int .i64 6, .float .f64 num, .string ⟨str.toArray⟩, .slice A list.length c, .slice A2 keys.length c2] 27)).alloc (.cells #[.int .i64 lvl] 3)).heap.size = w.heap.size + 1 + 1 + 1 := by simp
    rw [hW1, hB, ← sz, World.cell?_alloc_new]; rfl
  have hN : ∀ k, B ≤ k → k ≠ b ∧ v.ownBlock ≠ some k := fun k hk => ⟨by have := h.lt; omega, fun e => by have := (h.bw.own.lt k e).2; omega⟩
  have hS1 : SStep b S w v W1 v st := (SStep.start h).below hbw
  have hM := many_obj hS1.now hi B (B + 1 + 1 + 1) (B + 1) (B + 1 + 1) [123] [125] (by decide) (by decide) keys.length lvl (by omega) (by omega) (fun i st => pv S d (list.getD i default) (lvl + 1) (keyS S st (keys.getD i []))) (fun i hik w' v' st' hst => by
    have hin : i < list.length := by omega
    obtain ⟨ad, rfl, y0, y1, y2, y3, y4, hc5, hRi⟩ := hL i hin
    obtain ⟨hkl3, ad2, rfl, hkc⟩ := hK i hik
    have hVi := ih list[i] y0 y1 y2 y3 y4 hRi (hOl i hin)
    have hg : list.getD i default = list[i] := by simp [hin]
    have hg2 : keys.getD i [] = keys[i] := by simp [hik]
    rw [hg, hg2]
    obtain ⟨kk, nn, ss, A3, n3, e3', A4, n4, e4', rfl, rfl, rfl, rfl, rfl⟩ := rep_shape hRi
    refine value2_any hst.now hS w0 T0 hb (hst.below0 hS1.now hb (hS1.below0 h hb h0)) d list[i] B (B + 1 + 1 + 1) (B + 1) (B + 1 + 1) i list.length c keys.length c2 lvl ad ad2 keys[i] kk nn ss A3 A4 n3 e3' n4 e4' hin hik (by omega) hkl3 (hst.cell hS1.now e1 (hN _ (by omega)).1 (hN _ (by omega)).2) (hst.cell hS1.now e2 (hN _ (by omega)).1 (hN _ (by omega)).2) (hst.cell hS1.now e3 (hN _ (by omega)).1 (hN _ (by omega)).2) (hst.cell hS1.now e5 (hN _ (by omega)).1 (hN _ (by omega)).2) (hst.far (hN _ (by omega)) (World.block_lt_of_cell? W1 _ e1)) (hst.far (hN _ (by omega)) (World.block_lt_of_cell? W1 _ e2)) (hst.far (hN _ (by omega)) (World.block_lt_of_cell? W1 _ e3)) (hst.far (hN _ (by omega)) (World.block_lt_of_cell? W1 _ e5)) hkc hc5 hVi)
  have HM := Lib.hid hM
  have HB := Lib.hid hB
  have hbl := h.lt
  have hsrt := h.cSrt
  rw [hS] at hsrt
  clear hM hL hK hOl ih hN hB hkl2 hOk
  obtain ⟨Z, hZ⟩ : ∃ Z, Z = manyS S lvl (fun i st => pv S d (list.getD i default) (lvl + 1) (keyS S st (keys.getD i []))) [123] [125] keys.length st := ⟨_, rfl⟩
  rw [← hZ] at HM ⊢
  clear hZ
  go_enter Tryz.func15, Tryz.ntmps15
  go_upto_region 7 with fail
  rw [← hW1]
  have HW1 := Lib.hid hW1
  clear hW1
  have hsrt1 := hS1.now.cSrt
  rw [hS] at hsrt1
  have f1 := e1
  have f3 := e3
  have f5 := e5
  rw [HB.out] at f1 f3 f5
  go_wp2_with fail
  have HM2 := HM.out
  rw [HB.out] at HM2
  refine HM2.mono ?_
  clear HM HM2
  rintro e' w2 ⟨rfl, v2, hA⟩
  have hF := hS1.join hA
  go_wp2_with fail
  go_end0
  exact ⟨rfl, v2, hF⟩
end Go.Proofs.YticaihfcnbehpaaGreatDoor
/- printer.sheet.value of what has no parts; of every tree. -/
namespace Go.Proofs.YticaihfcnbehpaaGreatDoor
open Go Go.RowKit Go.Proofs
theorem colT_length (k : Nat) : (colT k).length ≤ 1000 := by
  unfold colT
  repeat' split
  all_goals decide

set_option maxHeartbeats 2000000 in
set_option maxRecDepth 100000 in
theorem value_4 (S : Sty) (w0 : World) (T0 : Tabs w0) (d : Nat) (num : Nat) (str : List UInt8) (keys : List (List UInt8)) (list : List Tr) (x0 x1 x2 x3 x4 : Value)
    (hR : Rep (d + 1) w0 (.mk 4 num str keys list) x0 x1 x2 x3 x4) : Vals S w0 (d + 1) (.mk 4 num str keys list) x0 x1 x2 x3 x4 := by
  obtain ⟨rfl, rfl, rfl, hnum, hstr, hll, hkl, A, c, A2, c2, rfl, rfl, hL, hK, _⟩ := hR
  clear hL hK
  intro b w v st lvl x hx hlv hb h0 h
  subst hx
  obtain ⟨Z, hZ⟩ : ∃ Z, Z = tokS S st (escT str S.asc) (colT 4) := ⟨_, rfl⟩
  have hpv : pv S (d + 1) (.mk 4 num str keys list) lvl st = Z := by rw [hZ]; rw [pv, if_neg (by decide), if_neg (by decide), if_pos rfl]; rfl
  rw [hpv]
  have HZ := Lib.hid hZ
  have hlen : (escT str S.asc).length ≤ 900000000 := escT_length str S.asc hstr
  clear hpv hZ
  obtain ⟨W1, hW1⟩ : ∃ W1, W1 = ((w.alloc (.cells #[.pointer (some ⟨b, 0, none⟩)] 45)).alloc (.cells #[.int .i64 4, .float .f64 num, .string ⟨str.toArray⟩, .slice A list.length c, .slice A2 keys.length c2] 27)).alloc (.cells #[.int .i64 lvl] 3) := ⟨_, rfl⟩
  have hbw : Below w.heap.size w W1 := by rw [hW1]; exact below_boxes _ _ _ _
  have hS1 : SStep b S w v W1 v st := (SStep.start h).below hbw
  have TW : Tabs W1 := T0.next (hS1.below0 h hb h0)
  have hasc := hS1.now.cAsc
  have e0 : W1.cell? ⟨w.heap.size, 0, none⟩ = some (.pointer (some ⟨b, 0, none⟩)) := by rw [hW1]; exact (boxes3 w _ _ _ _ _ _ 0).1
  have e1 : W1.cell? ⟨w.heap.size + 1, 0, none⟩ = some (.int .i64 4) := by rw [hW1]; exact (boxes3 w _ _ _ _ _ _ 0).2.1
  have e2 : W1.cell? ⟨w.heap.size + 1, 1, none⟩ = some (.float .f64 num) := by rw [hW1]; exact (boxes3 w _ _ _ _ _ _ 1).2.1
  have e3 : W1.cell? ⟨w.heap.size + 1, 2, none⟩ = some (.string ⟨str.toArray⟩) := by rw [hW1]; exact (boxes3 w _ _ _ _ _ _ 2).2.1
  have e4 : W1.cell? ⟨w.heap.size + 1, 3, none⟩ = some (.slice A list.length c) := by rw [hW1]; exact (boxes3 w _ _ _ _ _ _ 3).2.1
  have e5 : W1.cell? ⟨w.heap.size + 1, 4, none⟩ = some (.slice A2 keys.length c2) := by rw [hW1]; exact (boxes3 w _ _ _ _ _ _ 4).2.1
  have hN : ∀ k, w.heap.size ≤ k → k ≠ b ∧ v.ownBlock ≠ some k := fun k hk => ⟨by have := h.lt; omega, fun e => by have := (h.bw.own.lt k e).2; omega⟩
  have K1 : ∀ W, Below W1.heap.size W1 W → W.cell? ⟨w.heap.size, 0, none⟩ = some (.pointer (some ⟨b, 0, none⟩)) ∧ W.cell? ⟨w.heap.size + 1, 0, none⟩ = some (.int .i64 4) ∧ W.cell? ⟨w.heap.size + 1, 1, none⟩ = some (.float .f64 num) ∧ W.cell? ⟨w.heap.size + 1, 2, none⟩ = some (.string ⟨str.toArray⟩) ∧ W.cell? ⟨w.heap.size + 1, 3, none⟩ = some (.slice A list.length c) ∧ W.cell? ⟨w.heap.size + 1, 4, none⟩ = some (.slice A2 keys.length c2) ∧ W.cell? ⟨b, 5, none⟩ = some (.bool S.asc) := fun W hbW => by
    have go : ∀ {k o : Nat} {u : Value}, W1.cell? ⟨k, o, none⟩ = some u → W.cell? ⟨k, o, none⟩ = some u := fun hc => (hbW.cell (World.block_lt_of_cell? W1 _ hc)).trans hc
    exact ⟨go e0, go e1, go e2, go e3, go e4, go e5, go hasc⟩
  have K2 : ∀ W' W v' st', Below W1.heap.size W1 W' → SStep b S W' v W v' st' → W.cell? ⟨w.heap.size, 0, none⟩ = some (.pointer (some ⟨b, 0, none⟩)) ∧ W.cell? ⟨w.heap.size + 1, 0, none⟩ = some (.int .i64 4) ∧ W.cell? ⟨w.heap.size + 1, 1, none⟩ = some (.float .f64 num) ∧ W.cell? ⟨w.heap.size + 1, 2, none⟩ = some (.string ⟨str.toArray⟩) ∧ W.cell? ⟨w.heap.size + 1, 3, none⟩ = some (.slice A list.length c) ∧ W.cell? ⟨w.heap.size + 1, 4, none⟩ = some (.slice A2 keys.length c2) ∧ W.cell? ⟨b, 5, none⟩ = some (.bool S.asc) := fun W' W v' st' hbW hA => by
    obtain ⟨k0, k1, k2, k3, k4, k5, k6⟩ := K1 W' hbW
    have hs := hS1.now.below hbW
    have go : ∀ {k o : Nat} {u : Value}, w.heap.size ≤ k → W'.cell? ⟨k, o, none⟩ = some u → W.cell? ⟨k, o, none⟩ = some u := fun hk hc => hA.cell hs hc (hN _ hk).1 (hN _ hk).2
    exact ⟨go (by omega) k0, go (by omega) k1, go (by omega) k2, go (by omega) k3, go (by omega) k4, go (by omega) k5, hA.now.cAsc⟩
  have hbx0 : Below W1.heap.size W1 W1.drew := (Below.refl _ _).drew
  clear e0 e1 e2 e3 e4 e5 hasc hN hbw h0 hb
  go_enter Tryz.func15, Tryz.ntmps15
  go_upto_region 11 with fail
  rw [← hW1]
  clear hW1
  go_region_held3 (fun W => W.cell? ⟨w.heap.size, 0, none⟩ = some (.pointer (some ⟨b, 0, none⟩)) ∧ W.cell? ⟨w.heap.size + 1, 0, none⟩ = some (.int .i64 4) ∧ W.cell? ⟨w.heap.size + 1, 1, none⟩ = some (.float .f64 num) ∧ W.cell? ⟨w.heap.size + 1, 2, none⟩ = some (.string ⟨str.toArray⟩) ∧ W.cell? ⟨w.heap.size + 1, 3, none⟩ = some (.slice A list.length c) ∧ W.cell? ⟨w.heap.size + 1, 4, none⟩ = some (.slice A2 keys.length c2) ∧ W.cell? ⟨b, 5, none⟩ = some (.bool S.asc))
    (first | exact K1 _ (by assumption) | exact K2 _ _ _ _ (by assumption) (by assumption))
    (first | (go_at_call 13; refine (escape_any _ (TW.next (by assumption)) str S.asc (by omega)).mono ?_; rintro e' wE ⟨rfl, hbE⟩; have hbxE := Below.also (w := W1) (by assumption) hbE) | (go_at_call 14; refine (colour_any _ 4 (by omega) num _ _ _ ⟨_, _, _, rfl⟩ ⟨_, _, _, rfl⟩).mono ?_; rintro e' wC ⟨rfl, hbC⟩; have hbxC := Below.also (w := W1) (by assumption) hbC) | (go_at_call 32; refine (token_any (hS1.now.below (by assumption)) (escT str S.asc) (colT 4) hlen (colT_length 4)).mono ?_; rintro e' wT ⟨rfl, vT, hA⟩; have hF : SStep b S w v wT vT _ := (hS1.below (by assumption)).join hA))
  all_goals
    rw [← HZ.out] at hF
    clear K1 K2
    go_wp2_with fail
    go_end0
    exact ⟨rfl, _, hF⟩

set_option maxHeartbeats 2000000 in
set_option maxRecDepth 100000 in
theorem value_0 (S : Sty) (w0 : World) (T0 : Tabs w0) (d : Nat) (num : Nat) (str : List UInt8) (keys : List (List UInt8)) (list : List Tr) (x0 x1 x2 x3 x4 : Value)
    (hR : Rep (d + 1) w0 (.mk 0 num str keys list) x0 x1 x2 x3 x4) : Vals S w0 (d + 1) (.mk 0 num str keys list) x0 x1 x2 x3 x4 := by
  obtain ⟨rfl, rfl, rfl, hnum, hstr, hll, hkl, A, c, A2, c2, rfl, rfl, hL, hK, _⟩ := hR
  clear hL hK
  intro b w v st lvl x hx hlv hb h0 h
  subst hx
  obtain ⟨Z, hZ⟩ : ∃ Z, Z = tokS S st (plainT 0 num str) (colT 0) := ⟨_, rfl⟩
  have hpv : pv S (d + 1) (.mk 0 num str keys list) lvl st = Z := by rw [hZ]; rw [pv, if_neg (by decide), if_neg (by decide), if_neg (by decide)]; rfl
  rw [hpv]
  have HZ := Lib.hid hZ
  have hlen : (plainT 0 num str).length ≤ 900000000 := Nat.le_trans (plainT_length 0 num str) (by omega)
  clear hpv hZ
  obtain ⟨W1, hW1⟩ : ∃ W1, W1 = ((w.alloc (.cells #[.pointer (some ⟨b, 0, none⟩)] 45)).alloc (.cells #[.int .i64 0, .float .f64 num, .string ⟨str.toArray⟩, .slice A list.length c, .slice A2 keys.length c2] 27)).alloc (.cells #[.int .i64 lvl] 3) := ⟨_, rfl⟩
  have hbw : Below w.heap.size w W1 := by rw [hW1]; exact below_boxes _ _ _ _
  have hS1 : SStep b S w v W1 v st := (SStep.start h).below hbw
  have TW : Tabs W1 := T0.next (hS1.below0 h hb h0)
  have hasc := hS1.now.cAsc
  have e0 : W1.cell? ⟨w.heap.size, 0, none⟩ = some (.pointer (some ⟨b, 0, none⟩)) := by rw [hW1]; exact (boxes3 w _ _ _ _ _ _ 0).1
  have e1 : W1.cell? ⟨w.heap.size + 1, 0, none⟩ = some (.int .i64 0) := by rw [hW1]; exact (boxes3 w _ _ _ _ _ _ 0).2.1
  have e2 : W1.cell? ⟨w.heap.size + 1, 1, none⟩ = some (.float .f64 num) := by rw [hW1]; exact (boxes3 w _ _ _ _ _ _ 1).2.1
  have e3 : W1.cell? ⟨w.heap.size + 1, 2, none⟩ = some (.string ⟨str.toArray⟩) := by rw [hW1]; exact (boxes3 w _ _ _ _ _ _ 2).2.1
  have e4 : W1.cell? ⟨w.heap.size + 1, 3, none⟩ = some (.slice A list.length c) := by rw [hW1]; exact (boxes3 w _ _ _ _ _ _ 3).2.1
  have e5 : W1.cell? ⟨w.heap.size + 1, 4, none⟩ = some (.slice A2 keys.length c2) := by rw [hW1]; exact (boxes3 w _ _ _ _ _ _ 4).2.1
  have hN : ∀ k, w.heap.size ≤ k → k ≠ b ∧ v.ownBlock ≠ some k := fun k hk => ⟨by have := h.lt; omega, fun e => by have := (h.bw.own.lt k e).2; omega⟩
  have K1 : ∀ W, Below W1.heap.size W1 W → W.cell? ⟨w.heap.size, 0, none⟩ = some (.pointer (some ⟨b, 0, none⟩)) ∧ W.cell? ⟨w.heap.size + 1, 0, none⟩ = some (.int .i64 0) ∧ W.cell? ⟨w.heap.size + 1, 1, none⟩ = some (.float .f64 num) ∧ W.cell? ⟨w.heap.size + 1, 2, none⟩ = some (.string ⟨str.toArray⟩) ∧ W.cell? ⟨w.heap.size + 1, 3, none⟩ = some (.slice A list.length c) ∧ W.cell? ⟨w.heap.size + 1, 4, none⟩ = some (.slice A2 keys.length c2) ∧ W.cell? ⟨b, 5, none⟩ = some (.bool S.asc) := fun W hbW => by
    have go : ∀ {k o : Nat} {u : Value}, W1.cell? ⟨k, o, none⟩ = some u → W.cell? ⟨k, o, none⟩ = some u := fun hc => (hbW.cell (World.block_lt_of_cell? W1 _ hc)).trans hc
    exact ⟨go e0, go e1, go e2, go e3, go e4, go e5, go hasc⟩
  have K2 : ∀ W' W v' st', Below W1.heap.size W1 W' → SStep b S W' v W v' st' → W.cell? ⟨w.heap.size, 0, none⟩ = some (.pointer (some ⟨b, 0, none⟩)) ∧ W.cell? ⟨w.heap.size + 1, 0, none⟩ = some (.int .i64 0) ∧ W.cell? ⟨w.heap.size + 1, 1, none⟩ = some (.float .f64 num) ∧ W.cell? ⟨w.heap.size + 1, 2, none⟩ = some (.string ⟨str.toArray⟩) ∧ W.cell? ⟨w.heap.size + 1, 3, none⟩ = some (.slice A list.length c) ∧ W.cell? ⟨w.heap.size + 1, 4, none⟩ = some (.slice A2 keys.length c2) ∧ W.cell? ⟨b, 5, none⟩ = some (.bool S.asc) := fun W' W v' st' hbW hA => by
    obtain ⟨k0, k1, k2, k3, k4, k5, k6⟩ := K1 W' hbW
    have hs := hS1.now.below hbW
    have go : ∀ {k o : Nat} {u : Value}, w.heap.size ≤ k → W'.cell? ⟨k, o, none⟩ = some u → W.cell? ⟨k, o, none⟩ = some u := fun hk hc => hA.cell hs hc (hN _ hk).1 (hN _ hk).2
    exact ⟨go (by omega) k0, go (by omega) k1, go (by omega) k2, go (by omega) k3, go (by omega) k4, go (by omega) k5, hA.now.cAsc⟩
  have hbx0 : Below W1.heap.size W1 W1.drew := (Below.refl _ _).drew
  clear e0 e1 e2 e3 e4 e5 hasc hN hbw h0 hb
  go_enter Tryz.func15, Tryz.ntmps15
  go_upto_region 2 with fail
  rw [← hW1]
  clear hW1
  go_region_held3 (fun W => W.cell? ⟨w.heap.size, 0, none⟩ = some (.pointer (some ⟨b, 0, none⟩)) ∧ W.cell? ⟨w.heap.size + 1, 0, none⟩ = some (.int .i64 0) ∧ W.cell? ⟨w.heap.size + 1, 1, none⟩ = some (.float .f64 num) ∧ W.cell? ⟨w.heap.size + 1, 2, none⟩ = some (.string ⟨str.toArray⟩) ∧ W.cell? ⟨w.heap.size + 1, 3, none⟩ = some (.slice A list.length c) ∧ W.cell? ⟨w.heap.size + 1, 4, none⟩ = some (.slice A2 keys.length c2) ∧ W.cell? ⟨b, 5, none⟩ = some (.bool S.asc))
    (first | exact K1 _ (by assumption) | exact K2 _ _ _ _ (by assumption) (by assumption))
    (first | (go_at_call 24; refine (valueText_any _ (TW.next (by assumption)) 0 (by omega) num hnum str _ _ ⟨_, _, _, rfl⟩ ⟨_, _, _, rfl⟩ (by omega)).mono ?_; rintro e' wE ⟨rfl, hbE⟩; have hbxE := Below.also (w := W1) (by assumption) hbE) | (go_at_call 14; refine (colour_any _ 0 (by omega) num _ _ _ ⟨_, _, _, rfl⟩ ⟨_, _, _, rfl⟩).mono ?_; rintro e' wC ⟨rfl, hbC⟩; have hbxC := Below.also (w := W1) (by assumption) hbC) | (go_at_call 32; refine (token_any (hS1.now.below (by assumption)) (plainT 0 num str) (colT 0) hlen (colT_length 0)).mono ?_; rintro e' wT ⟨rfl, vT, hA⟩; have hF : SStep b S w v wT vT _ := (hS1.below (by assumption)).join hA))
  all_goals
    rw [← HZ.out] at hF
    clear K1 K2
    go_wp2_with fail
    go_end0
    exact ⟨rfl, _, hF⟩

set_option maxHeartbeats 2000000 in
set_option maxRecDepth 100000 in
theorem value_1 (S : Sty) (w0 : World) (T0 : Tabs w0) (d : Nat) (num : Nat) (str : List UInt8) (keys : List (List UInt8)) (list : List Tr) (x0 x1 x2 x3 x4 : Value)
    (hR : Rep (d + 1) w0 (.mk 1 num str keys list) x0 x1 x2 x3 x4) : Vals S w0 (d + 1) (.mk 1 num str keys list) x0 x1 x2 x3 x4 := by
  obtain ⟨rfl, rfl, rfl, hnum, hstr, hll, hkl, A, c, A2, c2, rfl, rfl, hL, hK, _⟩ := hR
  clear hL hK
  intro b w v st lvl x hx hlv hb h0 h
  subst hx
  obtain ⟨Z, hZ⟩ : ∃ Z, Z = tokS S st (plainT 1 num str) (colT 1) := ⟨_, rfl⟩
  have hpv : pv S (d + 1) (.mk 1 num str keys list) lvl st = Z := by rw [hZ]; rw [pv, if_neg (by decide), if_neg (by decide), if_neg (by decide)]; rfl
  rw [hpv]
  have HZ := Lib.hid hZ
  have hlen : (plainT 1 num str).length ≤ 900000000 := Nat.le_trans (plainT_length 1 num str) (by omega)
  clear hpv hZ
  obtain ⟨W1, hW1⟩ : ∃ W1, W1 = ((w.alloc (.cells #[.pointer (some ⟨b, 0, none⟩)] 45)).alloc (.cells #[.int .i64 1, .float .f64 num, .string ⟨str.toArray⟩, .slice A list.length c, .slice A2 keys.length c2] 27)).alloc (.cells #[.int .i64 lvl] 3) := ⟨_, rfl⟩
  have hbw : Below w.heap.size w W1 := by rw [hW1]; exact below_boxes _ _ _ _
  have hS1 : SStep b S w v W1 v st := (SStep.start h).below hbw
  have TW : Tabs W1 := T0.next (hS1.below0 h hb h0)
  have hasc := hS1.now.cAsc
  have e0 : W1.cell? ⟨w.heap.size, 0, none⟩ = some (.pointer (some ⟨b, 0, none⟩)) := by rw [hW1]; exact (boxes3 w _ _ _ _ _ _ 0).1
  have e1 : W1.cell? ⟨w.heap.size + 1, 0, none⟩ = some (.int .i64 1) := by rw [hW1]; exact (boxes3 w _ _ _ _ _ _ 0).2.1
  have e2 : W1.cell? ⟨w.heap.size + 1, 1, none⟩ = some (.float .f64 num) := by rw [hW1]; exact (boxes3 w _ _ _ _ _ _ 1).2.1
  have e3 : W1.cell? ⟨w.heap.size + 1, 2, none⟩ = some (.string ⟨str.toArray⟩) := by rw [hW1]; exact (boxes3 w _ _ _ _ _ _ 2).2.1
  have e4 : W1.cell? ⟨w.heap.size + 1, 3, none⟩ = some (.slice A list.length c) := by rw [hW1]; exact (boxes3 w _ _ _ _ _ _ 3).2.1
  have e5 : W1.cell? ⟨w.heap.size + 1, 4, none⟩ = some (.slice A2 keys.length c2) := by rw [hW1]; exact (boxes3 w _ _ _ _ _ _ 4).2.1
  have hN : ∀ k, w.heap.size ≤ k → k ≠ b ∧ v.ownBlock ≠ some k := fun k hk => ⟨by have := h.lt; omega, fun e => by have := (h.bw.own.lt k e).2; omega⟩
  have K1 : ∀ W, Below W1.heap.size W1 W → W.cell? ⟨w.heap.size, 0, none⟩ = some (.pointer (some ⟨b, 0, none⟩)) ∧ W.cell? ⟨w.heap.size + 1, 0, none⟩ = some (.int .i64 1) ∧ W.cell? ⟨w.heap.size + 1, 1, none⟩ = some (.float .f64 num) ∧ W.cell? ⟨w.heap.size + 1, 2, none⟩ = some (.string ⟨str.toArray⟩) ∧ W.cell? ⟨w.heap.size + 1, 3, none⟩ = some (.slice A list.length c) ∧ W.cell? ⟨w.heap.size + 1, 4, none⟩ = some (.slice A2 keys.length c2) ∧ W.cell? ⟨b, 5, none⟩ = some (.bool S.asc) := fun W hbW => by
    have go : ∀ {k o : Nat} {u : Value}, W1.cell? ⟨k, o, none⟩ = some u → W.cell? ⟨k, o, none⟩ = some u := fun hc => (hbW.cell (World.block_lt_of_cell? W1 _ hc)).trans hc
    exact ⟨go e0, go e1, go e2, go e3, go e4, go e5, go hasc⟩
  have K2 : ∀ W' W v' st', Below W1.heap.size W1 W' → SStep b S W' v W v' st' → W.cell? ⟨w.heap.size, 0, none⟩ = some (.pointer (some ⟨b, 0, none⟩)) ∧ W.cell? ⟨w.heap.size + 1, 0, none⟩ = some (.int .i64 1) ∧ W.cell? ⟨w.heap.size + 1, 1, none⟩ = some (.float .f64 num) ∧ W.cell? ⟨w.heap.size + 1, 2, none⟩ = some (.string ⟨str.toArray⟩) ∧ W.cell? ⟨w.heap.size + 1, 3, none⟩ = some (.slice A list.length c) ∧ W.cell? ⟨w.heap.size + 1, 4, none⟩ = some (.slice A2 keys.length c2) ∧ W.cell? ⟨b, 5, none⟩ = some (.bool S.asc) := fun W' W v' st' hbW hA => by
    obtain ⟨k0, k1, k2, k3, k4, k5, k6⟩ := K1 W' hbW
    have hs := hS1.now.below hbW
    have go : ∀ {k o : Nat} {u : Value}, w.heap.size ≤ k → W'.cell? ⟨k, o, none⟩ = some u → W.cell? ⟨k, o, none⟩ = some u := fun hk hc => hA.cell hs hc (hN _ hk).1 (hN _ hk).2
    exact ⟨go (by omega) k0, go (by omega) k1, go (by omega) k2, go (by omega) k3, go (by omega) k4, go (by omega) k5, hA.now.cAsc⟩
  have hbx0 : Below W1.heap.size W1 W1.drew := (Below.refl _ _).drew
  clear e0 e1 e2 e3 e4 e5 hasc hN hbw h0 hb
  go_enter Tryz.func15, Tryz.ntmps15
  go_upto_region 2 with fail
  rw [← hW1]
  clear hW1
  go_region_held3 (fun W => W.cell? ⟨w.heap.size, 0, none⟩ = some (.pointer (some ⟨b, 0, none⟩)) ∧ W.cell? ⟨w.heap.size + 1, 0, none⟩ = some (.int .i64 1) ∧ W.cell? ⟨w.heap.size + 1, 1, none⟩ = some (.float .f64 num) ∧ W.cell? ⟨w.heap.size + 1, 2, none⟩ = some (.string ⟨str.toArray⟩) ∧ W.cell? ⟨w.heap.size + 1, 3, none⟩ = some (.slice A list.length c) ∧ W.cell? ⟨w.heap.size + 1, 4, none⟩ = some (.slice A2 keys.length c2) ∧ W.cell? ⟨b, 5, none⟩ = some (.bool S.asc))
    (first | exact K1 _ (by assumption) | exact K2 _ _ _ _ (by assumption) (by assumption))
    (first | (go_at_call 24; refine (valueText_any _ (TW.next (by assumption)) 1 (by omega) num hnum str _ _ ⟨_, _, _, rfl⟩ ⟨_, _, _, rfl⟩ (by omega)).mono ?_; rintro e' wE ⟨rfl, hbE⟩; have hbxE := Below.also (w := W1) (by assumption) hbE) | (go_at_call 14; refine (colour_any _ 1 (by omega) num _ _ _ ⟨_, _, _, rfl⟩ ⟨_, _, _, rfl⟩).mono ?_; rintro e' wC ⟨rfl, hbC⟩; have hbxC := Below.also (w := W1) (by assumption) hbC) | (go_at_call 32; refine (token_any (hS1.now.below (by assumption)) (plainT 1 num str) (colT 1) hlen (colT_length 1)).mono ?_; rintro e' wT ⟨rfl, vT, hA⟩; have hF : SStep b S w v wT vT _ := (hS1.below (by assumption)).join hA))
  all_goals
    rw [← HZ.out] at hF
    clear K1 K2
    go_wp2_with fail
    go_end0
    exact ⟨rfl, _, hF⟩

set_option maxHeartbeats 2000000 in
set_option maxRecDepth 100000 in
theorem value_2 (S : Sty) (w0 : World) (T0 : Tabs w0) (d : Nat) (num : Nat) (str : List UInt8) (keys : List (List UInt8)) (list : List Tr) (x0 x1 x2 x3 x4 : Value)
    (hR : Rep (d + 1) w0 (.mk 2 num str keys list) x0 x1 x2 x3 x4) : Vals S w0 (d + 1) (.mk 2 num str keys list) x0 x1 x2 x3 x4 := by
  obtain ⟨rfl, rfl, rfl, hnum, hstr, hll, hkl, A, c, A2, c2, rfl, rfl, hL, hK, _⟩ := hR
  clear hL hK
  intro b w v st lvl x hx hlv hb h0 h
  subst hx
  obtain ⟨Z, hZ⟩ : ∃ Z, Z = tokS S st (plainT 2 num str) (colT 2) := ⟨_, rfl⟩
  have hpv : pv S (d + 1) (.mk 2 num str keys list) lvl st = Z := by rw [hZ]; rw [pv, if_neg (by decide), if_neg (by decide), if_neg (by decide)]; rfl
  rw [hpv]
  have HZ := Lib.hid hZ
  have hlen : (plainT 2 num str).length ≤ 900000000 := Nat.le_trans (plainT_length 2 num str) (by omega)
  clear hpv hZ
  obtain ⟨W1, hW1⟩ : ∃ W1, W1 = ((w.alloc (.cells #[.pointer (some ⟨b, 0, none⟩)] 45)).alloc (.cells #[.int .i64 2, .float .f64 num, .string ⟨str.toArray⟩, .slice A list.length c, .slice A2 keys.length c2] 27)).alloc (.cells #[.int .i64 lvl] 3) := ⟨_, rfl⟩
  have hbw : Below w.heap.size w W1 := by rw [hW1]; exact below_boxes _ _ _ _
  have hS1 : SStep b S w v W1 v st := (SStep.start h).below hbw
  have TW : Tabs W1 := T0.next (hS1.below0 h hb h0)
  have hasc := hS1.now.cAsc
  have e0 : W1.cell? ⟨w.heap.size, 0, none⟩ = some (.pointer (some ⟨b, 0, none⟩)) := by rw [hW1]; exact (boxes3 w _ _ _ _ _ _ 0).1
  have e1 : W1.cell? ⟨w.heap.size + 1, 0, none⟩ = some (.int .i64 2) := by rw [hW1]; exact (boxes3 w _ _ _ _ _ _ 0).2.1
  have e2 : W1.cell? ⟨w.heap.size + 1, 1, none⟩ = some (.float .f64 num) := by rw [hW1]; exact (boxes3 w _ _ _ _ _ _ 1).2.1
  have e3 : W1.cell? ⟨w.heap.size + 1, 2, none⟩ = some (.string ⟨str.toArray⟩) := by rw [hW1]; exact (boxes3 w _ _ _ _ _ _ 2).2.1
  have e4 : W1.cell? ⟨w.heap.size + 1, 3, none⟩ = some (.slice A list.length c) := by rw [hW1]; exact (boxes3 w _ _ _ _ _ _ 3).2.1
  have e5 : W1.cell? ⟨w.heap.size + 1, 4, none⟩ = some (.slice A2 keys.length c2) := by rw [hW1]; exact (boxes3 w _ _ _ _ _ _ 4).2.1
  have hN : ∀ k, w.heap.size ≤ k → k ≠ b ∧ v.ownBlock ≠ some k := fun k hk => ⟨by have := h.lt; omega, fun e => by have := (h.bw.own.lt k e).2; omega⟩
  have K1 : ∀ W, Below W1.heap.size W1 W → W.cell? ⟨w.heap.size, 0, none⟩ = some (.pointer (some ⟨b, 0, none⟩)) ∧ W.cell? ⟨w.heap.size + 1, 0, none⟩ = some (.int .i64 2) ∧ W.cell? ⟨w.heap.size + 1, 1, none⟩ = some (.float .f64 num) ∧ W.cell? ⟨w.heap.size + 1, 2, none⟩ = some (.string ⟨str.toArray⟩) ∧ W.cell? ⟨w.heap.size + 1, 3, none⟩ = some (.slice A list.length c) ∧ W.cell? ⟨w.heap.size + 1, 4, none⟩ = some (.slice A2 keys.length c2) ∧ W.cell? ⟨b, 5, none⟩ = some (.bool S.asc) := fun W hbW => by
    have go : ∀ {k o : Nat} {u : Value}, W1.cell? ⟨k, o, none⟩ = some u → W.cell? ⟨k, o, none⟩ = some u := fun hc => (hbW.cell (World.block_lt_of_cell? W1 _ hc)).trans hc
    exact ⟨go e0, go e1, go e2, go e3, go e4, go e5, go hasc⟩
  have K2 : ∀ W' W v' st', Below W1.heap.size W1 W' → SStep b S W' v W v' st' → W.cell? ⟨w.heap.size, 0, none⟩ = some (.pointer (some ⟨b, 0, none⟩)) ∧ W.cell? ⟨w.heap.size + 1, 0, none⟩ = some (.int .i64 2) ∧ W.cell? ⟨w.heap.size + 1, 1, none⟩ = some (.float .f64 num) ∧ W.cell? ⟨w.heap.size + 1, 2, none⟩ = some (.string ⟨str.toArray⟩) ∧ W.cell? ⟨w.heap.size + 1, 3, none⟩ = some (.slice A list.length c) ∧ W.cell? ⟨w.heap.size + 1, 4, none⟩ = some (.slice A2 keys.length c2) ∧ W.cell? ⟨b, 5, none⟩ = some (.bool S.asc) := fun W' W v' st' hbW hA => by
    obtain ⟨k0, k1, k2, k3, k4, k5, k6⟩ := K1 W' hbW
    have hs := hS1.now.below hbW
    have go : ∀ {k o : Nat} {u : Value}, w.heap.size ≤ k → W'.cell? ⟨k, o, none⟩ = some u → W.cell? ⟨k, o, none⟩ = some u := fun hk hc => hA.cell hs hc (hN _ hk).1 (hN _ hk).2
    exact ⟨go (by omega) k0, go (by omega) k1, go (by omega) k2, go (by omega) k3, go (by omega) k4, go (by omega) k5, hA.now.cAsc⟩
  have hbx0 : Below W1.heap.size W1 W1.drew := (Below.refl _ _).drew
  clear e0 e1 e2 e3 e4 e5 hasc hN hbw h0 hb
  go_enter Tryz.func15, Tryz.ntmps15
  go_upto_region 2 with fail
  rw [← hW1]
  clear hW1
  go_region_held3 (fun W => W.cell? ⟨w.heap.size, 0, none⟩ = some (.pointer (some ⟨b, 0, none⟩)) ∧ W.cell? ⟨w.heap.size + 1, 0, none⟩ = some (.int .i64 2) ∧ W.cell? ⟨w.heap.size + 1, 1, none⟩ = some (.float .f64 num) ∧ W.cell? ⟨w.heap.size + 1, 2, none⟩ = some (.string ⟨str.toArray⟩) ∧ W.cell? ⟨w.heap.size + 1, 3, none⟩ = some (.slice A list.length c) ∧ W.cell? ⟨w.heap.size + 1, 4, none⟩ = some (.slice A2 keys.length c2) ∧ W.cell? ⟨b, 5, none⟩ = some (.bool S.asc))
    (first | exact K1 _ (by assumption) | exact K2 _ _ _ _ (by assumption) (by assumption))
    (first | (go_at_call 24; refine (valueText_any _ (TW.next (by assumption)) 2 (by omega) num hnum str _ _ ⟨_, _, _, rfl⟩ ⟨_, _, _, rfl⟩ (by omega)).mono ?_; rintro e' wE ⟨rfl, hbE⟩; have hbxE := Below.also (w := W1) (by assumption) hbE) | (go_at_call 14; refine (colour_any _ 2 (by omega) num _ _ _ ⟨_, _, _, rfl⟩ ⟨_, _, _, rfl⟩).mono ?_; rintro e' wC ⟨rfl, hbC⟩; have hbxC := Below.also (w := W1) (by assumption) hbC) | (go_at_call 32; refine (token_any (hS1.now.below (by assumption)) (plainT 2 num str) (colT 2) hlen (colT_length 2)).mono ?_; rintro e' wT ⟨rfl, vT, hA⟩; have hF : SStep b S w v wT vT _ := (hS1.below (by assumption)).join hA))
  all_goals
    rw [← HZ.out] at hF
    clear K1 K2
    go_wp2_with fail
    go_end0
    exact ⟨rfl, _, hF⟩

set_option maxHeartbeats 2000000 in
set_option maxRecDepth 100000 in
theorem value_3 (S : Sty) (w0 : World) (T0 : Tabs w0) (d : Nat) (num : Nat) (str : List UInt8) (keys : List (List UInt8)) (list : List Tr) (x0 x1 x2 x3 x4 : Value)
    (hR : Rep (d + 1) w0 (.mk 3 num str keys list) x0 x1 x2 x3 x4) : Vals S w0 (d + 1) (.mk 3 num str keys list) x0 x1 x2 x3 x4 := by
  obtain ⟨rfl, rfl, rfl, hnum, hstr, hll, hkl, A, c, A2, c2, rfl, rfl, hL, hK, _⟩ := hR
  clear hL hK
  intro b w v st lvl x hx hlv hb h0 h
  subst hx
  obtain ⟨Z, hZ⟩ : ∃ Z, Z = tokS S st (plainT 3 num str) (colT 3) := ⟨_, rfl⟩
  have hpv : pv S (d + 1) (.mk 3 num str keys list) lvl st = Z := by rw [hZ]; rw [pv, if_neg (by decide), if_neg (by decide), if_neg (by decide)]; rfl
  rw [hpv]
  have HZ := Lib.hid hZ
  have hlen : (plainT 3 num str).length ≤ 900000000 := Nat.le_trans (plainT_length 3 num str) (by omega)
  clear hpv hZ
  obtain ⟨W1, hW1⟩ : ∃ W1, W1 = ((w.alloc (.cells #[.pointer (some ⟨b, 0, none⟩)] 45)).alloc (.cells #[.int .i64 3, .float .f64 num, .string ⟨str.toArray⟩, .slice A list.length c, .slice A2 keys.length c2] 27)).alloc (.cells #[.int .i64 lvl] 3) := ⟨_, rfl⟩
  have hbw : Below w.heap.size w W1 := by rw [hW1]; exact below_boxes _ _ _ _
  have hS1 : SStep b S w v W1 v st := (SStep.start h).below hbw
  have TW : Tabs W1 := T0.next (hS1.below0 h hb h0)
  have hasc := hS1.now.cAsc
  have e0 : W1.cell? ⟨w.heap.size, 0, none⟩ = some (.pointer (some ⟨b, 0, none⟩)) := by rw [hW1]; exact (boxes3 w _ _ _ _ _ _ 0).1
  have e1 : W1.cell? ⟨w.heap.size + 1, 0, none⟩ = some (.int .i64 3) := by rw [hW1]; exact (boxes3 w _ _ _ _ _ _ 0).2.1
  have e2 : W1.cell? ⟨w.heap.size + 1, 1, none⟩ = some (.float .f64 num) := by rw [hW1]; exact (boxes3 w _ _ _ _ _ _ 1).2.1
  have e3 : W1.cell? ⟨w.heap.size + 1, 2, none⟩ = some (.string ⟨str.toArray⟩) := by rw [hW1]; exact (boxes3 w _ _ _ _ _ _ 2).2.1
  have e4 : W1.cell? ⟨w.heap.size + 1, 3, none⟩ = some (.slice A list.length c) := by rw [hW1]; exact (boxes3 w _ _ _ _ _ _ 3).2.1
  have e5 : W1.cell? ⟨w.heap.size + 1, 4, none⟩ = some (.slice A2 keys.length c2) := by rw [hW1]; exact (boxes3 w _ _ _ _ _ _ 4).2.1
  have hN : ∀ k, w.heap.size ≤ k → k ≠ b ∧ v.ownBlock ≠ some k := fun k hk => ⟨by have := h.lt; omega, fun e => by have := (h.bw.own.lt k e).2; omega⟩
  have K1 : ∀ W, Below W1.heap.size W1 W → W.cell? ⟨w.heap.size, 0, none⟩ = some (.pointer (some ⟨b, 0, none⟩)) ∧ W.cell? ⟨w.heap.size + 1, 0, none⟩ = some (.int .i64 3) ∧ W.cell? ⟨w.heap.size + 1, 1, none⟩ = some (.float .f64 num) ∧ W.cell? ⟨w.heap.size + 1, 2, none⟩ = some (.string ⟨str.toArray⟩) ∧ W.cell? ⟨w.heap.size + 1, 3, none⟩ = some (.slice A list.length c) ∧ W.cell? ⟨w.heap.size + 1, 4, none⟩ = some (.slice A2 keys.length c2) ∧ W.cell? ⟨b, 5, none⟩ = some (.bool S.asc) := fun W hbW => by
    have go : ∀ {k o : Nat} {u : Value}, W1.cell? ⟨k, o, none⟩ = some u → W.cell? ⟨k, o, none⟩ = some u := fun hc => (hbW.cell (World.block_lt_of_cell? W1 _ hc)).trans hc
    exact ⟨go e0, go e1, go e2, go e3, go e4, go e5, go hasc⟩
  have K2 : ∀ W' W v' st', Below W1.heap.size W1 W' → SStep b S W' v W v' st' → W.cell? ⟨w.heap.size, 0, none⟩ = some (.pointer (some ⟨b, 0, none⟩)) ∧ W.cell? ⟨w.heap.size + 1, 0, none⟩ = some (.int .i64 3) ∧ W.cell? ⟨w.heap.size + 1, 1, none⟩ = some (.float .f64 num) ∧ W.cell? ⟨w.heap.size + 1, 2, none⟩ = some (.string ⟨str.toArray⟩) ∧ W.cell? ⟨w.heap.size + 1, 3, none⟩ = some (.slice A list.length c) ∧ W.cell? ⟨w.heap.size + 1, 4, none⟩ = some (.slice A2 keys.length c2) ∧ W.cell? ⟨b, 5, none⟩ = some (.bool S.asc) := fun W' W v' st' hbW hA => by
    obtain ⟨k0, k1, k2, k3, k4, k5, k6⟩ := K1 W' hbW
    have hs := hS1.now.below hbW
    have go : ∀ {k o : Nat} {u : Value}, w.heap.size ≤ k → W'.cell? ⟨k, o, none⟩ = some u → W.cell? ⟨k, o, none⟩ = some u := fun hk hc => hA.cell hs hc (hN _ hk).1 (hN _ hk).2
    exact ⟨go (by omega) k0, go (by omega) k1, go (by omega) k2, go (by omega) k3, go (by omega) k4, go (by omega) k5, hA.now.cAsc⟩
  have hbx0 : Below W1.heap.size W1 W1.drew := (Below.refl _ _).drew
  clear e0 e1 e2 e3 e4 e5 hasc hN hbw h0 hb
  go_enter Tryz.func15, Tryz.ntmps15
  go_upto_region 2 with fail
  rw [← hW1]
  clear hW1
  go_region_held3 (fun W => W.cell? ⟨w.heap.size, 0, none⟩ = some (.pointer (some ⟨b, 0, none⟩)) ∧ W.cell? ⟨w.heap.size + 1, 0, none⟩ = some (.int .i64 3) ∧ W.cell? ⟨w.heap.size + 1, 1, none⟩ = some (.float .f64 num) ∧ W.cell? ⟨w.heap.size + 1, 2, none⟩ = some (.string ⟨str.toArray⟩) ∧ W.cell? ⟨w.heap.size + 1, 3, none⟩ = some (.slice A list.length c) ∧ W.cell? ⟨w.heap.size + 1, 4, none⟩ = some (.slice A2 keys.length c2) ∧ W.cell? ⟨b, 5, none⟩ = some (.bool S.asc))
    (first | exact K1 _ (by assumption) | exact K2 _ _ _ _ (by assumption) (by assumption))
    (first | (go_at_call 24; refine (valueText_any _ (TW.next (by assumption)) 3 (by omega) num hnum str _ _ ⟨_, _, _, rfl⟩ ⟨_, _, _, rfl⟩ (by omega)).mono ?_; rintro e' wE ⟨rfl, hbE⟩; have hbxE := Below.also (w := W1) (by assumption) hbE) | (go_at_call 14; refine (colour_any _ 3 (by omega) num _ _ _ ⟨_, _, _, rfl⟩ ⟨_, _, _, rfl⟩).mono ?_; rintro e' wC ⟨rfl, hbC⟩; have hbxC := Below.also (w := W1) (by assumption) hbC) | (go_at_call 32; refine (token_any (hS1.now.below (by assumption)) (plainT 3 num str) (colT 3) hlen (colT_length 3)).mono ?_; rintro e' wT ⟨rfl, vT, hA⟩; have hF : SStep b S w v wT vT _ := (hS1.below (by assumption)).join hA))
  all_goals
    rw [← HZ.out] at hF
    clear K1 K2
    go_wp2_with fail
    go_end0
    exact ⟨rfl, _, hF⟩

theorem value_tree (S : Sty) (hi : S.ind ≤ 7) (hS : S.srt = false) (w0 : World) (T0 : Tabs w0) : ∀ (d : Nat) (t : Tr) (y0 y1 y2 y3 y4 : Value), Rep d w0 t y0 y1 y2 y3 y4 → Okp d t → Vals S w0 d t y0 y1 y2 y3 y4 := by
  intro d
  induction d with
  | zero => intro t _ _ _ _ _ h; exact h.elim
  | succ d ih =>
    intro t y0 y1 y2 y3 y4 hR hO
    cases t with
    | mk k num str keys list =>
      have hk : 0 ≤ k ∧ k ≤ 6 := ⟨hO.1, hO.2.1⟩
      have h7 : k = 0 ∨ k = 1 ∨ k = 2 ∨ k = 3 ∨ k = 4 ∨ k = 5 ∨ k = 6 := by omega
      rcases h7 with rfl | rfl | rfl | rfl | rfl | rfl | rfl
      · exact value_0 S w0 T0 d num str keys list _ _ _ _ _ hR
      · exact value_1 S w0 T0 d num str keys list _ _ _ _ _ hR
      · exact value_2 S w0 T0 d num str keys list _ _ _ _ _ hR
      · exact value_3 S w0 T0 d num str keys list _ _ _ _ _ hR
      · exact value_4 S w0 T0 d num str keys list _ _ _ _ _ hR
      · exact value_arr S hi w0 d num str keys list _ _ _ _ _ ih hR hO
      · exact value_obj S hi hS w0 T0 d num str keys list _ _ _ _ _ ih hR hO
end Go.Proofs.YticaihfcnbehpaaGreatDoor
/- printer.Print, where keys are not sorted. -/
namespace Go.Proofs.YticaihfcnbehpaaGreatDoor
open Go Go.RowKit Go.Proofs

def printS (S : Sty) (d : Nat) (t : Tr) : St := pv S d t 0 ([], false)
/-- What Print answers. -/
def printV (r : St) : Value := if r.2 = true then .tuple #[.string ⟨#[]⟩, .int .i64 171] else .tuple #[.string ⟨r.1.toArray⟩, .int .i64 0]
theorem tokS_pos (S : Sty) (st : St) (s c : List UInt8) (hs : s ≠ []) (h : (tokS S st s c).2 = false) : (tokS S st s c).1 ≠ [] := by
  have ht : tokT S s c ≠ [] := by
    unfold tokT
    split
    · simp
    · exact hs
  unfold tokS putS at h ⊢
  split at h
  · cases h
  · rename_i hn
    rw [if_neg hn]
    intro e
    exact ht (List.append_eq_nil_iff.1 e).2
theorem escFrom_pos (q : List UInt8) (h : q ≠ []) : escA q ≠ [] := by
  have hp : 0 < (⟨q.toArray⟩ : ByteArray).size := by show 0 < q.length; exact List.length_pos_iff.2 h
  have hr := escR_pos (Utf8.decode ⟨q.toArray⟩ 0).1
  obtain ⟨m, hm⟩ : ∃ m, q.length = m + 1 := ⟨q.length - 1, by have := List.length_pos_iff.2 h; omega⟩
  unfold escA
  rw [hm, escFrom, if_pos hp]
  intro h
  exact hr (List.append_eq_nil_iff.1 h).1
theorem escT_pos (s : List UInt8) (asc : Bool) : escT s asc ≠ [] := by
  unfold escT
  split
  · exact escFrom_pos _ (quoteT_pos s)
  · exact quoteT_pos s
theorem printS_pos (S : Sty) (d : Nat) (t : Tr) (h : (printS S (d + 1) t).2 = false) : (printS S (d + 1) t).1 ≠ [] := by
  cases t with
  | mk k num str keys list =>
    unfold printS at h ⊢
    rw [pv] at h ⊢
    split at h
    · rename_i hk
      rw [if_pos hk]
      exact tokS_pos S _ _ _ (by simp) h
    · rename_i hk
      rw [if_neg hk]
      split at h
      · rename_i hk2
        rw [if_pos hk2]
        exact tokS_pos S _ _ _ (by simp) h
      · rename_i hk2
        rw [if_neg hk2]
        refine tokS_pos S _ _ _ ?_ h
        split
        · exact escT_pos _ _
        · exact plainT_pos _ _ _
theorem sh_new (S : Sty) (w : World) : Sh w.heap.size S (w.alloc (.cells #[.pointer none, .slice none 0 0, .int .i64 S.ind, .bool S.tab, .bool S.srt, .bool S.asc, .bool S.col, .bool false] 51)) (.slice none 0 0) ([], false) :=
  ⟨⟨⟨.pointer none, heap_alloc_new w _, .inl rfl⟩, OwnB.nil _ _, by decide⟩, by simp⟩
set_option maxHeartbeats 1000000 in
set_option maxRecDepth 100000 in
theorem print_any (S : Sty) (hi : S.ind ≤ 7) (hS : S.srt = false) (w : World) (T0 : Tabs w) (d : Nat) (hd : d ≤ 800000) (t : Tr) (y0 y1 y2 y3 y4 : Value) (hR : Rep (d + 1) w t y0 y1 y2 y3 y4) (hO : Okp (d + 1) t) :
    Calls Tryz.prog 7 #[.agg #[y0, y1, y2, y3, y4], .agg #[.int .i64 S.ind, .bool S.tab, .bool S.srt, .bool S.asc, .bool S.col]] w fun e w' =>
      e = .returned (printV (printS S (d + 1) t)) ∧ Below w.heap.size w w' := by
  have hV := value_tree S hi hS w T0 (d + 1) t y0 y1 y2 y3 y4 hR hO
  have hpos := printS_pos S d t
  obtain ⟨kk, nn, ss, A3, n3, e3, A4, n4, e4, rfl, rfl, rfl, rfl, rfl⟩ := rep_shape hR
  obtain ⟨r, hr⟩ : ∃ r, r = printS S (d + 1) t := ⟨_, rfl⟩
  rw [← hr] at hpos ⊢
  have HR := Lib.hid hr
  have HV := Lib.hid hV
  clear hV hR hO hr hS
  have t1 : decide ((S.ind : Int) < 0) = false := decide_eq_false (by omega)
  have t2 : decide ((7 : Int) < (S.ind : Int)) = false := decide_eq_false (by omega)
  go_enter Tryz.func7, Tryz.ntmps7
  go_wp2_with fail
  obtain ⟨W2, hW2⟩ : ∃ W2, W2 = (w.alloc (.cells #[.int .i64 kk, .float .f64 nn, .string ss, .slice A3 n3 e3, .slice A4 n4 e4] 27)).alloc (.cells #[.int .i64 S.ind, .bool S.tab, .bool S.srt, .bool S.asc, .bool S.col] 29) := ⟨_, rfl⟩
  have hsz : W2.heap.size = w.heap.size + 1 + 1 := by rw [hW2]; simp
  have hb2 : Below w.heap.size w W2 := by rw [hW2]; exact ((Below.refl _ _).alloc (Nat.le_refl _) _).alloc (by simp) _
  rw [← hW2]
  clear hW2
  have hsh := sh_new S W2
  obtain ⟨W3, hW3⟩ : ∃ W3, W3 = W2.alloc (.cells #[.pointer none, .slice none 0 0, .int .i64 S.ind, .bool S.tab, .bool S.srt, .bool S.asc, .bool S.col, .bool false] 51) := ⟨_, rfl⟩
  have hb3 : Below w.heap.size w W3 := by rw [hW3]; exact hb2.alloc hb2.size _
  rw [← hW3] at hsh ⊢
  clear hW3
  rw [hsz] at hsh
  clear hsz
  refine (HV.out (w.heap.size + 1 + 1) W3 _ _ 0 0 rfl (by omega) (by omega) hb3 hsh).mono ?_
  rintro e' w4 ⟨rfl, v4, hA⟩
  have hb4 := hA.below0 hsh (by omega) hb3
  have hN := hA.now
  rw [show pv S (d + 1) t 0 ([], false) = r from HR.out.symm] at hN
  clear hA hsh HV HR hb3 hb2
  have hfull := hN.cFull
  cases hf : r.2 with
  | true =>
    rw [hf] at hfull
    have HP : Hid (printV r = .tuple #[.string ⟨#[]⟩, .int .i64 171]) := Lib.hid (by unfold printV; rw [if_pos hf])
    clear hN hpos hf
    go_wp2_with fail
    go_ret2
    exact ⟨by rw [HP.out]; rfl, hb4⟩
  | false =>
    rw [hf] at hfull
    have hp := hpos hf
    have HP : Hid (printV r = .tuple #[.string ⟨r.1.toArray⟩, .int .i64 0]) := Lib.hid (by unfold printV; rw [if_neg (by rw [hf]; decide)])
    clear hpos hf
    go_wp2_with fail
    refine (string_any hN.bw hp).mono ?_
    rintro e' w5 ⟨rfl, hb5⟩
    have hb6 : Below w.heap.size w w5 := hb4.trans (hb5.mono (by omega))
    go_wp2_with fail
    go_ret2
    exact ⟨by rw [HP.out]; rfl, hb6⟩
set_option maxHeartbeats 1000000 in
set_option maxRecDepth 100000 in
theorem print_bad (w : World) (ind : Int) (h : ind < 0 ∨ 7 < ind) (b1 b2 b3 b4 : Bool) (kk : Int) (nn : Nat) (ss : ByteArray) (A3 A4 : Option Addr) (n3 e3 n4 e4 : Nat) :
    Calls Tryz.prog 7 #[.agg #[.int .i64 kk, .float .f64 nn, .string ss, .slice A3 n3 e3, .slice A4 n4 e4], .agg #[.int .i64 ind, .bool b1, .bool b2, .bool b3, .bool b4]] w fun e w' => e = .returned (.tuple #[.string ⟨#[]⟩, .int .i64 2]) ∧ Below w.heap.size w w' := by
  have hB : ∀ o1 o2, Below w.heap.size w ((w.alloc o1).alloc o2) := fun o1 o2 => ((Below.refl _ _).alloc (Nat.le_refl _) _).alloc (by simp) _
  rcases h with h | h
  · have t1 : decide (ind < 0) = true := decide_eq_true h
    go_enter Tryz.func7, Tryz.ntmps7
    go_wp2_with fail
    go_ret2
    exact ⟨rfl, hB _ _⟩
  · have t1 : decide (ind < 0) = false := decide_eq_false (by omega)
    have t2 : decide (7 < ind) = true := decide_eq_true h
    go_enter Tryz.func7, Tryz.ntmps7
    go_wp2_with fail
    go_ret2
    exact ⟨rfl, hB _ _⟩
end Go.Proofs.YticaihfcnbehpaaGreatDoor
