/- printer.sheet.value of a tree, where keys are not sorted. -/
import Derived.Test.YtopecjnmeeejhaaGreatDoorVtw
import Derived.Deep.DeepCutAuto
set_option linter.unusedVariables false
set_option linter.unusedSimpArgs false
namespace Go.Proofs.YtopecjnmeeejhaaGreatDoor
open Go Go.RowKit Go.Proofs
theorem below_boxes (w : World) (o1 o2 o3 : Obj) : Below w.heap.size w (((w.alloc o1).alloc o2).alloc o3) :=
  (((Below.refl _ _).alloc (Nat.le_refl _) o1).alloc (by simp) o2).alloc (by simp; omega) o3
theorem SStep.far {b : Nat} {S : Sty} {w : World} {v : Value} {w1 : World} {v1 : Value} {s1 : St} (h : SStep b S w v w1 v1 s1) {k : Nat} (hn : k ≠ b ∧ v.ownBlock ≠ some k) (hk : k < w.heap.size) : k ≠ b ∧ v1.ownBlock ≠ some k := by
  refine ⟨hn.1, fun e => ?_⟩
  rcases h.moved with h1 | ⟨c, h1, h2⟩
  · exact hn.2 (by rw [← h1, e])
  · rw [h1] at e; have := Option.some.inj e; omega
theorem rep_shape {d : Nat} {w : World} {t : Tr} {y0 y1 y2 y3 y4 : Value} (h : Rep d w t y0 y1 y2 y3 y4) : ∃ (kk : Int) (nn : Nat) (ss : ByteArray) (A3 : Option Addr) (n3 e3 : Nat) (A4 : Option Addr) (n4 e4 : Nat), y0 = .int .i64 kk ∧ y1 = .float .f64 nn ∧ y2 = .string ss ∧ y3 = .slice A3 n3 e3 ∧ y4 = .slice A4 n4 e4 := by
  cases d with
  | zero => exact h.elim
  | succ d =>
    cases t with
    | mk k num str keys list =>
      obtain ⟨rfl, rfl, rfl, _, _, _, _, A, c, A2, c2, rfl, rfl, _⟩ := h
      exact ⟨_, _, _, _, _, _, _, _, _, rfl, rfl, rfl, rfl, rfl⟩
theorem old_cell (w : World) (o : Obj) (k j : Nat) (h : k < w.heap.size) : (w.alloc o).cell? ⟨k, j, none⟩ = w.cell? ⟨k, j, none⟩ := ((Below.refl w.heap.size w).alloc (Nat.le_refl _) o).cell (p := ⟨k, j, none⟩) h
theorem boxes3 (w : World) (c1 c2 c3 : Array Value) (t1 t2 t3 : TypeId) (j : Nat) :
    (((w.alloc (.cells c1 t1)).alloc (.cells c2 t2)).alloc (.cells c3 t3)).cell? ⟨w.heap.size, j, none⟩ = c1[j]? ∧ (((w.alloc (.cells c1 t1)).alloc (.cells c2 t2)).alloc (.cells c3 t3)).cell? ⟨w.heap.size + 1, j, none⟩ = c2[j]? ∧ (((w.alloc (.cells c1 t1)).alloc (.cells c2 t2)).alloc (.cells c3 t3)).cell? ⟨w.heap.size + 1 + 1, j, none⟩ = c3[j]? := by
  have s1 : (w.alloc (.cells c1 t1)).heap.size = w.heap.size + 1 := by simp
  have s2 : ((w.alloc (.cells c1 t1)).alloc (.cells c2 t2)).heap.size = w.heap.size + 1 + 1 := by simp
  refine ⟨?_, ?_, ?_⟩
  · rw [old_cell _ _ _ _ (by omega), old_cell _ _ _ _ (by omega), World.cell?_alloc_new]
  · rw [old_cell _ _ _ _ (by omega), ← s1, World.cell?_alloc_new]
  · rw [← s2, World.cell?_alloc_new]
set_option maxHeartbeats 1000000 in
set_option maxRecDepth 100000 in
theorem value_arr (S : Sty) (hi : S.ind ≤ 7) (w0 : World) (d : Nat) (num : Nat) (str : List UInt8) (keys : List (List UInt8)) (list : List Tr) (x0 x1 x2 x3 x4 : Value)
    (ih : ∀ (t : Tr) (y0 y1 y2 y3 y4 : Value), Rep d w0 t y0 y1 y2 y3 y4 → Okp d t → Vals S w0 d t y0 y1 y2 y3 y4)
    (hR : Rep (d + 1) w0 (.mk 5 num str keys list) x0 x1 x2 x3 x4) (hO : Okp (d + 1) (.mk 5 num str keys list)) : Vals S w0 (d + 1) (.mk 5 num str keys list) x0 x1 x2 x3 x4 := by
  obtain ⟨rfl, rfl, rfl, hnum, hstr, hll, hkl, A, c, A2, c2, rfl, rfl, hL, hK, _⟩ := hR
  obtain ⟨_, _, _, hOl⟩ := hO
  intro b w v st lvl x hx hlv hb h0 h
  subst hx
  have hpv : pv S (d + 1) (.mk 5 num str keys list) lvl st = manyS S lvl (fun i st => pv S d (list.getD i default) (lvl + 1) st) [91] [93] list.length st := by rw [pv, if_pos rfl]
  rw [hpv]
  clear hpv
  obtain ⟨B, hB⟩ : ∃ B, B = w.heap.size := ⟨_, rfl⟩
  obtain ⟨W1, hW1⟩ : ∃ W1, W1 = ((w.alloc (.cells #[.pointer (some ⟨b, 0, none⟩)] 72)).alloc (.cells #[.int .i64 5, .float .f64 num, .string ⟨str.toArray⟩, .slice A list.length c, .slice A2 keys.length c2] 27)).alloc (.cells #[.int .i64 lvl] 3) := ⟨_, rfl⟩
  have hbw : Below w.heap.size w W1 := by rw [hW1]; exact below_boxes _ _ _ _
  have e1 : W1.cell? ⟨B, 0, none⟩ = some (.pointer (some ⟨b, 0, none⟩)) := by rw [hW1, hB]; exact (boxes3 w _ _ _ _ _ _ 0).1
  have e2 : W1.cell? ⟨B + 1, 3, none⟩ = some (.slice A list.length c) := by rw [hW1, hB]; exact (boxes3 w _ _ _ _ _ _ 3).2.1
  have e3 : W1.cell? ⟨B + 1 + 1, 0, none⟩ = some (.int .i64 lvl) := by rw [hW1, hB]; exact (boxes3 w _ _ _ _ _ _ 0).2.2
  have e4 : W1.cell? ⟨B + 1, 0, none⟩ = some (.int .i64 5) := by rw [hW1, hB]; exact (boxes3 w _ _ _ _ _ _ 0).2.1
  have hN : ∀ k, B ≤ k → k ≠ b ∧ v.ownBlock ≠ some k := fun k hk => ⟨by have := h.lt; omega, fun e => by have := (h.bw.own.lt k e).2; omega⟩
  have hS1 : SStep b S w v W1 v st := (SStep.start h).below hbw
  have hM := many_arr hS1.now hi B (B + 1) (B + 1 + 1) [91] [93] (by decide) (by decide) list.length lvl (by omega) (by omega) (fun i st => pv S d (list.getD i default) (lvl + 1) st) (fun i hin w' v' st' hst => by
    obtain ⟨ad, rfl, y0, y1, y2, y3, y4, hc5, hRi⟩ := hL i hin
    have hNN : ∀ k, B ≤ k → k < W1.heap.size → k ≠ b ∧ v.ownBlock ≠ some k := fun k hk _ => hN k hk
    have hVi := ih list[i] y0 y1 y2 y3 y4 hRi (hOl i hin)
    have hg : list.getD i default = list[i] := by simp [hin]
    rw [hg]
    refine value1_any hst.now w0 hb (hst.below0 hS1.now hb (hS1.below0 h hb h0)) d list[i] B (B + 1) (B + 1 + 1) i list.length c lvl ad y0 y1 y2 y3 y4 hin (by omega) (hst.cell hS1.now e1 (hN _ (by omega)).1 (hN _ (by omega)).2) (hst.cell hS1.now e2 (hN _ (by omega)).1 (hN _ (by omega)).2) (hst.cell hS1.now e3 (hN _ (by omega)).1 (hN _ (by omega)).2) hc5 hVi)
  have HM := Lib.hid hM
  have HB := Lib.hid hB
  clear hM hL hK hOl ih hN hB
  obtain ⟨Z, hZ⟩ : ∃ Z, Z = manyS S lvl (fun i st => pv S d (list.getD i default) (lvl + 1) st) [91] [93] list.length st := ⟨_, rfl⟩
  rw [← hZ] at HM ⊢
  clear hZ
  go_enter Tryz.func53, Tryz.ntmps53
  go_wp2_with fail
  rw [← hW1]
  have HM2 := HM.out
  rw [HB.out] at HM2
  refine HM2.mono ?_
  clear HM HM2
  rintro e' w2 ⟨rfl, v2, hA⟩
  have hF := hS1.join hA
  go_wp2_with fail
  go_end0
  exact ⟨rfl, v2, hF⟩
set_option maxHeartbeats 1000000 in
set_option maxRecDepth 100000 in
theorem value_obj (S : Sty) (hi : S.ind ≤ 7) (hS : S.srt = false) (w0 : World) (T0 : Tabs w0) (d : Nat) (num : Nat) (str : List UInt8) (keys : List (List UInt8)) (list : List Tr) (x0 x1 x2 x3 x4 : Value)
    (ih : ∀ (t : Tr) (y0 y1 y2 y3 y4 : Value), Rep d w0 t y0 y1 y2 y3 y4 → Okp d t → Vals S w0 d t y0 y1 y2 y3 y4)
    (hR : Rep (d + 1) w0 (.mk 6 num str keys list) x0 x1 x2 x3 x4) (hO : Okp (d + 1) (.mk 6 num str keys list)) : Vals S w0 (d + 1) (.mk 6 num str keys list) x0 x1 x2 x3 x4 := by
  obtain ⟨rfl, rfl, rfl, hnum, hstr, hll, hkl, A, c, A2, c2, rfl, rfl, hL, hK, _⟩ := hR
  obtain ⟨_, _, hOk, hOl⟩ := hO
  have hkl2 := hOk rfl
  intro b w v st lvl x hx hlv hb h0 h
  subst hx
  have hpv : pv S (d + 1) (.mk 6 num str keys list) lvl st = manyS S lvl (fun i st => pv S d (list.getD i default) (lvl + 1) (keyS S st (keys.getD i []))) [123] [125] keys.length st := by rw [pv, if_neg (by decide), if_pos rfl]
  rw [hpv]
  clear hpv
  obtain ⟨B, hB⟩ : ∃ B, B = w.heap.size := ⟨_, rfl⟩
  obtain ⟨W1, hW1⟩ : ∃ W1, W1 = (((w.alloc (.cells #[.pointer (some ⟨b, 0, none⟩)] 72)).alloc (.cells #[.int .i64 6, .float .f64 num, .string ⟨str.toArray⟩, .slice A list.length c, .slice A2 keys.length c2] 27)).alloc (.cells #[.int .i64 lvl] 3)).alloc (.cells #[.slice A2 keys.length c2] 25) := ⟨_, rfl⟩
  have hbw : Below w.heap.size w W1 := by rw [hW1]; exact (below_boxes _ _ _ _).alloc (by simp; omega) _
  have e1 : W1.cell? ⟨B, 0, none⟩ = some (.pointer (some ⟨b, 0, none⟩)) := by rw [hW1, hB]; rw [old_cell _ _ _ _ (by simp; omega)]; exact (boxes3 w _ _ _ _ _ _ 0).1
  have e2 : W1.cell? ⟨B + 1, 3, none⟩ = some (.slice A list.length c) := by rw [hW1, hB]; rw [old_cell _ _ _ _ (by simp)]; exact (boxes3 w _ _ _ _ _ _ 3).2.1
  have e3 : W1.cell? ⟨B + 1 + 1, 0, none⟩ = some (.int .i64 lvl) := by rw [hW1, hB]; rw [old_cell _ _ _ _ (by simp)]; exact (boxes3 w _ _ _ _ _ _ 0).2.2
  have e4 : W1.cell? ⟨B + 1, 0, none⟩ = some (.int .i64 6) := by rw [hW1, hB]; rw [old_cell _ _ _ _ (by simp)]; exact (boxes3 w _ _ _ _ _ _ 0).2.1
  have e5 : W1.cell? ⟨B + 1 + 1 + 1, 0, none⟩ = some (.slice A2 keys.length c2) := by
    have sz : (((w.alloc (.cells #[.pointer (some ⟨b, 0, none⟩)] 72)).alloc (.cells #[.int .i64 6, .float .f64 num, .string ⟨str.toArray⟩, .slice A list.length c, .slice A2 keys.length c2] 27)).alloc (.cells #[.int .i64 lvl] 3)).heap.size = w.heap.size + 1 + 1 + 1 := by simp
    rw [hW1, hB, ← sz, World.cell?_alloc_new]; rfl
  have hN : ∀ k, B ≤ k → k ≠ b ∧ v.ownBlock ≠ some k := fun k hk => ⟨by have := h.lt; omega, fun e => by have := (h.bw.own.lt k e).2; omega⟩
  have hS1 : SStep b S w v W1 v st := (SStep.start h).below hbw
  have hM := many_obj hS1.now hi B (B + 1 + 1 + 1) (B + 1) (B + 1 + 1) [123] [125] (by decide) (by decide) keys.length lvl (by omega) (by omega) (fun i st => pv S d (list.getD i default) (lvl + 1) (keyS S st (keys.getD i []))) (fun i hik w' v' st' hst => by
    have hin : i < list.length := by omega
    obtain ⟨ad, rfl, y0, y1, y2, y3, y4, hc5, hRi⟩ := hL i hin
    obtain ⟨hkl3, ad2, rfl, hkc⟩ := hK i hik
    have hVi := ih list[i] y0 y1 y2 y3 y4 hRi (hOl i hin)
    have hg : list.getD i default = list[i] := by simp [hin]
    have hg2 : keys.getD i [] = keys[i] := by simp [hik]
    rw [hg, hg2]
    obtain ⟨kk, nn, ss, A3, n3, e3', A4, n4, e4', rfl, rfl, rfl, rfl, rfl⟩ := rep_shape hRi
    refine value2_any hst.now hS w0 T0 hb (hst.below0 hS1.now hb (hS1.below0 h hb h0)) d list[i] B (B + 1 + 1 + 1) (B + 1) (B + 1 + 1) i list.length c keys.length c2 lvl ad ad2 keys[i] kk nn ss A3 A4 n3 e3' n4 e4' hin hik (by omega) hkl3 (hst.cell hS1.now e1 (hN _ (by omega)).1 (hN _ (by omega)).2) (hst.cell hS1.now e2 (hN _ (by omega)).1 (hN _ (by omega)).2) (hst.cell hS1.now e3 (hN _ (by omega)).1 (hN _ (by omega)).2) (hst.cell hS1.now e5 (hN _ (by omega)).1 (hN _ (by omega)).2) (hst.far (hN _ (by omega)) (World.block_lt_of_cell? W1 _ e1)) (hst.far (hN _ (by omega)) (World.block_lt_of_cell? W1 _ e2)) (hst.far (hN _ (by omega)) (World.block_lt_of_cell? W1 _ e3)) (hst.far (hN _ (by omega)) (World.block_lt_of_cell? W1 _ e5)) hkc hc5 hVi)
  have HM := Lib.hid hM
  have HB := Lib.hid hB
  have hbl := h.lt
  have hsrt := h.cSrt
  rw [hS] at hsrt
  clear hM hL hK hOl ih hN hB hkl2 hOk
  obtain ⟨Z, hZ⟩ : ∃ Z, Z = manyS S lvl (fun i st => pv S d (list.getD i default) (lvl + 1) (keyS S st (keys.getD i []))) [123] [125] keys.length st := ⟨_, rfl⟩
  rw [← hZ] at HM ⊢
  clear hZ
  go_enter Tryz.func53, Tryz.ntmps53
  go_upto_region 7 with fail
  rw [← hW1]
  have HW1 := Lib.hid hW1
  clear hW1
  have hsrt1 := hS1.now.cSrt
  rw [hS] at hsrt1
  have f1 := e1
  have f3 := e3
  have f5 := e5
  rw [HB.out] at f1 f3 f5
  go_wp2_with fail
  have HM2 := HM.out
  rw [HB.out] at HM2
  refine HM2.mono ?_
  clear HM HM2
  rintro e' w2 ⟨rfl, v2, hA⟩
  have hF := hS1.join hA
  go_wp2_with fail
  go_end0
  exact ⟨rfl, v2, hF⟩
end Go.Proofs.YtopecjnmeeejhaaGreatDoor
