/- printer.sheet.value of what has no parts; of every tree. -/
import Derived.Test.YtopecjnmeeejhaaGreatDoorVan
set_option linter.unusedVariables false
set_option linter.unusedSimpArgs false
namespace Go.Proofs.YtopecjnmeeejhaaGreatDoor
open Go Go.RowKit Go.Proofs
theorem colT_length (k : Nat) : (colT k).length ≤ 1000 := by
  unfold colT
  repeat' split
  all_goals decide

set_option maxHeartbeats 2000000 in
set_option maxRecDepth 100000 in
theorem value_4 (S : Sty) (w0 : World) (T0 : Tabs w0) (d : Nat) (num : Nat) (str : List UInt8) (keys : List (List UInt8)) (list : List Tr) (x0 x1 x2 x3 x4 : Value)
    (hR : Rep (d + 1) w0 (.mk 4 num str keys list) x0 x1 x2 x3 x4) : Vals S w0 (d + 1) (.mk 4 num str keys list) x0 x1 x2 x3 x4 := by
  obtain ⟨rfl, rfl, rfl, hnum, hstr, hll, hkl, A, c, A2, c2, rfl, rfl, hL, hK, _⟩ := hR
  clear hL hK
  intro b w v st lvl x hx hlv hb h0 h
  subst hx
  obtain ⟨Z, hZ⟩ : ∃ Z, Z = tokS S st (escT str S.asc) (colT 4) := ⟨_, rfl⟩
  have hpv : pv S (d + 1) (.mk 4 num str keys list) lvl st = Z := by rw [hZ]; rw [pv, if_neg (by decide), if_neg (by decide), if_pos rfl]; rfl
  rw [hpv]
  have HZ := Lib.hid hZ
  have hlen : (escT str S.asc).length ≤ 900000000 := escT_length str S.asc hstr
  clear hpv hZ
  obtain ⟨W1, hW1⟩ : ∃ W1, W1 = ((w.alloc (.cells #[.pointer (some ⟨b, 0, none⟩)] 72)).alloc (.cells #[.int .i64 4, .float .f64 num, .string ⟨str.toArray⟩, .slice A list.length c, .slice A2 keys.length c2] 27)).alloc (.cells #[.int .i64 lvl] 3) := ⟨_, rfl⟩
  have hbw : Below w.heap.size w W1 := by rw [hW1]; exact below_boxes _ _ _ _
  have hS1 : SStep b S w v W1 v st := (SStep.start h).below hbw
  have TW : Tabs W1 := T0.next (hS1.below0 h hb h0)
  have hasc := hS1.now.cAsc
  have e0 : W1.cell? ⟨w.heap.size, 0, none⟩ = some (.pointer (some ⟨b, 0, none⟩)) := by rw [hW1]; exact (boxes3 w _ _ _ _ _ _ 0).1
  have e1 : W1.cell? ⟨w.heap.size + 1, 0, none⟩ = some (.int .i64 4) := by rw [hW1]; exact (boxes3 w _ _ _ _ _ _ 0).2.1
  have e2 : W1.cell? ⟨w.heap.size + 1, 1, none⟩ = some (.float .f64 num) := by rw [hW1]; exact (boxes3 w _ _ _ _ _ _ 1).2.1
  have e3 : W1.cell? ⟨w.heap.size + 1, 2, none⟩ = some (.string ⟨str.toArray⟩) := by rw [hW1]; exact (boxes3 w _ _ _ _ _ _ 2).2.1
  have e4 : W1.cell? ⟨w.heap.size + 1, 3, none⟩ = some (.slice A list.length c) := by rw [hW1]; exact (boxes3 w _ _ _ _ _ _ 3).2.1
  have e5 : W1.cell? ⟨w.heap.size + 1, 4, none⟩ = some (.slice A2 keys.length c2) := by rw [hW1]; exact (boxes3 w _ _ _ _ _ _ 4).2.1
  have hN : ∀ k, w.heap.size ≤ k → k ≠ b ∧ v.ownBlock ≠ some k := fun k hk => ⟨by have := h.lt; omega, fun e => by have := (h.bw.own.lt k e).2; omega⟩
  have K1 : ∀ W, Below W1.heap.size W1 W → W.cell? ⟨w.heap.size, 0, none⟩ = some (.pointer (some ⟨b, 0, none⟩)) ∧ W.cell? ⟨w.heap.size + 1, 0, none⟩ = some (.int .i64 4) ∧ W.cell? ⟨w.heap.size + 1, 1, none⟩ = some (.float .f64 num) ∧ W.cell? ⟨w.heap.size + 1, 2, none⟩ = some (.string ⟨str.toArray⟩) ∧ W.cell? ⟨w.heap.size + 1, 3, none⟩ = some (.slice A list.length c) ∧ W.cell? ⟨w.heap.size + 1, 4, none⟩ = some (.slice A2 keys.length c2) ∧ W.cell? ⟨b, 5, none⟩ = some (.bool S.asc) := fun W hbW => by
    have go : ∀ {k o : Nat} {u : Value}, W1.cell? ⟨k, o, none⟩ = some u → W.cell? ⟨k, o, none⟩ = some u := fun hc => (hbW.cell (World.block_lt_of_cell? W1 _ hc)).trans hc
    exact ⟨go e0, go e1, go e2, go e3, go e4, go e5, go hasc⟩
  have K2 : ∀ W' W v' st', Below W1.heap.size W1 W' → SStep b S W' v W v' st' → W.cell? ⟨w.heap.size, 0, none⟩ = some (.pointer (some ⟨b, 0, none⟩)) ∧ W.cell? ⟨w.heap.size + 1, 0, none⟩ = some (.int .i64 4) ∧ W.cell? ⟨w.heap.size + 1, 1, none⟩ = some (.float .f64 num) ∧ W.cell? ⟨w.heap.size + 1, 2, none⟩ = some (.string ⟨str.toArray⟩) ∧ W.cell? ⟨w.heap.size + 1, 3, none⟩ = some (.slice A list.length c) ∧ W.cell? ⟨w.heap.size + 1, 4, none⟩ = some (.slice A2 keys.length c2) ∧ W.cell? ⟨b, 5, none⟩ = some (.bool S.asc) := fun W' W v' st' hbW hA => by
    obtain ⟨k0, k1, k2, k3, k4, k5, k6⟩ := K1 W' hbW
    have hs := hS1.now.below hbW
    have go : ∀ {k o : Nat} {u : Value}, w.heap.size ≤ k → W'.cell? ⟨k, o, none⟩ = some u → W.cell? ⟨k, o, none⟩ = some u := fun hk hc => hA.cell hs hc (hN _ hk).1 (hN _ hk).2
    exact ⟨go (by omega) k0, go (by omega) k1, go (by omega) k2, go (by omega) k3, go (by omega) k4, go (by omega) k5, hA.now.cAsc⟩
  have hbx0 : Below W1.heap.size W1 W1.drew := (Below.refl _ _).drew
  clear e0 e1 e2 e3 e4 e5 hasc hN hbw h0 hb
  go_enter Tryz.func53, Tryz.ntmps53
  go_upto_region 11 with fail
  rw [← hW1]
  clear hW1
  go_region_held3 (fun W => W.cell? ⟨w.heap.size, 0, none⟩ = some (.pointer (some ⟨b, 0, none⟩)) ∧ W.cell? ⟨w.heap.size + 1, 0, none⟩ = some (.int .i64 4) ∧ W.cell? ⟨w.heap.size + 1, 1, none⟩ = some (.float .f64 num) ∧ W.cell? ⟨w.heap.size + 1, 2, none⟩ = some (.string ⟨str.toArray⟩) ∧ W.cell? ⟨w.heap.size + 1, 3, none⟩ = some (.slice A list.length c) ∧ W.cell? ⟨w.heap.size + 1, 4, none⟩ = some (.slice A2 keys.length c2) ∧ W.cell? ⟨b, 5, none⟩ = some (.bool S.asc))
    (first | exact K1 _ (by assumption) | exact K2 _ _ _ _ (by assumption) (by assumption))
    (first | (go_at_call 20; refine (escape_any _ (TW.next (by assumption)) str S.asc (by omega)).mono ?_; rintro e' wE ⟨rfl, hbE⟩; have hbxE := Below.also (w := W1) (by assumption) hbE) | (go_at_call 22; refine (colour_any _ 4 (by omega) num _ _ _ ⟨_, _, _, rfl⟩ ⟨_, _, _, rfl⟩).mono ?_; rintro e' wC ⟨rfl, hbC⟩; have hbxC := Below.also (w := W1) (by assumption) hbC) | (go_at_call 113; refine (token_any (hS1.now.below (by assumption)) (escT str S.asc) (colT 4) hlen (colT_length 4)).mono ?_; rintro e' wT ⟨rfl, vT, hA⟩; have hF : SStep b S w v wT vT _ := (hS1.below (by assumption)).join hA))
  all_goals
    rw [← HZ.out] at hF
    clear K1 K2
    go_wp2_with fail
    go_end0
    exact ⟨rfl, _, hF⟩

set_option maxHeartbeats 2000000 in
set_option maxRecDepth 100000 in
theorem value_0 (S : Sty) (w0 : World) (T0 : Tabs w0) (d : Nat) (num : Nat) (str : List UInt8) (keys : List (List UInt8)) (list : List Tr) (x0 x1 x2 x3 x4 : Value)
    (hR : Rep (d + 1) w0 (.mk 0 num str keys list) x0 x1 x2 x3 x4) : Vals S w0 (d + 1) (.mk 0 num str keys list) x0 x1 x2 x3 x4 := by
  obtain ⟨rfl, rfl, rfl, hnum, hstr, hll, hkl, A, c, A2, c2, rfl, rfl, hL, hK, _⟩ := hR
  clear hL hK
  intro b w v st lvl x hx hlv hb h0 h
  subst hx
  obtain ⟨Z, hZ⟩ : ∃ Z, Z = tokS S st (plainT 0 num str) (colT 0) := ⟨_, rfl⟩
  have hpv : pv S (d + 1) (.mk 0 num str keys list) lvl st = Z := by rw [hZ]; rw [pv, if_neg (by decide), if_neg (by decide), if_neg (by decide)]; rfl
  rw [hpv]
  have HZ := Lib.hid hZ
  have hlen : (plainT 0 num str).length ≤ 900000000 := Nat.le_trans (plainT_length 0 num str) (by omega)
  clear hpv hZ
  obtain ⟨W1, hW1⟩ : ∃ W1, W1 = ((w.alloc (.cells #[.pointer (some ⟨b, 0, none⟩)] 72)).alloc (.cells #[.int .i64 0, .float .f64 num, .string ⟨str.toArray⟩, .slice A list.length c, .slice A2 keys.length c2] 27)).alloc (.cells #[.int .i64 lvl] 3) := ⟨_, rfl⟩
  have hbw : Below w.heap.size w W1 := by rw [hW1]; exact below_boxes _ _ _ _
  have hS1 : SStep b S w v W1 v st := (SStep.start h).below hbw
  have TW : Tabs W1 := T0.next (hS1.below0 h hb h0)
  have hasc := hS1.now.cAsc
  have e0 : W1.cell? ⟨w.heap.size, 0, none⟩ = some (.pointer (some ⟨b, 0, none⟩)) := by rw [hW1]; exact (boxes3 w _ _ _ _ _ _ 0).1
  have e1 : W1.cell? ⟨w.heap.size + 1, 0, none⟩ = some (.int .i64 0) := by rw [hW1]; exact (boxes3 w _ _ _ _ _ _ 0).2.1
  have e2 : W1.cell? ⟨w.heap.size + 1, 1, none⟩ = some (.float .f64 num) := by rw [hW1]; exact (boxes3 w _ _ _ _ _ _ 1).2.1
  have e3 : W1.cell? ⟨w.heap.size + 1, 2, none⟩ = some (.string ⟨str.toArray⟩) := by rw [hW1]; exact (boxes3 w _ _ _ _ _ _ 2).2.1
  have e4 : W1.cell? ⟨w.heap.size + 1, 3, none⟩ = some (.slice A list.length c) := by rw [hW1]; exact (boxes3 w _ _ _ _ _ _ 3).2.1
  have e5 : W1.cell? ⟨w.heap.size + 1, 4, none⟩ = some (.slice A2 keys.length c2) := by rw [hW1]; exact (boxes3 w _ _ _ _ _ _ 4).2.1
  have hN : ∀ k, w.heap.size ≤ k → k ≠ b ∧ v.ownBlock ≠ some k := fun k hk => ⟨by have := h.lt; omega, fun e => by have := (h.bw.own.lt k e).2; omega⟩
  have K1 : ∀ W, Below W1.heap.size W1 W → W.cell? ⟨w.heap.size, 0, none⟩ = some (.pointer (some ⟨b, 0, none⟩)) ∧ W.cell? ⟨w.heap.size + 1, 0, none⟩ = some (.int .i64 0) ∧ W.cell? ⟨w.heap.size + 1, 1, none⟩ = some (.float .f64 num) ∧ W.cell? ⟨w.heap.size + 1, 2, none⟩ = some (.string ⟨str.toArray⟩) ∧ W.cell? ⟨w.heap.size + 1, 3, none⟩ = some (.slice A list.length c) ∧ W.cell? ⟨w.heap.size + 1, 4, none⟩ = some (.slice A2 keys.length c2) ∧ W.cell? ⟨b, 5, none⟩ = some (.bool S.asc) := fun W hbW => by
    have go : ∀ {k o : Nat} {u : Value}, W1.cell? ⟨k, o, none⟩ = some u → W.cell? ⟨k, o, none⟩ = some u := fun hc => (hbW.cell (World.block_lt_of_cell? W1 _ hc)).trans hc
    exact ⟨go e0, go e1, go e2, go e3, go e4, go e5, go hasc⟩
  have K2 : ∀ W' W v' st', Below W1.heap.size W1 W' → SStep b S W' v W v' st' → W.cell? ⟨w.heap.size, 0, none⟩ = some (.pointer (some ⟨b, 0, none⟩)) ∧ W.cell? ⟨w.heap.size + 1, 0, none⟩ = some (.int .i64 0) ∧ W.cell? ⟨w.heap.size + 1, 1, none⟩ = some (.float .f64 num) ∧ W.cell? ⟨w.heap.size + 1, 2, none⟩ = some (.string ⟨str.toArray⟩) ∧ W.cell? ⟨w.heap.size + 1, 3, none⟩ = some (.slice A list.length c) ∧ W.cell? ⟨w.heap.size + 1, 4, none⟩ = some (.slice A2 keys.length c2) ∧ W.cell? ⟨b, 5, none⟩ = some (.bool S.asc) := fun W' W v' st' hbW hA => by
    obtain ⟨k0, k1, k2, k3, k4, k5, k6⟩ := K1 W' hbW
    have hs := hS1.now.below hbW
    have go : ∀ {k o : Nat} {u : Value}, w.heap.size ≤ k → W'.cell? ⟨k, o, none⟩ = some u → W.cell? ⟨k, o, none⟩ = some u := fun hk hc => hA.cell hs hc (hN _ hk).1 (hN _ hk).2
    exact ⟨go (by omega) k0, go (by omega) k1, go (by omega) k2, go (by omega) k3, go (by omega) k4, go (by omega) k5, hA.now.cAsc⟩
  have hbx0 : Below W1.heap.size W1 W1.drew := (Below.refl _ _).drew
  clear e0 e1 e2 e3 e4 e5 hasc hN hbw h0 hb
  go_enter Tryz.func53, Tryz.ntmps53
  go_upto_region 2 with fail
  rw [← hW1]
  clear hW1
  go_region_held3 (fun W => W.cell? ⟨w.heap.size, 0, none⟩ = some (.pointer (some ⟨b, 0, none⟩)) ∧ W.cell? ⟨w.heap.size + 1, 0, none⟩ = some (.int .i64 0) ∧ W.cell? ⟨w.heap.size + 1, 1, none⟩ = some (.float .f64 num) ∧ W.cell? ⟨w.heap.size + 1, 2, none⟩ = some (.string ⟨str.toArray⟩) ∧ W.cell? ⟨w.heap.size + 1, 3, none⟩ = some (.slice A list.length c) ∧ W.cell? ⟨w.heap.size + 1, 4, none⟩ = some (.slice A2 keys.length c2) ∧ W.cell? ⟨b, 5, none⟩ = some (.bool S.asc))
    (first | exact K1 _ (by assumption) | exact K2 _ _ _ _ (by assumption) (by assumption))
    (first | (go_at_call 59; refine (valueText_any _ (TW.next (by assumption)) 0 (by omega) num hnum str _ _ ⟨_, _, _, rfl⟩ ⟨_, _, _, rfl⟩ (by omega)).mono ?_; rintro e' wE ⟨rfl, hbE⟩; have hbxE := Below.also (w := W1) (by assumption) hbE) | (go_at_call 22; refine (colour_any _ 0 (by omega) num _ _ _ ⟨_, _, _, rfl⟩ ⟨_, _, _, rfl⟩).mono ?_; rintro e' wC ⟨rfl, hbC⟩; have hbxC := Below.also (w := W1) (by assumption) hbC) | (go_at_call 113; refine (token_any (hS1.now.below (by assumption)) (plainT 0 num str) (colT 0) hlen (colT_length 0)).mono ?_; rintro e' wT ⟨rfl, vT, hA⟩; have hF : SStep b S w v wT vT _ := (hS1.below (by assumption)).join hA))
  all_goals
    rw [← HZ.out] at hF
    clear K1 K2
    go_wp2_with fail
    go_end0
    exact ⟨rfl, _, hF⟩

set_option maxHeartbeats 2000000 in
set_option maxRecDepth 100000 in
theorem value_1 (S : Sty) (w0 : World) (T0 : Tabs w0) (d : Nat) (num : Nat) (str : List UInt8) (keys : List (List UInt8)) (list : List Tr) (x0 x1 x2 x3 x4 : Value)
    (hR : Rep (d + 1) w0 (.mk 1 num str keys list) x0 x1 x2 x3 x4) : Vals S w0 (d + 1) (.mk 1 num str keys list) x0 x1 x2 x3 x4 := by
  obtain ⟨rfl, rfl, rfl, hnum, hstr, hll, hkl, A, c, A2, c2, rfl, rfl, hL, hK, _⟩ := hR
  clear hL hK
  intro b w v st lvl x hx hlv hb h0 h
  subst hx
  obtain ⟨Z, hZ⟩ : ∃ Z, Z = tokS S st (plainT 1 num str) (colT 1) := ⟨_, rfl⟩
  have hpv : pv S (d + 1) (.mk 1 num str keys list) lvl st = Z := by rw [hZ]; rw [pv, if_neg (by decide), if_neg (by decide), if_neg (by decide)]; rfl
  rw [hpv]
  have HZ := Lib.hid hZ
  have hlen : (plainT 1 num str).length ≤ 900000000 := Nat.le_trans (plainT_length 1 num str) (by omega)
  clear hpv hZ
  obtain ⟨W1, hW1⟩ : ∃ W1, W1 = ((w.alloc (.cells #[.pointer (some ⟨b, 0, none⟩)] 72)).alloc (.cells #[.int .i64 1, .float .f64 num, .string ⟨str.toArray⟩, .slice A list.length c, .slice A2 keys.length c2] 27)).alloc (.cells #[.int .i64 lvl] 3) := ⟨_, rfl⟩
  have hbw : Below w.heap.size w W1 := by rw [hW1]; exact below_boxes _ _ _ _
  have hS1 : SStep b S w v W1 v st := (SStep.start h).below hbw
  have TW : Tabs W1 := T0.next (hS1.below0 h hb h0)
  have hasc := hS1.now.cAsc
  have e0 : W1.cell? ⟨w.heap.size, 0, none⟩ = some (.pointer (some ⟨b, 0, none⟩)) := by rw [hW1]; exact (boxes3 w _ _ _ _ _ _ 0).1
  have e1 : W1.cell? ⟨w.heap.size + 1, 0, none⟩ = some (.int .i64 1) := by rw [hW1]; exact (boxes3 w _ _ _ _ _ _ 0).2.1
  have e2 : W1.cell? ⟨w.heap.size + 1, 1, none⟩ = some (.float .f64 num) := by rw [hW1]; exact (boxes3 w _ _ _ _ _ _ 1).2.1
  have e3 : W1.cell? ⟨w.heap.size + 1, 2, none⟩ = some (.string ⟨str.toArray⟩) := by rw [hW1]; exact (boxes3 w _ _ _ _ _ _ 2).2.1
  have e4 : W1.cell? ⟨w.heap.size + 1, 3, none⟩ = some (.slice A list.length c) := by rw [hW1]; exact (boxes3 w _ _ _ _ _ _ 3).2.1
  have e5 : W1.cell? ⟨w.heap.size + 1, 4, none⟩ = some (.slice A2 keys.length c2) := by rw [hW1]; exact (boxes3 w _ _ _ _ _ _ 4).2.1
  have hN : ∀ k, w.heap.size ≤ k → k ≠ b ∧ v.ownBlock ≠ some k := fun k hk => ⟨by have := h.lt; omega, fun e => by have := (h.bw.own.lt k e).2; omega⟩
  have K1 : ∀ W, Below W1.heap.size W1 W → W.cell? ⟨w.heap.size, 0, none⟩ = some (.pointer (some ⟨b, 0, none⟩)) ∧ W.cell? ⟨w.heap.size + 1, 0, none⟩ = some (.int .i64 1) ∧ W.cell? ⟨w.heap.size + 1, 1, none⟩ = some (.float .f64 num) ∧ W.cell? ⟨w.heap.size + 1, 2, none⟩ = some (.string ⟨str.toArray⟩) ∧ W.cell? ⟨w.heap.size + 1, 3, none⟩ = some (.slice A list.length c) ∧ W.cell? ⟨w.heap.size + 1, 4, none⟩ = some (.slice A2 keys.length c2) ∧ W.cell? ⟨b, 5, none⟩ = some (.bool S.asc) := fun W hbW => by
    have go : ∀ {k o : Nat} {u : Value}, W1.cell? ⟨k, o, none⟩ = some u → W.cell? ⟨k, o, none⟩ = some u := fun hc => (hbW.cell (World.block_lt_of_cell? W1 _ hc)).trans hc
    exact ⟨go e0, go e1, go e2, go e3, go e4, go e5, go hasc⟩
  have K2 : ∀ W' W v' st', Below W1.heap.size W1 W' → SStep b S W' v W v' st' → W.cell? ⟨w.heap.size, 0, none⟩ = some (.pointer (some ⟨b, 0, none⟩)) ∧ W.cell? ⟨w.heap.size + 1, 0, none⟩ = some (.int .i64 1) ∧ W.cell? ⟨w.heap.size + 1, 1, none⟩ = some (.float .f64 num) ∧ W.cell? ⟨w.heap.size + 1, 2, none⟩ = some (.string ⟨str.toArray⟩) ∧ W.cell? ⟨w.heap.size + 1, 3, none⟩ = some (.slice A list.length c) ∧ W.cell? ⟨w.heap.size + 1, 4, none⟩ = some (.slice A2 keys.length c2) ∧ W.cell? ⟨b, 5, none⟩ = some (.bool S.asc) := fun W' W v' st' hbW hA => by
    obtain ⟨k0, k1, k2, k3, k4, k5, k6⟩ := K1 W' hbW
    have hs := hS1.now.below hbW
    have go : ∀ {k o : Nat} {u : Value}, w.heap.size ≤ k → W'.cell? ⟨k, o, none⟩ = some u → W.cell? ⟨k, o, none⟩ = some u := fun hk hc => hA.cell hs hc (hN _ hk).1 (hN _ hk).2
    exact ⟨go (by omega) k0, go (by omega) k1, go (by omega) k2, go (by omega) k3, go (by omega) k4, go (by omega) k5, hA.now.cAsc⟩
  have hbx0 : Below W1.heap.size W1 W1.drew := (Below.refl _ _).drew
  clear e0 e1 e2 e3 e4 e5 hasc hN hbw h0 hb
  go_enter Tryz.func53, Tryz.ntmps53
  go_upto_region 2 with fail
  rw [← hW1]
  clear hW1
  go_region_held3 (fun W => W.cell? ⟨w.heap.size, 0, none⟩ = some (.pointer (some ⟨b, 0, none⟩)) ∧ W.cell? ⟨w.heap.size + 1, 0, none⟩ = some (.int .i64 1) ∧ W.cell? ⟨w.heap.size + 1, 1, none⟩ = some (.float .f64 num) ∧ W.cell? ⟨w.heap.size + 1, 2, none⟩ = some (.string ⟨str.toArray⟩) ∧ W.cell? ⟨w.heap.size + 1, 3, none⟩ = some (.slice A list.length c) ∧ W.cell? ⟨w.heap.size + 1, 4, none⟩ = some (.slice A2 keys.length c2) ∧ W.cell? ⟨b, 5, none⟩ = some (.bool S.asc))
    (first | exact K1 _ (by assumption) | exact K2 _ _ _ _ (by assumption) (by assumption))
    (first | (go_at_call 59; refine (valueText_any _ (TW.next (by assumption)) 1 (by omega) num hnum str _ _ ⟨_, _, _, rfl⟩ ⟨_, _, _, rfl⟩ (by omega)).mono ?_; rintro e' wE ⟨rfl, hbE⟩; have hbxE := Below.also (w := W1) (by assumption) hbE) | (go_at_call 22; refine (colour_any _ 1 (by omega) num _ _ _ ⟨_, _, _, rfl⟩ ⟨_, _, _, rfl⟩).mono ?_; rintro e' wC ⟨rfl, hbC⟩; have hbxC := Below.also (w := W1) (by assumption) hbC) | (go_at_call 113; refine (token_any (hS1.now.below (by assumption)) (plainT 1 num str) (colT 1) hlen (colT_length 1)).mono ?_; rintro e' wT ⟨rfl, vT, hA⟩; have hF : SStep b S w v wT vT _ := (hS1.below (by assumption)).join hA))
  all_goals
    rw [← HZ.out] at hF
    clear K1 K2
    go_wp2_with fail
    go_end0
    exact ⟨rfl, _, hF⟩

set_option maxHeartbeats 2000000 in
set_option maxRecDepth 100000 in
theorem value_2 (S : Sty) (w0 : World) (T0 : Tabs w0) (d : Nat) (num : Nat) (str : List UInt8) (keys : List (List UInt8)) (list : List Tr) (x0 x1 x2 x3 x4 : Value)
    (hR : Rep (d + 1) w0 (.mk 2 num str keys list) x0 x1 x2 x3 x4) : Vals S w0 (d + 1) (.mk 2 num str keys list) x0 x1 x2 x3 x4 := by
  obtain ⟨rfl, rfl, rfl, hnum, hstr, hll, hkl, A, c, A2, c2, rfl, rfl, hL, hK, _⟩ := hR
  clear hL hK
  intro b w v st lvl x hx hlv hb h0 h
  subst hx
  obtain ⟨Z, hZ⟩ : ∃ Z, Z = tokS S st (plainT 2 num str) (colT 2) := ⟨_, rfl⟩
  have hpv : pv S (d + 1) (.mk 2 num str keys list) lvl st = Z := by rw [hZ]; rw [pv, if_neg (by decide), if_neg (by decide), if_neg (by decide)]; rfl
  rw [hpv]
  have HZ := Lib.hid hZ
  have hlen : (plainT 2 num str).length ≤ 900000000 := Nat.le_trans (plainT_length 2 num str) (by omega)
  clear hpv hZ
  obtain ⟨W1, hW1⟩ : ∃ W1, W1 = ((w.alloc (.cells #[.pointer (some ⟨b, 0, none⟩)] 72)).alloc (.cells #[.int .i64 2, .float .f64 num, .string ⟨str.toArray⟩, .slice A list.length c, .slice A2 keys.length c2] 27)).alloc (.cells #[.int .i64 lvl] 3) := ⟨_, rfl⟩
  have hbw : Below w.heap.size w W1 := by rw [hW1]; exact below_boxes _ _ _ _
  have hS1 : SStep b S w v W1 v st := (SStep.start h).below hbw
  have TW : Tabs W1 := T0.next (hS1.below0 h hb h0)
  have hasc := hS1.now.cAsc
  have e0 : W1.cell? ⟨w.heap.size, 0, none⟩ = some (.pointer (some ⟨b, 0, none⟩)) := by rw [hW1]; exact (boxes3 w _ _ _ _ _ _ 0).1
  have e1 : W1.cell? ⟨w.heap.size + 1, 0, none⟩ = some (.int .i64 2) := by rw [hW1]; exact (boxes3 w _ _ _ _ _ _ 0).2.1
  have e2 : W1.cell? ⟨w.heap.size + 1, 1, none⟩ = some (.float .f64 num) := by rw [hW1]; exact (boxes3 w _ _ _ _ _ _ 1).2.1
  have e3 : W1.cell? ⟨w.heap.size + 1, 2, none⟩ = some (.string ⟨str.toArray⟩) := by rw [hW1]; exact (boxes3 w _ _ _ _ _ _ 2).2.1
  have e4 : W1.cell? ⟨w.heap.size + 1, 3, none⟩ = some (.slice A list.length c) := by rw [hW1]; exact (boxes3 w _ _ _ _ _ _ 3).2.1
  have e5 : W1.cell? ⟨w.heap.size + 1, 4, none⟩ = some (.slice A2 keys.length c2) := by rw [hW1]; exact (boxes3 w _ _ _ _ _ _ 4).2.1
  have hN : ∀ k, w.heap.size ≤ k → k ≠ b ∧ v.ownBlock ≠ some k := fun k hk => ⟨by have := h.lt; omega, fun e => by have := (h.bw.own.lt k e).2; omega⟩
  have K1 : ∀ W, Below W1.heap.size W1 W → W.cell? ⟨w.heap.size, 0, none⟩ = some (.pointer (some ⟨b, 0, none⟩)) ∧ W.cell? ⟨w.heap.size + 1, 0, none⟩ = some (.int .i64 2) ∧ W.cell? ⟨w.heap.size + 1, 1, none⟩ = some (.float .f64 num) ∧ W.cell? ⟨w.heap.size + 1, 2, none⟩ = some (.string ⟨str.toArray⟩) ∧ W.cell? ⟨w.heap.size + 1, 3, none⟩ = some (.slice A list.length c) ∧ W.cell? ⟨w.heap.size + 1, 4, none⟩ = some (.slice A2 keys.length c2) ∧ W.cell? ⟨b, 5, none⟩ = some (.bool S.asc) := fun W hbW => by
    have go : ∀ {k o : Nat} {u : Value}, W1.cell? ⟨k, o, none⟩ = some u → W.cell? ⟨k, o, none⟩ = some u := fun hc => (hbW.cell (World.block_lt_of_cell? W1 _ hc)).trans hc
    exact ⟨go e0, go e1, go e2, go e3, go e4, go e5, go hasc⟩
  have K2 : ∀ W' W v' st', Below W1.heap.size W1 W' → SStep b S W' v W v' st' → W.cell? ⟨w.heap.size, 0, none⟩ = some (.pointer (some ⟨b, 0, none⟩)) ∧ W.cell? ⟨w.heap.size + 1, 0, none⟩ = some (.int .i64 2) ∧ W.cell? ⟨w.heap.size + 1, 1, none⟩ = some (.float .f64 num) ∧ W.cell? ⟨w.heap.size + 1, 2, none⟩ = some (.string ⟨str.toArray⟩) ∧ W.cell? ⟨w.heap.size + 1, 3, none⟩ = some (.slice A list.length c) ∧ W.cell? ⟨w.heap.size + 1, 4, none⟩ = some (.slice A2 keys.length c2) ∧ W.cell? ⟨b, 5, none⟩ = some (.bool S.asc) := fun W' W v' st' hbW hA => by
    obtain ⟨k0, k1, k2, k3, k4, k5, k6⟩ := K1 W' hbW
    have hs := hS1.now.below hbW
    have go : ∀ {k o : Nat} {u : Value}, w.heap.size ≤ k → W'.cell? ⟨k, o, none⟩ = some u → W.cell? ⟨k, o, none⟩ = some u := fun hk hc => hA.cell hs hc (hN _ hk).1 (hN _ hk).2
    exact ⟨go (by omega) k0, go (by omega) k1, go (by omega) k2, go (by omega) k3, go (by omega) k4, go (by omega) k5, hA.now.cAsc⟩
  have hbx0 : Below W1.heap.size W1 W1.drew := (Below.refl _ _).drew
  clear e0 e1 e2 e3 e4 e5 hasc hN hbw h0 hb
  go_enter Tryz.func53, Tryz.ntmps53
  go_upto_region 2 with fail
  rw [← hW1]
  clear hW1
  go_region_held3 (fun W => W.cell? ⟨w.heap.size, 0, none⟩ = some (.pointer (some ⟨b, 0, none⟩)) ∧ W.cell? ⟨w.heap.size + 1, 0, none⟩ = some (.int .i64 2) ∧ W.cell? ⟨w.heap.size + 1, 1, none⟩ = some (.float .f64 num) ∧ W.cell? ⟨w.heap.size + 1, 2, none⟩ = some (.string ⟨str.toArray⟩) ∧ W.cell? ⟨w.heap.size + 1, 3, none⟩ = some (.slice A list.length c) ∧ W.cell? ⟨w.heap.size + 1, 4, none⟩ = some (.slice A2 keys.length c2) ∧ W.cell? ⟨b, 5, none⟩ = some (.bool S.asc))
    (first | exact K1 _ (by assumption) | exact K2 _ _ _ _ (by assumption) (by assumption))
    (first | (go_at_call 59; refine (valueText_any _ (TW.next (by assumption)) 2 (by omega) num hnum str _ _ ⟨_, _, _, rfl⟩ ⟨_, _, _, rfl⟩ (by omega)).mono ?_; rintro e' wE ⟨rfl, hbE⟩; have hbxE := Below.also (w := W1) (by assumption) hbE) | (go_at_call 22; refine (colour_any _ 2 (by omega) num _ _ _ ⟨_, _, _, rfl⟩ ⟨_, _, _, rfl⟩).mono ?_; rintro e' wC ⟨rfl, hbC⟩; have hbxC := Below.also (w := W1) (by assumption) hbC) | (go_at_call 113; refine (token_any (hS1.now.below (by assumption)) (plainT 2 num str) (colT 2) hlen (colT_length 2)).mono ?_; rintro e' wT ⟨rfl, vT, hA⟩; have hF : SStep b S w v wT vT _ := (hS1.below (by assumption)).join hA))
  all_goals
    rw [← HZ.out] at hF
    clear K1 K2
    go_wp2_with fail
    go_end0
    exact ⟨rfl, _, hF⟩

set_option maxHeartbeats 2000000 in
set_option maxRecDepth 100000 in
theorem value_3 (S : Sty) (w0 : World) (T0 : Tabs w0) (d : Nat) (num : Nat) (str : List UInt8) (keys : List (List UInt8)) (list : List Tr) (x0 x1 x2 x3 x4 : Value)
    (hR : Rep (d + 1) w0 (.mk 3 num str keys list) x0 x1 x2 x3 x4) : Vals S w0 (d + 1) (.mk 3 num str keys list) x0 x1 x2 x3 x4 := by
  obtain ⟨rfl, rfl, rfl, hnum, hstr, hll, hkl, A, c, A2, c2, rfl, rfl, hL, hK, _⟩ := hR
  clear hL hK
  intro b w v st lvl x hx hlv hb h0 h
  subst hx
  obtain ⟨Z, hZ⟩ : ∃ Z, Z = tokS S st (plainT 3 num str) (colT 3) := ⟨_, rfl⟩
  have hpv : pv S (d + 1) (.mk 3 num str keys list) lvl st = Z := by rw [hZ]; rw [pv, if_neg (by decide), if_neg (by decide), if_neg (by decide)]; rfl
  rw [hpv]
  have HZ := Lib.hid hZ
  have hlen : (plainT 3 num str).length ≤ 900000000 := Nat.le_trans (plainT_length 3 num str) (by omega)
  clear hpv hZ
  obtain ⟨W1, hW1⟩ : ∃ W1, W1 = ((w.alloc (.cells #[.pointer (some ⟨b, 0, none⟩)] 72)).alloc (.cells #[.int .i64 3, .float .f64 num, .string ⟨str.toArray⟩, .slice A list.length c, .slice A2 keys.length c2] 27)).alloc (.cells #[.int .i64 lvl] 3) := ⟨_, rfl⟩
  have hbw : Below w.heap.size w W1 := by rw [hW1]; exact below_boxes _ _ _ _
  have hS1 : SStep b S w v W1 v st := (SStep.start h).below hbw
  have TW : Tabs W1 := T0.next (hS1.below0 h hb h0)
  have hasc := hS1.now.cAsc
  have e0 : W1.cell? ⟨w.heap.size, 0, none⟩ = some (.pointer (some ⟨b, 0, none⟩)) := by rw [hW1]; exact (boxes3 w _ _ _ _ _ _ 0).1
  have e1 : W1.cell? ⟨w.heap.size + 1, 0, none⟩ = some (.int .i64 3) := by rw [hW1]; exact (boxes3 w _ _ _ _ _ _ 0).2.1
  have e2 : W1.cell? ⟨w.heap.size + 1, 1, none⟩ = some (.float .f64 num) := by rw [hW1]; exact (boxes3 w _ _ _ _ _ _ 1).2.1
  have e3 : W1.cell? ⟨w.heap.size + 1, 2, none⟩ = some (.string ⟨str.toArray⟩) := by rw [hW1]; exact (boxes3 w _ _ _ _ _ _ 2).2.1
  have e4 : W1.cell? ⟨w.heap.size + 1, 3, none⟩ = some (.slice A list.length c) := by rw [hW1]; exact (boxes3 w _ _ _ _ _ _ 3).2.1
  have e5 : W1.cell? ⟨w.heap.size + 1, 4, none⟩ = some (.slice A2 keys.length c2) := by rw [hW1]; exact (boxes3 w _ _ _ _ _ _ 4).2.1
  have hN : ∀ k, w.heap.size ≤ k → k ≠ b ∧ v.ownBlock ≠ some k := fun k hk => ⟨by have := h.lt; omega, fun e => by have := (h.bw.own.lt k e).2; omega⟩
  have K1 : ∀ W, Below W1.heap.size W1 W → W.cell? ⟨w.heap.size, 0, none⟩ = some (.pointer (some ⟨b, 0, none⟩)) ∧ W.cell? ⟨w.heap.size + 1, 0, none⟩ = some (.int .i64 3) ∧ W.cell? ⟨w.heap.size + 1, 1, none⟩ = some (.float .f64 num) ∧ W.cell? ⟨w.heap.size + 1, 2, none⟩ = some (.string ⟨str.toArray⟩) ∧ W.cell? ⟨w.heap.size + 1, 3, none⟩ = some (.slice A list.length c) ∧ W.cell? ⟨w.heap.size + 1, 4, none⟩ = some (.slice A2 keys.length c2) ∧ W.cell? ⟨b, 5, none⟩ = some (.bool S.asc) := fun W hbW => by
    have go : ∀ {k o : Nat} {u : Value}, W1.cell? ⟨k, o, none⟩ = some u → W.cell? ⟨k, o, none⟩ = some u := fun hc => (hbW.cell (World.block_lt_of_cell? W1 _ hc)).trans hc
    exact ⟨go e0, go e1, go e2, go e3, go e4, go e5, go hasc⟩
  have K2 : ∀ W' W v' st', Below W1.heap.size W1 W' → SStep b S W' v W v' st' → W.cell? ⟨w.heap.size, 0, none⟩ = some (.pointer (some ⟨b, 0, none⟩)) ∧ W.cell? ⟨w.heap.size + 1, 0, none⟩ = some (.int .i64 3) ∧ W.cell? ⟨w.heap.size + 1, 1, none⟩ = some (.float .f64 num) ∧ W.cell? ⟨w.heap.size + 1, 2, none⟩ = some (.string ⟨str.toArray⟩) ∧ W.cell? ⟨w.heap.size + 1, 3, none⟩ = some (.slice A list.length c) ∧ W.cell? ⟨w.heap.size + 1, 4, none⟩ = some (.slice A2 keys.length c2) ∧ W.cell? ⟨b, 5, none⟩ = some (.bool S.asc) := fun W' W v' st' hbW hA => by
    obtain ⟨k0, k1, k2, k3, k4, k5, k6⟩ := K1 W' hbW
    have hs := hS1.now.below hbW
    have go : ∀ {k o : Nat} {u : Value}, w.heap.size ≤ k → W'.cell? ⟨k, o, none⟩ = some u → W.cell? ⟨k, o, none⟩ = some u := fun hk hc => hA.cell hs hc (hN _ hk).1 (hN _ hk).2
    exact ⟨go (by omega) k0, go (by omega) k1, go (by omega) k2, go (by omega) k3, go (by omega) k4, go (by omega) k5, hA.now.cAsc⟩
  have hbx0 : Below W1.heap.size W1 W1.drew := (Below.refl _ _).drew
  clear e0 e1 e2 e3 e4 e5 hasc hN hbw h0 hb
  go_enter Tryz.func53, Tryz.ntmps53
  go_upto_region 2 with fail
  rw [← hW1]
  clear hW1
  go_region_held3 (fun W => W.cell? ⟨w.heap.size, 0, none⟩ = some (.pointer (some ⟨b, 0, none⟩)) ∧ W.cell? ⟨w.heap.size + 1, 0, none⟩ = some (.int .i64 3) ∧ W.cell? ⟨w.heap.size + 1, 1, none⟩ = some (.float .f64 num) ∧ W.cell? ⟨w.heap.size + 1, 2, none⟩ = some (.string ⟨str.toArray⟩) ∧ W.cell? ⟨w.heap.size + 1, 3, none⟩ = some (.slice A list.length c) ∧ W.cell? ⟨w.heap.size + 1, 4, none⟩ = some (.slice A2 keys.length c2) ∧ W.cell? ⟨b, 5, none⟩ = some (.bool S.asc))
    (first | exact K1 _ (by assumption) | exact K2 _ _ _ _ (by assumption) (by assumption))
    (first | (go_at_call 59; refine (valueText_any _ (TW.next (by assumption)) 3 (by omega) num hnum str _ _ ⟨_, _, _, rfl⟩ ⟨_, _, _, rfl⟩ (by omega)).mono ?_; rintro e' wE ⟨rfl, hbE⟩; have hbxE := Below.also (w := W1) (by assumption) hbE) | (go_at_call 22; refine (colour_any _ 3 (by omega) num _ _ _ ⟨_, _, _, rfl⟩ ⟨_, _, _, rfl⟩).mono ?_; rintro e' wC ⟨rfl, hbC⟩; have hbxC := Below.also (w := W1) (by assumption) hbC) | (go_at_call 113; refine (token_any (hS1.now.below (by assumption)) (plainT 3 num str) (colT 3) hlen (colT_length 3)).mono ?_; rintro e' wT ⟨rfl, vT, hA⟩; have hF : SStep b S w v wT vT _ := (hS1.below (by assumption)).join hA))
  all_goals
    rw [← HZ.out] at hF
    clear K1 K2
    go_wp2_with fail
    go_end0
    exact ⟨rfl, _, hF⟩

theorem value_tree (S : Sty) (hi : S.ind ≤ 7) (hS : S.srt = false) (w0 : World) (T0 : Tabs w0) : ∀ (d : Nat) (t : Tr) (y0 y1 y2 y3 y4 : Value), Rep d w0 t y0 y1 y2 y3 y4 → Okp d t → Vals S w0 d t y0 y1 y2 y3 y4 := by
  intro d
  induction d with
  | zero => intro t _ _ _ _ _ h; exact h.elim
  | succ d ih =>
    intro t y0 y1 y2 y3 y4 hR hO
    cases t with
    | mk k num str keys list =>
      have hk : 0 ≤ k ∧ k ≤ 6 := ⟨hO.1, hO.2.1⟩
      have h7 : k = 0 ∨ k = 1 ∨ k = 2 ∨ k = 3 ∨ k = 4 ∨ k = 5 ∨ k = 6 := by omega
      rcases h7 with rfl | rfl | rfl | rfl | rfl | rfl | rfl
      · exact value_0 S w0 T0 d num str keys list _ _ _ _ _ hR
      · exact value_1 S w0 T0 d num str keys list _ _ _ _ _ hR
      · exact value_2 S w0 T0 d num str keys list _ _ _ _ _ hR
      · exact value_3 S w0 T0 d num str keys list _ _ _ _ _ hR
      · exact value_4 S w0 T0 d num str keys list _ _ _ _ _ hR
      · exact value_arr S hi w0 d num str keys list _ _ _ _ _ ih hR hO
      · exact value_obj S hi hS w0 T0 d num str keys list _ _ _ _ _ ih hR hO
end Go.Proofs.YtopecjnmeeejhaaGreatDoor
