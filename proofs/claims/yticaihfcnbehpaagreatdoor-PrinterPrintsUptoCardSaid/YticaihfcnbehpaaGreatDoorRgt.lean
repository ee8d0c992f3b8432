/- The document's answer: place, Get, Keys: a key's value, an object's keys sorted. -/
import Derived.Test.YticaihfcnbehpaaGreatDoorSq
set_option linter.unusedVariables false
set_option linter.unusedSimpArgs false
namespace Go.Proofs.YticaihfcnbehpaaGreatDoor
open Go Go.RowKit Go.Proofs
set_option maxHeartbeats 4000000 in
set_option maxRecDepth 100000 in
theorem place_any (d : Nat) (w : World) (kk : Int) (num : Nat) (str : Txt) (keys : List Txt) (list : List Tr) (y0 y1 y2 y3 y4 : Value) (y : Txt) (hR : Rep d w (.mk kk num str keys list) y0 y1 y2 y3 y4) :
    Calls Tryz.prog 75 #[.agg #[y0, y1, y2, y3, y4], .string ⟨y.toArray⟩] w fun e w' => e = .returned (.int .i64 (atT keys y)) ∧ Below w.heap.size w w' := by
  cases d with
  | zero => exact hR.elim
  | succ d =>
  obtain ⟨rfl, rfl, rfl, hnum, hstr, hll, hkl, A, c, A2, c2, rfl, rfl, hL, hK, hc2, hc, hn2, hn⟩ := hR
  obtain ⟨n, hnn⟩ : ∃ n, n = keys.length := ⟨_, rfl⟩
  obtain ⟨nl, hnl⟩ : ∃ n, n = list.length := ⟨_, rfl⟩
  rw [← hnn] at hkl hc2 ⊢
  rw [← hnl] at hll hc ⊢
  obtain ⟨r, hr⟩ : ∃ r, r = atT keys y := ⟨_, rfl⟩
  have HR : Hid (atFrom y 0 (keys.drop 0) = r) := Lib.hid (by rw [hr, atT]; rfl)
  rw [← hr]
  have HK := Lib.hid hK
  have HN := Lib.hid hnn
  clear hr hL hK hnn hnl hn2 hn hnum hstr
  have hb1 := (Below.refl w.heap.size w).alloc (Nat.le_refl _) (.cells #[.int .i64 kk, .float .f64 num, .string ⟨str.toArray⟩, .slice A nl c, .slice A2 n c2] 27)
  have hc4 : (w.alloc (.cells #[.int .i64 kk, .float .f64 num, .string ⟨str.toArray⟩, .slice A nl c, .slice A2 n c2] 27)).cell? ⟨w.heap.size, 4, none⟩ = some (.slice A2 n c2) := by rw [World.cell?_alloc_new]; rfl
  obtain ⟨W1, hW1⟩ : ∃ W1, W1 = w.alloc (.cells #[.int .i64 kk, .float .f64 num, .string ⟨str.toArray⟩, .slice A nl c, .slice A2 n c2] 27) := ⟨_, rfl⟩
  rw [← hW1] at hb1 hc4
  have HW := Lib.hid hW1
  clear hW1
  go_enter Tryz.func75, Tryz.ntmps75
  go_wp2_with fail
  rw [← HW.out]
  go_loop [5] (fun i => ∃ (k : Nat), k ≤ n ∧ i = .int .i64 k ∧ Hid (atFrom y k (keys.drop k) = r)) (fun i => n - (intOf i).toNat)
  case atStart => exact ⟨0, Nat.zero_le _, rfl, HR⟩
  case round =>
    clear HR
    obtain ⟨k, hk, rfl, HV⟩ := hrel
    rcases Nat.lt_or_ge k n with hlt | hge
    · have hk2 : k < keys.length := by have := HN.out; omega
      obtain ⟨x, hxk⟩ : ∃ x, x = keys[k] := ⟨_, rfl⟩
      have hds := drop_cons keys k hk2
      obtain ⟨-, ad, rfl, hcx⟩ := HK.out k hk2
      rw [← hxk] at hds hcx
      have hcx2 := (hb1.cell (p := ad.add k) (World.block_lt_of_cell? w _ hcx)).trans hcx
      have hv := HV.out
      rw [hds, atFrom] at hv
      have heq := eqStr x y
      by_cases he : x = y
      · rw [if_pos he] at hv
        have HV2 := Lib.hid hv
        have hq : (x == y) = true := by rw [heq]; exact decide_eq_true he
        clear hv hds hxk HV hcx heq he
        go_wp2_with fail
        go_ret
        exact ⟨by rw [← HV2.out]; rfl, hb1⟩
      · rw [if_neg he] at hv
        have HV2 := Lib.hid hv
        have hq : (x == y) = false := by rw [heq]; exact decide_eq_false he
        clear hv hds hxk HV hcx heq he
        go_wp2_with fail
        go_round
        case rel => exact ⟨k + 1, by omega, by go_num, HV2⟩
        case measure => simp [intOf]; omega
    · have HV2 : Hid (r = -1) := Lib.hid (by
        have hds : keys.drop k = [] := List.drop_eq_nil_of_le (by have := HN.out; omega)
        rw [← HV.out, hds]; rfl)
      go_wp2_with fail
      go_ret
      exact ⟨by rw [HV2.out]; rfl, hb1⟩
set_option maxHeartbeats 4000000 in
set_option maxRecDepth 100000 in
/-- What is found: a place of an earlier world's tree. -/
theorem refGet_any0 (d : Nat) (w0 w : World) (h0 : Below w0.heap.size w0 w) (kk : Int) (num : Nat) (str : Txt) (keys : List Txt) (list : List Tr) (y0 y1 y2 y3 y4 : Value) (y : Txt) (hR : Rep (d + 1) w0 (.mk kk num str keys list) y0 y1 y2 y3 y4)
    (i : Nat) (hi : i < list.length) (hat : atT keys y = (i : Int)) :
    Calls Tryz.prog 55 #[.agg #[y0, y1, y2, y3, y4], .string ⟨y.toArray⟩] w fun e w' => ∃ z0 z1 z2 z3 z4, Rep d w0 list[i] z0 z1 z2 z3 z4 ∧ e = .returned (.tuple #[.agg #[z0, z1, z2, z3, z4], .bool true]) ∧ Below w.heap.size w w' := by
  have hA := fun W (h : Below w.heap.size w W) => place_any (d + 1) W kk num str keys list _ _ _ _ _ y ((hR.below h0).below h)
  rw [hat] at hA
  obtain ⟨rfl, rfl, rfl, hnum, hstr, hll, hkl, A, c, A2, c2, rfl, rfl, hL, hK, hc2, hc, hn2, hn⟩ := hR
  obtain ⟨ad, rfl, z0, z1, z2, z3, z4, h5, hZ⟩ := hL i hi
  have h5 := h5.below h0
  obtain ⟨n, hnn⟩ : ∃ n, n = keys.length := ⟨_, rfl⟩
  obtain ⟨nl, hnl⟩ : ∃ n, n = list.length := ⟨_, rfl⟩
  rw [← hnn] at hkl hc2
  rw [← hnl] at hll hc
  rw [← hnn, ← hnl] at hA ⊢
  have hil : i < nl := by omega
  obtain ⟨k0, k1, s2, a3, m3, c3, a4, m4, c4, rfl, rfl, rfl, rfl, rfl⟩ := rep_shape hZ
  have HA := Lib.hid hA
  have HZ := Lib.hid hZ
  clear hL hK hnn hnl hn2 hn hnum hstr hA hat hZ
  obtain ⟨g0, g1, g2, g3, g4⟩ := h5
  have hb1 := ((Below.refl w.heap.size w).alloc (Nat.le_refl _) (.cells #[.int .i64 kk, .float .f64 num, .string ⟨str.toArray⟩, .slice (some ad) nl c, .slice A2 n c2] 27)).alloc (by simp) (.cells #[.int .i64 0, .float .f64 0, .string ⟨#[]⟩, .slice none 0 0, .slice none 0 0] 27)
  go_enter Tryz.func55, Tryz.ntmps55
  go_wp2_with fail
  refine (HA.out _ hb1).mono ?_
  rintro e' w2 ⟨rfl, hb2⟩
  have hb3 := hb1.trans (hb2.mono hb1.size)
  have hc3 : w2.cell? ⟨w.heap.size, 3, none⟩ = some (.slice (some ad) nl c) := by
    have h1 : (w.alloc (.cells #[.int .i64 kk, .float .f64 num, .string ⟨str.toArray⟩, .slice (some ad) nl c, .slice A2 n c2] 27)).cell? ⟨w.heap.size, 3, none⟩ = some (.slice (some ad) nl c) := by rw [World.cell?_alloc_new]; rfl
    have hl1 := World.block_lt_of_cell? _ _ h1
    have h2 := ((Below.refl _ (w.alloc (.cells #[.int .i64 kk, .float .f64 num, .string ⟨str.toArray⟩, .slice (some ad) nl c, .slice A2 n c2] 27))).alloc (Nat.le_refl _) (.cells #[.int .i64 0, .float .f64 0, .string ⟨#[]⟩, .slice none 0 0, .slice none 0 0] 27)).trans (hb2.mono (by simp))
    exact (h2.cell (p := ⟨w.heap.size, 3, none⟩) hl1).trans h1
  have hrow : w2.heap[w.heap.size + 1]? = some (.cells #[.int .i64 0, .float .f64 0, .string ⟨#[]⟩, .slice none 0 0, .slice none 0 0] 27) := hlBelow hb2 (hlNew1 w _ _)
  obtain ⟨f0, f1, f2, f3, f4⟩ := Cells5.below ⟨g0, g1, g2, g3, g4⟩ hb3
  have HRow := Lib.hid hrow
  have Hb3 := Lib.hid hb3
  clear hb1 hb2 hb3 hrow g0 g1 g2 g3 g4
  go_wp2_with (refine wpList_store_row rfl 27 (.tmp 4) (.tmp 17) rfl (w.heap.size + 1) #[.int .i64 k0, .float .f64 k1, .string s2, .slice a3 m3 c3, .slice a4 m4 c4] rfl rfl 27 #[.int .i64 0, .float .f64 0, .string ⟨#[]⟩, .slice none 0 0, .slice none 0 0] HRow.out (by kernel_rfl) rfl (one5 k0 k1 s2 _ _ _ _ _ _) ?_)
  refine bodyPost_ret (results_cell_tmp rfl _ _ (w.heap.size + 1) _ rfl (run_loadVar_row _ _ _ 27 _ (0, 0) _ (setRow_heap _ _ _ _ _ _ HRow.out) Tryz.underlying27 rfl (by kernel_rfl))) rfl ?_
  exact ⟨_, _, _, _, _, HZ.out, rfl, Go.Proofs.YticaihfcnbehpaaGreatDoor.below_setRow Hb3.out (by omega) _⟩
set_option maxRecDepth 100000 in
theorem refKeys_any (d : Nat) (w : World) (kk : Int) (num : Nat) (str : Txt) (keys : List Txt) (list : List Tr) (y0 y1 y2 y3 y4 : Value) (hR : Rep d w (.mk kk num str keys list) y0 y1 y2 y3 y4) :
    Calls Tryz.prog 52 #[.agg #[y0, y1, y2, y3, y4]] w fun e w' => ∃ v', e = .returned v' ∧ OwnG 9 1 w.heap.size w' v' (sortT keys.length keys).length (strCs (sortT keys.length keys)) ∧ Below w.heap.size w w' := by
  cases d with
  | zero => exact hR.elim
  | succ d =>
  obtain ⟨rfl, rfl, rfl, hnum, hstr, hll, hkl, A, c, A2, c2, rfl, rfl, hL, hK, hc2, hc, hn2, hn⟩ := hR
  have hS : StrSl w (.slice A2 keys.length c2) keys := by
    refine ⟨A2, c2, rfl, hc2, fun h => ?_, fun ad had j u hu => ?_⟩
    · subst h
      have := hn2 rfl
      exact ⟨by omega, this, by rw [List.eq_nil_of_length_eq_zero (by omega : keys.length = 0)]; rfl⟩
    · simp only [strCs, List.getElem?_map] at hu
      obtain ⟨x, hx, rfl⟩ := Option.map_eq_some_iff.1 hu
      obtain ⟨hj, rfl⟩ := List.getElem?_eq_some_iff.1 hx
      obtain ⟨-, ad', h1, h2⟩ := hK j hj
      rw [had] at h1
      obtain rfl := Option.some.inj h1
      exact h2
  obtain ⟨W1, hW1⟩ : ∃ W1, W1 = w.alloc (.cells #[.int .i64 kk, .float .f64 num, .string ⟨str.toArray⟩, .slice A list.length c, .slice A2 keys.length c2] 27) := ⟨_, rfl⟩
  have hb1 : Below w.heap.size w W1 := by rw [hW1]; exact (Below.refl _ _).alloc (Nat.le_refl _) _
  have hSo := sorted_any keys.length keys _ W1 (by omega) hkl (hS.below hb1)
  have HSo := Lib.hid hSo
  have HW := Lib.hid hW1
  obtain ⟨K, hK2⟩ : ∃ K, K = sortT keys.length keys := ⟨_, rfl⟩
  rw [← hK2] at HSo ⊢
  clear hS hSo hL hK hW1 hK2 hn2 hn
  go_enter Tryz.func52, Tryz.ntmps52
  go_wp2_with fail
  rw [← HW.out]
  refine HSo.out.mono ?_
  rintro e' w2 ⟨v', rfl, hO, hb2⟩
  have hb3 := hb1.trans (hb2.mono hb1.size)
  have hO2 := hO.mono (B' := w.heap.size) hb1.size
  obtain ⟨A', c', rfl⟩ := hO.shape
  have HO := Lib.hid hO2
  clear hO hO2
  go_wp2_with fail
  go_ret
  exact ⟨_, rfl, HO.out, hb3⟩
end Go.Proofs.YticaihfcnbehpaaGreatDoor
