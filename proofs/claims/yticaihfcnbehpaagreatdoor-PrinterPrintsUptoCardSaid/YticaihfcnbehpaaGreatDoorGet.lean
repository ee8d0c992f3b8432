/- value.at, value.Get: a key's place among an object's keys. -/
import Derived.Test.YticaihfcnbehpaaGreatDoorKer
import Derived.Test.YticaihfcnbehpaaGreatDoorHds
set_option linter.unusedVariables false
set_option linter.unusedSimpArgs false
namespace Go.Proofs.YticaihfcnbehpaaGreatDoor
open Go Go.RowKit Go.Proofs
/-- The first place of a text in a row that begins at a place; -1 without one. -/
def atFrom (y : Txt) : Nat → List Txt → Int
  | _, [] => -1
  | i, x :: s => if x = y then (i : Int) else atFrom y (i + 1) s
def atT (l : List Txt) (y : Txt) : Int := atFrom y 0 l
set_option maxHeartbeats 4000000 in
set_option maxRecDepth 100000 in
theorem at_any (d : Nat) (w : World) (kk : Int) (num : Nat) (str : Txt) (keys : List Txt) (list : List Tr) (y0 y1 y2 y3 y4 : Value) (y : Txt) (hR : Rep d w (.mk kk num str keys list) y0 y1 y2 y3 y4) :
    Calls Tryz.prog 51 #[.agg #[y0, y1, y2, y3, y4], .string ⟨y.toArray⟩] w fun e w' => e = .returned (.int .i64 (atT keys y)) ∧ Below w.heap.size w w' := by
  cases d with
  | zero => exact hR.elim
  | succ d =>
  obtain ⟨rfl, rfl, rfl, hnum, hstr, hll, hkl, A, c, A2, c2, rfl, rfl, hL, hK, hc2, hc, hn2, hn⟩ := hR
  obtain ⟨n, hnn⟩ : ∃ n, n = keys.length := ⟨_, rfl⟩
  obtain ⟨nl, hnl⟩ : ∃ n, n = list.length := ⟨_, rfl⟩
  rw [← hnn] at hkl hc2 ⊢
  rw [← hnl] at hll hc ⊢
  obtain ⟨r, hr⟩ : ∃ r, r = atT keys y := ⟨_, rfl⟩
  have HR : Hid (atFrom y 0 (keys.drop 0) = r) := Lib.hid (by rw [hr, atT]; rfl)
  rw [← hr]
  have HK := Lib.hid hK
  have HN := Lib.hid hnn
  clear hr hL hK hnn hnl hn2 hn hnum hstr
  have hb1 := (Below.refl w.heap.size w).alloc (Nat.le_refl _) (.cells #[.int .i64 kk, .float .f64 num, .string ⟨str.toArray⟩, .slice A nl c, .slice A2 n c2] 27)
  go_enter Tryz.func51, Tryz.ntmps51
  go_wp2_with fail
  go_loopw [10] (fun i wr => ∃ (k : Nat), k ≤ n ∧ i = .int .i64 k ∧ Below w.heap.size w wr ∧ Hid (atFrom y k (keys.drop k) = r)) (fun i _ => n - (intOf i).toNat)
  case atStart => exact ⟨0, Nat.zero_le _, rfl, hb1, HR⟩
  case round =>
    clear HR hb1
    obtain ⟨k, hk, rfl, hb, HV⟩ := hrel
    rcases Nat.lt_or_ge k n with hlt | hge
    · have hk2 : k < keys.length := by have := HN.out; omega
      obtain ⟨x, hxk⟩ : ∃ x, x = keys[k] := ⟨_, rfl⟩
      have hds := drop_cons keys k hk2
      obtain ⟨-, ad, rfl, hcx⟩ := HK.out k hk2
      rw [← hxk] at hds hcx
      have hcx2 := (hb.cell (p := ad.add k) (World.block_lt_of_cell? w _ hcx)).trans hcx
      have hv := HV.out
      rw [hds, atFrom] at hv
      have heq := eqStr x y
      by_cases he : x = y
      · rw [if_pos he] at hv
        have HV2 := Lib.hid hv
        have hq : (x == y) = true := by rw [heq]; exact decide_eq_true he
        clear hv hds hxk HV hcx heq he
        go_wp2_with fail
        go_ret
        exact ⟨by rw [← HV2.out]; rfl, hb⟩
      · rw [if_neg he] at hv
        have HV2 := Lib.hid hv
        have hq : (x == y) = false := by rw [heq]; exact decide_eq_false he
        clear hv hds hxk HV hcx heq he
        go_wp2_with fail
        go_roundw
        case rel => exact ⟨k + 1, by omega, by go_num, hb, HV2⟩
        case measure => simp [intOf]; omega
    · have HV2 : Hid (r = -1) := Lib.hid (by
        have hds : keys.drop k = [] := List.drop_eq_nil_of_le (by have := HN.out; omega)
        rw [← HV.out, hds]; rfl)
      go_wp2_with fail
      go_ret
      exact ⟨by rw [HV2.out]; rfl, hb⟩
theorem results_cell_tmp {fn : Func} {p q : Tmp} {ty : TypeId} (h : fn.results = #[.cell p ty, .tmp q]) (tmps : Array Value) (w : World) (g : Nat) (cs : Array Value)
    (hp : tmps.getD p undef = .pointer (some ⟨g, 0, none⟩)) (hl : (loadVar ty ⟨g, 0, none⟩).run Tryz.prog w = .ok (.agg cs) w) :
    (results fn tmps).run Tryz.prog w = .ok (.tuple #[.agg cs, tmps.getD q undef]) w := by
  have hp' : tmps[p]?.getD undef = .pointer (some ⟨g, 0, none⟩) := by simpa using hp
  simp [results, h, hp', asAddr, hl]
set_option maxHeartbeats 4000000 in
set_option maxRecDepth 100000 in
/-- What is found: the value at the key's place. -/
theorem get_any (d : Nat) (w : World) (kk : Int) (num : Nat) (str : Txt) (keys : List Txt) (list : List Tr) (y0 y1 y2 y3 y4 : Value) (y : Txt) (hR : Rep (d + 1) w (.mk kk num str keys list) y0 y1 y2 y3 y4)
    (i : Nat) (hi : i < list.length) (hat : atT keys y = (i : Int)) :
    Calls Tryz.prog 35 #[.agg #[y0, y1, y2, y3, y4], .string ⟨y.toArray⟩] w fun e w' => ∃ z0 z1 z2 z3 z4, Rep d w list[i] z0 z1 z2 z3 z4 ∧ e = .returned (.tuple #[.agg #[z0, z1, z2, z3, z4], .bool true]) ∧ Below w.heap.size w w' := by
  have hA := fun W (h : Below w.heap.size w W) => at_any (d + 1) W kk num str keys list _ _ _ _ _ y (hR.below h)
  rw [hat] at hA
  obtain ⟨rfl, rfl, rfl, hnum, hstr, hll, hkl, A, c, A2, c2, rfl, rfl, hL, hK, hc2, hc, hn2, hn⟩ := hR
  obtain ⟨ad, rfl, z0, z1, z2, z3, z4, h5, hZ⟩ := hL i hi
  obtain ⟨n, hnn⟩ : ∃ n, n = keys.length := ⟨_, rfl⟩
  obtain ⟨nl, hnl⟩ : ∃ n, n = list.length := ⟨_, rfl⟩
  rw [← hnn] at hkl hc2
  rw [← hnl] at hll hc
  rw [← hnn, ← hnl] at hA ⊢
  have hil : i < nl := by omega
  obtain ⟨k0, k1, s2, a3, m3, c3, a4, m4, c4, rfl, rfl, rfl, rfl, rfl⟩ := rep_shape hZ
  have HA := Lib.hid hA
  have HZ := Lib.hid hZ
  clear hL hK hnn hnl hn2 hn hnum hstr hA hat hZ
  obtain ⟨g0, g1, g2, g3, g4⟩ := h5
  have hb1 := ((Below.refl w.heap.size w).alloc (Nat.le_refl _) (.cells #[.int .i64 kk, .float .f64 num, .string ⟨str.toArray⟩, .slice (some ad) nl c, .slice A2 n c2] 27)).alloc (by simp) (.cells #[.int .i64 0, .float .f64 0, .string ⟨#[]⟩, .slice none 0 0, .slice none 0 0] 27)
  go_enter Tryz.func35, Tryz.ntmps35
  go_wp2_with fail
  refine (HA.out _ hb1).mono ?_
  rintro e' w2 ⟨rfl, hb2⟩
  have hb3 := hb1.trans (hb2.mono hb1.size)
  have hc3 : w2.cell? ⟨w.heap.size, 3, none⟩ = some (.slice (some ad) nl c) := by
    have h1 : (w.alloc (.cells #[.int .i64 kk, .float .f64 num, .string ⟨str.toArray⟩, .slice (some ad) nl c, .slice A2 n c2] 27)).cell? ⟨w.heap.size, 3, none⟩ = some (.slice (some ad) nl c) := by rw [World.cell?_alloc_new]; rfl
    have hl1 := World.block_lt_of_cell? _ _ h1
    have h2 := ((Below.refl _ (w.alloc (.cells #[.int .i64 kk, .float .f64 num, .string ⟨str.toArray⟩, .slice (some ad) nl c, .slice A2 n c2] 27))).alloc (Nat.le_refl _) (.cells #[.int .i64 0, .float .f64 0, .string ⟨#[]⟩, .slice none 0 0, .slice none 0 0] 27)).trans (hb2.mono (by simp))
    exact (h2.cell (p := ⟨w.heap.size, 3, none⟩) hl1).trans h1
  have hrow : w2.heap[w.heap.size + 1]? = some (.cells #[.int .i64 0, .float .f64 0, .string ⟨#[]⟩, .slice none 0 0, .slice none 0 0] 27) := hlBelow hb2 (hlNew1 w _ _)
  obtain ⟨f0, f1, f2, f3, f4⟩ := Cells5.below ⟨g0, g1, g2, g3, g4⟩ hb3
  have HRow := Lib.hid hrow
  have Hb3 := Lib.hid hb3
  clear hb1 hb2 hb3 hrow g0 g1 g2 g3 g4
  go_wp2_with (refine wpList_store_row rfl 27 (.tmp 4) (.tmp 16) rfl (w.heap.size + 1) #[.int .i64 k0, .float .f64 k1, .string s2, .slice a3 m3 c3, .slice a4 m4 c4] rfl rfl 27 #[.int .i64 0, .float .f64 0, .string ⟨#[]⟩, .slice none 0 0, .slice none 0 0] HRow.out (by kernel_rfl) rfl (one5 k0 k1 s2 _ _ _ _ _ _) ?_)
  refine bodyPost_ret (results_cell_tmp rfl _ _ (w.heap.size + 1) _ rfl (run_loadVar_row _ _ _ 27 _ (0, 0) _ (setRow_heap _ _ _ _ _ _ HRow.out) Tryz.underlying27 rfl (by kernel_rfl))) rfl ?_
  exact ⟨_, _, _, _, _, HZ.out, rfl, Go.Proofs.YticaihfcnbehpaaGreatDoor.below_setRow Hb3.out (by omega) _⟩
end Go.Proofs.YticaihfcnbehpaaGreatDoor
