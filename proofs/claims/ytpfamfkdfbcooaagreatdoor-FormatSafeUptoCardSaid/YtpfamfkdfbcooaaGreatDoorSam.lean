/- The document's answer: Texts, Same, Lists of what is the same. -/
import Derived.Test.YtpfamfkdfbcooaaGreatDoorKer
import Derived.Test.YtpfamfkdfbcooaaGreatDoorHds
import Derived.Deep.QuietTactic
set_option linter.unusedVariables false
set_option linter.unusedSimpArgs false
namespace Go.Proofs.YtpfamfkdfbcooaaGreatDoor
open Go Go.RowKit Go.Proofs
/-- Two rows of texts that are the same one. -/
def KeyAt (w : World) (A : Option Addr) (l : List Txt) : Prop := ∀ i (h : i < l.length), ∃ ad, A = some ad ∧ w.cell? (ad.add i) = some (.string ⟨l[i].toArray⟩)
set_option maxHeartbeats 4000000 in
set_option maxRecDepth 100000 in
theorem texts_same (w : World) (l : List Txt) (A A' : Option Addr) (c c' : Nat) (hl : l.length ≤ 1048576) (h : KeyAt w A l) (h' : KeyAt w A' l) :
    Calls Tryz.prog 17 #[.slice A l.length c, .slice A' l.length c'] w fun e w' => e = .returned (.bool true) ∧ Below w.heap.size w w' := by
  obtain ⟨n, hn⟩ : ∃ n, n = l.length := ⟨_, rfl⟩
  rw [← hn] at hl ⊢
  have HN := Lib.hid hn
  have HA := Lib.hid h
  have HB := Lib.hid h'
  clear hn h h'
  go_enter Tryz.func17, Tryz.ntmps17
  go_wp2_with fail
  go_loopw [5] (fun i wr => ∃ (k : Nat), k ≤ n ∧ i = .int .i64 k ∧ Below w.heap.size w wr) (fun i _ => n - (intOf i).toNat)
  case atStart => exact ⟨0, Nat.zero_le _, rfl, Below.refl _ _⟩
  case round =>
    obtain ⟨k, hk, rfl, hb⟩ := hrel
    rcases Nat.lt_or_ge k n with hlt | hge
    · have hkl : k < l.length := by have := HN.out; omega
      obtain ⟨ad, rfl, hx⟩ := HA.out k hkl
      obtain ⟨ad', rfl, hy⟩ := HB.out k hkl
      obtain ⟨x, hxk⟩ : ∃ x, x = l[k] := ⟨_, rfl⟩
      rw [← hxk] at hx hy
      have hx2 := (hb.cell (World.block_lt_of_cell? w _ hx)).trans hx
      have hy2 := (hb.cell (World.block_lt_of_cell? w _ hy)).trans hy
      clear hxk hx hy
      go_wp2_with fail
      go_quiet (fail)
      go_wp2_with fail
      go_roundw
      case rel => exact ⟨k + 1, by omega, by go_num, below_drewN hb _⟩
      case measure => simp [intOf]; omega
    · obtain rfl : k = n := by omega
      go_wp2_with fail
      go_ret
      exact ⟨rfl, hb⟩
set_option maxRecDepth 100000 in
theorem refSame_num (b : Nat) (w : World) : Calls Tryz.prog 51 #[.float .f64 b, .float .f64 b] w fun e w' => e = .returned (.bool true) ∧ w = w' := by
  have h1 := bits64 b
  go_enter Tryz.func51, Tryz.ntmps51
  go_wp2_with fail
  go_ret
  exact ⟨rfl, rfl⟩
/-- A row of trees. -/
def TreesAt (d : Nat) (w : World) (A : Option Addr) (list : List Tr) : Prop :=
  ∀ i (h : i < list.length), ∃ ad, A = some ad ∧ ∃ (kk : Int) (nn : Nat) (ss : ByteArray) (A3 : Option Addr) (n3 e3 : Nat) (A4 : Option Addr) (n4 e4 : Nat), Cells5 w (ad.add (i * 5)) (.int .i64 kk) (.float .f64 nn) (.string ss) (.slice A3 n3 e3) (.slice A4 n4 e4) ∧ Rep d w list[i] (.int .i64 kk) (.float .f64 nn) (.string ss) (.slice A3 n3 e3) (.slice A4 n4 e4)
theorem trees_at {d : Nat} {w : World} {A : Option Addr} {list : List Tr} (h : ∀ i (h : i < list.length), ∃ ad, A = some ad ∧ ∃ y0 y1 y2 y3 y4, Cells5 w (ad.add (i * 5)) y0 y1 y2 y3 y4 ∧ Rep d w list[i] y0 y1 y2 y3 y4) : TreesAt d w A list := fun i hi => by
  obtain ⟨ad, e, y0, y1, y2, y3, y4, h5, hR⟩ := h i hi
  obtain ⟨kk, nn, ss, A3, n3, e3, A4, n4, e4, rfl, rfl, rfl, rfl, rfl⟩ := rep_shape hR
  exact ⟨ad, e, kk, nn, ss, A3, n3, e3, A4, n4, e4, h5, hR⟩
/-- What Same is claimed to do of two values that are the same tree. -/
def Sames (d : Nat) : Prop := ∀ (t : Tr) (w : World) (x0 x1 x2 x3 x4 y0 y1 y2 y3 y4 : Value), Rep d w t x0 x1 x2 x3 x4 → Rep d w t y0 y1 y2 y3 y4 →
  Calls Tryz.prog 13 #[.agg #[x0, x1, x2, x3, x4], .agg #[y0, y1, y2, y3, y4]] w fun e w' => e = .returned (.bool true) ∧ Below w.heap.size w w'
set_option maxHeartbeats 8000000 in
set_option maxRecDepth 100000 in
theorem lists_same (d : Nat) (ih : Sames d) (w : World) (list : List Tr) (A A' : Option Addr) (c c' : Nat) (hl : list.length ≤ 1048576) (h : TreesAt d w A list) (h' : TreesAt d w A' list) :
    Calls Tryz.prog 52 #[.slice A list.length c, .slice A' list.length c'] w fun e w' => e = .returned (.bool true) ∧ Below w.heap.size w w' := by
  obtain ⟨n, hn⟩ : ∃ n, n = list.length := ⟨_, rfl⟩
  rw [← hn] at hl ⊢
  have HN := Lib.hid hn
  have HA := Lib.hid h
  have HB := Lib.hid h'
  have HI := Lib.hid ih
  clear hn h h' ih
  go_enter Tryz.func52, Tryz.ntmps52
  go_wp2_with fail
  go_loopw [5] (fun i wr => ∃ (k : Nat), k ≤ n ∧ i = .int .i64 k ∧ Below w.heap.size w wr) (fun i _ => n - (intOf i).toNat)
  case atStart => exact ⟨0, Nat.zero_le _, rfl, Below.refl _ _⟩
  case round =>
    obtain ⟨k, hk, rfl, hb⟩ := hrel
    rcases Nat.lt_or_ge k n with hlt | hge
    · have hkl : k < list.length := by have := HN.out; omega
      obtain ⟨ad, rfl, kk, nn, ss, A3, n3, e3, A4, n4, e4, hx5, hx⟩ := HA.out k hkl
      obtain ⟨ad', rfl, kk', nn', ss', A3', n3', e3', A4', n4', e4', hy5, hy⟩ := HB.out k hkl
      have hx2 := hx5.below hb
      have hy2 := hy5.below hb
      have hC := fun W (hW : Below wr.heap.size wr W) => HI.out list[k] W _ _ _ _ _ _ _ _ _ _ ((hx.below hb).below hW) ((hy.below hb).below hW)
      have HC := Lib.hid hC
      obtain ⟨g0, g1, g2, g3, g4⟩ := hx2
      obtain ⟨q0, q1, q2, q3, q4⟩ := hy2
      clear hx hy hx5 hy5 hC
      go_wp2_with fail
      go_region_with (go_at_call 13; refine (HC.out _ (Below.refl _ _).drew).mono ?_; rintro e' w2 ⟨rfl, hb2⟩; have hbx := Below.also (Below.refl _ _).drew hb2; clear hb2)
      all_goals
        have hb3 := hb.trans (hbx.mono hb.size)
        clear g0 g1 g2 g3 g4 q0 q1 q2 q3 q4 hbx
        go_wp2_with fail
        go_roundw
        case rel => exact ⟨k + 1, by omega, by go_num, hb3⟩
        case measure => simp [intOf]; omega
    · obtain rfl : k = n := by omega
      go_wp2_with fail
      go_ret
      exact ⟨rfl, hb⟩
set_option maxHeartbeats 8000000 in
set_option maxRecDepth 100000 in
theorem same_any : ∀ (d : Nat), Sames d := by
  intro d
  induction d with
  | zero => intro t w _ _ _ _ _ _ _ _ _ _ h; exact h.elim
  | succ d ih =>
    intro t w x0 x1 x2 x3 x4 y0 y1 y2 y3 y4 hR hR'
    cases t with
    | mk kk num str keys list =>
    obtain ⟨rfl, rfl, rfl, hnum, hstr, hll, hkl, A, c, A2, c2, rfl, rfl, hL, hK, _⟩ := hR
    obtain ⟨rfl, rfl, rfl, _, _, _, _, A', c', A2', c2', rfl, rfl, hL', hK', _⟩ := hR'
    have h1 := trees_at hL
    have h2 := trees_at hL'
    have HTx : Hid (∀ W, Below w.heap.size w W → Calls Tryz.prog 17 #[.slice A2 keys.length c2, .slice A2' keys.length c2'] W fun e w' => e = .returned (.bool true) ∧ Below W.heap.size W w') := Lib.hid (fun W hb => texts_same W keys A2 A2' c2 c2' hkl (fun i hi => by
      obtain ⟨_, ad, e, hc⟩ := hK i hi
      exact ⟨ad, e, (hb.cell (World.block_lt_of_cell? w _ hc)).trans hc⟩) (fun i hi => by
      obtain ⟨_, ad, e, hc⟩ := hK' i hi
      exact ⟨ad, e, (hb.cell (World.block_lt_of_cell? w _ hc)).trans hc⟩))
    have later : ∀ W B, Below w.heap.size w W → TreesAt d w B list → TreesAt d W B list := fun W B hb h i hi => by
      obtain ⟨ad, e, kk, nn, ss, A3, n3, e3, A4, n4, e4, h5, hR⟩ := h i hi
      exact ⟨ad, e, kk, nn, ss, A3, n3, e3, A4, n4, e4, h5.below hb, hR.below hb⟩
    have HLi : Hid (∀ W, Below w.heap.size w W → Calls Tryz.prog 52 #[.slice A list.length c, .slice A' list.length c'] W fun e w' => e = .returned (.bool true) ∧ Below W.heap.size W w') := Lib.hid (fun W hb => lists_same d ih W list A A' c c' hll (later W A hb h1) (later W A' hb h2))
    obtain ⟨n, hn⟩ : ∃ n, n = list.length := ⟨_, rfl⟩
    obtain ⟨m, hm⟩ : ∃ n, n = keys.length := ⟨_, rfl⟩
    rw [← hn] at HLi ⊢
    rw [← hm] at HTx ⊢
    have HNum : Hid (∀ W, Calls Tryz.prog 51 #[.float .f64 num, .float .f64 num] W fun e w' => e = .returned (.bool true) ∧ W = w') := Lib.hid (refSame_num num)
    obtain ⟨B, hB⟩ : ∃ B, B = w.heap.size := ⟨_, rfl⟩
    obtain ⟨W1, hW1⟩ : ∃ W1, W1 = w.alloc (.cells #[.int .i64 kk, .float .f64 num, .string ⟨str.toArray⟩, .slice A n c, .slice A2 m c2] 27) := ⟨_, rfl⟩
    obtain ⟨hb1, a0, a1, a2, a3, a4⟩ := after_new _ _ _ _ _ _ _ _ hW1
    have hs1 : W1.heap.size = w.heap.size + 1 := by rw [hW1]; simp
    obtain ⟨W2, hW2⟩ : ∃ W2, W2 = W1.alloc (.cells #[.int .i64 kk, .float .f64 num, .string ⟨str.toArray⟩, .slice A' n c', .slice A2' m c2'] 27) := ⟨_, rfl⟩
    obtain ⟨hb12, b0, b1, b2, b3, b4⟩ := after_new _ _ _ _ _ _ _ _ hW2
    rw [hs1] at b0 b1 b2 b3 b4
    have hb2 : Below w.heap.size w W2 := hb1.trans (hb12.mono hb1.size)
    have HF : Hid (∀ W, Below W2.heap.size W2 W → W.cell? ⟨w.heap.size, 3, none⟩ = some (.slice A n c) ∧ W.cell? ⟨w.heap.size, 4, none⟩ = some (.slice A2 m c2) ∧ W.cell? ⟨w.heap.size, 1, none⟩ = some (.float .f64 num) ∧ W.cell? ⟨w.heap.size + 1, 3, none⟩ = some (.slice A' n c') ∧ W.cell? ⟨w.heap.size + 1, 4, none⟩ = some (.slice A2' m c2') ∧ W.cell? ⟨w.heap.size + 1, 1, none⟩ = some (.float .f64 num)) := Lib.hid (fun W hb => by
      have go1 : ∀ {q : Addr} {u : Value}, W1.cell? q = some u → W.cell? q = some u := fun hc => by
        have h2 := (hb12.cell (World.block_lt_of_cell? W1 _ hc)).trans hc
        exact (hb.cell (World.block_lt_of_cell? W2 _ h2)).trans h2
      have go2 : ∀ {q : Addr} {u : Value}, W2.cell? q = some u → W.cell? q = some u := fun hc => (hb.cell (World.block_lt_of_cell? W2 _ hc)).trans hc
      exact ⟨go1 a3, go1 a4, go1 a1, go2 b3, go2 b4, go2 b1⟩)
    have HW : Hid (W2 = (w.alloc (.cells #[.int .i64 kk, .float .f64 num, .string ⟨str.toArray⟩, .slice A n c, .slice A2 m c2] 27)).alloc (.cells #[.int .i64 kk, .float .f64 num, .string ⟨str.toArray⟩, .slice A' n c', .slice A2' m c2'] 27)) := Lib.hid (by rw [hW2, hW1])
    have c1 : W2.cell? ⟨w.heap.size, 0, none⟩ = some (.int .i64 kk) := (hb12.cell (World.block_lt_of_cell? W1 _ a0)).trans a0
    have c2' : W2.cell? ⟨w.heap.size, 2, none⟩ = some (.string ⟨str.toArray⟩) := (hb12.cell (World.block_lt_of_cell? W1 _ a2)).trans a2
    clear hW1 hW2 hn hm hL hK hL' hK' h1 h2 later ih a0 a1 a2 a3 a4 b1 b3 b4 hb1 hb12 hs1
    obtain ⟨q1, q2, q3, q4, q5, q6⟩ := HF.out W2 (Below.refl _ _)
    go_enter Tryz.func13, Tryz.ntmps13
    go_upto_region 1 with fail
    rw [← HW.out]
    go_wp2_with fail
    refine (HTx.out _ hb2).mono ?_
    rintro e' w3 ⟨rfl, hb3⟩
    have hw3 := hb2.trans (hb3.mono hb2.size)
    clear q1 q2 q3 q4 q5 q6
    obtain ⟨q1, q2, q3, q4, q5, q6⟩ := HF.out w3 hb3
    go_wp2_with fail
    refine (HNum.out _).mono ?_
    rintro e' _ ⟨rfl, rfl⟩
    go_wp2_with fail
    refine (HLi.out _ hw3).mono ?_
    rintro e' w4 ⟨rfl, hb4⟩
    have hw4 := hw3.trans (hb4.mono hw3.size)
    go_wp2_with fail
    go_ret
    exact ⟨rfl, hw4⟩
end Go.Proofs.YtpfamfkdfbcooaaGreatDoor
