/- colanderlaw05.PrinterPieces, walked. -/
import Derived.Test.YtgdfmpanaapdjaaGreatDoorHds
set_option linter.unusedVariables false
set_option linter.unusedSimpArgs false
namespace Go.Proofs.YtgdfmpanaapdjaaGreatDoor
open Go Go.RowKit Go.Proofs
theorem right_kind {m : Nat} {k : Int} {num : Nat} {str : Txt} {keys : List Txt} {list : List Tr} (h : rightT m (.mk k num str keys list) = true) : 0 ≤ k ∧ k ≤ 6 := by
  cases m with
  | zero => cases h
  | succ m =>
    rw [rightT] at h
    split at h
    · cases h
    · rename_i hk; omega
set_option maxHeartbeats 2000000 in
set_option maxRecDepth 100000 in
theorem pieces_walk (w : World) (TW : Tabs w) (s : Txt) (hl : s.length ≤ 1048576) (asc : Bool) (d : Nat) (t : Tr) (y0 y1 y2 y3 y4 : Value) (hR : Rep d w t y0 y1 y2 y3 y4) :
    Calls Tryz.prog 4 #[.string ⟨s.toArray⟩, .bool asc, .agg #[y0, y1, y2, y3, y4]] w fun e w' => e = .returned (.bool true) ∧ Below w.heap.size w w' := by
  cases d with
  | zero => exact hR.elim
  | succ d =>
  cases t with
  | mk k num str keys list =>
  have hR0 := hR
  obtain ⟨rfl, rfl, rfl, hnum, hstr, hll, hkl, A, c, A2, c2, rfl, rfl, hL, hK, hc2, hc, hn2, hn⟩ := hR
  obtain ⟨n, hnn⟩ : ∃ n, n = list.length := ⟨_, rfl⟩
  obtain ⟨nk, hnk⟩ : ∃ nk, nk = keys.length := ⟨_, rfl⟩
  rw [← hnn, ← hnk] at hR0 ⊢
  have hRi := fun W (hb : Below w.heap.size w W) => right_any2 (d + 1) W _ _ _ _ _ _ (hR0.below hb)
  have hVa := fun W => valid_any ⟨s.toArray⟩ W (by show s.length < _; omega)
  have hkind := @right_kind 10000 k num str keys list
  obtain ⟨r, hr⟩ : ∃ r, r = rightT 10000 (.mk k num str keys list) := ⟨_, rfl⟩
  obtain ⟨va, hva⟩ : ∃ va, va = validB ⟨s.toArray⟩ := ⟨_, rfl⟩
  rw [← hr] at hkind
  simp only [← hr] at hRi
  rw [← hva] at hVa
  have HR := Lib.hid hRi
  have HV := Lib.hid hVa
  clear hr hva hRi hVa hL hK hnn hnk hc2 hc hn2 hn hR0 hll hkl hnum hstr
  obtain ⟨W1, hW1⟩ : ∃ W1, W1 = w.alloc (.cells #[.int .i64 k, .float .f64 num, .string ⟨str.toArray⟩, .slice A n c, .slice A2 nk c2] 27) := ⟨_, rfl⟩
  obtain ⟨hb1, e0, e1, e2, e3, e4⟩ := after_new _ _ _ _ _ _ _ _ hW1
  have HW := Lib.hid hW1
  cases r with
  | false =>
    clear hkind hW1 e0 e1 e2 e3 e4 hb1
    go_enter Tryz.func4, Tryz.ntmps4
    go_wp2_with fail
    refine (HR.out _ ((Below.refl _ _).alloc (Nat.le_refl _) _)).mono ?_
    rintro e' w2 ⟨rfl, hb2⟩
    have hb3 := ((Below.refl w.heap.size w).alloc (Nat.le_refl _) (.cells #[.int .i64 k, .float .f64 num, .string ⟨str.toArray⟩, .slice A n c, .slice A2 nk c2] 27)).trans (hb2.mono (by simp))
    clear hb2
    go_wp2_with fail
    refine (heads_any w2 (TW.next hb3)).mono ?_
    rintro e' w4 ⟨rfl, hb4⟩
    have hb5 := hb3.trans (hb4.mono hb3.size)
    go_wp2_with fail
    go_ret
    exact ⟨rfl, hb5⟩
  | true =>
    have hk := hkind rfl
    clear hkind
    obtain ⟨k', rfl⟩ : ∃ k' : Nat, k = (k' : Int) := ⟨k.toNat, by omega⟩
    cases va with
    | false =>
      clear hW1 e0 e1 e2 e3 e4 hb1
      go_enter Tryz.func4, Tryz.ntmps4
      go_wp2_with fail
      refine (HR.out _ ((Below.refl _ _).alloc (Nat.le_refl _) _)).mono ?_
      rintro e' w2 ⟨rfl, hb2⟩
      have hb3 := ((Below.refl w.heap.size w).alloc (Nat.le_refl _) (.cells #[.int .i64 k', .float .f64 num, .string ⟨str.toArray⟩, .slice A n c, .slice A2 nk c2] 27)).trans (hb2.mono (by simp))
      clear hb2
      go_wp2_with fail
      refine (HV.out _).mono ?_
      rintro e' _ ⟨rfl, rfl⟩
      go_wp2_with fail
      refine (heads_any w2 (TW.next hb3)).mono ?_
      rintro e' w4 ⟨rfl, hb4⟩
      have hb5 := hb3.trans (hb4.mono hb3.size)
      go_wp2_with fail
      go_ret
      exact ⟨rfl, hb5⟩
    | true =>
      clear hW1
      go_enter Tryz.func4, Tryz.ntmps4
      go_upto_region 1 with fail
      rw [← HW.out]
      have hz1 : W1.heap.size = w.heap.size + 1 := by rw [HW.out]; simp
      clear HW
      go_wp2_with fail
      refine (HR.out _ hb1).mono ?_
      rintro e' w2 ⟨rfl, hb2⟩
      go_wp2_with fail
      refine (HV.out _).mono ?_
      rintro e' _ ⟨rfl, rfl⟩
      have hb3 := hb1.trans (hb2.mono hb1.size)
      have hq : ∀ o u, W1.cell? ⟨w.heap.size, o, none⟩ = some u → w2.cell? ⟨w.heap.size, o, none⟩ = some u := fun o u h => (hb2.cell (p := ⟨w.heap.size, o, none⟩) (World.block_lt_of_cell? W1 _ h)).trans h
      have q0 := hq _ _ e0
      have q1 := hq _ _ e1
      have q2 := hq _ _ e2
      have q3 := hq _ _ e3
      have q4 := hq _ _ e4
      have K : ∀ W, Below w2.heap.size w2 W → W.cell? ⟨w.heap.size, 0, none⟩ = some (.int .i64 k') ∧ W.cell? ⟨w.heap.size, 1, none⟩ = some (.float .f64 num) ∧ W.cell? ⟨w.heap.size, 2, none⟩ = some (.string ⟨str.toArray⟩) ∧ W.cell? ⟨w.heap.size, 3, none⟩ = some (.slice A n c) ∧ W.cell? ⟨w.heap.size, 4, none⟩ = some (.slice A2 nk c2) := fun W hb => by
        have hlt := World.block_lt_of_cell? w2 _ q0
        exact ⟨(hb.cell (p := ⟨w.heap.size, 0, none⟩) hlt).trans q0, (hb.cell (p := ⟨w.heap.size, 1, none⟩) hlt).trans q1, (hb.cell (p := ⟨w.heap.size, 2, none⟩) hlt).trans q2, (hb.cell (p := ⟨w.heap.size, 3, none⟩) hlt).trans q3, (hb.cell (p := ⟨w.heap.size, 4, none⟩) hlt).trans q4⟩
      have T2 := TW.next hb3
      clear e0 e1 e2 e3 e4 hq q0 q1 q2 q3 q4 HR HV hb1 hb2 hz1
      have HE : Hid (∀ W, Below w2.heap.size w2 W → Calls Tryz.prog 19 #[.string ⟨s.toArray⟩, .bool asc] W fun e w' => e = .returned (.string ⟨(escT s asc).toArray⟩) ∧ Below W.heap.size W w') := Lib.hid (fun W hb => escape_any W (T2.next hb) s asc (by omega))
      have HF : Hid (∀ W, Calls Tryz.prog 20 #[.string ⟨s.toArray⟩, .bool asc] W fun e w' => ∃ v', e = .returned v' ∧ App W.heap.size W (.slice none 0 0) [] w' v' (escT s asc)) := Lib.hid (fun W => refEscape_any W s asc (by omega))
      have HC : Hid (∀ W, Calls Tryz.prog 21 #[.agg #[.int .i64 k', .float .f64 num, .string ⟨str.toArray⟩, .slice A n c, .slice A2 nk c2]] W fun e w' => e = .returned (.string ⟨(colT k').toArray⟩) ∧ Below W.heap.size W w') := Lib.hid (fun W => colour_any W k' (by omega) num _ _ _ ⟨_, _, _, rfl⟩ ⟨_, _, _, rfl⟩)
      have HD : Hid (∀ W, Calls Tryz.prog 22 #[.agg #[.int .i64 k', .float .f64 num, .string ⟨str.toArray⟩, .slice A n c, .slice A2 nk c2]] W fun e w' => e = .returned (.string ⟨(colT k').toArray⟩) ∧ Below W.heap.size W w') := Lib.hid (fun W => refColour_any W k' (by omega) num _ _ _ ⟨_, _, _, rfl⟩ ⟨_, _, _, rfl⟩)
      have HH : Hid (∀ W, Below w2.heap.size w2 W → Calls Tryz.prog 13 #[] W fun e w' => e = .returned (.bool true) ∧ Below W.heap.size W w') := Lib.hid (fun W hb => heads_any W (T2.next hb))
      obtain ⟨E, hE⟩ : ∃ E, E = escT s asc := ⟨_, rfl⟩
      obtain ⟨C, hC⟩ : ∃ C, C = colT k' := ⟨_, rfl⟩
      rw [← hE] at HE HF
      rw [← hC] at HC HD
      clear hE hC T2 TW
      go_wp2_with fail
      go_region_with (first | (go_at_call 19; refine (HE.out _ (Below.refl _ _).drew).mono ?_; rintro e' w3 ⟨rfl, hb4⟩; have hx := Below.also (Below.refl _ _).drew hb4; clear hb4) | (go_at_call 20; refine (HF.out _).mono ?_; rintro e' w4 ⟨v4, rfl, hA⟩; have hcv := convOwn hA.own; rw [List.nil_append] at hcv; have hx := Below.also hx hA.fresh; clear hA; obtain ⟨p0, p1, p2, p3, p4⟩ := K _ hx) | (go_at_call 21; refine (HC.out _).mono ?_; rintro e' w5 ⟨rfl, hb4⟩; have hx := Below.also hx hb4; clear hb4; obtain ⟨r0, r1, r2, r3, r4⟩ := K _ hx) | (go_at_call 22; refine (HD.out _).mono ?_; rintro e' w6 ⟨rfl, hb4⟩; have hx := Below.also hx hb4; clear hb4) | (go_at_call 13; refine (HH.out _ hx).mono ?_; rintro e' w7 ⟨rfl, hb4⟩; have hx := Below.also hx hb4; clear hb4))
      all_goals
        have hb9 := hb3.trans (hx.mono hb3.size)
        go_wp2_with fail
        go_ret
        exact ⟨rfl, hb9⟩
end Go.Proofs.YtgdfmpanaapdjaaGreatDoor
