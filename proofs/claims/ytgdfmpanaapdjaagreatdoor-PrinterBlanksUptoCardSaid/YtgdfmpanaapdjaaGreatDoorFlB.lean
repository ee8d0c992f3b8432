/- Contract of Go's shortFloat[float64]. -/
import Derived.Test.YtgdfmpanaapdjaaGreatDoorFlA
set_option linter.unusedVariables false
set_option linter.unusedSimpArgs false
namespace Go.Proofs.YtgdfmpanaapdjaaGreatDoor
open Go Go.RowKit Go.Proofs

theorem ret_two {k l : IntKind} {a b c d : Int} (h : a = b) (h2 : c = d) : Ending.returned (.tuple #[.int k a, .int l c]) = .returned (.tuple #[.int k b, .int l d]) := by rw [h, h2]

def ShortPost (w : World) (m : Nat) (e : Int) (x : Ending) (w' : World) : Prop :=
  x = .returned (.tuple #[.int .u64 (shortF m e).1, .int .i64 (shortF m e).2]) ∧ Below w.heap.size w w'

theorem cells_three {w : World} {b : Nat} {a0 a1 a2 : Value} {t : TypeId} {fz : Nat × Nat} (h : w.heap[b]? = some (.cells #[a0, a1, a2] t fz)) : w.cell? ⟨b, 0, none⟩ = some a0 ∧ w.cell? ⟨b, 1, none⟩ = some a1 ∧ w.cell? ⟨b, 2, none⟩ = some a2 := by
  simp [World.cell?, h]

theorem alloc_set3 (w : World) (a0 a1 a2 b0 b1 b2 : Value) (t : TypeId) : (((w.alloc (.cells #[a0, a1, a2] t)).setCell ⟨w.heap.size, 0, none⟩ b0).setCell ⟨w.heap.size, 1, none⟩ b1).setCell ⟨w.heap.size, 2, none⟩ b2 = w.alloc (.cells #[b0, b1, b2] t) := by
  rw [World.setCell_alloc_at _ _ _ _ _ rfl, World.setCell_alloc_at _ _ _ _ _ rfl, World.setCell_alloc_at _ _ _ _ _ rfl]
  rfl

set_option maxRecDepth 100000 in
set_option maxHeartbeats 1000000 in
theorem short_1 (m : Nat) (e : Int) (w : World) (T : Tabs w) (hm0 : 9223372036854775808 ≤ m) (hm : m + 1024 < 18446744073709551616) (he1 : e ≤ 960) (h1 : m = 9223372036854775808) (h2 : -1085 < e) :
    Calls Tryz.prog 257 #[.int .u64 m, .int .i64 e] w (ShortPost w m e) := by
  have HM1 := Lib.hid h1
  have d0 : ((m : Int) == 9223372036854775808) = true := by rw [h1]; rfl
  clear h1
  have d1 : decide (-1085 < e) = true := by simpa using h2
  have ha := and1 ((m : Int) / 2048)
  go_enter Tryz.func257, Tryz.ntmps257
  go_wp2_with fail
  refine (skewed _ _ (by omega) (by omega)).mono ?_
  rintro e' _ ⟨rfl, rfl⟩
  go_wp2_with fail
  obtain ⟨p, hp⟩ : ∃ p, p = -(((e + 11) * 631305 - 261663) / 2097152) := ⟨_, rfl⟩
  rw [← hp]
  have hp0 : -348 ≤ p := by omega
  have hp1 : p ≤ 347 := by omega
  obtain ⟨mn, hmn⟩ : ∃ mn : Nat, mn = m - 512 := ⟨_, rfl⟩
  obtain ⟨mx, hmx⟩ : ∃ mx : Nat, mx = m + 1024 := ⟨_, rfl⟩
  obtain ⟨odd, hodd⟩ : ∃ odd : Nat, odd = m / 2048 % 2 := ⟨_, rfl⟩
  have hmnl : mn < 18446744073709551616 := by omega
  have hmxl : mx < 18446744073709551616 := by omega
  have hol : odd ≤ 1 := by rw [hodd]; exact Nat.le_of_lt_succ (Nat.mod_lt _ (by decide))
  have hml : m < 18446744073709551616 := by omega
  rw [show (m : Int) - 512 = (mn : Int) from by omega, show (m : Int) + 1024 = (mx : Int) from by omega, show (m : Int) / 2048 % 2 = (odd : Int) from by omega]
  have HS : Hid (shortF m e = shortR m 11 mn mx e p) := by
    refine Lib.hid ?_
    subst hmn hmx hp; unfold shortF; rw [if_pos ⟨HM1.out, h2⟩]
  have HO : Hid (odd = m / 2 ^ 11 % 2) := Lib.hid (by rw [hodd])
  clear hmn hmx hodd hp d1 d0 ha HM1
  refine (log2Pow10 p _ (by omega) (by omega)).mono ?_
  rintro e' _ ⟨rfl, rfl⟩
  go_wp2_with fail
  have TA := T.next ((Below.refl _ _).alloc (Nat.le_refl _) (Obj.cells #[Value.int IntKind.u64 0, Value.int IntKind.u64 0, Value.int IntKind.i64 0] 308))
  refine (prescale_any _ e p _ _ TA _ _ _ (heap_alloc_new w _) (by omega) (by omega) (by omega) (by omega) (by omega) (by omega)).mono ?_
  rintro e' w1 ⟨rfl, hw1⟩
  rw [alloc_set3] at hw1
  have hb1 : Below w.heap.size w w1 := by rw [← hw1]; exact (Below.refl _ _).alloc (Nat.le_refl _) _
  have hh1 : w1.heap[w.heap.size]? = some (.cells #[.int .u64 (p10 p).1, .int .u64 (p10 p).2, .int .i64 (-(e + p * 108853 / 32768 + 3))] 308 (0, 0)) := by rw [← hw1]; exact heap_alloc_new w _
  obtain ⟨c0, c1, c2⟩ := cells_three hh1
  have Hw1 := Lib.hid hw1
  clear hw1 TA hh1
  obtain ⟨q0, q1⟩ := p10_lt p
  obtain ⟨un, hun⟩ : ∃ un, un = usc mn e p := ⟨_, rfl⟩
  obtain ⟨ux, hux⟩ : ∃ ux, ux = usc mx e p := ⟨_, rfl⟩
  obtain ⟨um, hum⟩ : ∃ um, um = usc m e p := ⟨_, rfl⟩
  have hunl : un < 18446744073709551616 := hun ▸ usc_lt mn e p hmnl
  have huxl : ux < 18446744073709551616 := hux ▸ usc_lt mx e p hmxl
  have huml : um < 18446744073709551616 := hum ▸ usc_lt m e p hml
  have HN := Lib.hid hun
  have HX := Lib.hid hux
  have HM := Lib.hid hum
  clear hun hux hum
  have hodd1 : ((odd : Int)) ≤ 1 := by omega
  go_wp2_with fail
  refine (uscale_any mn _ _ _ _ _ hmnl q0 q1 c0 c1 c2).mono ?_
  rintro e' w2 ⟨rfl, n2, rfl⟩
  rw [show uscaleF mn (p10 p).1 (p10 p).2 ((-(e + p * 108853 / 32768 + 3)) % 64).toNat = un from HN.out.symm]
  go_wp2_with fail
  refine (unr_nudge un odd _ hunl).mono ?_
  rintro e' _ ⟨rfl, rfl⟩
  obtain ⟨t1, ht1⟩ : ∃ t1 : Nat, t1 = (un + odd) % 18446744073709551616 := ⟨_, rfl⟩
  rw [show (((un : Int) + (odd : Int)) % 18446744073709551616) = (t1 : Int) from by omega]
  have ht1l : t1 < 18446744073709551616 := by omega
  have HT1 := Lib.hid ht1
  clear ht1
  go_wp2_with fail
  refine (unr_ceil t1 _ ht1l).mono ?_
  rintro e' _ ⟨rfl, rfl⟩
  obtain ⟨dn, hdn⟩ : ∃ dn, dn = (t1 + 3) % 18446744073709551616 / 4 := ⟨_, rfl⟩
  rw [← hdn]
  have hdnl : dn < 4611686018427387904 := by omega
  have HDN : Hid (dn = ((un + odd) % 18446744073709551616 + 3) % 18446744073709551616 / 4) := Lib.hid (by rw [hdn, HT1.out])
  clear hdn HT1 ht1l
  go_wp2_with fail
  refine (uscale_any mx _ _ _ _ _ hmxl q0 q1 (by simpa using c0) (by simpa using c1) (by simpa using c2)).mono ?_
  rintro e' w2 ⟨rfl, n3, rfl⟩
  rw [show uscaleF mx (p10 p).1 (p10 p).2 ((-(e + p * 108853 / 32768 + 3)) % 64).toNat = ux from HX.out.symm]
  go_wp2_with fail
  refine (unr_nudge ux (-odd) _ huxl).mono ?_
  rintro e' _ ⟨rfl, rfl⟩
  obtain ⟨t2, ht2⟩ : ∃ t2 : Nat, t2 = (ux + 18446744073709551616 - odd) % 18446744073709551616 := ⟨_, rfl⟩
  rw [show (((ux : Int) + -(odd : Int)) % 18446744073709551616) = (t2 : Int) from by omega]
  have ht2l : t2 < 18446744073709551616 := by omega
  have HT2 := Lib.hid ht2
  clear ht2
  go_wp2_with fail
  refine (unr_floor t2 _ ht2l).mono ?_
  rintro e' _ ⟨rfl, rfl⟩
  obtain ⟨dx, hdx⟩ : ∃ dx, dx = t2 / 4 := ⟨_, rfl⟩
  rw [← hdx]
  have hdxl : dx < 4611686018427387904 := by omega
  have HDX : Hid (dx = (ux + 18446744073709551616 - odd) % 18446744073709551616 / 4) := Lib.hid (by rw [hdx, HT2.out])
  clear hdx HT2 ht2l
  have hE : Hid (shortF m e = if dn ≤ dx / 10 * 10 then (dx / 10, 1 - p) else if dn < dx then (((um + 1) % 18446744073709551616 + um / 4 % 2) % 18446744073709551616 / 4, -p) else (dn, -p)) := by
    refine Lib.hid ?_
    rw [HS.out, HDN.out, HDX.out, HN.out, HX.out, HM.out, HO.out]
    rfl
  clear HS HDN HDX HN HX HO
  by_cases k1 : dn ≤ dx / 10 * 10
  · have K1 : Hid (shortF m e = (dx / 10, 1 - p)) := Lib.hid (by rw [hE.out, if_pos k1])
    clear hE
    go_wp2_with fail
    go_ret2
    refine ⟨?_, below_drewN hb1 _⟩
    rw [K1.out]
    exact ret_two (by omega) (by omega)
  · by_cases k2 : dn < dx
    · have K1 : Hid (shortF m e = (((um + 1) % 18446744073709551616 + um / 4 % 2) % 18446744073709551616 / 4, -p)) := Lib.hid (by rw [hE.out, if_neg k1, if_pos k2])
      clear hE
      go_wp2_with fail
      refine (uscale_any m _ _ _ _ _ hml q0 q1 (by simpa using c0) (by simpa using c1) (by simpa using c2)).mono ?_
      rintro e' w2 ⟨rfl, n4, rfl⟩
      rw [show uscaleF m (p10 p).1 (p10 p).2 ((-(e + p * 108853 / 32768 + 3)) % 64).toNat = um from HM.out.symm]
      go_wp2_with fail
      refine (unr_round _ _ huml).mono ?_
      rintro e' _ ⟨rfl, rfl⟩
      obtain ⟨rr, hrr⟩ : ∃ rr, rr = ((um + 1) % 18446744073709551616 + um / 4 % 2) % 18446744073709551616 / 4 := ⟨_, rfl⟩
      rw [← hrr]
      have HRR := Lib.hid hrr
      clear hrr
      go_wp2_with fail
      go_ret2
      refine ⟨?_, below_drewN hb1 _⟩
      rw [K1.out]
      exact ret_two (by rw [← HRR.out]) rfl
    · have K1 : Hid (shortF m e = (dn, -p)) := Lib.hid (by rw [hE.out, if_neg k1, if_neg k2])
      clear hE
      go_wp2_with fail
      go_ret2
      refine ⟨?_, below_drewN hb1 _⟩
      rw [K1.out]
      exact ret_two rfl rfl

set_option maxRecDepth 100000 in
set_option maxHeartbeats 1000000 in
theorem short_2a (m : Nat) (e : Int) (w : World) (T : Tabs w) (hm0 : 9223372036854775808 ≤ m) (hm : m + 1024 < 18446744073709551616) (he1 : e ≤ 960) (h1 : m = 9223372036854775808) (h0 : ¬ -1085 < e) (h2 : -1085 ≤ e) :
    Calls Tryz.prog 257 #[.int .u64 m, .int .i64 e] w (ShortPost w m e) := by
  have HM1 := Lib.hid h1
  have d0 : ((m : Int) == 9223372036854775808) = true := by rw [h1]; rfl
  have d1 : decide (-1085 < e) = false := by simpa using h0
  clear h1
  have d2 : decide (-1085 ≤ e) = true := by simpa using h2
  have ha := and1 ((m : Int) / 2048)
  go_enter Tryz.func257, Tryz.ntmps257
  go_wp2_with fail
  refine (log10Pow2 _ _ (by omega) (by omega)).mono ?_
  rintro e' _ ⟨rfl, rfl⟩
  go_wp2_with fail
  obtain ⟨p, hp⟩ : ∃ p, p = -((e + 11) * 78913 / 262144) := ⟨_, rfl⟩
  rw [← hp]
  have hp0 : -348 ≤ p := by omega
  have hp1 : p ≤ 347 := by omega
  obtain ⟨mn, hmn⟩ : ∃ mn : Nat, mn = m - 1024 := ⟨_, rfl⟩
  obtain ⟨mx, hmx⟩ : ∃ mx : Nat, mx = m + 1024 := ⟨_, rfl⟩
  obtain ⟨odd, hodd⟩ : ∃ odd : Nat, odd = m / 2048 % 2 := ⟨_, rfl⟩
  have hmnl : mn < 18446744073709551616 := by omega
  have hmxl : mx < 18446744073709551616 := by omega
  have hol : odd ≤ 1 := by rw [hodd]; exact Nat.le_of_lt_succ (Nat.mod_lt _ (by decide))
  have hml : m < 18446744073709551616 := by omega
  rw [show (m : Int) - 1024 = (mn : Int) from by omega, show (m : Int) + 1024 = (mx : Int) from by omega, show (m : Int) / 2048 % 2 = (odd : Int) from by omega]
  have HS : Hid (shortF m e = shortR m 11 mn mx e p) := by
    refine Lib.hid ?_
    subst hmn hmx hp; unfold shortF; rw [if_neg (fun h => absurd h.2 (by omega)), if_pos h2]
  have HO : Hid (odd = m / 2 ^ 11 % 2) := Lib.hid (by rw [hodd])
  clear hmn hmx hodd hp d1 d0 d2 ha HM1
  refine (log2Pow10 p _ (by omega) (by omega)).mono ?_
  rintro e' _ ⟨rfl, rfl⟩
  go_wp2_with fail
  have TA := T.next ((Below.refl _ _).alloc (Nat.le_refl _) (Obj.cells #[Value.int IntKind.u64 0, Value.int IntKind.u64 0, Value.int IntKind.i64 0] 308))
  refine (prescale_any _ e p _ _ TA _ _ _ (heap_alloc_new w _) (by omega) (by omega) (by omega) (by omega) (by omega) (by omega)).mono ?_
  rintro e' w1 ⟨rfl, hw1⟩
  rw [alloc_set3] at hw1
  have hb1 : Below w.heap.size w w1 := by rw [← hw1]; exact (Below.refl _ _).alloc (Nat.le_refl _) _
  have hh1 : w1.heap[w.heap.size]? = some (.cells #[.int .u64 (p10 p).1, .int .u64 (p10 p).2, .int .i64 (-(e + p * 108853 / 32768 + 3))] 308 (0, 0)) := by rw [← hw1]; exact heap_alloc_new w _
  obtain ⟨c0, c1, c2⟩ := cells_three hh1
  have Hw1 := Lib.hid hw1
  clear hw1 TA hh1
  obtain ⟨q0, q1⟩ := p10_lt p
  obtain ⟨un, hun⟩ : ∃ un, un = usc mn e p := ⟨_, rfl⟩
  obtain ⟨ux, hux⟩ : ∃ ux, ux = usc mx e p := ⟨_, rfl⟩
  obtain ⟨um, hum⟩ : ∃ um, um = usc m e p := ⟨_, rfl⟩
  have hunl : un < 18446744073709551616 := hun ▸ usc_lt mn e p hmnl
  have huxl : ux < 18446744073709551616 := hux ▸ usc_lt mx e p hmxl
  have huml : um < 18446744073709551616 := hum ▸ usc_lt m e p hml
  have HN := Lib.hid hun
  have HX := Lib.hid hux
  have HM := Lib.hid hum
  clear hun hux hum
  have hodd1 : ((odd : Int)) ≤ 1 := by omega
  go_wp2_with fail
  refine (uscale_any mn _ _ _ _ _ hmnl q0 q1 c0 c1 c2).mono ?_
  rintro e' w2 ⟨rfl, n2, rfl⟩
  rw [show uscaleF mn (p10 p).1 (p10 p).2 ((-(e + p * 108853 / 32768 + 3)) % 64).toNat = un from HN.out.symm]
  go_wp2_with fail
  refine (unr_nudge un odd _ hunl).mono ?_
  rintro e' _ ⟨rfl, rfl⟩
  obtain ⟨t1, ht1⟩ : ∃ t1 : Nat, t1 = (un + odd) % 18446744073709551616 := ⟨_, rfl⟩
  rw [show (((un : Int) + (odd : Int)) % 18446744073709551616) = (t1 : Int) from by omega]
  have ht1l : t1 < 18446744073709551616 := by omega
  have HT1 := Lib.hid ht1
  clear ht1
  go_wp2_with fail
  refine (unr_ceil t1 _ ht1l).mono ?_
  rintro e' _ ⟨rfl, rfl⟩
  obtain ⟨dn, hdn⟩ : ∃ dn, dn = (t1 + 3) % 18446744073709551616 / 4 := ⟨_, rfl⟩
  rw [← hdn]
  have hdnl : dn < 4611686018427387904 := by omega
  have HDN : Hid (dn = ((un + odd) % 18446744073709551616 + 3) % 18446744073709551616 / 4) := Lib.hid (by rw [hdn, HT1.out])
  clear hdn HT1 ht1l
  go_wp2_with fail
  refine (uscale_any mx _ _ _ _ _ hmxl q0 q1 (by simpa using c0) (by simpa using c1) (by simpa using c2)).mono ?_
  rintro e' w2 ⟨rfl, n3, rfl⟩
  rw [show uscaleF mx (p10 p).1 (p10 p).2 ((-(e + p * 108853 / 32768 + 3)) % 64).toNat = ux from HX.out.symm]
  go_wp2_with fail
  refine (unr_nudge ux (-odd) _ huxl).mono ?_
  rintro e' _ ⟨rfl, rfl⟩
  obtain ⟨t2, ht2⟩ : ∃ t2 : Nat, t2 = (ux + 18446744073709551616 - odd) % 18446744073709551616 := ⟨_, rfl⟩
  rw [show (((ux : Int) + -(odd : Int)) % 18446744073709551616) = (t2 : Int) from by omega]
  have ht2l : t2 < 18446744073709551616 := by omega
  have HT2 := Lib.hid ht2
  clear ht2
  go_wp2_with fail
  refine (unr_floor t2 _ ht2l).mono ?_
  rintro e' _ ⟨rfl, rfl⟩
  obtain ⟨dx, hdx⟩ : ∃ dx, dx = t2 / 4 := ⟨_, rfl⟩
  rw [← hdx]
  have hdxl : dx < 4611686018427387904 := by omega
  have HDX : Hid (dx = (ux + 18446744073709551616 - odd) % 18446744073709551616 / 4) := Lib.hid (by rw [hdx, HT2.out])
  clear hdx HT2 ht2l
  have hE : Hid (shortF m e = if dn ≤ dx / 10 * 10 then (dx / 10, 1 - p) else if dn < dx then (((um + 1) % 18446744073709551616 + um / 4 % 2) % 18446744073709551616 / 4, -p) else (dn, -p)) := by
    refine Lib.hid ?_
    rw [HS.out, HDN.out, HDX.out, HN.out, HX.out, HM.out, HO.out]
    rfl
  clear HS HDN HDX HN HX HO
  by_cases k1 : dn ≤ dx / 10 * 10
  · have K1 : Hid (shortF m e = (dx / 10, 1 - p)) := Lib.hid (by rw [hE.out, if_pos k1])
    clear hE
    go_wp2_with fail
    go_ret2
    refine ⟨?_, below_drewN hb1 _⟩
    rw [K1.out]
    exact ret_two (by omega) (by omega)
  · by_cases k2 : dn < dx
    · have K1 : Hid (shortF m e = (((um + 1) % 18446744073709551616 + um / 4 % 2) % 18446744073709551616 / 4, -p)) := Lib.hid (by rw [hE.out, if_neg k1, if_pos k2])
      clear hE
      go_wp2_with fail
      refine (uscale_any m _ _ _ _ _ hml q0 q1 (by simpa using c0) (by simpa using c1) (by simpa using c2)).mono ?_
      rintro e' w2 ⟨rfl, n4, rfl⟩
      rw [show uscaleF m (p10 p).1 (p10 p).2 ((-(e + p * 108853 / 32768 + 3)) % 64).toNat = um from HM.out.symm]
      go_wp2_with fail
      refine (unr_round _ _ huml).mono ?_
      rintro e' _ ⟨rfl, rfl⟩
      obtain ⟨rr, hrr⟩ : ∃ rr, rr = ((um + 1) % 18446744073709551616 + um / 4 % 2) % 18446744073709551616 / 4 := ⟨_, rfl⟩
      rw [← hrr]
      have HRR := Lib.hid hrr
      clear hrr
      go_wp2_with fail
      go_ret2
      refine ⟨?_, below_drewN hb1 _⟩
      rw [K1.out]
      exact ret_two (by rw [← HRR.out]) rfl
    · have K1 : Hid (shortF m e = (dn, -p)) := Lib.hid (by rw [hE.out, if_neg k1, if_neg k2])
      clear hE
      go_wp2_with fail
      go_ret2
      refine ⟨?_, below_drewN hb1 _⟩
      rw [K1.out]
      exact ret_two rfl rfl

set_option maxRecDepth 100000 in
set_option maxHeartbeats 1000000 in
theorem short_2b (m : Nat) (e : Int) (w : World) (T : Tabs w) (hm0 : 9223372036854775808 ≤ m) (hm : m + 1024 < 18446744073709551616) (he1 : e ≤ 960) (h1 : m ≠ 9223372036854775808) (h2 : -1085 ≤ e) :
    Calls Tryz.prog 257 #[.int .u64 m, .int .i64 e] w (ShortPost w m e) := by
  have HM1 := Lib.hid h1
  have d0 : ((m : Int) == 9223372036854775808) = false := beq_eq_false_iff_ne.2 (by omega)
  have d1 : True := trivial
  clear h1
  have d2 : decide (-1085 ≤ e) = true := by simpa using h2
  have ha := and1 ((m : Int) / 2048)
  go_enter Tryz.func257, Tryz.ntmps257
  go_wp2_with fail
  refine (log10Pow2 _ _ (by omega) (by omega)).mono ?_
  rintro e' _ ⟨rfl, rfl⟩
  go_wp2_with fail
  obtain ⟨p, hp⟩ : ∃ p, p = -((e + 11) * 78913 / 262144) := ⟨_, rfl⟩
  rw [← hp]
  have hp0 : -348 ≤ p := by omega
  have hp1 : p ≤ 347 := by omega
  obtain ⟨mn, hmn⟩ : ∃ mn : Nat, mn = m - 1024 := ⟨_, rfl⟩
  obtain ⟨mx, hmx⟩ : ∃ mx : Nat, mx = m + 1024 := ⟨_, rfl⟩
  obtain ⟨odd, hodd⟩ : ∃ odd : Nat, odd = m / 2048 % 2 := ⟨_, rfl⟩
  have hmnl : mn < 18446744073709551616 := by omega
  have hmxl : mx < 18446744073709551616 := by omega
  have hol : odd ≤ 1 := by rw [hodd]; exact Nat.le_of_lt_succ (Nat.mod_lt _ (by decide))
  have hml : m < 18446744073709551616 := by omega
  rw [show (m : Int) - 1024 = (mn : Int) from by omega, show (m : Int) + 1024 = (mx : Int) from by omega, show (m : Int) / 2048 % 2 = (odd : Int) from by omega]
  have HS : Hid (shortF m e = shortR m 11 mn mx e p) := by
    refine Lib.hid ?_
    subst hmn hmx hp; unfold shortF; rw [if_neg (fun h => HM1.out h.1), if_pos h2]
  have HO : Hid (odd = m / 2 ^ 11 % 2) := Lib.hid (by rw [hodd])
  clear hmn hmx hodd hp d1 d0 d2 ha HM1
  refine (log2Pow10 p _ (by omega) (by omega)).mono ?_
  rintro e' _ ⟨rfl, rfl⟩
  go_wp2_with fail
  have TA := T.next ((Below.refl _ _).alloc (Nat.le_refl _) (Obj.cells #[Value.int IntKind.u64 0, Value.int IntKind.u64 0, Value.int IntKind.i64 0] 308))
  refine (prescale_any _ e p _ _ TA _ _ _ (heap_alloc_new w _) (by omega) (by omega) (by omega) (by omega) (by omega) (by omega)).mono ?_
  rintro e' w1 ⟨rfl, hw1⟩
  rw [alloc_set3] at hw1
  have hb1 : Below w.heap.size w w1 := by rw [← hw1]; exact (Below.refl _ _).alloc (Nat.le_refl _) _
  have hh1 : w1.heap[w.heap.size]? = some (.cells #[.int .u64 (p10 p).1, .int .u64 (p10 p).2, .int .i64 (-(e + p * 108853 / 32768 + 3))] 308 (0, 0)) := by rw [← hw1]; exact heap_alloc_new w _
  obtain ⟨c0, c1, c2⟩ := cells_three hh1
  have Hw1 := Lib.hid hw1
  clear hw1 TA hh1
  obtain ⟨q0, q1⟩ := p10_lt p
  obtain ⟨un, hun⟩ : ∃ un, un = usc mn e p := ⟨_, rfl⟩
  obtain ⟨ux, hux⟩ : ∃ ux, ux = usc mx e p := ⟨_, rfl⟩
  obtain ⟨um, hum⟩ : ∃ um, um = usc m e p := ⟨_, rfl⟩
  have hunl : un < 18446744073709551616 := hun ▸ usc_lt mn e p hmnl
  have huxl : ux < 18446744073709551616 := hux ▸ usc_lt mx e p hmxl
  have huml : um < 18446744073709551616 := hum ▸ usc_lt m e p hml
  have HN := Lib.hid hun
  have HX := Lib.hid hux
  have HM := Lib.hid hum
  clear hun hux hum
  have hodd1 : ((odd : Int)) ≤ 1 := by omega
  go_wp2_with fail
  refine (uscale_any mn _ _ _ _ _ hmnl q0 q1 c0 c1 c2).mono ?_
  rintro e' w2 ⟨rfl, n2, rfl⟩
  rw [show uscaleF mn (p10 p).1 (p10 p).2 ((-(e + p * 108853 / 32768 + 3)) % 64).toNat = un from HN.out.symm]
  go_wp2_with fail
  refine (unr_nudge un odd _ hunl).mono ?_
  rintro e' _ ⟨rfl, rfl⟩
  obtain ⟨t1, ht1⟩ : ∃ t1 : Nat, t1 = (un + odd) % 18446744073709551616 := ⟨_, rfl⟩
  rw [show (((un : Int) + (odd : Int)) % 18446744073709551616) = (t1 : Int) from by omega]
  have ht1l : t1 < 18446744073709551616 := by omega
  have HT1 := Lib.hid ht1
  clear ht1
  go_wp2_with fail
  refine (unr_ceil t1 _ ht1l).mono ?_
  rintro e' _ ⟨rfl, rfl⟩
  obtain ⟨dn, hdn⟩ : ∃ dn, dn = (t1 + 3) % 18446744073709551616 / 4 := ⟨_, rfl⟩
  rw [← hdn]
  have hdnl : dn < 4611686018427387904 := by omega
  have HDN : Hid (dn = ((un + odd) % 18446744073709551616 + 3) % 18446744073709551616 / 4) := Lib.hid (by rw [hdn, HT1.out])
  clear hdn HT1 ht1l
  go_wp2_with fail
  refine (uscale_any mx _ _ _ _ _ hmxl q0 q1 (by simpa using c0) (by simpa using c1) (by simpa using c2)).mono ?_
  rintro e' w2 ⟨rfl, n3, rfl⟩
  rw [show uscaleF mx (p10 p).1 (p10 p).2 ((-(e + p * 108853 / 32768 + 3)) % 64).toNat = ux from HX.out.symm]
  go_wp2_with fail
  refine (unr_nudge ux (-odd) _ huxl).mono ?_
  rintro e' _ ⟨rfl, rfl⟩
  obtain ⟨t2, ht2⟩ : ∃ t2 : Nat, t2 = (ux + 18446744073709551616 - odd) % 18446744073709551616 := ⟨_, rfl⟩
  rw [show (((ux : Int) + -(odd : Int)) % 18446744073709551616) = (t2 : Int) from by omega]
  have ht2l : t2 < 18446744073709551616 := by omega
  have HT2 := Lib.hid ht2
  clear ht2
  go_wp2_with fail
  refine (unr_floor t2 _ ht2l).mono ?_
  rintro e' _ ⟨rfl, rfl⟩
  obtain ⟨dx, hdx⟩ : ∃ dx, dx = t2 / 4 := ⟨_, rfl⟩
  rw [← hdx]
  have hdxl : dx < 4611686018427387904 := by omega
  have HDX : Hid (dx = (ux + 18446744073709551616 - odd) % 18446744073709551616 / 4) := Lib.hid (by rw [hdx, HT2.out])
  clear hdx HT2 ht2l
  have hE : Hid (shortF m e = if dn ≤ dx / 10 * 10 then (dx / 10, 1 - p) else if dn < dx then (((um + 1) % 18446744073709551616 + um / 4 % 2) % 18446744073709551616 / 4, -p) else (dn, -p)) := by
    refine Lib.hid ?_
    rw [HS.out, HDN.out, HDX.out, HN.out, HX.out, HM.out, HO.out]
    rfl
  clear HS HDN HDX HN HX HO
  by_cases k1 : dn ≤ dx / 10 * 10
  · have K1 : Hid (shortF m e = (dx / 10, 1 - p)) := Lib.hid (by rw [hE.out, if_pos k1])
    clear hE
    go_wp2_with fail
    go_ret2
    refine ⟨?_, below_drewN hb1 _⟩
    rw [K1.out]
    exact ret_two (by omega) (by omega)
  · by_cases k2 : dn < dx
    · have K1 : Hid (shortF m e = (((um + 1) % 18446744073709551616 + um / 4 % 2) % 18446744073709551616 / 4, -p)) := Lib.hid (by rw [hE.out, if_neg k1, if_pos k2])
      clear hE
      go_wp2_with fail
      refine (uscale_any m _ _ _ _ _ hml q0 q1 (by simpa using c0) (by simpa using c1) (by simpa using c2)).mono ?_
      rintro e' w2 ⟨rfl, n4, rfl⟩
      rw [show uscaleF m (p10 p).1 (p10 p).2 ((-(e + p * 108853 / 32768 + 3)) % 64).toNat = um from HM.out.symm]
      go_wp2_with fail
      refine (unr_round _ _ huml).mono ?_
      rintro e' _ ⟨rfl, rfl⟩
      obtain ⟨rr, hrr⟩ : ∃ rr, rr = ((um + 1) % 18446744073709551616 + um / 4 % 2) % 18446744073709551616 / 4 := ⟨_, rfl⟩
      rw [← hrr]
      have HRR := Lib.hid hrr
      clear hrr
      go_wp2_with fail
      go_ret2
      refine ⟨?_, below_drewN hb1 _⟩
      rw [K1.out]
      exact ret_two (by rw [← HRR.out]) rfl
    · have K1 : Hid (shortF m e = (dn, -p)) := Lib.hid (by rw [hE.out, if_neg k1, if_neg k2])
      clear hE
      go_wp2_with fail
      go_ret2
      refine ⟨?_, below_drewN hb1 _⟩
      rw [K1.out]
      exact ret_two rfl rfl

set_option maxRecDepth 100000 in
set_option maxHeartbeats 1000000 in
theorem short_3a (m Z Q : Nat) (e : Int) (w : World) (T : Tabs w) (hm0 : 9223372036854775808 ≤ m) (hz0 : 12 ≤ Z) (hz1 : Z ≤ 63) (hQ : Q = 2 ^ (Z - 1)) (hm : m + Q < 18446744073709551616) (he : e = -1074 - Z) (h1 : m = 9223372036854775808) :
    Calls Tryz.prog 257 #[.int .u64 m, .int .i64 e] w (ShortPost w m e) := by
  have he0 : e ≤ -1086 := by omega
  have he1 : -1137 ≤ e := by omega
  have HE := Lib.hid he
  have hez : (11 + (-1085 - e)).toNat = Z := by omega
  clear he
  have d0 : ((m : Int) == 9223372036854775808) = true := by rw [h1]; rfl
  have d1 : decide (-1085 < e) = false := by simp; omega
  clear h1
  have hpw : Q ≤ 4611686018427387904 := by
    have : 2 ^ (Z - 1) ≤ 2 ^ 62 := Nat.pow_le_pow_right (by omega) (by omega)
    rw [hQ]; exact this
  have hwp : IntKind.u64.wrap (2 ^ (Z - 1)) = (Q : Int) := by
    rw [IntKind.wrap_u64, show ((2 : Int) ^ (Z - 1)) = (Q : Int) from by rw [hQ]; simp]
    omega
  obtain ⟨D, hD⟩ : ∃ D, D = m / 2 ^ Z := ⟨_, rfl⟩
  have hdz : D ≤ m / 4096 := by rw [hD]; exact Nat.div_le_div_left (show 2 ^ 12 ≤ 2 ^ Z from Nat.pow_le_pow_right (by omega) hz0) (by omega)
  have hDi : (m : Int) / 2 ^ Z = (D : Int) := by rw [shr_int, hD]
  have ha := and1 (D : Int)
  have HZ := Lib.hid hez
  have HWP := Lib.hid hwp
  have HDI := Lib.hid hDi
  have HQ := Lib.hid hQ
  have HD := Lib.hid hD
  clear hez hwp hDi hQ hD
  go_enter Tryz.func257, Tryz.ntmps257
  go_wp2_with fail
  rw [show e + (11 + (-1085 - e)) = -1074 from by omega]
  refine (log10Pow2 (-1074) _ (by omega) (by omega)).mono ?_
  rintro e' _ ⟨rfl, rfl⟩
  rw [show (-1074 : Int) * 78913 / 262144 = -324 from by decide]
  go_wp2_with fail
  obtain ⟨p, hp⟩ : ∃ p, p = (324 : Int) := ⟨_, rfl⟩
  rw [← hp, HZ.out]
  have hp0 : -348 ≤ p := by omega
  have hp1 : p ≤ 347 := by omega
  have hen : IntKind.u64.wrap ((m : Int) - IntKind.u64.wrap (2 ^ (Z - 1))) = ((m - Q : Nat) : Int) := by rw [HWP.out, IntKind.wrap_u64]; omega
  have heu : IntKind.u64.wrap ((m : Int) + IntKind.u64.wrap (2 ^ (Z - 1))) = ((m + Q : Nat) : Int) := by rw [HWP.out, IntKind.wrap_u64]; omega
  have heo : bits BinOp.and IntKind.i64 (wrap64 ((m : Int) / 2 ^ Z)) 1 = ((D % 2 : Nat) : Int) := by
    rw [HDI.out, IntWalk.wrap64_in _ ⟨by omega, by omega⟩, ha]; omega
  have d1 : True := trivial
  obtain ⟨mn, hmn⟩ : ∃ mn : Nat, mn = m - Q := ⟨_, rfl⟩
  obtain ⟨mx, hmx⟩ : ∃ mx : Nat, mx = m + Q := ⟨_, rfl⟩
  obtain ⟨odd, hodd⟩ : ∃ odd : Nat, odd = D % 2 := ⟨_, rfl⟩
  have hmnl : mn < 18446744073709551616 := by omega
  have hmxl : mx < 18446744073709551616 := by omega
  have hol : odd ≤ 1 := by rw [hodd]; exact Nat.le_of_lt_succ (Nat.mod_lt _ (by decide))
  have hml : m < 18446744073709551616 := by omega
  rw [hen, ← hmn, heu, ← hmx, heo, ← hodd]
  have HS : Hid (shortF m e = shortR m Z mn mx e p) := by
    refine Lib.hid ?_
    have hz : (-1074 - e).toNat = Z := by have := HE.out; clear hen heu heo ha; omega
    subst hmn hmx hp; unfold shortF; rw [if_neg (fun h => absurd h.2 (by omega)), if_neg (by omega), hz, ← HQ.out]
  have HO : Hid (odd = m / 2 ^ Z % 2) := Lib.hid (by rw [hodd, HD.out])
  clear hmn hmx hodd hp d1 d0 HD HDI HQ hen heu heo ha HE HZ HWP hpw hdz hm
  refine (log2Pow10 p _ (by omega) (by omega)).mono ?_
  rintro e' _ ⟨rfl, rfl⟩
  go_wp2_with fail
  have TA := T.next ((Below.refl _ _).alloc (Nat.le_refl _) (Obj.cells #[Value.int IntKind.u64 0, Value.int IntKind.u64 0, Value.int IntKind.i64 0] 308))
  refine (prescale_any _ e p _ _ TA _ _ _ (heap_alloc_new w _) (by omega) (by omega) (by omega) (by omega) (by omega) (by omega)).mono ?_
  rintro e' w1 ⟨rfl, hw1⟩
  rw [alloc_set3] at hw1
  have hb1 : Below w.heap.size w w1 := by rw [← hw1]; exact (Below.refl _ _).alloc (Nat.le_refl _) _
  have hh1 : w1.heap[w.heap.size]? = some (.cells #[.int .u64 (p10 p).1, .int .u64 (p10 p).2, .int .i64 (-(e + p * 108853 / 32768 + 3))] 308 (0, 0)) := by rw [← hw1]; exact heap_alloc_new w _
  obtain ⟨c0, c1, c2⟩ := cells_three hh1
  have Hw1 := Lib.hid hw1
  clear hw1 TA hh1
  obtain ⟨q0, q1⟩ := p10_lt p
  obtain ⟨un, hun⟩ : ∃ un, un = usc mn e p := ⟨_, rfl⟩
  obtain ⟨ux, hux⟩ : ∃ ux, ux = usc mx e p := ⟨_, rfl⟩
  obtain ⟨um, hum⟩ : ∃ um, um = usc m e p := ⟨_, rfl⟩
  have hunl : un < 18446744073709551616 := hun ▸ usc_lt mn e p hmnl
  have huxl : ux < 18446744073709551616 := hux ▸ usc_lt mx e p hmxl
  have huml : um < 18446744073709551616 := hum ▸ usc_lt m e p hml
  have HN := Lib.hid hun
  have HX := Lib.hid hux
  have HM := Lib.hid hum
  clear hun hux hum
  have hodd1 : ((odd : Int)) ≤ 1 := by omega
  go_wp2_with fail
  refine (uscale_any mn _ _ _ _ _ hmnl q0 q1 c0 c1 c2).mono ?_
  rintro e' w2 ⟨rfl, n2, rfl⟩
  rw [show uscaleF mn (p10 p).1 (p10 p).2 ((-(e + p * 108853 / 32768 + 3)) % 64).toNat = un from HN.out.symm]
  go_wp2_with fail
  refine (unr_nudge un odd _ hunl).mono ?_
  rintro e' _ ⟨rfl, rfl⟩
  obtain ⟨t1, ht1⟩ : ∃ t1 : Nat, t1 = (un + odd) % 18446744073709551616 := ⟨_, rfl⟩
  rw [show (((un : Int) + (odd : Int)) % 18446744073709551616) = (t1 : Int) from by omega]
  have ht1l : t1 < 18446744073709551616 := by omega
  have HT1 := Lib.hid ht1
  clear ht1
  go_wp2_with fail
  refine (unr_ceil t1 _ ht1l).mono ?_
  rintro e' _ ⟨rfl, rfl⟩
  obtain ⟨dn, hdn⟩ : ∃ dn, dn = (t1 + 3) % 18446744073709551616 / 4 := ⟨_, rfl⟩
  rw [← hdn]
  have hdnl : dn < 4611686018427387904 := by omega
  have HDN : Hid (dn = ((un + odd) % 18446744073709551616 + 3) % 18446744073709551616 / 4) := Lib.hid (by rw [hdn, HT1.out])
  clear hdn HT1 ht1l
  go_wp2_with fail
  refine (uscale_any mx _ _ _ _ _ hmxl q0 q1 (by simpa using c0) (by simpa using c1) (by simpa using c2)).mono ?_
  rintro e' w2 ⟨rfl, n3, rfl⟩
  rw [show uscaleF mx (p10 p).1 (p10 p).2 ((-(e + p * 108853 / 32768 + 3)) % 64).toNat = ux from HX.out.symm]
  go_wp2_with fail
  refine (unr_nudge ux (-odd) _ huxl).mono ?_
  rintro e' _ ⟨rfl, rfl⟩
  obtain ⟨t2, ht2⟩ : ∃ t2 : Nat, t2 = (ux + 18446744073709551616 - odd) % 18446744073709551616 := ⟨_, rfl⟩
  rw [show (((ux : Int) + -(odd : Int)) % 18446744073709551616) = (t2 : Int) from by omega]
  have ht2l : t2 < 18446744073709551616 := by omega
  have HT2 := Lib.hid ht2
  clear ht2
  go_wp2_with fail
  refine (unr_floor t2 _ ht2l).mono ?_
  rintro e' _ ⟨rfl, rfl⟩
  obtain ⟨dx, hdx⟩ : ∃ dx, dx = t2 / 4 := ⟨_, rfl⟩
  rw [← hdx]
  have hdxl : dx < 4611686018427387904 := by omega
  have HDX : Hid (dx = (ux + 18446744073709551616 - odd) % 18446744073709551616 / 4) := Lib.hid (by rw [hdx, HT2.out])
  clear hdx HT2 ht2l
  have hE : Hid (shortF m e = if dn ≤ dx / 10 * 10 then (dx / 10, 1 - p) else if dn < dx then (((um + 1) % 18446744073709551616 + um / 4 % 2) % 18446744073709551616 / 4, -p) else (dn, -p)) := by
    refine Lib.hid ?_
    rw [HS.out, HDN.out, HDX.out, HN.out, HX.out, HM.out, HO.out]
    rfl
  clear HS HDN HDX HN HX HO
  by_cases k1 : dn ≤ dx / 10 * 10
  · have K1 : Hid (shortF m e = (dx / 10, 1 - p)) := Lib.hid (by rw [hE.out, if_pos k1])
    clear hE
    go_wp2_with fail
    go_ret2
    refine ⟨?_, below_drewN hb1 _⟩
    rw [K1.out]
    exact ret_two (by omega) (by omega)
  · by_cases k2 : dn < dx
    · have K1 : Hid (shortF m e = (((um + 1) % 18446744073709551616 + um / 4 % 2) % 18446744073709551616 / 4, -p)) := Lib.hid (by rw [hE.out, if_neg k1, if_pos k2])
      clear hE
      go_wp2_with fail
      refine (uscale_any m _ _ _ _ _ hml q0 q1 (by simpa using c0) (by simpa using c1) (by simpa using c2)).mono ?_
      rintro e' w2 ⟨rfl, n4, rfl⟩
      rw [show uscaleF m (p10 p).1 (p10 p).2 ((-(e + p * 108853 / 32768 + 3)) % 64).toNat = um from HM.out.symm]
      go_wp2_with fail
      refine (unr_round _ _ huml).mono ?_
      rintro e' _ ⟨rfl, rfl⟩
      obtain ⟨rr, hrr⟩ : ∃ rr, rr = ((um + 1) % 18446744073709551616 + um / 4 % 2) % 18446744073709551616 / 4 := ⟨_, rfl⟩
      rw [← hrr]
      have HRR := Lib.hid hrr
      clear hrr
      go_wp2_with fail
      go_ret2
      refine ⟨?_, below_drewN hb1 _⟩
      rw [K1.out]
      exact ret_two (by rw [← HRR.out]) rfl
    · have K1 : Hid (shortF m e = (dn, -p)) := Lib.hid (by rw [hE.out, if_neg k1, if_neg k2])
      clear hE
      go_wp2_with fail
      go_ret2
      refine ⟨?_, below_drewN hb1 _⟩
      rw [K1.out]
      exact ret_two rfl rfl

set_option maxRecDepth 100000 in
set_option maxHeartbeats 1000000 in
theorem short_3b (m Z Q : Nat) (e : Int) (w : World) (T : Tabs w) (hm0 : 9223372036854775808 ≤ m) (hz0 : 12 ≤ Z) (hz1 : Z ≤ 63) (hQ : Q = 2 ^ (Z - 1)) (hm : m + Q < 18446744073709551616) (he : e = -1074 - Z) (h1 : m ≠ 9223372036854775808) :
    Calls Tryz.prog 257 #[.int .u64 m, .int .i64 e] w (ShortPost w m e) := by
  have he0 : e ≤ -1086 := by omega
  have he1 : -1137 ≤ e := by omega
  have HE := Lib.hid he
  have hez : (11 + (-1085 - e)).toNat = Z := by omega
  clear he
  have d0 : ((m : Int) == 9223372036854775808) = false := beq_eq_false_iff_ne.2 (by omega)
  clear h1
  have hpw : Q ≤ 4611686018427387904 := by
    have : 2 ^ (Z - 1) ≤ 2 ^ 62 := Nat.pow_le_pow_right (by omega) (by omega)
    rw [hQ]; exact this
  have hwp : IntKind.u64.wrap (2 ^ (Z - 1)) = (Q : Int) := by
    rw [IntKind.wrap_u64, show ((2 : Int) ^ (Z - 1)) = (Q : Int) from by rw [hQ]; simp]
    omega
  obtain ⟨D, hD⟩ : ∃ D, D = m / 2 ^ Z := ⟨_, rfl⟩
  have hdz : D ≤ m / 4096 := by rw [hD]; exact Nat.div_le_div_left (show 2 ^ 12 ≤ 2 ^ Z from Nat.pow_le_pow_right (by omega) hz0) (by omega)
  have hDi : (m : Int) / 2 ^ Z = (D : Int) := by rw [shr_int, hD]
  have ha := and1 (D : Int)
  have HZ := Lib.hid hez
  have HWP := Lib.hid hwp
  have HDI := Lib.hid hDi
  have HQ := Lib.hid hQ
  have HD := Lib.hid hD
  clear hez hwp hDi hQ hD
  go_enter Tryz.func257, Tryz.ntmps257
  go_wp2_with fail
  rw [show e + (11 + (-1085 - e)) = -1074 from by omega]
  refine (log10Pow2 (-1074) _ (by omega) (by omega)).mono ?_
  rintro e' _ ⟨rfl, rfl⟩
  rw [show (-1074 : Int) * 78913 / 262144 = -324 from by decide]
  go_wp2_with fail
  obtain ⟨p, hp⟩ : ∃ p, p = (324 : Int) := ⟨_, rfl⟩
  rw [← hp, HZ.out]
  have hp0 : -348 ≤ p := by omega
  have hp1 : p ≤ 347 := by omega
  have hen : IntKind.u64.wrap ((m : Int) - IntKind.u64.wrap (2 ^ (Z - 1))) = ((m - Q : Nat) : Int) := by rw [HWP.out, IntKind.wrap_u64]; omega
  have heu : IntKind.u64.wrap ((m : Int) + IntKind.u64.wrap (2 ^ (Z - 1))) = ((m + Q : Nat) : Int) := by rw [HWP.out, IntKind.wrap_u64]; omega
  have heo : bits BinOp.and IntKind.i64 (wrap64 ((m : Int) / 2 ^ Z)) 1 = ((D % 2 : Nat) : Int) := by
    rw [HDI.out, IntWalk.wrap64_in _ ⟨by omega, by omega⟩, ha]; omega
  have d1 : True := trivial
  obtain ⟨mn, hmn⟩ : ∃ mn : Nat, mn = m - Q := ⟨_, rfl⟩
  obtain ⟨mx, hmx⟩ : ∃ mx : Nat, mx = m + Q := ⟨_, rfl⟩
  obtain ⟨odd, hodd⟩ : ∃ odd : Nat, odd = D % 2 := ⟨_, rfl⟩
  have hmnl : mn < 18446744073709551616 := by omega
  have hmxl : mx < 18446744073709551616 := by omega
  have hol : odd ≤ 1 := by rw [hodd]; exact Nat.le_of_lt_succ (Nat.mod_lt _ (by decide))
  have hml : m < 18446744073709551616 := by omega
  rw [hen, ← hmn, heu, ← hmx, heo, ← hodd]
  have HS : Hid (shortF m e = shortR m Z mn mx e p) := by
    refine Lib.hid ?_
    have hz : (-1074 - e).toNat = Z := by have := HE.out; clear hen heu heo ha; omega
    subst hmn hmx hp; unfold shortF; rw [if_neg (fun h => absurd h.2 (by omega)), if_neg (by omega), hz, ← HQ.out]
  have HO : Hid (odd = m / 2 ^ Z % 2) := Lib.hid (by rw [hodd, HD.out])
  clear hmn hmx hodd hp d1 d0 HD HDI HQ hen heu heo ha HE HZ HWP hpw hdz hm
  refine (log2Pow10 p _ (by omega) (by omega)).mono ?_
  rintro e' _ ⟨rfl, rfl⟩
  go_wp2_with fail
  have TA := T.next ((Below.refl _ _).alloc (Nat.le_refl _) (Obj.cells #[Value.int IntKind.u64 0, Value.int IntKind.u64 0, Value.int IntKind.i64 0] 308))
  refine (prescale_any _ e p _ _ TA _ _ _ (heap_alloc_new w _) (by omega) (by omega) (by omega) (by omega) (by omega) (by omega)).mono ?_
  rintro e' w1 ⟨rfl, hw1⟩
  rw [alloc_set3] at hw1
  have hb1 : Below w.heap.size w w1 := by rw [← hw1]; exact (Below.refl _ _).alloc (Nat.le_refl _) _
  have hh1 : w1.heap[w.heap.size]? = some (.cells #[.int .u64 (p10 p).1, .int .u64 (p10 p).2, .int .i64 (-(e + p * 108853 / 32768 + 3))] 308 (0, 0)) := by rw [← hw1]; exact heap_alloc_new w _
  obtain ⟨c0, c1, c2⟩ := cells_three hh1
  have Hw1 := Lib.hid hw1
  clear hw1 TA hh1
  obtain ⟨q0, q1⟩ := p10_lt p
  obtain ⟨un, hun⟩ : ∃ un, un = usc mn e p := ⟨_, rfl⟩
  obtain ⟨ux, hux⟩ : ∃ ux, ux = usc mx e p := ⟨_, rfl⟩
  obtain ⟨um, hum⟩ : ∃ um, um = usc m e p := ⟨_, rfl⟩
  have hunl : un < 18446744073709551616 := hun ▸ usc_lt mn e p hmnl
  have huxl : ux < 18446744073709551616 := hux ▸ usc_lt mx e p hmxl
  have huml : um < 18446744073709551616 := hum ▸ usc_lt m e p hml
  have HN := Lib.hid hun
  have HX := Lib.hid hux
  have HM := Lib.hid hum
  clear hun hux hum
  have hodd1 : ((odd : Int)) ≤ 1 := by omega
  go_wp2_with fail
  refine (uscale_any mn _ _ _ _ _ hmnl q0 q1 c0 c1 c2).mono ?_
  rintro e' w2 ⟨rfl, n2, rfl⟩
  rw [show uscaleF mn (p10 p).1 (p10 p).2 ((-(e + p * 108853 / 32768 + 3)) % 64).toNat = un from HN.out.symm]
  go_wp2_with fail
  refine (unr_nudge un odd _ hunl).mono ?_
  rintro e' _ ⟨rfl, rfl⟩
  obtain ⟨t1, ht1⟩ : ∃ t1 : Nat, t1 = (un + odd) % 18446744073709551616 := ⟨_, rfl⟩
  rw [show (((un : Int) + (odd : Int)) % 18446744073709551616) = (t1 : Int) from by omega]
  have ht1l : t1 < 18446744073709551616 := by omega
  have HT1 := Lib.hid ht1
  clear ht1
  go_wp2_with fail
  refine (unr_ceil t1 _ ht1l).mono ?_
  rintro e' _ ⟨rfl, rfl⟩
  obtain ⟨dn, hdn⟩ : ∃ dn, dn = (t1 + 3) % 18446744073709551616 / 4 := ⟨_, rfl⟩
  rw [← hdn]
  have hdnl : dn < 4611686018427387904 := by omega
  have HDN : Hid (dn = ((un + odd) % 18446744073709551616 + 3) % 18446744073709551616 / 4) := Lib.hid (by rw [hdn, HT1.out])
  clear hdn HT1 ht1l
  go_wp2_with fail
  refine (uscale_any mx _ _ _ _ _ hmxl q0 q1 (by simpa using c0) (by simpa using c1) (by simpa using c2)).mono ?_
  rintro e' w2 ⟨rfl, n3, rfl⟩
  rw [show uscaleF mx (p10 p).1 (p10 p).2 ((-(e + p * 108853 / 32768 + 3)) % 64).toNat = ux from HX.out.symm]
  go_wp2_with fail
  refine (unr_nudge ux (-odd) _ huxl).mono ?_
  rintro e' _ ⟨rfl, rfl⟩
  obtain ⟨t2, ht2⟩ : ∃ t2 : Nat, t2 = (ux + 18446744073709551616 - odd) % 18446744073709551616 := ⟨_, rfl⟩
  rw [show (((ux : Int) + -(odd : Int)) % 18446744073709551616) = (t2 : Int) from by omega]
  have ht2l : t2 < 18446744073709551616 := by omega
  have HT2 := Lib.hid ht2
  clear ht2
  go_wp2_with fail
  refine (unr_floor t2 _ ht2l).mono ?_
  rintro e' _ ⟨rfl, rfl⟩
  obtain ⟨dx, hdx⟩ : ∃ dx, dx = t2 / 4 := ⟨_, rfl⟩
  rw [← hdx]
  have hdxl : dx < 4611686018427387904 := by omega
  have HDX : Hid (dx = (ux + 18446744073709551616 - odd) % 18446744073709551616 / 4) := Lib.hid (by rw [hdx, HT2.out])
  clear hdx HT2 ht2l
  have hE : Hid (shortF m e = if dn ≤ dx / 10 * 10 then (dx / 10, 1 - p) else if dn < dx then (((um + 1) % 18446744073709551616 + um / 4 % 2) % 18446744073709551616 / 4, -p) else (dn, -p)) := by
    refine Lib.hid ?_
    rw [HS.out, HDN.out, HDX.out, HN.out, HX.out, HM.out, HO.out]
    rfl
  clear HS HDN HDX HN HX HO
  by_cases k1 : dn ≤ dx / 10 * 10
  · have K1 : Hid (shortF m e = (dx / 10, 1 - p)) := Lib.hid (by rw [hE.out, if_pos k1])
    clear hE
    go_wp2_with fail
    go_ret2
    refine ⟨?_, below_drewN hb1 _⟩
    rw [K1.out]
    exact ret_two (by omega) (by omega)
  · by_cases k2 : dn < dx
    · have K1 : Hid (shortF m e = (((um + 1) % 18446744073709551616 + um / 4 % 2) % 18446744073709551616 / 4, -p)) := Lib.hid (by rw [hE.out, if_neg k1, if_pos k2])
      clear hE
      go_wp2_with fail
      refine (uscale_any m _ _ _ _ _ hml q0 q1 (by simpa using c0) (by simpa using c1) (by simpa using c2)).mono ?_
      rintro e' w2 ⟨rfl, n4, rfl⟩
      rw [show uscaleF m (p10 p).1 (p10 p).2 ((-(e + p * 108853 / 32768 + 3)) % 64).toNat = um from HM.out.symm]
      go_wp2_with fail
      refine (unr_round _ _ huml).mono ?_
      rintro e' _ ⟨rfl, rfl⟩
      obtain ⟨rr, hrr⟩ : ∃ rr, rr = ((um + 1) % 18446744073709551616 + um / 4 % 2) % 18446744073709551616 / 4 := ⟨_, rfl⟩
      rw [← hrr]
      have HRR := Lib.hid hrr
      clear hrr
      go_wp2_with fail
      go_ret2
      refine ⟨?_, below_drewN hb1 _⟩
      rw [K1.out]
      exact ret_two (by rw [← HRR.out]) rfl
    · have K1 : Hid (shortF m e = (dn, -p)) := Lib.hid (by rw [hE.out, if_neg k1, if_neg k2])
      clear hE
      go_wp2_with fail
      go_ret2
      refine ⟨?_, below_drewN hb1 _⟩
      rw [K1.out]
      exact ret_two rfl rfl

end Go.Proofs.YtgdfmpanaapdjaaGreatDoor
