/- Contract of Go's ftoa64 and FormatFloat at e, -1, for finite numbers above 0. -/
import Derived.Test.YtpfamfkdfbcooaaGreatDoorFlD
set_option linter.unusedVariables false
set_option linter.unusedSimpArgs false
namespace Go.Proofs.YtpfamfkdfbcooaaGreatDoor
open Go Go.RowKit Go.Proofs Go.Sort

/-- fmtEFG at e, whatever the digits. -/
theorem fmt_any (B : Nat) (w : World) (v : Value) (bs : List UInt8) (k : Nat) (D : List UInt8) (dp : Int) (HO : OwnB B w v bs) (hB : B ≤ w.heap.size) (hbs : bs.length ≤ 1000) (hD : D.length ≤ 30) (hd0 : -390 ≤ dp) (hd1 : dp ≤ 390)
    (hk : some k ≠ v.ownBlock) (hc : ∀ j (h : j < D.length), w.cell? ⟨k, j, none⟩ = some (.int .u8 (D[j].toNat : Int))) :
    Calls Tryz.prog 189 #[v, .bool false, .slice (some ⟨k, 0, none⟩) 32 32, .int .i64 dp, .int .i64 D.length, .int .i64 (D.length - 1 : Nat), .int .u8 101, .bool true] w (FmtPost B w v bs (fmtT D dp)) := by
  rcases D with _ | ⟨x, _ | ⟨y, D⟩⟩
  · exact fmt_none B w v bs k dp (by omega) (by omega) HO hB hbs
  · rcases Int.lt_or_le dp 1 with h | h
    · obtain ⟨n, rfl⟩ : ∃ n : Nat, dp = 1 - (n : Int) := ⟨(1 - dp).toNat, by omega⟩
      rcases Nat.lt_or_ge n 10 with h1 | h1
      · exact fmt_110 B w v bs k x n HO hB hbs (by omega) h1 hk hc
      · rcases Nat.lt_or_ge n 100 with h2 | h2
        · exact fmt_111 B w v bs k x n HO hB hbs (by omega) h1 h2 hk hc
        · exact fmt_112 B w v bs k x n HO hB hbs (by omega) h2 (by omega) hk hc
    · obtain ⟨n, rfl⟩ : ∃ n : Nat, dp = (n : Int) + 1 := ⟨(dp - 1).toNat, by omega⟩
      rcases Nat.lt_or_ge n 10 with h1 | h1
      · exact fmt_100 B w v bs k x n HO hB hbs h1 hk hc
      · rcases Nat.lt_or_ge n 100 with h2 | h2
        · exact fmt_101 B w v bs k x n HO hB hbs h1 h2 hk hc
        · exact fmt_102 B w v bs k x n HO hB hbs h2 (by omega) hk hc
  · have hD' : D.length ≤ 30 := by simp at hD; omega
    rcases Int.lt_or_le dp 1 with h | h
    · obtain ⟨n, rfl⟩ : ∃ n : Nat, dp = 1 - (n : Int) := ⟨(1 - dp).toNat, by omega⟩
      rcases Nat.lt_or_ge n 10 with h1 | h1
      · exact fmt_210 B w v bs k x y D hD' n HO hB hbs (by omega) h1 hk hc
      · rcases Nat.lt_or_ge n 100 with h2 | h2
        · exact fmt_211 B w v bs k x y D hD' n HO hB hbs (by omega) h1 h2 hk hc
        · exact fmt_212 B w v bs k x y D hD' n HO hB hbs (by omega) h2 (by omega) hk hc
    · obtain ⟨n, rfl⟩ : ∃ n : Nat, dp = (n : Int) + 1 := ⟨(dp - 1).toNat, by omega⟩
      rcases Nat.lt_or_ge n 10 with h1 | h1
      · exact fmt_200 B w v bs k x y D hD' n HO hB hbs h1 hk hc
      · rcases Nat.lt_or_ge n 100 with h2 | h2
        · exact fmt_201 B w v bs k x y D hD' n HO hB hbs h1 h2 hk hc
        · exact fmt_202 B w v bs k x y D hD' n HO hB hbs h2 (by omega) hk hc

/-- shortFloat, as ftoa64 calls it. -/
theorem short_any (bits : Nat) (w : World) (T : Tabs w) (h0 : 0 < bits) (h1 : bits < 9218868437227405312) :
    Calls Tryz.prog 198 #[.int .u64 (manF bits).1, .int .i64 (manF bits).2] w (ShortPost w (manF bits).1 (manF bits).2) := by
  unfold manF
  by_cases hz : bits / 4503599627370496 = 0
  · rw [if_pos hz]
    obtain ⟨_, hb, hc⟩ := Lib.bitLenAux_bounds 64 bits (by omega) (by omega)
    obtain ⟨L, hL⟩ : ∃ L, Lib.bitLen bits = L := ⟨_, rfl⟩
    have hb' : 2 ^ (L - 1) ≤ bits := by rw [← hL]; exact hb
    have hc' : bits < 2 ^ L := by rw [← hL]; exact hc
    have hL0 : 1 ≤ L := by
      rcases Nat.eq_zero_or_pos L with h | h
      · subst h; simp at hc'; omega
      · exact h
    have hL1 : L ≤ 52 := by
      have h2 : 2 ^ (L - 1) < 2 ^ 52 := Nat.lt_of_le_of_lt hb' (by omega)
      have := (Nat.pow_lt_pow_iff_right (show 1 < 2 by omega)).1 h2
      omega
    rw [hL]
    have hm0 : 9223372036854775808 ≤ bits * 2 ^ (64 - L) := by
      have := Nat.mul_le_mul_right (2 ^ (64 - L)) hb'
      rw [← Nat.pow_add, show L - 1 + (64 - L) = 63 from by omega] at this
      exact this
    have hm1 : bits * 2 ^ (64 - L) + 2 ^ (64 - L - 1) < 18446744073709551616 := by
      have h3 := Nat.mul_le_mul_right (2 ^ (64 - L)) (show bits + 1 ≤ 2 ^ L from hc')
      rw [← Nat.pow_add, show L + (64 - L) = 64 from by omega, Nat.add_mul, Nat.one_mul] at h3
      have h4 : 2 ^ (64 - L - 1) < 2 ^ (64 - L) := Nat.pow_lt_pow_right (by omega) (by omega)
      have h5 : (2 : Nat) ^ 64 = 18446744073709551616 := by decide
      omega
    by_cases hq : bits * 2 ^ (64 - L) = 9223372036854775808
    · exact short_3a _ (64 - L) _ _ w T hm0 (by omega) (by omega) rfl hm1 rfl hq
    · exact short_3b _ (64 - L) _ _ w T hm0 (by omega) (by omega) rfl hm1 rfl hq
  · rw [if_neg hz]
    have hm0 : 9223372036854775808 ≤ (bits % 4503599627370496 + 4503599627370496) * 2048 := by omega
    have hm1 : (bits % 4503599627370496 + 4503599627370496) * 2048 + 1024 < 18446744073709551616 := by omega
    by_cases hq : (bits % 4503599627370496 + 4503599627370496) * 2048 = 9223372036854775808
    · by_cases he : -1085 < ((bits / 4503599627370496 : Nat) : Int) - 1086
      · exact short_1 _ _ w T hm0 hm1 (by omega) hq he
      · exact short_2a _ _ w T hm0 hm1 (by omega) hq he (by omega)
    · exact short_2b _ _ w T hm0 hm1 (by omega) hq (by omega)
theorem manF_bounds (bits : Nat) (h0 : 0 < bits) (h1 : bits < 9218868437227405312) : -1137 ≤ (manF bits).2 ∧ (manF bits).2 ≤ 960 := by
  unfold manF
  by_cases hz : bits / 4503599627370496 = 0
  · rw [if_pos hz]
    obtain ⟨h2, _, _⟩ := Lib.bitLenAux_bounds 64 bits (by omega) (by omega)
    have : 1 ≤ Lib.bitLen bits := h2
    show -1137 ≤ -1074 - ((64 - Lib.bitLen bits : Nat) : Int) ∧ -1074 - ((64 - Lib.bitLen bits : Nat) : Int) ≤ 960
    omega
  · rw [if_neg hz]
    show -1137 ≤ ((bits / 4503599627370496 : Nat) : Int) - 1086 ∧ ((bits / 4503599627370496 : Nat) : Int) - 1086 ≤ 960
    omega

def FtoaPost (B : Nat) (w : World) (v : Value) (t : List UInt8) (x : Ending) (w' : World) : Prop :=
  ∃ v', x = .returned v' ∧ App B w v [] w' v' t

theorem zeros32 (w : World) (t : TypeId) : Holds encB (w.alloc (.cells #[Value.int IntKind.u8 0, Value.int IntKind.u8 0, Value.int IntKind.u8 0, Value.int IntKind.u8 0, Value.int IntKind.u8 0, Value.int IntKind.u8 0, Value.int IntKind.u8 0, Value.int IntKind.u8 0, Value.int IntKind.u8 0, Value.int IntKind.u8 0, Value.int IntKind.u8 0, Value.int IntKind.u8 0, Value.int IntKind.u8 0, Value.int IntKind.u8 0, Value.int IntKind.u8 0, Value.int IntKind.u8 0, Value.int IntKind.u8 0, Value.int IntKind.u8 0, Value.int IntKind.u8 0, Value.int IntKind.u8 0, Value.int IntKind.u8 0, Value.int IntKind.u8 0, Value.int IntKind.u8 0, Value.int IntKind.u8 0, Value.int IntKind.u8 0, Value.int IntKind.u8 0, Value.int IntKind.u8 0, Value.int IntKind.u8 0, Value.int IntKind.u8 0, Value.int IntKind.u8 0, Value.int IntKind.u8 0, Value.int IntKind.u8 0] t)) w.heap.size 0 (Array.replicate 32 0) := fun j hj => by
  have hj' : j < 32 := by simpa using hj
  refine ⟨?_, World.frozen?_alloc_new _ _ _ _⟩
  have e : #[Value.int IntKind.u8 0, Value.int IntKind.u8 0, Value.int IntKind.u8 0, Value.int IntKind.u8 0, Value.int IntKind.u8 0, Value.int IntKind.u8 0, Value.int IntKind.u8 0, Value.int IntKind.u8 0, Value.int IntKind.u8 0, Value.int IntKind.u8 0, Value.int IntKind.u8 0, Value.int IntKind.u8 0, Value.int IntKind.u8 0, Value.int IntKind.u8 0, Value.int IntKind.u8 0, Value.int IntKind.u8 0, Value.int IntKind.u8 0, Value.int IntKind.u8 0, Value.int IntKind.u8 0, Value.int IntKind.u8 0, Value.int IntKind.u8 0, Value.int IntKind.u8 0, Value.int IntKind.u8 0, Value.int IntKind.u8 0, Value.int IntKind.u8 0, Value.int IntKind.u8 0, Value.int IntKind.u8 0, Value.int IntKind.u8 0, Value.int IntKind.u8 0, Value.int IntKind.u8 0, Value.int IntKind.u8 0, Value.int IntKind.u8 0] = Array.replicate 32 (Value.int IntKind.u8 0) := rfl
  rw [World.cell?_alloc_new, e, Nat.zero_add, Array.getElem?_replicate, if_pos hj', getElem!_pos _ j hj]
  simp [encB]
theorem bits_Len64 (x : Int) (w : World) (h0 : 0 ≤ x) (h1 : x ≤ 18446744073709551615) :
    Calls Tryz.prog 190 #[.int .u64 x] w fun e w' => e = .returned (.int .i64 (Lib.bitLen x.toNat)) ∧ w = w' := (Tryz.bits_Len64 x w h0 h1).mono fun _ _ h => ⟨h.1, h.2.symm⟩
theorem digF_of (bits d : Nat) (p : Int) (hd : d = (shortF (manF bits).1 (manF bits).2).1) (hp : p = (shortF (manF bits).1 (manF bits).2).2) : floatT bits = fmtT (stripZ (digs d)) (((digs d).length : Int) + p) := by
  subst hd hp; rfl

set_option maxRecDepth 100000 in
set_option maxHeartbeats 2000000 in
theorem ftoa_norm (B : Nat) (w : World) (v : Value) (bits : Nat) (T : Tabs w) (HO : OwnB B w v []) (hB : B ≤ w.heap.size) (h0 : 4503599627370496 ≤ bits) (h1 : bits < 9218868437227405312) :
    Calls Tryz.prog 166 #[v, .float .f64 bits, .int .u8 101, .int .i64 (-1)] w (FtoaPost B w v (floatT bits)) := by
  have hopt := T.opt
  have hfb : ∀ W : World, (callFunc 186 #[Value.float FloatKind.f64 bits]).run Tryz.prog W = .ok (.value (.int .u64 bits)) W := fun W => by
    rw [run_callFunc_extern Tryz.func186 (by kernel_rfl) (by kernel_rfl) (by kernel_rfl) (e := Extern.MathFloatBits.float64bits) (by kernel_rfl)]
    rfl
  have hneg : ((bits : Int) / 9223372036854775808 != 0) = false := by rw [show (bits : Int) / 9223372036854775808 = 0 from by omega]; rfl
  obtain ⟨E, hE⟩ : ∃ E, E = bits / 4503599627370496 := ⟨_, rfl⟩
  obtain ⟨Mt, hM⟩ : ∃ Mt, Mt = bits % 4503599627370496 := ⟨_, rfl⟩
  have hE0 : 1 ≤ E := by omega
  have hE1 : E ≤ 2046 := by omega
  have hM1 : Mt < 4503599627370496 := by omega
  have hbE : Go.bits BinOp.and IntKind.i64 ((bits : Int) / 4503599627370496) 2047 = (E : Int) := by
    have := and_low 11 (by omega) ((bits : Int) / 4503599627370496)
    rw [show ((2 : Int) ^ 11 - 1) = 2047 from by decide, show ((2 : Int) ^ 11) = 2048 from by decide] at this
    rw [this]; omega
  have hbM : Go.bits BinOp.and IntKind.u64 (bits : Int) 4503599627370495 = (Mt : Int) := by
    have := bits_and_u64_nat bits 4503599627370495 (by omega) (by omega)
    rw [show ((4503599627370495 : Nat) : Int) = 4503599627370495 from rfl] at this
    rw [this, hM, show (4503599627370495 : Nat) = 2 ^ 52 - 1 from by decide, Nat.and_two_pow_sub_one_eq_mod]
  have hor : Go.bits BinOp.or IntKind.u64 (Mt : Int) 4503599627370496 = (Mt : Int) + 4503599627370496 := by
    have := bits_or_u64_nat Mt 4503599627370496 (by omega) (by omega)
    rw [show ((4503599627370496 : Nat) : Int) = 4503599627370496 from rfl] at this
    rw [this, Nat.or_comm, nat_join 52 4503599627370496 Mt (by decide) (by omega)]; omega
  have hman : manF bits = ((Mt + 4503599627370496) * 2048, (E : Int) - 1086) := by unfold manF; rw [if_neg (by omega), ← hM, ← hE]
  have HMan := Lib.hid hman
  have hlen2 : Lib.bitLen ((Mt : Int) + 4503599627370496).toNat = 53 := bitLen_unique _ 53 (by omega) (by omega) (by omega) (by omega)
  have HLen : Hid (((Lib.bitLen ((Mt : Int) + 4503599627370496).toNat : Nat) : Int) = ((53 : Nat) : Int)) := Lib.hid (congrArg (fun n : Nat => (n : Int)) hlen2)
  clear hman hlen2 hE hM
  go_enter Tryz.func166, Tryz.ntmps166
  go_wp2_with fail
  go_quiet (fail)
  go_wp2_with fail
  obtain ⟨W0, hW0⟩ : ∃ W0, W0 = (w.drewN nq).alloc (Obj.cells #[Value.int IntKind.u8 0, Value.int IntKind.u8 0, Value.int IntKind.u8 0, Value.int IntKind.u8 0, Value.int IntKind.u8 0, Value.int IntKind.u8 0, Value.int IntKind.u8 0, Value.int IntKind.u8 0, Value.int IntKind.u8 0, Value.int IntKind.u8 0, Value.int IntKind.u8 0, Value.int IntKind.u8 0, Value.int IntKind.u8 0, Value.int IntKind.u8 0, Value.int IntKind.u8 0, Value.int IntKind.u8 0, Value.int IntKind.u8 0, Value.int IntKind.u8 0, Value.int IntKind.u8 0, Value.int IntKind.u8 0, Value.int IntKind.u8 0, Value.int IntKind.u8 0, Value.int IntKind.u8 0, Value.int IntKind.u8 0, Value.int IntKind.u8 0, Value.int IntKind.u8 0, Value.int IntKind.u8 0, Value.int IntKind.u8 0, Value.int IntKind.u8 0, Value.int IntKind.u8 0, Value.int IntKind.u8 0, Value.int IntKind.u8 0] 224) := ⟨_, rfl⟩
  rw [← hW0]
  have hb0 : Below w.heap.size w W0 := by rw [hW0]; exact (below_drewN (Below.refl _ _) nq).alloc (Nat.le_refl _) _
  have hH0 : Holds encB W0 w.heap.size 0 (Array.replicate 32 0) := by rw [hW0]; exact zeros32 (w.drewN nq) _
  have hs0 : w.heap.size < W0.heap.size := by rw [hW0]; simp
  have T0 := T.next hb0
  have HH0 := Lib.hid hH0
  clear hW0 hH0
  refine (bits_Len64 _ _ (by omega) (by omega)).mono ?_
  rintro e' _ ⟨rfl, rfl⟩
  rw [HLen.out]
  skip
  go_wp2_with fail
  rw [show ((Mt : Int) + 4503599627370496) * 2048 = (((manF bits).1 : Nat) : Int) from by rw [HMan.out]; show _ = (((Mt + 4503599627370496) * 2048 : Nat) : Int); omega, show (E : Int) + -1023 - 11 - 52 = (manF bits).2 from by rw [HMan.out]; show _ = (E : Int) - 1086; omega]
  refine (short_any bits W0 T0 (by omega) h1).mono ?_
  rintro e' w1 ⟨rfl, hb1⟩
  obtain ⟨hd1, hp0, hp1⟩ := shortF_bounds (manF bits).1 (manF bits).2 (manF_bounds bits (by omega) h1).1 (manF_bounds bits (by omega) h1).2
  obtain ⟨d, hd⟩ : ∃ d, d = (shortF (manF bits).1 (manF bits).2).1 := ⟨_, rfl⟩
  obtain ⟨p, hp⟩ : ∃ p, p = (shortF (manF bits).1 (manF bits).2).2 := ⟨_, rfl⟩
  rw [← hd] at hd1
  rw [← hp] at hp0 hp1
  rw [← hd, ← hp]
  have HT : Hid (floatT bits = fmtT (stripZ (digs d)) (((digs d).length : Int) + p)) := Lib.hid (digF_of bits d p hd hp)
  clear hd hp
  have T1 := T0.next hb1
  have hH1 : Holds encB w1 w.heap.size 0 (Array.replicate 32 0) := fun j hj => ⟨(hb1.cell (p := ⟨w.heap.size, 0 + j, none⟩) hs0).trans (HH0.out j hj).1, (hb1.frozen (p := ⟨w.heap.size, 0 + j, none⟩) hs0).trans (HH0.out j hj).2⟩
  have hb01 : Below w.heap.size w w1 := Below.next hb0 (by omega) hb1
  have hs1 : w.heap.size < w1.heap.size := Nat.lt_of_lt_of_le hs0 hb1.size
  have HH1 := Lib.hid hH1
  clear HH0 hH1 hb0 hb1 T0 hs0
  obtain ⟨hdl, hdl20⟩ := digs_length d (by omega)
  have HDL := Lib.hid hdl
  clear hdl
  have T1d : Tabs w1.drew := T1.next (Below.refl _ _).drew
  go_wp2_with fail
  go_region_with (first
    | (go_at_call 182; refine (numDigits_any d (by omega) _ T1d).mono ?_; rintro e' _ ⟨rfl, n2, rfl⟩; rw [← HDL.out])
    | (go_at_call 192; refine (setDigits_any w.heap.size d p _ (by omega) (by omega) (by omega) (by exact fun j hj => HH1.out j hj)).mono ?_; rintro e' w2 ⟨rfl, n3, dk, hw2, hdk⟩))
  try rw [← hw2]
  have hk2 : Keep (fun k => k = w.heap.size) (w1.drewN (1 + n2)) w2 := by
    rw [hw2]
    refine Keep.drewN ?_ _
    exact ⟨rfl, rfl, rfl, by simp [Sort.putRow, Sort.mapBlock], fun k _ hn => by simp [Sort.putRow, Sort.mapBlock, Array.getElem?_modify, Ne.symm hn]⟩
  have hcell : ∀ j (h : j < (stripZ (digs d)).length), w2.cell? ⟨w.heap.size, j, none⟩ = some (.int .u8 ((stripZ (digs d))[j].toNat : Int)) := fun j h => by
    have hl : j < (digs d).length := Nat.lt_of_lt_of_le h (stripZ_length _)
    have hs : j < dk.size := by rw [← Array.length_toList, hdk]; exact hl
    have h32 : Holds encB (w1.drewN (1 + n2)) w.heap.size 0 (Array.replicate dk.size 0) := fun j hj => by
      have h20 : dk.size ≤ 20 := by rw [← Array.length_toList, hdk]; exact hdl20
      have h2 := HH1.out j (by simp at hj ⊢; omega)
      rw [getElem!_pos _ j (by simp at hj ⊢; omega)] at h2
      rw [getElem!_pos _ j hj]
      simpa using h2
    have h3 := Sort.cell?_putRow encB (w1.drewN (1 + n2)) w.heap.size 0 _ dk h32 (by simp) j hs
    rw [hw2, World.cell?_drewN]
    rw [Nat.zero_add] at h3
    rw [h3, getElem!_pos dk j hs]
    have e1 : dk[j] = (stripZ (digs d))[j] := by
      have e2 : (stripZ (digs d))[j] = (digs d)[j] := by
        rw [List.getElem_of_eq (stripZ_prefix (digs d))]
        simp
      rw [e2]
      simp [← hdk]
    rw [e1]; rfl
  have hb2 : Below w.heap.size w w2 := by
    refine (below_drewN hb01 (1 + n2)).trans ?_
    exact ⟨hk2.os, hk2.tape, hk2.output, hk2.size, fun k hk => hk2.block k (by have := hb01.size; simp; omega) (by omega)⟩
  have HCell := Lib.hid hcell
  obtain ⟨D, hD⟩ : ∃ D, D = stripZ (digs d) := ⟨_, rfl⟩
  have hDl : D.length ≤ 20 := by rw [hD]; exact Nat.le_trans (stripZ_length _) hdl20
  rw [← hD] at HCell HT
  rw [← hD]
  obtain ⟨N, hN⟩ : ∃ N, N = (digs d).length := ⟨_, rfl⟩
  rw [← hN] at HT hdl20
  rw [← hN]
  have hmax : (if (D.length : Int) - 1 < 0 then 0 else (D.length : Int) - 1) = ((D.length - 1 : Nat) : Int) := by split <;> omega
  have hmax2 : max ((D.length : Int) - 1) 0 = ((D.length - 1 : Nat) : Int) := by omega
  have HO2 : OwnB B w2 v [] := (HO.below hb2)
  have hB2 : B ≤ w2.heap.size := Nat.le_trans hB hb2.size
  have HA0 := (App.start HO hB).below hb2
  have hne : some w.heap.size ≠ v.ownBlock := fun h => by have := HO.lt _ h.symm; omega
  have HNE := Lib.hid hne
  clear hcell hw2 hdk hk2 hD hN HDL HH1 hne HO
  go_wp2_with fail
  refine (fmt_any B w2 v [] w.heap.size D ((N : Int) + p) HO2 hB2 (by simp) (by omega) (by omega) (by omega) HNE.out HCell.out).mono ?_
  rintro e' w3 ⟨v3, rfl, hA3⟩
  go_wp2_with fail
  have hF : FtoaPost B w v (floatT bits) (.returned v3) w3 := ⟨v3, rfl, by rw [HT.out]; exact HA0.join hA3⟩
  clear hA3 HA0 HCell HNE HO2
  go_ret
  exact hF

set_option maxRecDepth 100000 in
set_option maxHeartbeats 2000000 in
theorem ftoa_sub (B : Nat) (w : World) (v : Value) (bits : Nat) (T : Tabs w) (HO : OwnB B w v []) (hB : B ≤ w.heap.size) (h0 : 0 < bits) (hsm : bits < 4503599627370496) :
    Calls Tryz.prog 166 #[v, .float .f64 bits, .int .u8 101, .int .i64 (-1)] w (FtoaPost B w v (floatT bits)) := by
  have h1 : bits < 9218868437227405312 := by omega
  have hopt := T.opt
  have hfb : ∀ W : World, (callFunc 186 #[Value.float FloatKind.f64 bits]).run Tryz.prog W = .ok (.value (.int .u64 bits)) W := fun W => by
    rw [run_callFunc_extern Tryz.func186 (by kernel_rfl) (by kernel_rfl) (by kernel_rfl) (e := Extern.MathFloatBits.float64bits) (by kernel_rfl)]
    rfl
  have hneg : ((bits : Int) / 9223372036854775808 != 0) = false := by rw [show (bits : Int) / 9223372036854775808 = 0 from by omega]; rfl
  have hbE : Go.bits BinOp.and IntKind.i64 ((bits : Int) / 4503599627370496) 2047 = 0 := by
    rw [show (bits : Int) / 4503599627370496 = 0 from by omega]; decide
  have hbE2 : Go.bits BinOp.and IntKind.i64 0 2047 = 0 := by decide
  have hbM : Go.bits BinOp.and IntKind.u64 (bits : Int) 4503599627370495 = (bits : Int) := by
    have := bits_and_u64_nat bits 4503599627370495 (by omega) (by omega)
    rw [show ((4503599627370495 : Nat) : Int) = 4503599627370495 from rfl] at this
    rw [this, show (4503599627370495 : Nat) = 2 ^ 52 - 1 from by decide, Nat.and_two_pow_sub_one_eq_mod]
    omega
  obtain ⟨_, hbl, hcl⟩ := Lib.bitLenAux_bounds 64 bits (by omega) (by omega)
  obtain ⟨L, hL⟩ : ∃ L, Lib.bitLen bits = L := ⟨_, rfl⟩
  have hb' : 2 ^ (L - 1) ≤ bits := by rw [← hL]; exact hbl
  have hc' : bits < 2 ^ L := by rw [← hL]; exact hcl
  have hL0 : 1 ≤ L := by
    rcases Nat.eq_zero_or_pos L with h | h
    · subst h; simp at hc'; omega
    · exact h
  have hL1 : L ≤ 52 := by
    have h2 : 2 ^ (L - 1) < 2 ^ 52 := Nat.lt_of_le_of_lt hb' (by omega)
    have := (Nat.pow_lt_pow_iff_right (show 1 < 2 by omega)).1 h2
    omega
  obtain ⟨mm, hmm⟩ : ∃ mm, mm = bits * 2 ^ (64 - L) := ⟨_, rfl⟩
  have hmml : mm < 18446744073709551616 := by
    have h3 := Nat.mul_lt_mul_of_pos_right hc' (Nat.pow_pos (n := 64 - L) (show 0 < 2 by omega))
    rw [← Nat.pow_add, show L + (64 - L) = 64 from by omega] at h3
    rw [hmm]; exact h3
  have hsh : IntKind.u64.wrap ((bits : Int) * 2 ^ (64 - L)) = (mm : Int) := by
    rw [IntKind.wrap_u64, show ((bits : Int) * 2 ^ (64 - L)) = (mm : Int) from by rw [hmm]; simp]; omega
  have hman : manF bits = (mm, -1074 - ((64 - L : Nat) : Int)) := by unfold manF; rw [if_pos (by omega), hL, hmm]
  have HMan := Lib.hid hman
  have HSh := Lib.hid hsh
  have HLen : Hid (((Lib.bitLen ((bits : Int)).toNat : Nat) : Int) = (L : Int)) := Lib.hid (by rw [Int.toNat_natCast, hL])
  clear hman hL hb' hc' hbl hcl hmm hsh
  go_enter Tryz.func166, Tryz.ntmps166
  go_wp2_with fail
  go_quiet (fail)
  go_wp2_with fail
  obtain ⟨W0, hW0⟩ : ∃ W0, W0 = (w.drewN nq).alloc (Obj.cells #[Value.int IntKind.u8 0, Value.int IntKind.u8 0, Value.int IntKind.u8 0, Value.int IntKind.u8 0, Value.int IntKind.u8 0, Value.int IntKind.u8 0, Value.int IntKind.u8 0, Value.int IntKind.u8 0, Value.int IntKind.u8 0, Value.int IntKind.u8 0, Value.int IntKind.u8 0, Value.int IntKind.u8 0, Value.int IntKind.u8 0, Value.int IntKind.u8 0, Value.int IntKind.u8 0, Value.int IntKind.u8 0, Value.int IntKind.u8 0, Value.int IntKind.u8 0, Value.int IntKind.u8 0, Value.int IntKind.u8 0, Value.int IntKind.u8 0, Value.int IntKind.u8 0, Value.int IntKind.u8 0, Value.int IntKind.u8 0, Value.int IntKind.u8 0, Value.int IntKind.u8 0, Value.int IntKind.u8 0, Value.int IntKind.u8 0, Value.int IntKind.u8 0, Value.int IntKind.u8 0, Value.int IntKind.u8 0, Value.int IntKind.u8 0] 224) := ⟨_, rfl⟩
  rw [← hW0]
  have hb0 : Below w.heap.size w W0 := by rw [hW0]; exact (below_drewN (Below.refl _ _) nq).alloc (Nat.le_refl _) _
  have hH0 : Holds encB W0 w.heap.size 0 (Array.replicate 32 0) := by rw [hW0]; exact zeros32 (w.drewN nq) _
  have hs0 : w.heap.size < W0.heap.size := by rw [hW0]; simp
  have T0 := T.next hb0
  have HH0 := Lib.hid hH0
  clear hW0 hH0
  refine (bits_Len64 _ _ (by omega) (by omega)).mono ?_
  rintro e' _ ⟨rfl, rfl⟩
  rw [HLen.out]
  have hL64 : (64 : Int) - (L : Int) = ((64 - L : Nat) : Int) := by omega
  go_wp2_with fail
  rw [HSh.out, show ((mm : Nat) : Int) = (((manF bits).1 : Nat) : Int) from by rw [HMan.out], show (-1022 : Int) - ((64 - L : Nat) : Int) - 52 = (manF bits).2 from by rw [HMan.out]; show _ = (-1074 : Int) - ((64 - L : Nat) : Int); omega]
  refine (short_any bits W0 T0 (by omega) h1).mono ?_
  rintro e' w1 ⟨rfl, hb1⟩
  obtain ⟨hd1, hp0, hp1⟩ := shortF_bounds (manF bits).1 (manF bits).2 (manF_bounds bits (by omega) h1).1 (manF_bounds bits (by omega) h1).2
  obtain ⟨d, hd⟩ : ∃ d, d = (shortF (manF bits).1 (manF bits).2).1 := ⟨_, rfl⟩
  obtain ⟨p, hp⟩ : ∃ p, p = (shortF (manF bits).1 (manF bits).2).2 := ⟨_, rfl⟩
  rw [← hd] at hd1
  rw [← hp] at hp0 hp1
  rw [← hd, ← hp]
  have HT : Hid (floatT bits = fmtT (stripZ (digs d)) (((digs d).length : Int) + p)) := Lib.hid (digF_of bits d p hd hp)
  clear hd hp
  have T1 := T0.next hb1
  have hH1 : Holds encB w1 w.heap.size 0 (Array.replicate 32 0) := fun j hj => ⟨(hb1.cell (p := ⟨w.heap.size, 0 + j, none⟩) hs0).trans (HH0.out j hj).1, (hb1.frozen (p := ⟨w.heap.size, 0 + j, none⟩) hs0).trans (HH0.out j hj).2⟩
  have hb01 : Below w.heap.size w w1 := Below.next hb0 (by omega) hb1
  have hs1 : w.heap.size < w1.heap.size := Nat.lt_of_lt_of_le hs0 hb1.size
  have HH1 := Lib.hid hH1
  clear HH0 hH1 hb0 hb1 T0 hs0
  obtain ⟨hdl, hdl20⟩ := digs_length d (by omega)
  have HDL := Lib.hid hdl
  clear hdl
  have T1d : Tabs w1.drew := T1.next (Below.refl _ _).drew
  go_wp2_with fail
  go_region_with (first
    | (go_at_call 182; refine (numDigits_any d (by omega) _ T1d).mono ?_; rintro e' _ ⟨rfl, n2, rfl⟩; rw [← HDL.out])
    | (go_at_call 192; refine (setDigits_any w.heap.size d p _ (by omega) (by omega) (by omega) (by exact fun j hj => HH1.out j hj)).mono ?_; rintro e' w2 ⟨rfl, n3, dk, hw2, hdk⟩))
  try rw [← hw2]
  have hk2 : Keep (fun k => k = w.heap.size) (w1.drewN (1 + n2)) w2 := by
    rw [hw2]
    refine Keep.drewN ?_ _
    exact ⟨rfl, rfl, rfl, by simp [Sort.putRow, Sort.mapBlock], fun k _ hn => by simp [Sort.putRow, Sort.mapBlock, Array.getElem?_modify, Ne.symm hn]⟩
  have hcell : ∀ j (h : j < (stripZ (digs d)).length), w2.cell? ⟨w.heap.size, j, none⟩ = some (.int .u8 ((stripZ (digs d))[j].toNat : Int)) := fun j h => by
    have hl : j < (digs d).length := Nat.lt_of_lt_of_le h (stripZ_length _)
    have hs : j < dk.size := by rw [← Array.length_toList, hdk]; exact hl
    have h32 : Holds encB (w1.drewN (1 + n2)) w.heap.size 0 (Array.replicate dk.size 0) := fun j hj => by
      have h20 : dk.size ≤ 20 := by rw [← Array.length_toList, hdk]; exact hdl20
      have h2 := HH1.out j (by simp at hj ⊢; omega)
      rw [getElem!_pos _ j (by simp at hj ⊢; omega)] at h2
      rw [getElem!_pos _ j hj]
      simpa using h2
    have h3 := Sort.cell?_putRow encB (w1.drewN (1 + n2)) w.heap.size 0 _ dk h32 (by simp) j hs
    rw [hw2, World.cell?_drewN]
    rw [Nat.zero_add] at h3
    rw [h3, getElem!_pos dk j hs]
    have e1 : dk[j] = (stripZ (digs d))[j] := by
      have e2 : (stripZ (digs d))[j] = (digs d)[j] := by
        rw [List.getElem_of_eq (stripZ_prefix (digs d))]
        simp
      rw [e2]
      simp [← hdk]
    rw [e1]; rfl
  have hb2 : Below w.heap.size w w2 := by
    refine (below_drewN hb01 (1 + n2)).trans ?_
    exact ⟨hk2.os, hk2.tape, hk2.output, hk2.size, fun k hk => hk2.block k (by have := hb01.size; simp; omega) (by omega)⟩
  have HCell := Lib.hid hcell
  obtain ⟨D, hD⟩ : ∃ D, D = stripZ (digs d) := ⟨_, rfl⟩
  have hDl : D.length ≤ 20 := by rw [hD]; exact Nat.le_trans (stripZ_length _) hdl20
  rw [← hD] at HCell HT
  rw [← hD]
  obtain ⟨N, hN⟩ : ∃ N, N = (digs d).length := ⟨_, rfl⟩
  rw [← hN] at HT hdl20
  rw [← hN]
  have hmax : (if (D.length : Int) - 1 < 0 then 0 else (D.length : Int) - 1) = ((D.length - 1 : Nat) : Int) := by split <;> omega
  have hmax2 : max ((D.length : Int) - 1) 0 = ((D.length - 1 : Nat) : Int) := by omega
  have HO2 : OwnB B w2 v [] := (HO.below hb2)
  have hB2 : B ≤ w2.heap.size := Nat.le_trans hB hb2.size
  have HA0 := (App.start HO hB).below hb2
  have hne : some w.heap.size ≠ v.ownBlock := fun h => by have := HO.lt _ h.symm; omega
  have HNE := Lib.hid hne
  clear hcell hw2 hdk hk2 hD hN HDL HH1 hne HO
  go_wp2_with fail
  refine (fmt_any B w2 v [] w.heap.size D ((N : Int) + p) HO2 hB2 (by simp) (by omega) (by omega) (by omega) HNE.out HCell.out).mono ?_
  rintro e' w3 ⟨v3, rfl, hA3⟩
  go_wp2_with fail
  have hF : FtoaPost B w v (floatT bits) (.returned v3) w3 := ⟨v3, rfl, by rw [HT.out]; exact HA0.join hA3⟩
  clear hA3 HA0 HCell HNE HO2
  go_ret
  exact hF

end Go.Proofs.YtpfamfkdfbcooaaGreatDoor
