/- The document's answer for numbers: Text. -/
import Derived.Test.YticaihfcnbehpaaGreatDoorRfn
set_option linter.unusedVariables false
set_option linter.unusedSimpArgs false
namespace Go.Proofs.YticaihfcnbehpaaGreatDoor
open Go Go.RowKit Go.Proofs
/-- What the walk of the document's Text is told of the functions that it calls. -/
structure RtIn (b f : Nat) (inf s : Bool) (d : List UInt8) (e : Int) (n : Nat) (P : List UInt8) : Prop where
  nan : ∀ W, Calls Tryz.prog 43 #[.float .f64 b] W fun x w' => x = .returned (.bool false) ∧ W = w'
  sign : ∀ W, Calls Tryz.prog 60 #[.float .f64 b] W fun x w' => x = .returned (.bool s) ∧ W = w'
  isInf : ∀ W, Calls Tryz.prog 61 #[.float .f64 b, .int .i64 0] W fun x w' => x = .returned (.bool inf) ∧ W = w'
  digits : ∀ W, Tabs W → Calls Tryz.prog 62 #[.float .f64 f] W fun x w' => x = .returned (.tuple #[.string ⟨d.toArray⟩, .int .i64 e]) ∧ Below W.heap.size W w'
  itoa : ∀ W (x : Int), x = (n : Int) → Tabs W → Calls Tryz.prog 63 #[.int .i64 x] W fun e w' => e = .returned (.string ⟨P.toArray⟩) ∧ Below W.heap.size W w'
  zer : ∀ W (x : Int) (c : Nat), x = (c : Int) → c ≤ 1000 → Calls Tryz.prog 64 #[.int .i64 x] W fun e w' => e = .returned (.string ⟨(List.replicate c (48 : UInt8)).toArray⟩) ∧ W = w'
set_option maxRecDepth 100000 in
theorem rt_fp_p (w : World) (T : Tabs w) (b : Nat) (d : List UInt8) (e : Int) (n : Nat) (P : List UInt8) (h : RtIn b b false false d e n P) (hz : (FloatKind.f64.format.order b 0 == some .eq) = false) (h0 : 1 ≤ d.length) (h1 : d.length ≤ 20) (h2 : -400 ≤ e) (h3 : e ≤ 400) (hn : n = e.natAbs) (hPl : P.length ≤ 10) (hc : e < -4 ∨ (d.length : Int) + 14 < e) :
    Calls Tryz.prog 40 #[.float .f64 b] w (TextPost w (d.take 1 ++ (if 1 < d.length then 46 :: d.drop 1 else []) ++ 101 :: (if e < 0 then 45 else 43) :: (if n < 10 then 48 :: P else P))) := by
  obtain ⟨X, hX⟩ : ∃ X, X = (d.take 1 ++ (if 1 < d.length then 46 :: d.drop 1 else []) ++ 101 :: (if e < 0 then 45 else 43) :: (if n < 10 then 48 :: P else P)) := ⟨_, rfl⟩
  rw [← hX]
  have HX := Lib.hid hX
  clear hX
  rcases hc with hc | hc <;> rcases Nat.lt_or_ge 1 d.length with hd | hd <;> rcases Nat.lt_or_ge n 10 with hs | hs
  all_goals first
  | (exfalso; omega)
  | skip
  all_goals
    first | (have he : e < 0 := by omega) | (have he : 0 ≤ e := by omega)
    first | (have hq : -e < 10 := by omega) | (have hq : 10 ≤ -e := by omega) | (have hq : 10 ≤ e := by omega)
    have Hn := Lib.hid hn
    clear hn
    go_enter Tryz.func40, Tryz.ntmps40
    go_wp2_with fail
    refine (h.nan _).mono ?_
    rintro e' _ ⟨rfl, rfl⟩
    go_wp2_with fail
    refine (h.sign _).mono ?_
    rintro e' _ ⟨rfl, rfl⟩
    go_wp2_with fail
    refine (h.isInf _).mono ?_
    rintro e' _ ⟨rfl, rfl⟩
    go_wp2_with fail
    refine (h.digits _ T).mono ?_
    rintro e' w1 ⟨rfl, hb⟩
    go_wp2_with fail
    refine (h.itoa _ _ (by have := Hn.out; omega) (T.next hb)).mono ?_
    rintro e' w2 ⟨rfl, hb2⟩
    have hb := Below.also hb hb2
    go_wp2_with fail
    refine bodyPost_ret (results_tmp rfl _ _ _) rfl ⟨?_, hb⟩
    rw [HX.out]
    first | rw [if_pos hd] | rw [if_neg (by omega)]
    first | rw [if_pos he] | rw [if_neg (by omega)]
    first | rw [if_pos hs] | rw [if_neg (by omega)]
    refine congrArg (fun z => Ending.returned (Value.string z)) ?_
    simp only [ba_extract, show (⟨#[45]⟩ : ByteArray) = ⟨[45].toArray⟩ from rfl, show (⟨#[46]⟩ : ByteArray) = ⟨[46].toArray⟩ from rfl, show (⟨#[48, 46]⟩ : ByteArray) = ⟨[48, 46].toArray⟩ from rfl, show (⟨#[101]⟩ : ByteArray) = ⟨[101].toArray⟩ from rfl, show (⟨#[43]⟩ : ByteArray) = ⟨[43].toArray⟩ from rfl, show (⟨#[48]⟩ : ByteArray) = ⟨[48].toArray⟩ from rfl, show (⟨#[]⟩ : ByteArray) = ⟨[].toArray⟩ from rfl, ba_append]
    refine congrArg ByteArray.mk (congrArg List.toArray ?_)
    simp
    try exact List.take_of_length_le (by simp)
set_option maxRecDepth 100000 in
theorem rt_fp_z (w : World) (T : Tabs w) (b : Nat) (d : List UInt8) (e : Int) (n : Nat) (P : List UInt8) (h : RtIn b b false false d e n P) (hz : (FloatKind.f64.format.order b 0 == some .eq) = false) (h0 : 1 ≤ d.length) (h1 : d.length ≤ 20) (h2 : -400 ≤ e) (h3 : e ≤ 400) (hc0 : -4 ≤ e) (hc1 : e ≤ (d.length : Int) + 14) (hc2 : (d.length : Int) - 1 ≤ e) :
    Calls Tryz.prog 40 #[.float .f64 b] w (TextPost w (d ++ List.replicate (e - d.length + 1).toNat 48)) := by
  go_enter Tryz.func40, Tryz.ntmps40
  go_wp2_with fail
  refine (h.nan _).mono ?_
  rintro e' _ ⟨rfl, rfl⟩
  go_wp2_with fail
  refine (h.sign _).mono ?_
  rintro e' _ ⟨rfl, rfl⟩
  go_wp2_with fail
  refine (h.isInf _).mono ?_
  rintro e' _ ⟨rfl, rfl⟩
  go_wp2_with fail
  refine (h.digits _ T).mono ?_
  rintro e' w1 ⟨rfl, hb⟩
  go_wp2_with fail
  refine (h.zer _ _ (e - d.length + 1).toNat (by omega) (by omega)).mono ?_
  rintro e' _ ⟨rfl, rfl⟩
  go_wp2_with fail
  refine bodyPost_ret (results_tmp rfl _ _ _) rfl ⟨?_, hb⟩
  refine congrArg (fun z => Ending.returned (Value.string z)) ?_
  simp only [ba_extract, show (⟨#[45]⟩ : ByteArray) = ⟨[45].toArray⟩ from rfl, show (⟨#[46]⟩ : ByteArray) = ⟨[46].toArray⟩ from rfl, show (⟨#[48, 46]⟩ : ByteArray) = ⟨[48, 46].toArray⟩ from rfl, show (⟨#[101]⟩ : ByteArray) = ⟨[101].toArray⟩ from rfl, show (⟨#[43]⟩ : ByteArray) = ⟨[43].toArray⟩ from rfl, show (⟨#[48]⟩ : ByteArray) = ⟨[48].toArray⟩ from rfl, show (⟨#[]⟩ : ByteArray) = ⟨[].toArray⟩ from rfl, ba_append]
  refine congrArg ByteArray.mk (congrArg List.toArray ?_)
  simp
  try exact List.take_of_length_le (by simp)
set_option maxRecDepth 100000 in
theorem rt_fp_m (w : World) (T : Tabs w) (b : Nat) (d : List UInt8) (e : Int) (n : Nat) (P : List UInt8) (h : RtIn b b false false d e n P) (hz : (FloatKind.f64.format.order b 0 == some .eq) = false) (h0 : 1 ≤ d.length) (h1 : d.length ≤ 20) (h2 : -400 ≤ e) (h3 : e ≤ 400) (hc0 : 0 ≤ e) (hc2 : e < (d.length : Int) - 1) :
    Calls Tryz.prog 40 #[.float .f64 b] w (TextPost w (d.take (e + 1).toNat ++ 46 :: d.drop (e + 1).toNat)) := by
  go_enter Tryz.func40, Tryz.ntmps40
  go_wp2_with fail
  refine (h.nan _).mono ?_
  rintro e' _ ⟨rfl, rfl⟩
  go_wp2_with fail
  refine (h.sign _).mono ?_
  rintro e' _ ⟨rfl, rfl⟩
  go_wp2_with fail
  refine (h.isInf _).mono ?_
  rintro e' _ ⟨rfl, rfl⟩
  go_wp2_with fail
  refine (h.digits _ T).mono ?_
  rintro e' w1 ⟨rfl, hb⟩
  go_wp2_with fail
  go_quiet (fail)
  go_wp2_with fail
  refine bodyPost_ret (results_tmp rfl _ _ _) rfl ⟨?_, Below.also hb (drewN_below _ _)⟩
  refine congrArg (fun z => Ending.returned (Value.string z)) ?_
  simp only [ba_extract, show (⟨#[45]⟩ : ByteArray) = ⟨[45].toArray⟩ from rfl, show (⟨#[46]⟩ : ByteArray) = ⟨[46].toArray⟩ from rfl, show (⟨#[48, 46]⟩ : ByteArray) = ⟨[48, 46].toArray⟩ from rfl, show (⟨#[101]⟩ : ByteArray) = ⟨[101].toArray⟩ from rfl, show (⟨#[43]⟩ : ByteArray) = ⟨[43].toArray⟩ from rfl, show (⟨#[48]⟩ : ByteArray) = ⟨[48].toArray⟩ from rfl, show (⟨#[]⟩ : ByteArray) = ⟨[].toArray⟩ from rfl, ba_append]
  refine congrArg ByteArray.mk (congrArg List.toArray ?_)
  simp
  try exact List.take_of_length_le (by simp)
set_option maxRecDepth 100000 in
theorem rt_fp_n (w : World) (T : Tabs w) (b : Nat) (d : List UInt8) (e : Int) (n : Nat) (P : List UInt8) (h : RtIn b b false false d e n P) (hz : (FloatKind.f64.format.order b 0 == some .eq) = false) (h0 : 1 ≤ d.length) (h1 : d.length ≤ 20) (h2 : -400 ≤ e) (h3 : e ≤ 400) (hc0 : -4 ≤ e) (hc2 : e < 0) :
    Calls Tryz.prog 40 #[.float .f64 b] w (TextPost w (48 :: 46 :: (List.replicate (-e - 1).toNat 48 ++ d))) := by
  go_enter Tryz.func40, Tryz.ntmps40
  go_wp2_with fail
  refine (h.nan _).mono ?_
  rintro e' _ ⟨rfl, rfl⟩
  go_wp2_with fail
  refine (h.sign _).mono ?_
  rintro e' _ ⟨rfl, rfl⟩
  go_wp2_with fail
  refine (h.isInf _).mono ?_
  rintro e' _ ⟨rfl, rfl⟩
  go_wp2_with fail
  refine (h.digits _ T).mono ?_
  rintro e' w1 ⟨rfl, hb⟩
  go_wp2_with fail
  refine (h.zer _ _ (-e - 1).toNat (by omega) (by omega)).mono ?_
  rintro e' _ ⟨rfl, rfl⟩
  go_wp2_with fail
  refine bodyPost_ret (results_tmp rfl _ _ _) rfl ⟨?_, hb⟩
  refine congrArg (fun z => Ending.returned (Value.string z)) ?_
  simp only [ba_extract, show (⟨#[45]⟩ : ByteArray) = ⟨[45].toArray⟩ from rfl, show (⟨#[46]⟩ : ByteArray) = ⟨[46].toArray⟩ from rfl, show (⟨#[48, 46]⟩ : ByteArray) = ⟨[48, 46].toArray⟩ from rfl, show (⟨#[101]⟩ : ByteArray) = ⟨[101].toArray⟩ from rfl, show (⟨#[43]⟩ : ByteArray) = ⟨[43].toArray⟩ from rfl, show (⟨#[48]⟩ : ByteArray) = ⟨[48].toArray⟩ from rfl, show (⟨#[]⟩ : ByteArray) = ⟨[].toArray⟩ from rfl, ba_append]
  refine congrArg ByteArray.mk (congrArg List.toArray ?_)
  simp
  try exact List.take_of_length_le (by simp)
set_option maxRecDepth 100000 in
theorem rt_fm_p (w : World) (T : Tabs w) (b : Nat) (d : List UInt8) (e : Int) (n : Nat) (P : List UInt8) (h : RtIn b b false true d e n P) (hz : (FloatKind.f64.format.order b 0 == some .eq) = false) (h0 : 1 ≤ d.length) (h1 : d.length ≤ 20) (h2 : -400 ≤ e) (h3 : e ≤ 400) (hn : n = e.natAbs) (hPl : P.length ≤ 10) (hc : e < -4 ∨ (d.length : Int) + 14 < e) :
    Calls Tryz.prog 40 #[.float .f64 b] w (TextPost w (45 :: (d.take 1 ++ (if 1 < d.length then 46 :: d.drop 1 else []) ++ 101 :: (if e < 0 then 45 else 43) :: (if n < 10 then 48 :: P else P)))) := by
  obtain ⟨X, hX⟩ : ∃ X, X = (45 :: (d.take 1 ++ (if 1 < d.length then 46 :: d.drop 1 else []) ++ 101 :: (if e < 0 then 45 else 43) :: (if n < 10 then 48 :: P else P))) := ⟨_, rfl⟩
  rw [← hX]
  have HX := Lib.hid hX
  clear hX
  rcases hc with hc | hc <;> rcases Nat.lt_or_ge 1 d.length with hd | hd <;> rcases Nat.lt_or_ge n 10 with hs | hs
  all_goals first
  | (exfalso; omega)
  | skip
  all_goals
    first | (have he : e < 0 := by omega) | (have he : 0 ≤ e := by omega)
    first | (have hq : -e < 10 := by omega) | (have hq : 10 ≤ -e := by omega) | (have hq : 10 ≤ e := by omega)
    have Hn := Lib.hid hn
    clear hn
    go_enter Tryz.func40, Tryz.ntmps40
    go_wp2_with fail
    refine (h.nan _).mono ?_
    rintro e' _ ⟨rfl, rfl⟩
    go_wp2_with fail
    refine (h.sign _).mono ?_
    rintro e' _ ⟨rfl, rfl⟩
    go_wp2_with fail
    refine (h.isInf _).mono ?_
    rintro e' _ ⟨rfl, rfl⟩
    go_wp2_with fail
    refine (h.digits _ T).mono ?_
    rintro e' w1 ⟨rfl, hb⟩
    go_wp2_with fail
    refine (h.itoa _ _ (by have := Hn.out; omega) (T.next hb)).mono ?_
    rintro e' w2 ⟨rfl, hb2⟩
    have hb := Below.also hb hb2
    go_wp2_with fail
    refine bodyPost_ret (results_tmp rfl _ _ _) rfl ⟨?_, hb⟩
    rw [HX.out]
    first | rw [if_pos hd] | rw [if_neg (by omega)]
    first | rw [if_pos he] | rw [if_neg (by omega)]
    first | rw [if_pos hs] | rw [if_neg (by omega)]
    refine congrArg (fun z => Ending.returned (Value.string z)) ?_
    simp only [ba_extract, show (⟨#[45]⟩ : ByteArray) = ⟨[45].toArray⟩ from rfl, show (⟨#[46]⟩ : ByteArray) = ⟨[46].toArray⟩ from rfl, show (⟨#[48, 46]⟩ : ByteArray) = ⟨[48, 46].toArray⟩ from rfl, show (⟨#[101]⟩ : ByteArray) = ⟨[101].toArray⟩ from rfl, show (⟨#[43]⟩ : ByteArray) = ⟨[43].toArray⟩ from rfl, show (⟨#[48]⟩ : ByteArray) = ⟨[48].toArray⟩ from rfl, show (⟨#[]⟩ : ByteArray) = ⟨[].toArray⟩ from rfl, ba_append]
    refine congrArg ByteArray.mk (congrArg List.toArray ?_)
    simp
    try exact List.take_of_length_le (by simp)
set_option maxRecDepth 100000 in
theorem rt_fm_z (w : World) (T : Tabs w) (b : Nat) (d : List UInt8) (e : Int) (n : Nat) (P : List UInt8) (h : RtIn b b false true d e n P) (hz : (FloatKind.f64.format.order b 0 == some .eq) = false) (h0 : 1 ≤ d.length) (h1 : d.length ≤ 20) (h2 : -400 ≤ e) (h3 : e ≤ 400) (hc0 : -4 ≤ e) (hc1 : e ≤ (d.length : Int) + 14) (hc2 : (d.length : Int) - 1 ≤ e) :
    Calls Tryz.prog 40 #[.float .f64 b] w (TextPost w (45 :: (d ++ List.replicate (e - d.length + 1).toNat 48))) := by
  go_enter Tryz.func40, Tryz.ntmps40
  go_wp2_with fail
  refine (h.nan _).mono ?_
  rintro e' _ ⟨rfl, rfl⟩
  go_wp2_with fail
  refine (h.sign _).mono ?_
  rintro e' _ ⟨rfl, rfl⟩
  go_wp2_with fail
  refine (h.isInf _).mono ?_
  rintro e' _ ⟨rfl, rfl⟩
  go_wp2_with fail
  refine (h.digits _ T).mono ?_
  rintro e' w1 ⟨rfl, hb⟩
  go_wp2_with fail
  refine (h.zer _ _ (e - d.length + 1).toNat (by omega) (by omega)).mono ?_
  rintro e' _ ⟨rfl, rfl⟩
  go_wp2_with fail
  refine bodyPost_ret (results_tmp rfl _ _ _) rfl ⟨?_, hb⟩
  refine congrArg (fun z => Ending.returned (Value.string z)) ?_
  simp only [ba_extract, show (⟨#[45]⟩ : ByteArray) = ⟨[45].toArray⟩ from rfl, show (⟨#[46]⟩ : ByteArray) = ⟨[46].toArray⟩ from rfl, show (⟨#[48, 46]⟩ : ByteArray) = ⟨[48, 46].toArray⟩ from rfl, show (⟨#[101]⟩ : ByteArray) = ⟨[101].toArray⟩ from rfl, show (⟨#[43]⟩ : ByteArray) = ⟨[43].toArray⟩ from rfl, show (⟨#[48]⟩ : ByteArray) = ⟨[48].toArray⟩ from rfl, show (⟨#[]⟩ : ByteArray) = ⟨[].toArray⟩ from rfl, ba_append]
  refine congrArg ByteArray.mk (congrArg List.toArray ?_)
  simp
  try exact List.take_of_length_le (by simp)
set_option maxRecDepth 100000 in
theorem rt_fm_m (w : World) (T : Tabs w) (b : Nat) (d : List UInt8) (e : Int) (n : Nat) (P : List UInt8) (h : RtIn b b false true d e n P) (hz : (FloatKind.f64.format.order b 0 == some .eq) = false) (h0 : 1 ≤ d.length) (h1 : d.length ≤ 20) (h2 : -400 ≤ e) (h3 : e ≤ 400) (hc0 : 0 ≤ e) (hc2 : e < (d.length : Int) - 1) :
    Calls Tryz.prog 40 #[.float .f64 b] w (TextPost w (45 :: (d.take (e + 1).toNat ++ 46 :: d.drop (e + 1).toNat))) := by
  go_enter Tryz.func40, Tryz.ntmps40
  go_wp2_with fail
  refine (h.nan _).mono ?_
  rintro e' _ ⟨rfl, rfl⟩
  go_wp2_with fail
  refine (h.sign _).mono ?_
  rintro e' _ ⟨rfl, rfl⟩
  go_wp2_with fail
  refine (h.isInf _).mono ?_
  rintro e' _ ⟨rfl, rfl⟩
  go_wp2_with fail
  refine (h.digits _ T).mono ?_
  rintro e' w1 ⟨rfl, hb⟩
  go_wp2_with fail
  go_quiet (fail)
  go_wp2_with fail
  refine bodyPost_ret (results_tmp rfl _ _ _) rfl ⟨?_, Below.also hb (drewN_below _ _)⟩
  refine congrArg (fun z => Ending.returned (Value.string z)) ?_
  simp only [ba_extract, show (⟨#[45]⟩ : ByteArray) = ⟨[45].toArray⟩ from rfl, show (⟨#[46]⟩ : ByteArray) = ⟨[46].toArray⟩ from rfl, show (⟨#[48, 46]⟩ : ByteArray) = ⟨[48, 46].toArray⟩ from rfl, show (⟨#[101]⟩ : ByteArray) = ⟨[101].toArray⟩ from rfl, show (⟨#[43]⟩ : ByteArray) = ⟨[43].toArray⟩ from rfl, show (⟨#[48]⟩ : ByteArray) = ⟨[48].toArray⟩ from rfl, show (⟨#[]⟩ : ByteArray) = ⟨[].toArray⟩ from rfl, ba_append]
  refine congrArg ByteArray.mk (congrArg List.toArray ?_)
  simp
  try exact List.take_of_length_le (by simp)
set_option maxRecDepth 100000 in
theorem rt_fm_n (w : World) (T : Tabs w) (b : Nat) (d : List UInt8) (e : Int) (n : Nat) (P : List UInt8) (h : RtIn b b false true d e n P) (hz : (FloatKind.f64.format.order b 0 == some .eq) = false) (h0 : 1 ≤ d.length) (h1 : d.length ≤ 20) (h2 : -400 ≤ e) (h3 : e ≤ 400) (hc0 : -4 ≤ e) (hc2 : e < 0) :
    Calls Tryz.prog 40 #[.float .f64 b] w (TextPost w (45 :: (48 :: 46 :: (List.replicate (-e - 1).toNat 48 ++ d)))) := by
  go_enter Tryz.func40, Tryz.ntmps40
  go_wp2_with fail
  refine (h.nan _).mono ?_
  rintro e' _ ⟨rfl, rfl⟩
  go_wp2_with fail
  refine (h.sign _).mono ?_
  rintro e' _ ⟨rfl, rfl⟩
  go_wp2_with fail
  refine (h.isInf _).mono ?_
  rintro e' _ ⟨rfl, rfl⟩
  go_wp2_with fail
  refine (h.digits _ T).mono ?_
  rintro e' w1 ⟨rfl, hb⟩
  go_wp2_with fail
  refine (h.zer _ _ (-e - 1).toNat (by omega) (by omega)).mono ?_
  rintro e' _ ⟨rfl, rfl⟩
  go_wp2_with fail
  refine bodyPost_ret (results_tmp rfl _ _ _) rfl ⟨?_, hb⟩
  refine congrArg (fun z => Ending.returned (Value.string z)) ?_
  simp only [ba_extract, show (⟨#[45]⟩ : ByteArray) = ⟨[45].toArray⟩ from rfl, show (⟨#[46]⟩ : ByteArray) = ⟨[46].toArray⟩ from rfl, show (⟨#[48, 46]⟩ : ByteArray) = ⟨[48, 46].toArray⟩ from rfl, show (⟨#[101]⟩ : ByteArray) = ⟨[101].toArray⟩ from rfl, show (⟨#[43]⟩ : ByteArray) = ⟨[43].toArray⟩ from rfl, show (⟨#[48]⟩ : ByteArray) = ⟨[48].toArray⟩ from rfl, show (⟨#[]⟩ : ByteArray) = ⟨[].toArray⟩ from rfl, ba_append]
  refine congrArg ByteArray.mk (congrArg List.toArray ?_)
  simp
  try exact List.take_of_length_le (by simp)
set_option maxRecDepth 100000 in
theorem rt_ip_p (w : World) (T : Tabs w) (b : Nat) (d : List UInt8) (e : Int) (n : Nat) (P : List UInt8) (h : RtIn b 9218868437227405311 true false d e n P) (hz : (FloatKind.f64.format.order b 0 == some .eq) = false) (h0 : 1 ≤ d.length) (h1 : d.length ≤ 20) (h2 : -400 ≤ e) (h3 : e ≤ 400) (hn : n = e.natAbs) (hPl : P.length ≤ 10) (hc : e < -4 ∨ (d.length : Int) + 14 < e) :
    Calls Tryz.prog 40 #[.float .f64 b] w (TextPost w (d.take 1 ++ (if 1 < d.length then 46 :: d.drop 1 else []) ++ 101 :: (if e < 0 then 45 else 43) :: (if n < 10 then 48 :: P else P))) := by
  obtain ⟨X, hX⟩ : ∃ X, X = (d.take 1 ++ (if 1 < d.length then 46 :: d.drop 1 else []) ++ 101 :: (if e < 0 then 45 else 43) :: (if n < 10 then 48 :: P else P)) := ⟨_, rfl⟩
  rw [← hX]
  have HX := Lib.hid hX
  clear hX
  rcases hc with hc | hc <;> rcases Nat.lt_or_ge 1 d.length with hd | hd <;> rcases Nat.lt_or_ge n 10 with hs | hs
  all_goals first
  | (exfalso; omega)
  | skip
  all_goals
    first | (have he : e < 0 := by omega) | (have he : 0 ≤ e := by omega)
    first | (have hq : -e < 10 := by omega) | (have hq : 10 ≤ -e := by omega) | (have hq : 10 ≤ e := by omega)
    have Hn := Lib.hid hn
    clear hn
    go_enter Tryz.func40, Tryz.ntmps40
    go_wp2_with fail
    refine (h.nan _).mono ?_
    rintro e' _ ⟨rfl, rfl⟩
    go_wp2_with fail
    refine (h.sign _).mono ?_
    rintro e' _ ⟨rfl, rfl⟩
    go_wp2_with fail
    refine (h.isInf _).mono ?_
    rintro e' _ ⟨rfl, rfl⟩
    go_wp2_with fail
    refine (h.digits _ T).mono ?_
    rintro e' w1 ⟨rfl, hb⟩
    go_wp2_with fail
    refine (h.itoa _ _ (by have := Hn.out; omega) (T.next hb)).mono ?_
    rintro e' w2 ⟨rfl, hb2⟩
    have hb := Below.also hb hb2
    go_wp2_with fail
    refine bodyPost_ret (results_tmp rfl _ _ _) rfl ⟨?_, hb⟩
    rw [HX.out]
    first | rw [if_pos hd] | rw [if_neg (by omega)]
    first | rw [if_pos he] | rw [if_neg (by omega)]
    first | rw [if_pos hs] | rw [if_neg (by omega)]
    refine congrArg (fun z => Ending.returned (Value.string z)) ?_
    simp only [ba_extract, show (⟨#[45]⟩ : ByteArray) = ⟨[45].toArray⟩ from rfl, show (⟨#[46]⟩ : ByteArray) = ⟨[46].toArray⟩ from rfl, show (⟨#[48, 46]⟩ : ByteArray) = ⟨[48, 46].toArray⟩ from rfl, show (⟨#[101]⟩ : ByteArray) = ⟨[101].toArray⟩ from rfl, show (⟨#[43]⟩ : ByteArray) = ⟨[43].toArray⟩ from rfl, show (⟨#[48]⟩ : ByteArray) = ⟨[48].toArray⟩ from rfl, show (⟨#[]⟩ : ByteArray) = ⟨[].toArray⟩ from rfl, ba_append]
    refine congrArg ByteArray.mk (congrArg List.toArray ?_)
    simp
    try exact List.take_of_length_le (by simp)
set_option maxRecDepth 100000 in
theorem rt_ip_z (w : World) (T : Tabs w) (b : Nat) (d : List UInt8) (e : Int) (n : Nat) (P : List UInt8) (h : RtIn b 9218868437227405311 true false d e n P) (hz : (FloatKind.f64.format.order b 0 == some .eq) = false) (h0 : 1 ≤ d.length) (h1 : d.length ≤ 20) (h2 : -400 ≤ e) (h3 : e ≤ 400) (hc0 : -4 ≤ e) (hc1 : e ≤ (d.length : Int) + 14) (hc2 : (d.length : Int) - 1 ≤ e) :
    Calls Tryz.prog 40 #[.float .f64 b] w (TextPost w (d ++ List.replicate (e - d.length + 1).toNat 48)) := by
  go_enter Tryz.func40, Tryz.ntmps40
  go_wp2_with fail
  refine (h.nan _).mono ?_
  rintro e' _ ⟨rfl, rfl⟩
  go_wp2_with fail
  refine (h.sign _).mono ?_
  rintro e' _ ⟨rfl, rfl⟩
  go_wp2_with fail
  refine (h.isInf _).mono ?_
  rintro e' _ ⟨rfl, rfl⟩
  go_wp2_with fail
  refine (h.digits _ T).mono ?_
  rintro e' w1 ⟨rfl, hb⟩
  go_wp2_with fail
  refine (h.zer _ _ (e - d.length + 1).toNat (by omega) (by omega)).mono ?_
  rintro e' _ ⟨rfl, rfl⟩
  go_wp2_with fail
  refine bodyPost_ret (results_tmp rfl _ _ _) rfl ⟨?_, hb⟩
  refine congrArg (fun z => Ending.returned (Value.string z)) ?_
  simp only [ba_extract, show (⟨#[45]⟩ : ByteArray) = ⟨[45].toArray⟩ from rfl, show (⟨#[46]⟩ : ByteArray) = ⟨[46].toArray⟩ from rfl, show (⟨#[48, 46]⟩ : ByteArray) = ⟨[48, 46].toArray⟩ from rfl, show (⟨#[101]⟩ : ByteArray) = ⟨[101].toArray⟩ from rfl, show (⟨#[43]⟩ : ByteArray) = ⟨[43].toArray⟩ from rfl, show (⟨#[48]⟩ : ByteArray) = ⟨[48].toArray⟩ from rfl, show (⟨#[]⟩ : ByteArray) = ⟨[].toArray⟩ from rfl, ba_append]
  refine congrArg ByteArray.mk (congrArg List.toArray ?_)
  simp
  try exact List.take_of_length_le (by simp)
set_option maxRecDepth 100000 in
theorem rt_ip_m (w : World) (T : Tabs w) (b : Nat) (d : List UInt8) (e : Int) (n : Nat) (P : List UInt8) (h : RtIn b 9218868437227405311 true false d e n P) (hz : (FloatKind.f64.format.order b 0 == some .eq) = false) (h0 : 1 ≤ d.length) (h1 : d.length ≤ 20) (h2 : -400 ≤ e) (h3 : e ≤ 400) (hc0 : 0 ≤ e) (hc2 : e < (d.length : Int) - 1) :
    Calls Tryz.prog 40 #[.float .f64 b] w (TextPost w (d.take (e + 1).toNat ++ 46 :: d.drop (e + 1).toNat)) := by
  go_enter Tryz.func40, Tryz.ntmps40
  go_wp2_with fail
  refine (h.nan _).mono ?_
  rintro e' _ ⟨rfl, rfl⟩
  go_wp2_with fail
  refine (h.sign _).mono ?_
  rintro e' _ ⟨rfl, rfl⟩
  go_wp2_with fail
  refine (h.isInf _).mono ?_
  rintro e' _ ⟨rfl, rfl⟩
  go_wp2_with fail
  refine (h.digits _ T).mono ?_
  rintro e' w1 ⟨rfl, hb⟩
  go_wp2_with fail
  go_quiet (fail)
  go_wp2_with fail
  refine bodyPost_ret (results_tmp rfl _ _ _) rfl ⟨?_, Below.also hb (drewN_below _ _)⟩
  refine congrArg (fun z => Ending.returned (Value.string z)) ?_
  simp only [ba_extract, show (⟨#[45]⟩ : ByteArray) = ⟨[45].toArray⟩ from rfl, show (⟨#[46]⟩ : ByteArray) = ⟨[46].toArray⟩ from rfl, show (⟨#[48, 46]⟩ : ByteArray) = ⟨[48, 46].toArray⟩ from rfl, show (⟨#[101]⟩ : ByteArray) = ⟨[101].toArray⟩ from rfl, show (⟨#[43]⟩ : ByteArray) = ⟨[43].toArray⟩ from rfl, show (⟨#[48]⟩ : ByteArray) = ⟨[48].toArray⟩ from rfl, show (⟨#[]⟩ : ByteArray) = ⟨[].toArray⟩ from rfl, ba_append]
  refine congrArg ByteArray.mk (congrArg List.toArray ?_)
  simp
  try exact List.take_of_length_le (by simp)
set_option maxRecDepth 100000 in
theorem rt_ip_n (w : World) (T : Tabs w) (b : Nat) (d : List UInt8) (e : Int) (n : Nat) (P : List UInt8) (h : RtIn b 9218868437227405311 true false d e n P) (hz : (FloatKind.f64.format.order b 0 == some .eq) = false) (h0 : 1 ≤ d.length) (h1 : d.length ≤ 20) (h2 : -400 ≤ e) (h3 : e ≤ 400) (hc0 : -4 ≤ e) (hc2 : e < 0) :
    Calls Tryz.prog 40 #[.float .f64 b] w (TextPost w (48 :: 46 :: (List.replicate (-e - 1).toNat 48 ++ d))) := by
  go_enter Tryz.func40, Tryz.ntmps40
  go_wp2_with fail
  refine (h.nan _).mono ?_
  rintro e' _ ⟨rfl, rfl⟩
  go_wp2_with fail
  refine (h.sign _).mono ?_
  rintro e' _ ⟨rfl, rfl⟩
  go_wp2_with fail
  refine (h.isInf _).mono ?_
  rintro e' _ ⟨rfl, rfl⟩
  go_wp2_with fail
  refine (h.digits _ T).mono ?_
  rintro e' w1 ⟨rfl, hb⟩
  go_wp2_with fail
  refine (h.zer _ _ (-e - 1).toNat (by omega) (by omega)).mono ?_
  rintro e' _ ⟨rfl, rfl⟩
  go_wp2_with fail
  refine bodyPost_ret (results_tmp rfl _ _ _) rfl ⟨?_, hb⟩
  refine congrArg (fun z => Ending.returned (Value.string z)) ?_
  simp only [ba_extract, show (⟨#[45]⟩ : ByteArray) = ⟨[45].toArray⟩ from rfl, show (⟨#[46]⟩ : ByteArray) = ⟨[46].toArray⟩ from rfl, show (⟨#[48, 46]⟩ : ByteArray) = ⟨[48, 46].toArray⟩ from rfl, show (⟨#[101]⟩ : ByteArray) = ⟨[101].toArray⟩ from rfl, show (⟨#[43]⟩ : ByteArray) = ⟨[43].toArray⟩ from rfl, show (⟨#[48]⟩ : ByteArray) = ⟨[48].toArray⟩ from rfl, show (⟨#[]⟩ : ByteArray) = ⟨[].toArray⟩ from rfl, ba_append]
  refine congrArg ByteArray.mk (congrArg List.toArray ?_)
  simp
  try exact List.take_of_length_le (by simp)
set_option maxRecDepth 100000 in
theorem rt_im_p (w : World) (T : Tabs w) (b : Nat) (d : List UInt8) (e : Int) (n : Nat) (P : List UInt8) (h : RtIn b 9218868437227405311 true true d e n P) (hz : (FloatKind.f64.format.order b 0 == some .eq) = false) (h0 : 1 ≤ d.length) (h1 : d.length ≤ 20) (h2 : -400 ≤ e) (h3 : e ≤ 400) (hn : n = e.natAbs) (hPl : P.length ≤ 10) (hc : e < -4 ∨ (d.length : Int) + 14 < e) :
    Calls Tryz.prog 40 #[.float .f64 b] w (TextPost w (45 :: (d.take 1 ++ (if 1 < d.length then 46 :: d.drop 1 else []) ++ 101 :: (if e < 0 then 45 else 43) :: (if n < 10 then 48 :: P else P)))) := by
  obtain ⟨X, hX⟩ : ∃ X, X = (45 :: (d.take 1 ++ (if 1 < d.length then 46 :: d.drop 1 else []) ++ 101 :: (if e < 0 then 45 else 43) :: (if n < 10 then 48 :: P else P))) := ⟨_, rfl⟩
  rw [← hX]
  have HX := Lib.hid hX
  clear hX
  rcases hc with hc | hc <;> rcases Nat.lt_or_ge 1 d.length with hd | hd <;> rcases Nat.lt_or_ge n 10 with hs | hs
  all_goals first
  | (exfalso; omega)
  | skip
  all_goals
    first | (have he : e < 0 := by omega) | (have he : 0 ≤ e := by omega)
    first | (have hq : -e < 10 := by omega) | (have hq : 10 ≤ -e := by omega) | (have hq : 10 ≤ e := by omega)
    have Hn := Lib.hid hn
    clear hn
    go_enter Tryz.func40, Tryz.ntmps40
    go_wp2_with fail
    refine (h.nan _).mono ?_
    rintro e' _ ⟨rfl, rfl⟩
    go_wp2_with fail
    refine (h.sign _).mono ?_
    rintro e' _ ⟨rfl, rfl⟩
    go_wp2_with fail
    refine (h.isInf _).mono ?_
    rintro e' _ ⟨rfl, rfl⟩
    go_wp2_with fail
    refine (h.digits _ T).mono ?_
    rintro e' w1 ⟨rfl, hb⟩
    go_wp2_with fail
    refine (h.itoa _ _ (by have := Hn.out; omega) (T.next hb)).mono ?_
    rintro e' w2 ⟨rfl, hb2⟩
    have hb := Below.also hb hb2
    go_wp2_with fail
    refine bodyPost_ret (results_tmp rfl _ _ _) rfl ⟨?_, hb⟩
    rw [HX.out]
    first | rw [if_pos hd] | rw [if_neg (by omega)]
    first | rw [if_pos he] | rw [if_neg (by omega)]
    first | rw [if_pos hs] | rw [if_neg (by omega)]
    refine congrArg (fun z => Ending.returned (Value.string z)) ?_
    simp only [ba_extract, show (⟨#[45]⟩ : ByteArray) = ⟨[45].toArray⟩ from rfl, show (⟨#[46]⟩ : ByteArray) = ⟨[46].toArray⟩ from rfl, show (⟨#[48, 46]⟩ : ByteArray) = ⟨[48, 46].toArray⟩ from rfl, show (⟨#[101]⟩ : ByteArray) = ⟨[101].toArray⟩ from rfl, show (⟨#[43]⟩ : ByteArray) = ⟨[43].toArray⟩ from rfl, show (⟨#[48]⟩ : ByteArray) = ⟨[48].toArray⟩ from rfl, show (⟨#[]⟩ : ByteArray) = ⟨[].toArray⟩ from rfl, ba_append]
    refine congrArg ByteArray.mk (congrArg List.toArray ?_)
    simp
    try exact List.take_of_length_le (by simp)
set_option maxRecDepth 100000 in
theorem rt_im_z (w : World) (T : Tabs w) (b : Nat) (d : List UInt8) (e : Int) (n : Nat) (P : List UInt8) (h : RtIn b 9218868437227405311 true true d e n P) (hz : (FloatKind.f64.format.order b 0 == some .eq) = false) (h0 : 1 ≤ d.length) (h1 : d.length ≤ 20) (h2 : -400 ≤ e) (h3 : e ≤ 400) (hc0 : -4 ≤ e) (hc1 : e ≤ (d.length : Int) + 14) (hc2 : (d.length : Int) - 1 ≤ e) :
    Calls Tryz.prog 40 #[.float .f64 b] w (TextPost w (45 :: (d ++ List.replicate (e - d.length + 1).toNat 48))) := by
  go_enter Tryz.func40, Tryz.ntmps40
  go_wp2_with fail
  refine (h.nan _).mono ?_
  rintro e' _ ⟨rfl, rfl⟩
  go_wp2_with fail
  refine (h.sign _).mono ?_
  rintro e' _ ⟨rfl, rfl⟩
  go_wp2_with fail
  refine (h.isInf _).mono ?_
  rintro e' _ ⟨rfl, rfl⟩
  go_wp2_with fail
  refine (h.digits _ T).mono ?_
  rintro e' w1 ⟨rfl, hb⟩
  go_wp2_with fail
  refine (h.zer _ _ (e - d.length + 1).toNat (by omega) (by omega)).mono ?_
  rintro e' _ ⟨rfl, rfl⟩
  go_wp2_with fail
  refine bodyPost_ret (results_tmp rfl _ _ _) rfl ⟨?_, hb⟩
  refine congrArg (fun z => Ending.returned (Value.string z)) ?_
  simp only [ba_extract, show (⟨#[45]⟩ : ByteArray) = ⟨[45].toArray⟩ from rfl, show (⟨#[46]⟩ : ByteArray) = ⟨[46].toArray⟩ from rfl, show (⟨#[48, 46]⟩ : ByteArray) = ⟨[48, 46].toArray⟩ from rfl, show (⟨#[101]⟩ : ByteArray) = ⟨[101].toArray⟩ from rfl, show (⟨#[43]⟩ : ByteArray) = ⟨[43].toArray⟩ from rfl, show (⟨#[48]⟩ : ByteArray) = ⟨[48].toArray⟩ from rfl, show (⟨#[]⟩ : ByteArray) = ⟨[].toArray⟩ from rfl, ba_append]
  refine congrArg ByteArray.mk (congrArg List.toArray ?_)
  simp
  try exact List.take_of_length_le (by simp)
set_option maxRecDepth 100000 in
theorem rt_im_m (w : World) (T : Tabs w) (b : Nat) (d : List UInt8) (e : Int) (n : Nat) (P : List UInt8) (h : RtIn b 9218868437227405311 true true d e n P) (hz : (FloatKind.f64.format.order b 0 == some .eq) = false) (h0 : 1 ≤ d.length) (h1 : d.length ≤ 20) (h2 : -400 ≤ e) (h3 : e ≤ 400) (hc0 : 0 ≤ e) (hc2 : e < (d.length : Int) - 1) :
    Calls Tryz.prog 40 #[.float .f64 b] w (TextPost w (45 :: (d.take (e + 1).toNat ++ 46 :: d.drop (e + 1).toNat))) := by
  go_enter Tryz.func40, Tryz.ntmps40
  go_wp2_with fail
  refine (h.nan _).mono ?_
  rintro e' _ ⟨rfl, rfl⟩
  go_wp2_with fail
  refine (h.sign _).mono ?_
  rintro e' _ ⟨rfl, rfl⟩
  go_wp2_with fail
  refine (h.isInf _).mono ?_
  rintro e' _ ⟨rfl, rfl⟩
  go_wp2_with fail
  refine (h.digits _ T).mono ?_
  rintro e' w1 ⟨rfl, hb⟩
  go_wp2_with fail
  go_quiet (fail)
  go_wp2_with fail
  refine bodyPost_ret (results_tmp rfl _ _ _) rfl ⟨?_, Below.also hb (drewN_below _ _)⟩
  refine congrArg (fun z => Ending.returned (Value.string z)) ?_
  simp only [ba_extract, show (⟨#[45]⟩ : ByteArray) = ⟨[45].toArray⟩ from rfl, show (⟨#[46]⟩ : ByteArray) = ⟨[46].toArray⟩ from rfl, show (⟨#[48, 46]⟩ : ByteArray) = ⟨[48, 46].toArray⟩ from rfl, show (⟨#[101]⟩ : ByteArray) = ⟨[101].toArray⟩ from rfl, show (⟨#[43]⟩ : ByteArray) = ⟨[43].toArray⟩ from rfl, show (⟨#[48]⟩ : ByteArray) = ⟨[48].toArray⟩ from rfl, show (⟨#[]⟩ : ByteArray) = ⟨[].toArray⟩ from rfl, ba_append]
  refine congrArg ByteArray.mk (congrArg List.toArray ?_)
  simp
  try exact List.take_of_length_le (by simp)
set_option maxRecDepth 100000 in
theorem rt_im_n (w : World) (T : Tabs w) (b : Nat) (d : List UInt8) (e : Int) (n : Nat) (P : List UInt8) (h : RtIn b 9218868437227405311 true true d e n P) (hz : (FloatKind.f64.format.order b 0 == some .eq) = false) (h0 : 1 ≤ d.length) (h1 : d.length ≤ 20) (h2 : -400 ≤ e) (h3 : e ≤ 400) (hc0 : -4 ≤ e) (hc2 : e < 0) :
    Calls Tryz.prog 40 #[.float .f64 b] w (TextPost w (45 :: (48 :: 46 :: (List.replicate (-e - 1).toNat 48 ++ d)))) := by
  go_enter Tryz.func40, Tryz.ntmps40
  go_wp2_with fail
  refine (h.nan _).mono ?_
  rintro e' _ ⟨rfl, rfl⟩
  go_wp2_with fail
  refine (h.sign _).mono ?_
  rintro e' _ ⟨rfl, rfl⟩
  go_wp2_with fail
  refine (h.isInf _).mono ?_
  rintro e' _ ⟨rfl, rfl⟩
  go_wp2_with fail
  refine (h.digits _ T).mono ?_
  rintro e' w1 ⟨rfl, hb⟩
  go_wp2_with fail
  refine (h.zer _ _ (-e - 1).toNat (by omega) (by omega)).mono ?_
  rintro e' _ ⟨rfl, rfl⟩
  go_wp2_with fail
  refine bodyPost_ret (results_tmp rfl _ _ _) rfl ⟨?_, hb⟩
  refine congrArg (fun z => Ending.returned (Value.string z)) ?_
  simp only [ba_extract, show (⟨#[45]⟩ : ByteArray) = ⟨[45].toArray⟩ from rfl, show (⟨#[46]⟩ : ByteArray) = ⟨[46].toArray⟩ from rfl, show (⟨#[48, 46]⟩ : ByteArray) = ⟨[48, 46].toArray⟩ from rfl, show (⟨#[101]⟩ : ByteArray) = ⟨[101].toArray⟩ from rfl, show (⟨#[43]⟩ : ByteArray) = ⟨[43].toArray⟩ from rfl, show (⟨#[48]⟩ : ByteArray) = ⟨[48].toArray⟩ from rfl, show (⟨#[]⟩ : ByteArray) = ⟨[].toArray⟩ from rfl, ba_append]
  refine congrArg ByteArray.mk (congrArg List.toArray ?_)
  simp
  try exact List.take_of_length_le (by simp)
end Go.Proofs.YticaihfcnbehpaaGreatDoor
