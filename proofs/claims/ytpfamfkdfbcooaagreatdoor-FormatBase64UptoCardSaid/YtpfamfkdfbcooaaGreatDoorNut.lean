/- number.Text by its contract. -/
import Derived.Test.YtpfamfkdfbcooaaGreatDoorNuz
set_option linter.unusedVariables false
set_option linter.unusedSimpArgs false
namespace Go.Proofs.YtpfamfkdfbcooaaGreatDoor
open Go Go.RowKit Go.Proofs

/-- What the walk of Text is told of the functions that it calls. -/
structure TextIn (b f : Nat) (inf s : Bool) (d : List UInt8) (e : Int) : Prop where
  nan : ∀ W, Calls Tryz.prog 81 #[.float .f64 b] W fun x w' => x = .returned (.bool false) ∧ W = w'
  isInf : ∀ W, Calls Tryz.prog 109 #[.float .f64 b, .int .i64 0] W fun x w' => x = .returned (.bool inf) ∧ W = w'
  copy : inf = true → ∀ W, Calls Tryz.prog 110 #[.float .f64 9218868437227405311, .float .f64 b] W fun x w' => x = .returned (.float .f64 f) ∧ W = w'
  sign : ∀ W, Calls Tryz.prog 111 #[.float .f64 f] W fun x w' => x = .returned (.bool s) ∧ W = w'
  digits : ∀ W, Tabs W → Calls Tryz.prog 112 #[.float .f64 f] W fun x w' => x = .returned (.tuple #[.string ⟨d.toArray⟩, .int .i64 e]) ∧ Below W.heap.size W w'
  rep : ∀ W (x : Int) (c : Nat), x = (c : Int) → c ≤ 1000 → Calls Tryz.prog 114 #[.string ⟨#[48]⟩, .int .i64 x] W fun e w' => e = .returned (.string ⟨(List.replicate c (48 : UInt8)).toArray⟩) ∧ Below W.heap.size W w'
  pow : ∀ W, Tabs W → Calls Tryz.prog 113 #[.string ⟨d.toArray⟩, .int .i64 e] W fun x w' => x = .returned (.string ⟨(powT d e).toArray⟩) ∧ Below W.heap.size W w'
  powl : (powT d e).length ≤ 1000

def TextPost (w : World) (t : List UInt8) (x : Ending) (w' : World) : Prop := x = .returned (.string ⟨t.toArray⟩) ∧ Below w.heap.size w w'

set_option maxRecDepth 100000 in
theorem tx_fp_p1 (w : World) (T : Tabs w) (b : Nat) (d : List UInt8) (e : Int) (h : TextIn b b false false d e) (hz : (FloatKind.f64.format.order b 0 == some .eq) = false) (h0 : 1 ≤ d.length) (h1 : d.length ≤ 20) (hc : e < -4) :
    Calls Tryz.prog 90 #[.float .f64 b] w (TextPost w (powT d e)) := by
  have hpl := h.powl
  go_enter Tryz.func90, Tryz.ntmps90
  go_wp2_with fail
  refine (h.nan _).mono ?_
  rintro e' _ ⟨rfl, rfl⟩
  go_wp2_with fail
  refine (h.isInf _).mono ?_
  rintro e' _ ⟨rfl, rfl⟩
  go_wp2_with fail
  refine (h.sign _).mono ?_
  rintro e' _ ⟨rfl, rfl⟩
  go_wp2_with fail
  refine (h.digits _ T).mono ?_
  rintro e' w1 ⟨rfl, hb⟩
  go_wp2_with fail
  refine (h.pow _ (T.next hb)).mono ?_
  rintro e' w2 ⟨rfl, hb2⟩
  have hb := Below.also hb hb2
  go_wp2_with fail
  refine bodyPost_ret (results_tmp rfl _ _ _) rfl ⟨?_, hb⟩
  refine congrArg (fun z => Ending.returned (Value.string z)) ?_
  simp only [ba_extract, show (⟨#[45]⟩ : ByteArray) = ⟨[45].toArray⟩ from rfl, show (⟨#[46]⟩ : ByteArray) = ⟨[46].toArray⟩ from rfl, show (⟨#[48, 46]⟩ : ByteArray) = ⟨[48, 46].toArray⟩ from rfl, show (⟨#[48]⟩ : ByteArray) = ⟨[48].toArray⟩ from rfl, show (⟨#[]⟩ : ByteArray) = ⟨[].toArray⟩ from rfl, ba_append]
  refine congrArg ByteArray.mk (congrArg List.toArray ?_)
  simp
  try exact List.take_of_length_le (by simp)

set_option maxRecDepth 100000 in
theorem tx_fp_p2 (w : World) (T : Tabs w) (b : Nat) (d : List UInt8) (e : Int) (h : TextIn b b false false d e) (hz : (FloatKind.f64.format.order b 0 == some .eq) = false) (h0 : 1 ≤ d.length) (h1 : d.length ≤ 20) (hc : (d.length : Int) + 14 < e) :
    Calls Tryz.prog 90 #[.float .f64 b] w (TextPost w (powT d e)) := by
  have hpl := h.powl
  go_enter Tryz.func90, Tryz.ntmps90
  go_wp2_with fail
  refine (h.nan _).mono ?_
  rintro e' _ ⟨rfl, rfl⟩
  go_wp2_with fail
  refine (h.isInf _).mono ?_
  rintro e' _ ⟨rfl, rfl⟩
  go_wp2_with fail
  refine (h.sign _).mono ?_
  rintro e' _ ⟨rfl, rfl⟩
  go_wp2_with fail
  refine (h.digits _ T).mono ?_
  rintro e' w1 ⟨rfl, hb⟩
  go_wp2_with fail
  refine (h.pow _ (T.next hb)).mono ?_
  rintro e' w2 ⟨rfl, hb2⟩
  have hb := Below.also hb hb2
  go_wp2_with fail
  refine bodyPost_ret (results_tmp rfl _ _ _) rfl ⟨?_, hb⟩
  refine congrArg (fun z => Ending.returned (Value.string z)) ?_
  simp only [ba_extract, show (⟨#[45]⟩ : ByteArray) = ⟨[45].toArray⟩ from rfl, show (⟨#[46]⟩ : ByteArray) = ⟨[46].toArray⟩ from rfl, show (⟨#[48, 46]⟩ : ByteArray) = ⟨[48, 46].toArray⟩ from rfl, show (⟨#[48]⟩ : ByteArray) = ⟨[48].toArray⟩ from rfl, show (⟨#[]⟩ : ByteArray) = ⟨[].toArray⟩ from rfl, ba_append]
  refine congrArg ByteArray.mk (congrArg List.toArray ?_)
  simp
  try exact List.take_of_length_le (by simp)

set_option maxRecDepth 100000 in
theorem tx_fp_z (w : World) (T : Tabs w) (b : Nat) (d : List UInt8) (e : Int) (h : TextIn b b false false d e) (hz : (FloatKind.f64.format.order b 0 == some .eq) = false) (h0 : 1 ≤ d.length) (h1 : d.length ≤ 20) (hc0 : -4 ≤ e) (hc1 : e ≤ (d.length : Int) + 14) (hc2 : (d.length : Int) - 1 ≤ e) :
    Calls Tryz.prog 90 #[.float .f64 b] w (TextPost w (d ++ List.replicate (e - d.length + 1).toNat 48)) := by
  have hpl := h.powl
  go_enter Tryz.func90, Tryz.ntmps90
  go_wp2_with fail
  refine (h.nan _).mono ?_
  rintro e' _ ⟨rfl, rfl⟩
  go_wp2_with fail
  refine (h.isInf _).mono ?_
  rintro e' _ ⟨rfl, rfl⟩
  go_wp2_with fail
  refine (h.sign _).mono ?_
  rintro e' _ ⟨rfl, rfl⟩
  go_wp2_with fail
  refine (h.digits _ T).mono ?_
  rintro e' w1 ⟨rfl, hb⟩
  go_wp2_with fail
  refine (h.rep _ _ (e - d.length + 1).toNat (by omega) (by omega)).mono ?_
  rintro e' w2 ⟨rfl, hb2⟩
  have hb := Below.also hb hb2
  go_wp2_with fail
  refine bodyPost_ret (results_tmp rfl _ _ _) rfl ⟨?_, hb⟩
  refine congrArg (fun z => Ending.returned (Value.string z)) ?_
  simp only [ba_extract, show (⟨#[45]⟩ : ByteArray) = ⟨[45].toArray⟩ from rfl, show (⟨#[46]⟩ : ByteArray) = ⟨[46].toArray⟩ from rfl, show (⟨#[48, 46]⟩ : ByteArray) = ⟨[48, 46].toArray⟩ from rfl, show (⟨#[48]⟩ : ByteArray) = ⟨[48].toArray⟩ from rfl, show (⟨#[]⟩ : ByteArray) = ⟨[].toArray⟩ from rfl, ba_append]
  refine congrArg ByteArray.mk (congrArg List.toArray ?_)
  simp
  try exact List.take_of_length_le (by simp)

set_option maxRecDepth 100000 in
theorem tx_fp_m (w : World) (T : Tabs w) (b : Nat) (d : List UInt8) (e : Int) (h : TextIn b b false false d e) (hz : (FloatKind.f64.format.order b 0 == some .eq) = false) (h0 : 1 ≤ d.length) (h1 : d.length ≤ 20) (hc0 : 0 ≤ e) (hc2 : e < (d.length : Int) - 1) :
    Calls Tryz.prog 90 #[.float .f64 b] w (TextPost w (d.take (e + 1).toNat ++ 46 :: d.drop (e + 1).toNat)) := by
  have hpl := h.powl
  go_enter Tryz.func90, Tryz.ntmps90
  go_wp2_with fail
  refine (h.nan _).mono ?_
  rintro e' _ ⟨rfl, rfl⟩
  go_wp2_with fail
  refine (h.isInf _).mono ?_
  rintro e' _ ⟨rfl, rfl⟩
  go_wp2_with fail
  refine (h.sign _).mono ?_
  rintro e' _ ⟨rfl, rfl⟩
  go_wp2_with fail
  refine (h.digits _ T).mono ?_
  rintro e' w1 ⟨rfl, hb⟩
  go_wp2_with fail
  go_quiet (fail)
  go_wp2_with fail
  refine bodyPost_ret (results_tmp rfl _ _ _) rfl ⟨?_, Below.also hb (drewN_below _ _)⟩
  refine congrArg (fun z => Ending.returned (Value.string z)) ?_
  simp only [ba_extract, show (⟨#[45]⟩ : ByteArray) = ⟨[45].toArray⟩ from rfl, show (⟨#[46]⟩ : ByteArray) = ⟨[46].toArray⟩ from rfl, show (⟨#[48, 46]⟩ : ByteArray) = ⟨[48, 46].toArray⟩ from rfl, show (⟨#[48]⟩ : ByteArray) = ⟨[48].toArray⟩ from rfl, show (⟨#[]⟩ : ByteArray) = ⟨[].toArray⟩ from rfl, ba_append]
  refine congrArg ByteArray.mk (congrArg List.toArray ?_)
  simp
  try exact List.take_of_length_le (by simp)

set_option maxRecDepth 100000 in
theorem tx_fp_n (w : World) (T : Tabs w) (b : Nat) (d : List UInt8) (e : Int) (h : TextIn b b false false d e) (hz : (FloatKind.f64.format.order b 0 == some .eq) = false) (h0 : 1 ≤ d.length) (h1 : d.length ≤ 20) (hc0 : -4 ≤ e) (hc2 : e < 0) :
    Calls Tryz.prog 90 #[.float .f64 b] w (TextPost w (48 :: 46 :: (List.replicate (-e - 1).toNat 48 ++ d))) := by
  have hpl := h.powl
  go_enter Tryz.func90, Tryz.ntmps90
  go_wp2_with fail
  refine (h.nan _).mono ?_
  rintro e' _ ⟨rfl, rfl⟩
  go_wp2_with fail
  refine (h.isInf _).mono ?_
  rintro e' _ ⟨rfl, rfl⟩
  go_wp2_with fail
  refine (h.sign _).mono ?_
  rintro e' _ ⟨rfl, rfl⟩
  go_wp2_with fail
  refine (h.digits _ T).mono ?_
  rintro e' w1 ⟨rfl, hb⟩
  go_wp2_with fail
  refine (h.rep _ _ (-e - 1).toNat (by omega) (by omega)).mono ?_
  rintro e' w2 ⟨rfl, hb2⟩
  have hb := Below.also hb hb2
  go_wp2_with fail
  refine bodyPost_ret (results_tmp rfl _ _ _) rfl ⟨?_, hb⟩
  refine congrArg (fun z => Ending.returned (Value.string z)) ?_
  simp only [ba_extract, show (⟨#[45]⟩ : ByteArray) = ⟨[45].toArray⟩ from rfl, show (⟨#[46]⟩ : ByteArray) = ⟨[46].toArray⟩ from rfl, show (⟨#[48, 46]⟩ : ByteArray) = ⟨[48, 46].toArray⟩ from rfl, show (⟨#[48]⟩ : ByteArray) = ⟨[48].toArray⟩ from rfl, show (⟨#[]⟩ : ByteArray) = ⟨[].toArray⟩ from rfl, ba_append]
  refine congrArg ByteArray.mk (congrArg List.toArray ?_)
  simp
  try exact List.take_of_length_le (by simp)

set_option maxRecDepth 100000 in
theorem tx_fm_p1 (w : World) (T : Tabs w) (b : Nat) (d : List UInt8) (e : Int) (h : TextIn b b false true d e) (hz : (FloatKind.f64.format.order b 0 == some .eq) = false) (h0 : 1 ≤ d.length) (h1 : d.length ≤ 20) (hc : e < -4) :
    Calls Tryz.prog 90 #[.float .f64 b] w (TextPost w (45 :: (powT d e))) := by
  have hpl := h.powl
  go_enter Tryz.func90, Tryz.ntmps90
  go_wp2_with fail
  refine (h.nan _).mono ?_
  rintro e' _ ⟨rfl, rfl⟩
  go_wp2_with fail
  refine (h.isInf _).mono ?_
  rintro e' _ ⟨rfl, rfl⟩
  go_wp2_with fail
  refine (h.sign _).mono ?_
  rintro e' _ ⟨rfl, rfl⟩
  go_wp2_with fail
  refine (h.digits _ T).mono ?_
  rintro e' w1 ⟨rfl, hb⟩
  go_wp2_with fail
  refine (h.pow _ (T.next hb)).mono ?_
  rintro e' w2 ⟨rfl, hb2⟩
  have hb := Below.also hb hb2
  go_wp2_with fail
  refine bodyPost_ret (results_tmp rfl _ _ _) rfl ⟨?_, hb⟩
  refine congrArg (fun z => Ending.returned (Value.string z)) ?_
  simp only [ba_extract, show (⟨#[45]⟩ : ByteArray) = ⟨[45].toArray⟩ from rfl, show (⟨#[46]⟩ : ByteArray) = ⟨[46].toArray⟩ from rfl, show (⟨#[48, 46]⟩ : ByteArray) = ⟨[48, 46].toArray⟩ from rfl, show (⟨#[48]⟩ : ByteArray) = ⟨[48].toArray⟩ from rfl, show (⟨#[]⟩ : ByteArray) = ⟨[].toArray⟩ from rfl, ba_append]
  refine congrArg ByteArray.mk (congrArg List.toArray ?_)
  simp
  try exact List.take_of_length_le (by simp)

set_option maxRecDepth 100000 in
theorem tx_fm_p2 (w : World) (T : Tabs w) (b : Nat) (d : List UInt8) (e : Int) (h : TextIn b b false true d e) (hz : (FloatKind.f64.format.order b 0 == some .eq) = false) (h0 : 1 ≤ d.length) (h1 : d.length ≤ 20) (hc : (d.length : Int) + 14 < e) :
    Calls Tryz.prog 90 #[.float .f64 b] w (TextPost w (45 :: (powT d e))) := by
  have hpl := h.powl
  go_enter Tryz.func90, Tryz.ntmps90
  go_wp2_with fail
  refine (h.nan _).mono ?_
  rintro e' _ ⟨rfl, rfl⟩
  go_wp2_with fail
  refine (h.isInf _).mono ?_
  rintro e' _ ⟨rfl, rfl⟩
  go_wp2_with fail
  refine (h.sign _).mono ?_
  rintro e' _ ⟨rfl, rfl⟩
  go_wp2_with fail
  refine (h.digits _ T).mono ?_
  rintro e' w1 ⟨rfl, hb⟩
  go_wp2_with fail
  refine (h.pow _ (T.next hb)).mono ?_
  rintro e' w2 ⟨rfl, hb2⟩
  have hb := Below.also hb hb2
  go_wp2_with fail
  refine bodyPost_ret (results_tmp rfl _ _ _) rfl ⟨?_, hb⟩
  refine congrArg (fun z => Ending.returned (Value.string z)) ?_
  simp only [ba_extract, show (⟨#[45]⟩ : ByteArray) = ⟨[45].toArray⟩ from rfl, show (⟨#[46]⟩ : ByteArray) = ⟨[46].toArray⟩ from rfl, show (⟨#[48, 46]⟩ : ByteArray) = ⟨[48, 46].toArray⟩ from rfl, show (⟨#[48]⟩ : ByteArray) = ⟨[48].toArray⟩ from rfl, show (⟨#[]⟩ : ByteArray) = ⟨[].toArray⟩ from rfl, ba_append]
  refine congrArg ByteArray.mk (congrArg List.toArray ?_)
  simp
  try exact List.take_of_length_le (by simp)

set_option maxRecDepth 100000 in
theorem tx_fm_z (w : World) (T : Tabs w) (b : Nat) (d : List UInt8) (e : Int) (h : TextIn b b false true d e) (hz : (FloatKind.f64.format.order b 0 == some .eq) = false) (h0 : 1 ≤ d.length) (h1 : d.length ≤ 20) (hc0 : -4 ≤ e) (hc1 : e ≤ (d.length : Int) + 14) (hc2 : (d.length : Int) - 1 ≤ e) :
    Calls Tryz.prog 90 #[.float .f64 b] w (TextPost w (45 :: (d ++ List.replicate (e - d.length + 1).toNat 48))) := by
  have hpl := h.powl
  go_enter Tryz.func90, Tryz.ntmps90
  go_wp2_with fail
  refine (h.nan _).mono ?_
  rintro e' _ ⟨rfl, rfl⟩
  go_wp2_with fail
  refine (h.isInf _).mono ?_
  rintro e' _ ⟨rfl, rfl⟩
  go_wp2_with fail
  refine (h.sign _).mono ?_
  rintro e' _ ⟨rfl, rfl⟩
  go_wp2_with fail
  refine (h.digits _ T).mono ?_
  rintro e' w1 ⟨rfl, hb⟩
  go_wp2_with fail
  refine (h.rep _ _ (e - d.length + 1).toNat (by omega) (by omega)).mono ?_
  rintro e' w2 ⟨rfl, hb2⟩
  have hb := Below.also hb hb2
  go_wp2_with fail
  refine bodyPost_ret (results_tmp rfl _ _ _) rfl ⟨?_, hb⟩
  refine congrArg (fun z => Ending.returned (Value.string z)) ?_
  simp only [ba_extract, show (⟨#[45]⟩ : ByteArray) = ⟨[45].toArray⟩ from rfl, show (⟨#[46]⟩ : ByteArray) = ⟨[46].toArray⟩ from rfl, show (⟨#[48, 46]⟩ : ByteArray) = ⟨[48, 46].toArray⟩ from rfl, show (⟨#[48]⟩ : ByteArray) = ⟨[48].toArray⟩ from rfl, show (⟨#[]⟩ : ByteArray) = ⟨[].toArray⟩ from rfl, ba_append]
  refine congrArg ByteArray.mk (congrArg List.toArray ?_)
  simp
  try exact List.take_of_length_le (by simp)

set_option maxRecDepth 100000 in
theorem tx_fm_m (w : World) (T : Tabs w) (b : Nat) (d : List UInt8) (e : Int) (h : TextIn b b false true d e) (hz : (FloatKind.f64.format.order b 0 == some .eq) = false) (h0 : 1 ≤ d.length) (h1 : d.length ≤ 20) (hc0 : 0 ≤ e) (hc2 : e < (d.length : Int) - 1) :
    Calls Tryz.prog 90 #[.float .f64 b] w (TextPost w (45 :: (d.take (e + 1).toNat ++ 46 :: d.drop (e + 1).toNat))) := by
  have hpl := h.powl
  go_enter Tryz.func90, Tryz.ntmps90
  go_wp2_with fail
  refine (h.nan _).mono ?_
  rintro e' _ ⟨rfl, rfl⟩
  go_wp2_with fail
  refine (h.isInf _).mono ?_
  rintro e' _ ⟨rfl, rfl⟩
  go_wp2_with fail
  refine (h.sign _).mono ?_
  rintro e' _ ⟨rfl, rfl⟩
  go_wp2_with fail
  refine (h.digits _ T).mono ?_
  rintro e' w1 ⟨rfl, hb⟩
  go_wp2_with fail
  go_quiet (fail)
  go_wp2_with fail
  refine bodyPost_ret (results_tmp rfl _ _ _) rfl ⟨?_, Below.also hb (drewN_below _ _)⟩
  refine congrArg (fun z => Ending.returned (Value.string z)) ?_
  simp only [ba_extract, show (⟨#[45]⟩ : ByteArray) = ⟨[45].toArray⟩ from rfl, show (⟨#[46]⟩ : ByteArray) = ⟨[46].toArray⟩ from rfl, show (⟨#[48, 46]⟩ : ByteArray) = ⟨[48, 46].toArray⟩ from rfl, show (⟨#[48]⟩ : ByteArray) = ⟨[48].toArray⟩ from rfl, show (⟨#[]⟩ : ByteArray) = ⟨[].toArray⟩ from rfl, ba_append]
  refine congrArg ByteArray.mk (congrArg List.toArray ?_)
  simp
  try exact List.take_of_length_le (by simp)

set_option maxRecDepth 100000 in
theorem tx_fm_n (w : World) (T : Tabs w) (b : Nat) (d : List UInt8) (e : Int) (h : TextIn b b false true d e) (hz : (FloatKind.f64.format.order b 0 == some .eq) = false) (h0 : 1 ≤ d.length) (h1 : d.length ≤ 20) (hc0 : -4 ≤ e) (hc2 : e < 0) :
    Calls Tryz.prog 90 #[.float .f64 b] w (TextPost w (45 :: (48 :: 46 :: (List.replicate (-e - 1).toNat 48 ++ d)))) := by
  have hpl := h.powl
  go_enter Tryz.func90, Tryz.ntmps90
  go_wp2_with fail
  refine (h.nan _).mono ?_
  rintro e' _ ⟨rfl, rfl⟩
  go_wp2_with fail
  refine (h.isInf _).mono ?_
  rintro e' _ ⟨rfl, rfl⟩
  go_wp2_with fail
  refine (h.sign _).mono ?_
  rintro e' _ ⟨rfl, rfl⟩
  go_wp2_with fail
  refine (h.digits _ T).mono ?_
  rintro e' w1 ⟨rfl, hb⟩
  go_wp2_with fail
  refine (h.rep _ _ (-e - 1).toNat (by omega) (by omega)).mono ?_
  rintro e' w2 ⟨rfl, hb2⟩
  have hb := Below.also hb hb2
  go_wp2_with fail
  refine bodyPost_ret (results_tmp rfl _ _ _) rfl ⟨?_, hb⟩
  refine congrArg (fun z => Ending.returned (Value.string z)) ?_
  simp only [ba_extract, show (⟨#[45]⟩ : ByteArray) = ⟨[45].toArray⟩ from rfl, show (⟨#[46]⟩ : ByteArray) = ⟨[46].toArray⟩ from rfl, show (⟨#[48, 46]⟩ : ByteArray) = ⟨[48, 46].toArray⟩ from rfl, show (⟨#[48]⟩ : ByteArray) = ⟨[48].toArray⟩ from rfl, show (⟨#[]⟩ : ByteArray) = ⟨[].toArray⟩ from rfl, ba_append]
  refine congrArg ByteArray.mk (congrArg List.toArray ?_)
  simp
  try exact List.take_of_length_le (by simp)

set_option maxRecDepth 100000 in
theorem tx_ip_p1 (w : World) (T : Tabs w) (b f : Nat) (d : List UInt8) (e : Int) (h : TextIn b f true false d e) (hz : (FloatKind.f64.format.order f 0 == some .eq) = false) (h0 : 1 ≤ d.length) (h1 : d.length ≤ 20) (hc : e < -4) :
    Calls Tryz.prog 90 #[.float .f64 b] w (TextPost w (powT d e)) := by
  have hpl := h.powl
  go_enter Tryz.func90, Tryz.ntmps90
  go_wp2_with fail
  refine (h.nan _).mono ?_
  rintro e' _ ⟨rfl, rfl⟩
  go_wp2_with fail
  refine (h.isInf _).mono ?_
  rintro e' _ ⟨rfl, rfl⟩
  go_wp2_with fail
  refine (h.copy rfl _).mono ?_
  rintro e' _ ⟨rfl, rfl⟩
  go_wp2_with fail
  refine (h.sign _).mono ?_
  rintro e' _ ⟨rfl, rfl⟩
  go_wp2_with fail
  refine (h.digits _ T).mono ?_
  rintro e' w1 ⟨rfl, hb⟩
  go_wp2_with fail
  refine (h.pow _ (T.next hb)).mono ?_
  rintro e' w2 ⟨rfl, hb2⟩
  have hb := Below.also hb hb2
  go_wp2_with fail
  refine bodyPost_ret (results_tmp rfl _ _ _) rfl ⟨?_, hb⟩
  refine congrArg (fun z => Ending.returned (Value.string z)) ?_
  simp only [ba_extract, show (⟨#[45]⟩ : ByteArray) = ⟨[45].toArray⟩ from rfl, show (⟨#[46]⟩ : ByteArray) = ⟨[46].toArray⟩ from rfl, show (⟨#[48, 46]⟩ : ByteArray) = ⟨[48, 46].toArray⟩ from rfl, show (⟨#[48]⟩ : ByteArray) = ⟨[48].toArray⟩ from rfl, show (⟨#[]⟩ : ByteArray) = ⟨[].toArray⟩ from rfl, ba_append]
  refine congrArg ByteArray.mk (congrArg List.toArray ?_)
  simp
  try exact List.take_of_length_le (by simp)

set_option maxRecDepth 100000 in
theorem tx_ip_p2 (w : World) (T : Tabs w) (b f : Nat) (d : List UInt8) (e : Int) (h : TextIn b f true false d e) (hz : (FloatKind.f64.format.order f 0 == some .eq) = false) (h0 : 1 ≤ d.length) (h1 : d.length ≤ 20) (hc : (d.length : Int) + 14 < e) :
    Calls Tryz.prog 90 #[.float .f64 b] w (TextPost w (powT d e)) := by
  have hpl := h.powl
  go_enter Tryz.func90, Tryz.ntmps90
  go_wp2_with fail
  refine (h.nan _).mono ?_
  rintro e' _ ⟨rfl, rfl⟩
  go_wp2_with fail
  refine (h.isInf _).mono ?_
  rintro e' _ ⟨rfl, rfl⟩
  go_wp2_with fail
  refine (h.copy rfl _).mono ?_
  rintro e' _ ⟨rfl, rfl⟩
  go_wp2_with fail
  refine (h.sign _).mono ?_
  rintro e' _ ⟨rfl, rfl⟩
  go_wp2_with fail
  refine (h.digits _ T).mono ?_
  rintro e' w1 ⟨rfl, hb⟩
  go_wp2_with fail
  refine (h.pow _ (T.next hb)).mono ?_
  rintro e' w2 ⟨rfl, hb2⟩
  have hb := Below.also hb hb2
  go_wp2_with fail
  refine bodyPost_ret (results_tmp rfl _ _ _) rfl ⟨?_, hb⟩
  refine congrArg (fun z => Ending.returned (Value.string z)) ?_
  simp only [ba_extract, show (⟨#[45]⟩ : ByteArray) = ⟨[45].toArray⟩ from rfl, show (⟨#[46]⟩ : ByteArray) = ⟨[46].toArray⟩ from rfl, show (⟨#[48, 46]⟩ : ByteArray) = ⟨[48, 46].toArray⟩ from rfl, show (⟨#[48]⟩ : ByteArray) = ⟨[48].toArray⟩ from rfl, show (⟨#[]⟩ : ByteArray) = ⟨[].toArray⟩ from rfl, ba_append]
  refine congrArg ByteArray.mk (congrArg List.toArray ?_)
  simp
  try exact List.take_of_length_le (by simp)

set_option maxRecDepth 100000 in
theorem tx_ip_z (w : World) (T : Tabs w) (b f : Nat) (d : List UInt8) (e : Int) (h : TextIn b f true false d e) (hz : (FloatKind.f64.format.order f 0 == some .eq) = false) (h0 : 1 ≤ d.length) (h1 : d.length ≤ 20) (hc0 : -4 ≤ e) (hc1 : e ≤ (d.length : Int) + 14) (hc2 : (d.length : Int) - 1 ≤ e) :
    Calls Tryz.prog 90 #[.float .f64 b] w (TextPost w (d ++ List.replicate (e - d.length + 1).toNat 48)) := by
  have hpl := h.powl
  go_enter Tryz.func90, Tryz.ntmps90
  go_wp2_with fail
  refine (h.nan _).mono ?_
  rintro e' _ ⟨rfl, rfl⟩
  go_wp2_with fail
  refine (h.isInf _).mono ?_
  rintro e' _ ⟨rfl, rfl⟩
  go_wp2_with fail
  refine (h.copy rfl _).mono ?_
  rintro e' _ ⟨rfl, rfl⟩
  go_wp2_with fail
  refine (h.sign _).mono ?_
  rintro e' _ ⟨rfl, rfl⟩
  go_wp2_with fail
  refine (h.digits _ T).mono ?_
  rintro e' w1 ⟨rfl, hb⟩
  go_wp2_with fail
  refine (h.rep _ _ (e - d.length + 1).toNat (by omega) (by omega)).mono ?_
  rintro e' w2 ⟨rfl, hb2⟩
  have hb := Below.also hb hb2
  go_wp2_with fail
  refine bodyPost_ret (results_tmp rfl _ _ _) rfl ⟨?_, hb⟩
  refine congrArg (fun z => Ending.returned (Value.string z)) ?_
  simp only [ba_extract, show (⟨#[45]⟩ : ByteArray) = ⟨[45].toArray⟩ from rfl, show (⟨#[46]⟩ : ByteArray) = ⟨[46].toArray⟩ from rfl, show (⟨#[48, 46]⟩ : ByteArray) = ⟨[48, 46].toArray⟩ from rfl, show (⟨#[48]⟩ : ByteArray) = ⟨[48].toArray⟩ from rfl, show (⟨#[]⟩ : ByteArray) = ⟨[].toArray⟩ from rfl, ba_append]
  refine congrArg ByteArray.mk (congrArg List.toArray ?_)
  simp
  try exact List.take_of_length_le (by simp)

set_option maxRecDepth 100000 in
theorem tx_ip_m (w : World) (T : Tabs w) (b f : Nat) (d : List UInt8) (e : Int) (h : TextIn b f true false d e) (hz : (FloatKind.f64.format.order f 0 == some .eq) = false) (h0 : 1 ≤ d.length) (h1 : d.length ≤ 20) (hc0 : 0 ≤ e) (hc2 : e < (d.length : Int) - 1) :
    Calls Tryz.prog 90 #[.float .f64 b] w (TextPost w (d.take (e + 1).toNat ++ 46 :: d.drop (e + 1).toNat)) := by
  have hpl := h.powl
  go_enter Tryz.func90, Tryz.ntmps90
  go_wp2_with fail
  refine (h.nan _).mono ?_
  rintro e' _ ⟨rfl, rfl⟩
  go_wp2_with fail
  refine (h.isInf _).mono ?_
  rintro e' _ ⟨rfl, rfl⟩
  go_wp2_with fail
  refine (h.copy rfl _).mono ?_
  rintro e' _ ⟨rfl, rfl⟩
  go_wp2_with fail
  refine (h.sign _).mono ?_
  rintro e' _ ⟨rfl, rfl⟩
  go_wp2_with fail
  refine (h.digits _ T).mono ?_
  rintro e' w1 ⟨rfl, hb⟩
  go_wp2_with fail
  go_quiet (fail)
  go_wp2_with fail
  refine bodyPost_ret (results_tmp rfl _ _ _) rfl ⟨?_, Below.also hb (drewN_below _ _)⟩
  refine congrArg (fun z => Ending.returned (Value.string z)) ?_
  simp only [ba_extract, show (⟨#[45]⟩ : ByteArray) = ⟨[45].toArray⟩ from rfl, show (⟨#[46]⟩ : ByteArray) = ⟨[46].toArray⟩ from rfl, show (⟨#[48, 46]⟩ : ByteArray) = ⟨[48, 46].toArray⟩ from rfl, show (⟨#[48]⟩ : ByteArray) = ⟨[48].toArray⟩ from rfl, show (⟨#[]⟩ : ByteArray) = ⟨[].toArray⟩ from rfl, ba_append]
  refine congrArg ByteArray.mk (congrArg List.toArray ?_)
  simp
  try exact List.take_of_length_le (by simp)

set_option maxRecDepth 100000 in
theorem tx_ip_n (w : World) (T : Tabs w) (b f : Nat) (d : List UInt8) (e : Int) (h : TextIn b f true false d e) (hz : (FloatKind.f64.format.order f 0 == some .eq) = false) (h0 : 1 ≤ d.length) (h1 : d.length ≤ 20) (hc0 : -4 ≤ e) (hc2 : e < 0) :
    Calls Tryz.prog 90 #[.float .f64 b] w (TextPost w (48 :: 46 :: (List.replicate (-e - 1).toNat 48 ++ d))) := by
  have hpl := h.powl
  go_enter Tryz.func90, Tryz.ntmps90
  go_wp2_with fail
  refine (h.nan _).mono ?_
  rintro e' _ ⟨rfl, rfl⟩
  go_wp2_with fail
  refine (h.isInf _).mono ?_
  rintro e' _ ⟨rfl, rfl⟩
  go_wp2_with fail
  refine (h.copy rfl _).mono ?_
  rintro e' _ ⟨rfl, rfl⟩
  go_wp2_with fail
  refine (h.sign _).mono ?_
  rintro e' _ ⟨rfl, rfl⟩
  go_wp2_with fail
  refine (h.digits _ T).mono ?_
  rintro e' w1 ⟨rfl, hb⟩
  go_wp2_with fail
  refine (h.rep _ _ (-e - 1).toNat (by omega) (by omega)).mono ?_
  rintro e' w2 ⟨rfl, hb2⟩
  have hb := Below.also hb hb2
  go_wp2_with fail
  refine bodyPost_ret (results_tmp rfl _ _ _) rfl ⟨?_, hb⟩
  refine congrArg (fun z => Ending.returned (Value.string z)) ?_
  simp only [ba_extract, show (⟨#[45]⟩ : ByteArray) = ⟨[45].toArray⟩ from rfl, show (⟨#[46]⟩ : ByteArray) = ⟨[46].toArray⟩ from rfl, show (⟨#[48, 46]⟩ : ByteArray) = ⟨[48, 46].toArray⟩ from rfl, show (⟨#[48]⟩ : ByteArray) = ⟨[48].toArray⟩ from rfl, show (⟨#[]⟩ : ByteArray) = ⟨[].toArray⟩ from rfl, ba_append]
  refine congrArg ByteArray.mk (congrArg List.toArray ?_)
  simp
  try exact List.take_of_length_le (by simp)

set_option maxRecDepth 100000 in
theorem tx_im_p1 (w : World) (T : Tabs w) (b f : Nat) (d : List UInt8) (e : Int) (h : TextIn b f true true d e) (hz : (FloatKind.f64.format.order f 0 == some .eq) = false) (h0 : 1 ≤ d.length) (h1 : d.length ≤ 20) (hc : e < -4) :
    Calls Tryz.prog 90 #[.float .f64 b] w (TextPost w (45 :: (powT d e))) := by
  have hpl := h.powl
  go_enter Tryz.func90, Tryz.ntmps90
  go_wp2_with fail
  refine (h.nan _).mono ?_
  rintro e' _ ⟨rfl, rfl⟩
  go_wp2_with fail
  refine (h.isInf _).mono ?_
  rintro e' _ ⟨rfl, rfl⟩
  go_wp2_with fail
  refine (h.copy rfl _).mono ?_
  rintro e' _ ⟨rfl, rfl⟩
  go_wp2_with fail
  refine (h.sign _).mono ?_
  rintro e' _ ⟨rfl, rfl⟩
  go_wp2_with fail
  refine (h.digits _ T).mono ?_
  rintro e' w1 ⟨rfl, hb⟩
  go_wp2_with fail
  refine (h.pow _ (T.next hb)).mono ?_
  rintro e' w2 ⟨rfl, hb2⟩
  have hb := Below.also hb hb2
  go_wp2_with fail
  refine bodyPost_ret (results_tmp rfl _ _ _) rfl ⟨?_, hb⟩
  refine congrArg (fun z => Ending.returned (Value.string z)) ?_
  simp only [ba_extract, show (⟨#[45]⟩ : ByteArray) = ⟨[45].toArray⟩ from rfl, show (⟨#[46]⟩ : ByteArray) = ⟨[46].toArray⟩ from rfl, show (⟨#[48, 46]⟩ : ByteArray) = ⟨[48, 46].toArray⟩ from rfl, show (⟨#[48]⟩ : ByteArray) = ⟨[48].toArray⟩ from rfl, show (⟨#[]⟩ : ByteArray) = ⟨[].toArray⟩ from rfl, ba_append]
  refine congrArg ByteArray.mk (congrArg List.toArray ?_)
  simp
  try exact List.take_of_length_le (by simp)

set_option maxRecDepth 100000 in
theorem tx_im_p2 (w : World) (T : Tabs w) (b f : Nat) (d : List UInt8) (e : Int) (h : TextIn b f true true d e) (hz : (FloatKind.f64.format.order f 0 == some .eq) = false) (h0 : 1 ≤ d.length) (h1 : d.length ≤ 20) (hc : (d.length : Int) + 14 < e) :
    Calls Tryz.prog 90 #[.float .f64 b] w (TextPost w (45 :: (powT d e))) := by
  have hpl := h.powl
  go_enter Tryz.func90, Tryz.ntmps90
  go_wp2_with fail
  refine (h.nan _).mono ?_
  rintro e' _ ⟨rfl, rfl⟩
  go_wp2_with fail
  refine (h.isInf _).mono ?_
  rintro e' _ ⟨rfl, rfl⟩
  go_wp2_with fail
  refine (h.copy rfl _).mono ?_
  rintro e' _ ⟨rfl, rfl⟩
  go_wp2_with fail
  refine (h.sign _).mono ?_
  rintro e' _ ⟨rfl, rfl⟩
  go_wp2_with fail
  refine (h.digits _ T).mono ?_
  rintro e' w1 ⟨rfl, hb⟩
  go_wp2_with fail
  refine (h.pow _ (T.next hb)).mono ?_
  rintro e' w2 ⟨rfl, hb2⟩
  have hb := Below.also hb hb2
  go_wp2_with fail
  refine bodyPost_ret (results_tmp rfl _ _ _) rfl ⟨?_, hb⟩
  refine congrArg (fun z => Ending.returned (Value.string z)) ?_
  simp only [ba_extract, show (⟨#[45]⟩ : ByteArray) = ⟨[45].toArray⟩ from rfl, show (⟨#[46]⟩ : ByteArray) = ⟨[46].toArray⟩ from rfl, show (⟨#[48, 46]⟩ : ByteArray) = ⟨[48, 46].toArray⟩ from rfl, show (⟨#[48]⟩ : ByteArray) = ⟨[48].toArray⟩ from rfl, show (⟨#[]⟩ : ByteArray) = ⟨[].toArray⟩ from rfl, ba_append]
  refine congrArg ByteArray.mk (congrArg List.toArray ?_)
  simp
  try exact List.take_of_length_le (by simp)

set_option maxRecDepth 100000 in
theorem tx_im_z (w : World) (T : Tabs w) (b f : Nat) (d : List UInt8) (e : Int) (h : TextIn b f true true d e) (hz : (FloatKind.f64.format.order f 0 == some .eq) = false) (h0 : 1 ≤ d.length) (h1 : d.length ≤ 20) (hc0 : -4 ≤ e) (hc1 : e ≤ (d.length : Int) + 14) (hc2 : (d.length : Int) - 1 ≤ e) :
    Calls Tryz.prog 90 #[.float .f64 b] w (TextPost w (45 :: (d ++ List.replicate (e - d.length + 1).toNat 48))) := by
  have hpl := h.powl
  go_enter Tryz.func90, Tryz.ntmps90
  go_wp2_with fail
  refine (h.nan _).mono ?_
  rintro e' _ ⟨rfl, rfl⟩
  go_wp2_with fail
  refine (h.isInf _).mono ?_
  rintro e' _ ⟨rfl, rfl⟩
  go_wp2_with fail
  refine (h.copy rfl _).mono ?_
  rintro e' _ ⟨rfl, rfl⟩
  go_wp2_with fail
  refine (h.sign _).mono ?_
  rintro e' _ ⟨rfl, rfl⟩
  go_wp2_with fail
  refine (h.digits _ T).mono ?_
  rintro e' w1 ⟨rfl, hb⟩
  go_wp2_with fail
  refine (h.rep _ _ (e - d.length + 1).toNat (by omega) (by omega)).mono ?_
  rintro e' w2 ⟨rfl, hb2⟩
  have hb := Below.also hb hb2
  go_wp2_with fail
  refine bodyPost_ret (results_tmp rfl _ _ _) rfl ⟨?_, hb⟩
  refine congrArg (fun z => Ending.returned (Value.string z)) ?_
  simp only [ba_extract, show (⟨#[45]⟩ : ByteArray) = ⟨[45].toArray⟩ from rfl, show (⟨#[46]⟩ : ByteArray) = ⟨[46].toArray⟩ from rfl, show (⟨#[48, 46]⟩ : ByteArray) = ⟨[48, 46].toArray⟩ from rfl, show (⟨#[48]⟩ : ByteArray) = ⟨[48].toArray⟩ from rfl, show (⟨#[]⟩ : ByteArray) = ⟨[].toArray⟩ from rfl, ba_append]
  refine congrArg ByteArray.mk (congrArg List.toArray ?_)
  simp
  try exact List.take_of_length_le (by simp)

set_option maxRecDepth 100000 in
theorem tx_im_m (w : World) (T : Tabs w) (b f : Nat) (d : List UInt8) (e : Int) (h : TextIn b f true true d e) (hz : (FloatKind.f64.format.order f 0 == some .eq) = false) (h0 : 1 ≤ d.length) (h1 : d.length ≤ 20) (hc0 : 0 ≤ e) (hc2 : e < (d.length : Int) - 1) :
    Calls Tryz.prog 90 #[.float .f64 b] w (TextPost w (45 :: (d.take (e + 1).toNat ++ 46 :: d.drop (e + 1).toNat))) := by
  have hpl := h.powl
  go_enter Tryz.func90, Tryz.ntmps90
  go_wp2_with fail
  refine (h.nan _).mono ?_
  rintro e' _ ⟨rfl, rfl⟩
  go_wp2_with fail
  refine (h.isInf _).mono ?_
  rintro e' _ ⟨rfl, rfl⟩
  go_wp2_with fail
  refine (h.copy rfl _).mono ?_
  rintro e' _ ⟨rfl, rfl⟩
  go_wp2_with fail
  refine (h.sign _).mono ?_
  rintro e' _ ⟨rfl, rfl⟩
  go_wp2_with fail
  refine (h.digits _ T).mono ?_
  rintro e' w1 ⟨rfl, hb⟩
  go_wp2_with fail
  go_quiet (fail)
  go_wp2_with fail
  refine bodyPost_ret (results_tmp rfl _ _ _) rfl ⟨?_, Below.also hb (drewN_below _ _)⟩
  refine congrArg (fun z => Ending.returned (Value.string z)) ?_
  simp only [ba_extract, show (⟨#[45]⟩ : ByteArray) = ⟨[45].toArray⟩ from rfl, show (⟨#[46]⟩ : ByteArray) = ⟨[46].toArray⟩ from rfl, show (⟨#[48, 46]⟩ : ByteArray) = ⟨[48, 46].toArray⟩ from rfl, show (⟨#[48]⟩ : ByteArray) = ⟨[48].toArray⟩ from rfl, show (⟨#[]⟩ : ByteArray) = ⟨[].toArray⟩ from rfl, ba_append]
  refine congrArg ByteArray.mk (congrArg List.toArray ?_)
  simp
  try exact List.take_of_length_le (by simp)

set_option maxRecDepth 100000 in
theorem tx_im_n (w : World) (T : Tabs w) (b f : Nat) (d : List UInt8) (e : Int) (h : TextIn b f true true d e) (hz : (FloatKind.f64.format.order f 0 == some .eq) = false) (h0 : 1 ≤ d.length) (h1 : d.length ≤ 20) (hc0 : -4 ≤ e) (hc2 : e < 0) :
    Calls Tryz.prog 90 #[.float .f64 b] w (TextPost w (45 :: (48 :: 46 :: (List.replicate (-e - 1).toNat 48 ++ d)))) := by
  have hpl := h.powl
  go_enter Tryz.func90, Tryz.ntmps90
  go_wp2_with fail
  refine (h.nan _).mono ?_
  rintro e' _ ⟨rfl, rfl⟩
  go_wp2_with fail
  refine (h.isInf _).mono ?_
  rintro e' _ ⟨rfl, rfl⟩
  go_wp2_with fail
  refine (h.copy rfl _).mono ?_
  rintro e' _ ⟨rfl, rfl⟩
  go_wp2_with fail
  refine (h.sign _).mono ?_
  rintro e' _ ⟨rfl, rfl⟩
  go_wp2_with fail
  refine (h.digits _ T).mono ?_
  rintro e' w1 ⟨rfl, hb⟩
  go_wp2_with fail
  refine (h.rep _ _ (-e - 1).toNat (by omega) (by omega)).mono ?_
  rintro e' w2 ⟨rfl, hb2⟩
  have hb := Below.also hb hb2
  go_wp2_with fail
  refine bodyPost_ret (results_tmp rfl _ _ _) rfl ⟨?_, hb⟩
  refine congrArg (fun z => Ending.returned (Value.string z)) ?_
  simp only [ba_extract, show (⟨#[45]⟩ : ByteArray) = ⟨[45].toArray⟩ from rfl, show (⟨#[46]⟩ : ByteArray) = ⟨[46].toArray⟩ from rfl, show (⟨#[48, 46]⟩ : ByteArray) = ⟨[48, 46].toArray⟩ from rfl, show (⟨#[48]⟩ : ByteArray) = ⟨[48].toArray⟩ from rfl, show (⟨#[]⟩ : ByteArray) = ⟨[].toArray⟩ from rfl, ba_append]
  refine congrArg ByteArray.mk (congrArg List.toArray ?_)
  simp
  try exact List.take_of_length_le (by simp)
end Go.Proofs.YtpfamfkdfbcooaaGreatDoor
