/- In one text: format.uri$1: what a byte is written as in a URI.; format.mapped and format.uri.; format.Format of any value: what its branches have in common. -/
import Derived.Test.YtpfamfkdfbcooaaGreatDoorFsq
import Derived.Test.YtpfamfkdfbcooaaGreatDoorRac
import Derived.Test.YtpfamfkdfbcooaaGreatDoorFfm
set_option linter.unusedVariables false
set_option linter.unusedSimpArgs false
/- format.uri$1: what a byte is written as in a URI. -/
namespace Go.Proofs.YtpfamfkdfbcooaaGreatDoor
open Go Go.RowKit Go.Proofs
theorem uri_bits (c : UInt8) : bits BinOp.or IntKind.u8 (c.toNat : Int) 32 = ((c ||| 32).toNat : Int) ∧ keptB c = ((decide (97 ≤ (c ||| 32).toNat) && decide ((c ||| 32).toNat ≤ 122)) || (decide (48 ≤ c.toNat) && decide (c.toNat ≤ 57)) || decide (0 ≤ Lib.indexByte [45, 95, 46, 126] c)) := by
  have key : ∀ n : Fin 256, bits BinOp.or IntKind.u8 ((UInt8.ofNat n.val).toNat : Int) 32 = ((UInt8.ofNat n.val ||| 32).toNat : Int) ∧ keptB (UInt8.ofNat n.val) = ((decide (97 ≤ (UInt8.ofNat n.val ||| 32).toNat) && decide ((UInt8.ofNat n.val ||| 32).toNat ≤ 122)) || (decide (48 ≤ (UInt8.ofNat n.val).toNat) && decide ((UInt8.ofNat n.val).toNat ≤ 57)) || decide (0 ≤ Lib.indexByte [45, 95, 46, 126] (UInt8.ofNat n.val))) := by decide +kernel
  have := key ⟨c.toNat, c.toNat_lt⟩
  simpa using this
set_option maxHeartbeats 4000000 in
set_option maxRecDepth 100000 in
theorem uri1_kept (w : World) (c : UInt8) (h : keptB c = true) :
    Calls Tryz.prog 69 #[.int .u8 c.toNat] w fun e w' => e = .returned (.string ⟨#[c]⟩) ∧ Below w.heap.size w w' := by
  obtain ⟨hb, hk⟩ := uri_bits c
  rw [h] at hk
  have HI : Hid (∀ W, Calls Tryz.prog 70 #[.string ⟨#[45, 95, 46, 126]⟩, .int .u8 c.toNat] W fun e w' => e = .returned (.int .i64 (Lib.indexByte [45, 95, 46, 126] c)) ∧ w' = W) := Lib.hid (fun W => by
    have := Tryz.strings_IndexByte ⟨#[45, 95, 46, 126]⟩ c.toNat W
    simpa using this)
  obtain ⟨x, hx⟩ : ∃ x, x = Lib.indexByte [45, 95, 46, 126] c := ⟨_, rfl⟩
  obtain ⟨O, hO⟩ : ∃ O, O = (c ||| 32).toNat := ⟨_, rfl⟩
  obtain ⟨n, hn⟩ : ∃ n, n = c.toNat := ⟨_, rfl⟩
  rw [← hx] at hk HI
  rw [← hO] at hk hb
  rw [← hn] at hk hb HI ⊢
  have h128 : n < 128 := by
    have key : ∀ n : Fin 256, keptB (UInt8.ofNat n.val) = true → n.val < 128 := by decide +kernel
    have h2 : c.toNat < 128 := key ⟨c.toNat, c.toNat_lt⟩ (by simpa using h)
    omega
  have HC : Hid ((⟨#[c]⟩ : ByteArray) = Utf8.encode n) := Lib.hid (by
    have key : ∀ n : Fin 128, (#[UInt8.ofNat n.val] : Array UInt8) = (Utf8.encode (n.val : Int)).data := by decide +kernel
    have e : UInt8.ofNat n = c := by rw [hn]; simp
    have := key ⟨n, h128⟩
    dsimp only at this
    rw [e] at this
    exact ByteArray.ext this)
  rw [HC.out]
  clear hx hO hn h HC
  by_cases a1 : 97 ≤ O
  all_goals by_cases a2 : O ≤ 122
  all_goals by_cases a3 : 48 ≤ n
  all_goals by_cases a4 : n ≤ 57
  all_goals by_cases a5 : 0 ≤ x
  all_goals simp only [a1, a2, a3, a4, a5, decide_true, decide_false, Bool.and_true, Bool.and_false, Bool.or_true, Bool.or_false, Bool.true_eq_false] at hk
  all_goals
    have t1 : decide ((97 : Int) ≤ (O : Int)) = decide (97 ≤ O) := by congr 1; simp; omega
    have t2 : decide ((O : Int) ≤ 122) = decide (O ≤ 122) := by congr 1; simp; omega
    have t3 : decide ((48 : Int) ≤ (n : Int)) = decide (48 ≤ n) := by congr 1; simp; omega
    have t4 : decide ((n : Int) ≤ 57) = decide (n ≤ 57) := by congr 1; simp; omega
    simp only [a1, a2, a3, a4, decide_true, decide_false] at t1 t2 t3 t4
    go_enter Tryz.func69, Tryz.ntmps69
    go_wp2_with (go_at_call 70; refine (HI.out _).mono ?_; rintro e' w3 ⟨rfl, rfl⟩)
    go_ret
    exact ⟨rfl, Below.refl _ _⟩
theorem hexU_at (j : Nat) (hj : j < 16) (h : j < ByteArray.size ⟨#[48, 49, 50, 51, 52, 53, 54, 55, 56, 57, 65, 66, 67, 68, 69, 70]⟩) : ((⟨#[48, 49, 50, 51, 52, 53, 54, 55, 56, 57, 65, 66, 67, 68, 69, 70]⟩ : ByteArray)[j]'h).toNat = (hexU j).toNat := by
  have key : ∀ j : Fin 16, ((⟨#[48, 49, 50, 51, 52, 53, 54, 55, 56, 57, 65, 66, 67, 68, 69, 70]⟩ : ByteArray)[j.val]'j.isLt).toNat = (hexU j.val).toNat := by decide +kernel
  exact key ⟨j, hj⟩
set_option maxHeartbeats 4000000 in
set_option maxRecDepth 100000 in
theorem uri1_esc (w : World) (c : UInt8) (h : keptB c = false) :
    Calls Tryz.prog 69 #[.int .u8 c.toNat] w fun e w' => e = .returned (.string ⟨#[37, hexU (c.toNat / 16), hexU (c.toNat % 16)]⟩) ∧ Below w.heap.size w w' := by
  obtain ⟨hb, hk⟩ := uri_bits c
  rw [h] at hk
  have HI : Hid (∀ W, Calls Tryz.prog 70 #[.string ⟨#[45, 95, 46, 126]⟩, .int .u8 c.toNat] W fun e w' => e = .returned (.int .i64 (Lib.indexByte [45, 95, 46, 126] c)) ∧ w' = W) := Lib.hid (fun W => by
    have := Tryz.strings_IndexByte ⟨#[45, 95, 46, 126]⟩ c.toNat W
    simpa using this)
  obtain ⟨x, hx⟩ : ∃ x, x = Lib.indexByte [45, 95, 46, 126] c := ⟨_, rfl⟩
  obtain ⟨O, hO⟩ : ∃ O, O = (c ||| 32).toNat := ⟨_, rfl⟩
  have hn256 := c.toNat_lt
  obtain ⟨n, hn⟩ : ∃ n, n = c.toNat := ⟨_, rfl⟩
  rw [← hx] at hk HI
  rw [← hO] at hk hb
  rw [← hn] at hk hb HI hn256 ⊢
  clear hx hO hn h
  have hi := hexU_at (n / 16) (by omega)
  have lo := hexU_at (n % 16) (by omega)
  have kg : ∀ (W : World) (k : Nat), W.heap[k]? = some (.cells #[.int .u8 37, .int .u8 (hexU (n / 16)).toNat, .int .u8 (hexU (n % 16)).toNat] 5 (0, 0)) → (convert 60 9 (.slice (some ⟨k, 0, none⟩) 3 3)).run Tryz.prog W = .ok (.string ⟨#[37, hexU (n / 16), hexU (n % 16)]⟩) W := fun W k hh => by
    refine Lib.run_convert_whole W _ _ _ Tryz.underlying60 Tryz.underlying5 Tryz.underlying9 k 0 ⟨#[37, hexU (n / 16), hexU (n % 16)]⟩ ?_ 3
    intro i hi
    have hi3 : i < 3 := hi
    match i, hi3 with
    | 0, _ => exact Go.Proofs.YtpfamfkdfbcooaaGreatDoor.cell_of_heap (j := 0) hh rfl
    | 1, _ => exact Go.Proofs.YtpfamfkdfbcooaaGreatDoor.cell_of_heap (j := 1) hh rfl
    | 2, _ => exact Go.Proofs.YtpfamfkdfbcooaaGreatDoor.cell_of_heap (j := 2) hh rfl
  have kc : ∀ W : World, (convert 60 9 (.slice (some ⟨W.heap.size, 0, none⟩) 3 3)).run Tryz.prog (W.alloc (.cells #[.int .u8 37, .int .u8 (hexU (n / 16)).toNat, .int .u8 (hexU (n % 16)).toNat] 5)) = .ok (.string ⟨#[37, hexU (n / 16), hexU (n % 16)]⟩) (W.alloc (.cells #[.int .u8 37, .int .u8 (hexU (n / 16)).toNat, .int .u8 (hexU (n % 16)).toNat] 5)) := fun W => kg _ _ (heap_alloc_new W _)
  have kd : ∀ W : World, (convert 60 9 (.slice (some ⟨W.heap.size, 0, none⟩) 3 3)).run Tryz.prog (W.alloc (.cells #[.int .u8 37, .int .u8 (hexU (n / 16)).toNat, .int .u8 (hexU (n % 16)).toNat] 5)).drew = .ok (.string ⟨#[37, hexU (n / 16), hexU (n % 16)]⟩) (W.alloc (.cells #[.int .u8 37, .int .u8 (hexU (n / 16)).toNat, .int .u8 (hexU (n % 16)).toNat] 5)).drew := fun W => kg _ _ (hlBelow (Below.refl _ _).drew (heap_alloc_new W _))
  clear kg
  obtain ⟨H1, hH1⟩ : ∃ H1, H1 = hexU (n / 16) := ⟨_, rfl⟩
  obtain ⟨H2, hH2⟩ : ∃ H2, H2 = hexU (n % 16) := ⟨_, rfl⟩
  rw [← hH1, ← hH2] at kc kd ⊢
  rw [← hH1] at hi
  rw [← hH2] at lo
  clear hH1 hH2
  obtain ⟨m1, hm1⟩ : ∃ m1, m1 = n / 16 := ⟨_, rfl⟩
  obtain ⟨m2, hm2⟩ : ∃ m2, m2 = n % 16 := ⟨_, rfl⟩
  have e1 : (n : Int) / 16 = (m1 : Int) := by omega
  have e2 : (n : Int) % 16 = (m2 : Int) := by omega
  have b1 : m1 < 16 := by omega
  have b2 : m2 < 16 := by omega
  have c1 : (m1 : Int) < 16 := by omega
  have c2 : (m2 : Int) < 16 := by omega
  rw [← hm1] at hi
  rw [← hm2] at lo
  clear hm1 hm2
  by_cases a1 : 97 ≤ O
  all_goals by_cases a2 : O ≤ 122
  all_goals by_cases a3 : 48 ≤ n
  all_goals by_cases a4 : n ≤ 57
  all_goals by_cases a5 : 0 ≤ x
  all_goals simp only [a1, a2, a3, a4, a5, decide_true, decide_false, Bool.and_true, Bool.and_false, Bool.or_true, Bool.or_false, Bool.false_eq_true, Bool.true_eq_false] at hk
  all_goals
    have t1 : decide ((97 : Int) ≤ (O : Int)) = decide (97 ≤ O) := by congr 1; simp; omega
    have t2 : decide ((O : Int) ≤ 122) = decide (O ≤ 122) := by congr 1; simp; omega
    have t3 : decide ((48 : Int) ≤ (n : Int)) = decide (48 ≤ n) := by congr 1; simp; omega
    have t4 : decide ((n : Int) ≤ 57) = decide (n ≤ 57) := by congr 1; simp; omega
    simp only [a1, a2, a3, a4, decide_true, decide_false] at t1 t2 t3 t4
    go_enter Tryz.func69, Tryz.ntmps69
    go_upto_region 3 with (go_at_call 70; refine (HI.out _).mono ?_; rintro e' w3 ⟨rfl, rfl⟩)
    all_goals
      have hbw : ∀ (W : World), Below w3.heap.size w3 W → ∀ o, Below w3.heap.size w3 (W.alloc o) := fun W hW o => hW.alloc hW.size o
      go_region
      go_wp2_with fail
      go_ret
      exact ⟨rfl, by first | exact (hbw _ (Below.refl _ _) _).drew | exact hbw _ (Below.refl _ _) _ | exact hbw _ (Below.refl _ _).drew _⟩
end Go.Proofs.YtpfamfkdfbcooaaGreatDoor
/- format.mapped and format.uri. -/
namespace Go.Proofs.YtpfamfkdfbcooaaGreatDoor
open Go Go.RowKit Go.Proofs
theorem uri1_any (w : World) (c : UInt8) : Calls Tryz.prog 69 #[.int .u8 c.toNat] w fun e w' => e = .returned (.string ⟨(uriE c).toArray⟩) ∧ Below w.heap.size w w' := by
  unfold uriE
  cases h : keptB c with
  | true => rw [if_pos rfl]; exact uri1_kept w c h
  | false => rw [if_neg (by decide)]; exact uri1_esc w c h
theorem uriE_length (c : UInt8) : (uriE c).length ≤ 3 := by unfold uriE; split <;> simp
set_option maxHeartbeats 1000000 in
set_option maxRecDepth 100000 in
theorem mapped_uri (w : World) (s : List UInt8) (hs : s.length ≤ 1200000000) :
    Calls Tryz.prog 68 #[.string ⟨s.toArray⟩, .func (.func 69) #[] #[]] w fun e w' => e = .returned (.string ⟨(s.flatMap uriE).toArray⟩) ∧ Below w.heap.size w w' := by
  have hB := bw_new w
  obtain ⟨W0, hW0⟩ : ∃ W0, W0 = w.alloc (.cells #[.pointer none, .slice none 0 0] 80) := ⟨_, rfl⟩
  have hb0 : Below w.heap.size w W0 := by rw [hW0]; exact (Below.refl _ _).alloc (Nat.le_refl _) _
  rw [← hW0] at hB
  have HW := Lib.hid hW0
  have HB := Lib.hid hB
  have HI0 : Hid (([] : List UInt8) ++ (s.drop 0).flatMap uriE = s.flatMap uriE) := Lib.hid rfl
  have hsz : (⟨s.toArray⟩ : ByteArray).size = s.length := rfl
  clear hB hW0
  go_enter Tryz.func68, Tryz.ntmps68
  go_upto_region 2 with fail
  rw [← HW.out]
  go_wp2_with fail
  go_loopw [6, 9] (fun x i wr => ∃ (k : Nat) (acc : List UInt8) (v : Value), k ≤ s.length ∧ i = .int .i64 k ∧ acc.length ≤ 3 * k ∧ Hid (acc ++ (s.drop k).flatMap uriE = s.flatMap uriE) ∧ Hid (Bw w.heap.size 80 [] wr v acc) ∧ Below w.heap.size w wr) (fun _ i _ => s.length - (intOf i).toNat)
  case atStart => exact ⟨0, [], _, Nat.zero_le _, rfl, by simp, HI0, HB, hb0⟩
  case round =>
    clear HI0 HB hb0
    obtain ⟨k, acc, v, hk, rfl, hal, HV, HB, hbw⟩ := hrel
    rcases Nat.lt_or_ge k s.length with hlt | hge
    · obtain ⟨c, hc⟩ : ∃ c, c = s[k] := ⟨_, rfl⟩
      have hds := drop_cons s k hlt
      rw [← hc] at hds
      have hby : ∀ h, ((⟨s.toArray⟩ : ByteArray)[k]'h).toNat = c.toNat := fun h => by rw [hc]; rfl
      have HV2 : Hid ((acc ++ uriE c) ++ (s.drop (k + 1)).flatMap uriE = s.flatMap uriE) := Lib.hid (by
        have hv := HV.out
        rw [hds, List.flatMap_cons] at hv
        rw [List.append_assoc]; exact hv)
      have HC := Lib.hid (uri1_any wr c)
      have hul := uriE_length c
      clear HV hds hc
      go_wp2_with fail
      refine HC.out.mono ?_
      rintro e' w2 ⟨rfl, hb2⟩
      have hB2 := HB.out.below hb2
      have hbw2 := Below.also hbw hb2
      clear hb2 HC
      go_wp2_with fail
      refine (writeString_any (rest := []) fits_builder hB2 (uriE c) (by omega)).mono ?_
      rintro e' w3 ⟨rfl, v3, hA⟩
      have HB3 := Lib.hid hA.now
      have hbw3 : Below w.heap.size w w3 := hbw2.trans (hA.keep.below hbw2.size (fun b hb => by
        rintro (e | e)
        · omega
        · have := (hB2.own.lt b e.symm).1; omega))
      clear hA hB2 hbw hbw2
      go_wp2_with fail
      all_goals go_roundw
      case rel => exact ⟨k + 1, _, v3, by omega, by go_num, by simp; omega, HV2, HB3, hbw3⟩
      case measure => simp [intOf]; omega
    · have HE : Hid (acc = s.flatMap uriE) := Lib.hid (by
        have hv := HV.out
        rw [List.drop_eq_nil_of_le (by omega)] at hv
        simpa using hv)
      go_wp2_with fail
      refine (string_all HB.out).mono ?_
      rintro e' w3 ⟨rfl, hb3⟩
      have hbe := hbw.trans hb3
      go_wp2_with fail
      go_ret
      exact ⟨by rw [← HE.out]; rfl, hbe⟩
set_option maxRecDepth 100000 in
theorem uri_any (w : World) (s : List UInt8) (hs : s.length ≤ 1200000000) :
    Calls Tryz.prog 37 #[.string ⟨s.toArray⟩] w fun e w' => e = .returned (.string ⟨(s.flatMap uriE).toArray⟩) ∧ Below w.heap.size w w' := by
  go_enter Tryz.func37, Tryz.ntmps37
  go_wp2_with fail
  refine (mapped_uri w s hs).mono ?_
  rintro e' w' ⟨rfl, hb⟩
  go_wp2_with fail
  go_ret
  exact ⟨rfl, hb⟩
end Go.Proofs.YtpfamfkdfbcooaaGreatDoor
/- format.Format of any value: what its branches have in common. -/
namespace Go.Proofs.YtpfamfkdfbcooaaGreatDoor
open Go Go.RowKit Go.Proofs
theorem outV_parts (Z : List UInt8) : ∃ va ea : Array Value, outV Z = .tuple #[.agg va, .agg ea] ∧ va.size = 5 ∧ ea.size = 6 ∧ va.all (·.oneCell') = true ∧ ea.all (·.oneCell') = true := by
  unfold outV
  split
  · exact ⟨_, _, rfl, rfl, rfl, oneV _ _, by simp [Value.oneCell']⟩
  · exact ⟨_, _, rfl, rfl, rfl, by simp [Value.oneCell'], oneE _ _ _⟩
def failV (s : List UInt8) : Value := .tuple #[.agg vZ, .agg (eS s)]
theorem failV_parts (s : List UInt8) : ∃ va ea : Array Value, failV s = .tuple #[.agg va, .agg ea] ∧ va.size = 5 ∧ ea.size = 6 ∧ va.all (·.oneCell') = true ∧ ea.all (·.oneCell') = true :=
  ⟨_, _, rfl, rfl, rfl, oneV _ _, oneE _ _ _⟩
/-- Behind an unknown format's name. -/
def noForm : List UInt8 := [32, 105, 115, 32, 110, 111, 116, 32, 97, 32, 118, 97, 108, 105, 100, 32, 102, 111, 114, 109, 97, 116]
theorem nameT_len (k : Nat) : (nameT k).length ≤ 7 := by
  unfold nameT
  repeat' split
  all_goals simp
/-- What Name and Short answer of a value, and where its parts lie. -/
structure Fmt (W1 : World) (B : Nat) (k num : Nat) (str : ByteArray) (A3 : Option Addr) (n3 e3 : Nat) (A4 : Option Addr) (n4 e4 : Nat) (NM : ByteArray) : Prop where
  cells : ∀ W, Below W1.heap.size W1 W → W.cell? ⟨B, 0, none⟩ = some (.int .i64 k) ∧ W.cell? ⟨B, 1, none⟩ = some (.float .f64 num) ∧ W.cell? ⟨B, 2, none⟩ = some (.string str) ∧ W.cell? ⟨B, 3, none⟩ = some (.slice A3 n3 e3) ∧ W.cell? ⟨B, 4, none⟩ = some (.slice A4 n4 e4)
  name : ∀ W, Calls Tryz.prog 29 #[.agg #[.int .i64 k, .float .f64 num, .string str, .slice A3 n3 e3, .slice A4 n4 e4]] W fun e w' => e = .returned (.string NM) ∧ Below W.heap.size W w'
  short : ∀ W, Below W1.heap.size W1 W → Calls Tryz.prog 30 #[.agg #[.int .i64 k, .float .f64 num, .string str, .slice A3 n3 e3, .slice A4 n4 e4]] W fun e w' => ∃ out : ByteArray, out.size ≤ 130000000000003 ∧ e = .returned (.string out) ∧ Below W.heap.size W w'
theorem fmt_of (w W1 : World) (k num : Nat) (hk : k ≤ 6) (str : ByteArray) (A3 : Option Addr) (n3 e3 : Nat) (A4 : Option Addr) (n4 e4 : Nat) (Z : List UInt8) (hZ : Z.length ≤ 130000000000000)
    (HT : ∀ W, Below w.heap.size w W → Calls Tryz.prog 35 #[.agg #[.int .i64 k, .float .f64 num, .string str, .slice A3 n3 e3, .slice A4 n4 e4]] W fun e w' => e = .returned (.string ⟨Z.toArray⟩) ∧ Below W.heap.size W w') (hW1 : W1 = ((w.alloc (.cells #[.int .i64 k, .float .f64 num, .string str, .slice A3 n3 e3, .slice A4 n4 e4] 27)).alloc (.cells vZ 27)).alloc (.cells eZ 32)) :
    Fmt W1 w.heap.size k num str A3 n3 e3 A4 n4 e4 ⟨(nameT k).toArray⟩ where
  cells W hW := by
    have hr : W1.heap[w.heap.size]? = some (.cells #[.int .i64 k, .float .f64 num, .string str, .slice A3 n3 e3, .slice A4 n4 e4] 27 (0, 0)) := by
      rw [hW1]; exact hlOld (hlOld (heap_alloc_new _ _))
    have h2 := hlBelow hW hr
    exact ⟨Go.Proofs.YtpfamfkdfbcooaaGreatDoor.cell_of_heap (j := 0) h2 rfl, Go.Proofs.YtpfamfkdfbcooaaGreatDoor.cell_of_heap (j := 1) h2 rfl, Go.Proofs.YtpfamfkdfbcooaaGreatDoor.cell_of_heap (j := 2) h2 rfl, Go.Proofs.YtpfamfkdfbcooaaGreatDoor.cell_of_heap (j := 3) h2 rfl, Go.Proofs.YtpfamfkdfbcooaaGreatDoor.cell_of_heap (j := 4) h2 rfl⟩
  name W := name_any W k hk _ _ _ _ _ _ _ _
  short W hW := by
    have hb : Below w.heap.size w W1 := by rw [hW1]; exact (((Below.refl _ _).alloc (Nat.le_refl _) _).alloc (by simp) _).alloc (by simp; omega) _
    exact (short_of W k num str A3 n3 e3 A4 n4 e4 Z (by omega) (fun W2 hb2 => HT W2 (hb.trans ((hW.trans (hb2.mono hW.size)).mono hb.size)))).mono (fun e w' ⟨o, ho, he, hb⟩ => ⟨o, by omega, he, hb⟩)
end Go.Proofs.YtpfamfkdfbcooaaGreatDoor
