/- In one text: base64, plain: what it writes; what reads it; that the one undoes the other.; format.base64. -/
import Derived.Test.YtpfamfkdfbcooaaGreatDoorFsq
import Derived.Test.YtpfamfkdfbcooaaGreatDoorShelb
import Derived.ProofKit
set_option linter.unusedVariables false
set_option linter.unusedSimpArgs false
/- base64, plain: what it writes; what reads it; that the one undoes the other. -/
namespace Go.Proofs.YtpfamfkdfbcooaaGreatDoor
open Go
def b64A : List UInt8 := [65, 66, 67, 68, 69, 70, 71, 72, 73, 74, 75, 76, 77, 78, 79, 80, 81, 82, 83, 84, 85, 86, 87, 88, 89, 90, 97, 98, 99, 100, 101, 102, 103, 104, 105, 106, 107, 108, 109, 110, 111, 112, 113, 114, 115, 116, 117, 118, 119, 120, 121, 122, 48, 49, 50, 51, 52, 53, 54, 55, 56, 57, 43, 47]
def b64C (i : Nat) : UInt8 := b64A.getD i 0
/-- Four letters of a number of 24 bits; n: so many bytes it holds. -/
def b64Q (n w : Nat) : List UInt8 := [b64C (w / 262144 % 64), b64C (w / 4096 % 64), if 2 ≤ n then b64C (w / 64 % 64) else 61, if 3 ≤ n then b64C (w % 64) else 61]
def b64T : List UInt8 → List UInt8
  | [] => []
  | [a] => b64Q 1 (a.toNat * 65536)
  | [a, b] => b64Q 2 (a.toNat * 65536 + b.toNat * 256)
  | a :: b :: c :: s => b64Q 3 (a.toNat * 65536 + b.toNat * 256 + c.toNat) ++ b64T s
/-- The place of a letter. -/
def b64I (c : UInt8) : Option Nat := b64A.findIdx? (· == c)
/-- The bytes that letters hold, behind bits read so far. -/
def unT : Nat → Nat → List UInt8 → Option (List UInt8)
  | _, _, [] => some []
  | bits, have_, c :: s =>
    match b64I c with
    | none => none
    | some d =>
      if 8 ≤ have_ + 6 then (unT ((bits * 64 + d) % 4294967296) (have_ - 2) s).map (UInt8.ofNat ((bits * 64 + d) % 4294967296 / 2 ^ (have_ - 2)) :: ·)
      else unT ((bits * 64 + d) % 4294967296) (have_ + 6) s
theorem b64I_C : ∀ i, i < 64 → b64I (b64C i) = some i := by decide
/-- What is cut at the end. -/
def cutQ (l : List UInt8) : List UInt8 := if l.getLast? = some 61 then l.dropLast else l
theorem ofNat_mod (x : Nat) (a : UInt8) (h : x % 256 = a.toNat) : UInt8.ofNat x = a := by
  apply UInt8.toNat_inj.1
  rw [UInt8.toNat_ofNat']
  omega
theorem unT_3 (bits : Nat) (a b c : UInt8) (s : List UInt8) : ∃ bits', unT bits 0 (b64Q 3 (a.toNat * 65536 + b.toNat * 256 + c.toNat) ++ s) = (unT bits' 0 s).map (fun r => a :: b :: c :: r) := by
  have ha := a.toNat_lt
  have hb := b.toNat_lt
  have hc := c.toNat_lt
  obtain ⟨w, hw⟩ : ∃ w, w = a.toNat * 65536 + b.toNat * 256 + c.toNat := ⟨_, rfl⟩
  refine ⟨((((bits * 64 + w / 262144 % 64) % 4294967296 * 64 + w / 4096 % 64) % 4294967296 * 64 + w / 64 % 64) % 4294967296 * 64 + w % 64) % 4294967296, ?_⟩
  rw [← hw]
  unfold b64Q
  rw [if_pos (by decide), if_pos (by decide)]
  simp only [List.cons_append, List.nil_append]
  rw [unT, b64I_C _ (Nat.mod_lt _ (by decide))]
  simp only [show ¬ (8 ≤ 0 + 6) by decide, if_false]
  rw [unT, b64I_C _ (Nat.mod_lt _ (by decide))]
  simp only [show 8 ≤ 0 + 6 + 6 by decide, if_true]
  rw [unT, b64I_C _ (Nat.mod_lt _ (by decide))]
  simp only [show 8 ≤ 0 + 6 - 2 + 6 by decide, if_true]
  rw [unT, b64I_C _ (Nat.mod_lt _ (by decide))]
  simp only [show 8 ≤ 0 + 6 - 2 - 2 + 6 by decide, if_true, show 0 + 6 - 2 - 2 - 2 = 0 by decide, show 0 + 6 - 2 = 4 by decide, show 4 - 2 = 2 by decide, Option.map_map, Nat.pow_zero, Nat.div_one]
  rw [ofNat_mod _ a (by omega), ofNat_mod _ b (by omega), ofNat_mod _ c (by omega)]
  rfl
theorem unT_2 (bits : Nat) (a b : UInt8) : unT bits 0 [b64C ((a.toNat * 65536 + b.toNat * 256) / 262144 % 64), b64C ((a.toNat * 65536 + b.toNat * 256) / 4096 % 64), b64C ((a.toNat * 65536 + b.toNat * 256) / 64 % 64)] = some [a, b] := by
  have ha := a.toNat_lt
  have hb := b.toNat_lt
  rw [unT, b64I_C _ (Nat.mod_lt _ (by decide))]
  simp only [show ¬ (8 ≤ 0 + 6) by decide, if_false]
  rw [unT, b64I_C _ (Nat.mod_lt _ (by decide))]
  simp only [show 8 ≤ 0 + 6 + 6 by decide, if_true]
  rw [unT, b64I_C _ (Nat.mod_lt _ (by decide))]
  simp only [show 8 ≤ 0 + 6 - 2 + 6 by decide, if_true, show 0 + 6 - 2 = 4 by decide, show 4 - 2 = 2 by decide, Option.map_map]
  rw [unT, ofNat_mod _ a (by omega), ofNat_mod _ b (by omega)]
  rfl
theorem unT_1 (bits : Nat) (a : UInt8) : unT bits 0 [b64C (a.toNat * 65536 / 262144 % 64), b64C (a.toNat * 65536 / 4096 % 64)] = some [a] := by
  have ha := a.toNat_lt
  rw [unT, b64I_C _ (Nat.mod_lt _ (by decide))]
  simp only [show ¬ (8 ≤ 0 + 6) by decide, if_false]
  rw [unT, b64I_C _ (Nat.mod_lt _ (by decide))]
  simp only [show 8 ≤ 0 + 6 + 6 by decide, if_true]
  rw [unT, ofNat_mod _ a (by omega)]
  rfl
theorem b64C_ne : ∀ i, i < 64 → b64C i ≠ 61 := by decide
theorem cutQ_snoc (l : List UInt8) (c : UInt8) (h : c ≠ 61) : cutQ (l ++ [c]) = l ++ [c] := by
  unfold cutQ; rw [List.getLast?_append]; simp [h]
theorem cutQ_61 (l : List UInt8) : cutQ (l ++ [61]) = l := by
  unfold cutQ; rw [List.getLast?_append]; simp
/-- What is read behind both ends' cutting. -/
theorem b64_back : ∀ (s : List UInt8) (bits : Nat), unT bits 0 (cutQ (cutQ (b64T s))) = some s ∧ (cutQ (cutQ (b64T s))).length % 4 ≠ 1
  | [], bits => by simp [b64T, cutQ, unT]
  | [a], bits => by
    have e : cutQ (cutQ (b64T [a])) = [b64C (a.toNat * 65536 / 262144 % 64), b64C (a.toNat * 65536 / 4096 % 64)] := by
      show cutQ (cutQ ([b64C (a.toNat * 65536 / 262144 % 64), b64C (a.toNat * 65536 / 4096 % 64), 61] ++ [61])) = _
      rw [cutQ_61]
      exact cutQ_61 [b64C (a.toNat * 65536 / 262144 % 64), b64C (a.toNat * 65536 / 4096 % 64)]
    rw [e]
    exact ⟨unT_1 bits a, by simp⟩
  | [a, b], bits => by
    have e : cutQ (cutQ (b64T [a, b])) = [b64C ((a.toNat * 65536 + b.toNat * 256) / 262144 % 64), b64C ((a.toNat * 65536 + b.toNat * 256) / 4096 % 64), b64C ((a.toNat * 65536 + b.toNat * 256) / 64 % 64)] := by
      show cutQ (cutQ ([b64C ((a.toNat * 65536 + b.toNat * 256) / 262144 % 64), b64C ((a.toNat * 65536 + b.toNat * 256) / 4096 % 64), b64C ((a.toNat * 65536 + b.toNat * 256) / 64 % 64)] ++ [61])) = _
      rw [cutQ_61]
      exact cutQ_snoc [b64C ((a.toNat * 65536 + b.toNat * 256) / 262144 % 64), b64C ((a.toNat * 65536 + b.toNat * 256) / 4096 % 64)] _ (b64C_ne _ (Nat.mod_lt _ (by decide)))
    rw [e]
    exact ⟨unT_2 bits a b, by simp⟩
  | a :: b :: c :: s, bits => by
    have hq : (b64Q 3 (a.toNat * 65536 + b.toNat * 256 + c.toNat)).length = 4 := rfl
    have hne : ∀ l : List UInt8, cutQ (b64Q 3 (a.toNat * 65536 + b.toNat * 256 + c.toNat) ++ l) = b64Q 3 (a.toNat * 65536 + b.toNat * 256 + c.toNat) ++ cutQ l := fun l => by
      rcases List.eq_nil_or_concat l with rfl | ⟨m, x, rfl⟩
      · rw [List.append_nil]
        show cutQ ([_, _, _] ++ [_]) = _
        rw [cutQ_snoc _ _ (by rw [if_pos (by decide)]; exact b64C_ne _ (Nat.mod_lt _ (by decide)))]
        rfl
      · rw [List.concat_eq_append, ← List.append_assoc]
        by_cases hx : x = 61
        · subst hx; rw [cutQ_61, cutQ_61]
        · rw [cutQ_snoc _ _ hx, cutQ_snoc _ _ hx, List.append_assoc]
    rw [b64T, hne, hne]
    obtain ⟨bits', e⟩ := unT_3 bits a b c (cutQ (cutQ (b64T s)))
    obtain ⟨h1, h2⟩ := b64_back s bits'
    rw [e, h1]
    refine ⟨rfl, ?_⟩
    rw [List.length_append, hq]
    omega
theorem b64_length : ∀ s : List UInt8, (b64T s).length = (s.length + 2) / 3 * 4
  | [] => rfl
  | [a] => by simp [b64T, b64Q]
  | [a, b] => by simp [b64T, b64Q]
  | a :: b :: c :: s => by
    rw [b64T, List.length_append, b64_length s]
    show 4 + _ = _
    simp only [List.length_cons]
    omega
def b64L (c : UInt8) : Bool := c != 61 && (b64I c).isSome
theorem b64C_L : ∀ i, i < 64 → b64L (b64C i) = true := by decide
/-- All are letters, but for two at the end that may be '='. -/
theorem b64_letters : ∀ (s : List UInt8) (i : Nat) (h : i < (b64T s).length), b64L (b64T s)[i] = true ∨ ((b64T s)[i] = 61 ∧ (b64T s).length ≤ i + 2)
  | [], i, h => by simp [b64T] at h
  | [a], i, h => by
    have h4 : i < 4 := h
    have : i = 0 ∨ i = 1 ∨ i = 2 ∨ i = 3 := by omega
    rcases this with rfl | rfl | rfl | rfl
    · exact .inl (b64C_L _ (Nat.mod_lt _ (by decide)))
    · exact .inl (b64C_L _ (Nat.mod_lt _ (by decide)))
    · exact .inr ⟨rfl, by show 4 ≤ 4; omega⟩
    · exact .inr ⟨rfl, by show 4 ≤ 5; omega⟩
  | [a, b], i, h => by
    have h4 : i < 4 := h
    have : i = 0 ∨ i = 1 ∨ i = 2 ∨ i = 3 := by omega
    rcases this with rfl | rfl | rfl | rfl
    · exact .inl (b64C_L _ (Nat.mod_lt _ (by decide)))
    · exact .inl (b64C_L _ (Nat.mod_lt _ (by decide)))
    · exact .inl (b64C_L _ (Nat.mod_lt _ (by decide)))
    · exact .inr ⟨rfl, by show 4 ≤ 5; omega⟩
  | a :: b :: c :: s, i, h => by
    simp only [b64T] at h ⊢
    rcases Nat.lt_or_ge i 4 with h4 | h4
    · have : i = 0 ∨ i = 1 ∨ i = 2 ∨ i = 3 := by omega
      rcases this with rfl | rfl | rfl | rfl
      all_goals exact .inl (b64C_L _ (Nat.mod_lt _ (by decide)))
    · have hq : (b64Q 3 (a.toNat * 65536 + b.toNat * 256 + c.toNat)).length = 4 := rfl
      have hi : i - 4 < (b64T s).length := by rw [List.length_append, hq] at h; omega
      have hg : (b64Q 3 (a.toNat * 65536 + b.toNat * 256 + c.toNat) ++ b64T s)[i] = (b64T s)[i - 4] := by
        rw [List.getElem_append_right (by omega)]
        simp only [hq]
      rw [hg, List.length_append, hq]
      rcases b64_letters s (i - 4) hi with e | ⟨e, e2⟩
      · exact .inl e
      · exact .inr ⟨e, by omega⟩
end Go.Proofs.YtpfamfkdfbcooaaGreatDoor
/- format.base64. -/
namespace Go.Proofs.YtpfamfkdfbcooaaGreatDoor
open Go Go.RowKit Go.Proofs
/-- The text of a builder, whatever it holds. -/
theorem string_all {b : Nat} {w : World} {v : Value} {bs : List UInt8} (h : Bw b 80 [] w v bs) :
    Calls Tryz.prog 65 #[.pointer (some ⟨b, 0, none⟩)] w fun e w' => e = .returned (.string ⟨bs.toArray⟩) ∧ Below b w w' := by
  refine Tryz.Builder_String_any b b bs w ?_ (Nat.le_of_lt h.lt)
  obtain ⟨p, hp, hq⟩ := h.heap
  have hO : w.ownsRow b 5 1 v (Lib.byteCells bs).length (Lib.byteCells bs) := by rw [Lib.byteCells_length]; exact h.own
  rcases hq with rfl | rfl
  · exact .inl ⟨Nat.le_refl _, v, hp, hO, h.ne⟩
  · exact .inr ⟨Nat.le_refl _, v, hp, hO, h.ne⟩
def txtLen : Value → Nat
  | .string s => s.size
  | _ => 0
/-- The bits of so many bytes ahead; what there is not counts as 0. -/
def wAt (t : List UInt8) : Nat → Nat
  | 0 => 0
  | i + 1 => wAt t i * 256 + (t.getD i 0).toNat
theorem wAt_lt (t : List UInt8) : wAt t 0 = 0 ∧ wAt t 1 < 256 ∧ wAt t 2 < 65536 ∧ wAt t 3 < 16777216 := by
  have h : ∀ i, (t.getD i 0).toNat < 256 := fun i => (t.getD i 0).toNat_lt
  have h0 := h 0
  have h1 := h 1
  have h2 := h 2
  have e1 : wAt t 1 = 0 * 256 + (t.getD 0 0).toNat := rfl
  have e2 : wAt t 2 = wAt t 1 * 256 + (t.getD 1 0).toNat := rfl
  have e3 : wAt t 3 = wAt t 2 * 256 + (t.getD 2 0).toNat := rfl
  rw [e3, e2, e1]
  generalize (t.getD 0 0).toNat = x0 at *
  generalize (t.getD 1 0).toNat = x1 at *
  generalize (t.getD 2 0).toNat = x2 at *
  refine ⟨rfl, ?_, ?_, ?_⟩ <;> omega
theorem ext_drop (l : List UInt8) (n m : Nat) (hm : m = l.length) : (⟨l.toArray⟩ : ByteArray).extract n m = ⟨(l.drop n).toArray⟩ := by
  subst hm
  apply ByteArray.ext
  apply Array.ext'
  simp [ByteArray.extract, ByteArray.copySlice, List.take_of_length_le]
theorem wrapU32 (x : Int) : IntKind.u32.wrap x = x % 4294967296 := by unfold IntKind.wrap; simp [IntKind.bits, IntKind.signed]
theorem or_u32n (a b : Nat) (ha : a < 2 ^ 31) (hb : b < 2 ^ 31) : bits BinOp.or IntKind.u32 (a : Int) (b : Int) = ((a ||| b : Nat) : Int) := by
  have hx : a ||| b < 2 ^ 31 := Nat.or_lt_two_pow ha hb
  have h1 : (BitVec.ofInt 32 (a : Int)).toNat = a := by
    rw [BitVec.ofInt_natCast, BitVec.toNat_ofNat]; exact Nat.mod_eq_of_lt (by omega)
  have h2 : (BitVec.ofInt 32 (b : Int)).toNat = b := by
    rw [BitVec.ofInt_natCast, BitVec.toNat_ofNat]; exact Nat.mod_eq_of_lt (by omega)
  show IntKind.u32.wrap ((BitVec.ofInt 32 (a : Int) ||| BitVec.ofInt 32 (b : Int)).toNat : Int) = _
  rw [BitVec.toNat_or, h1, h2, wrapU32]
  omega
theorem and_u32n (a : Nat) (ha : a < 2 ^ 31) : bits BinOp.and IntKind.u32 (a : Int) 63 = ((a % 64 : Nat) : Int) := by
  have h1 : (BitVec.ofInt 32 (a : Int)).toNat = a := by
    rw [BitVec.ofInt_natCast, BitVec.toNat_ofNat]; exact Nat.mod_eq_of_lt (by omega)
  show IntKind.u32.wrap ((BitVec.ofInt 32 (a : Int) &&& BitVec.ofInt 32 63).toNat : Int) = _
  rw [BitVec.toNat_and, h1, wrapU32, show (BitVec.ofInt 32 63).toNat = 63 from by decide, show a &&& 63 = a % 64 from Nat.and_two_pow_sub_one_eq_mod a 6]
  omega
theorem or_u32 (q x : Nat) (hq : q < 65536) (hx : x < 256) : bits BinOp.or IntKind.u32 ((q : Int) * 256) (x : Int) = ((q * 256 + x : Nat) : Int) := by
  have h := or_u32n (q * 256) x (by omega) (by omega)
  rw [Int.natCast_mul] at h
  rw [show ((q : Int) * 256) = (q : Int) * ((256 : Nat) : Int) from rfl, h]
  rw [Nat.mul_comm q 256, show (256 : Nat) = 2 ^ 8 from rfl, ← Nat.two_pow_add_eq_or_of_lt (by omega : x < 2 ^ 8)]
theorem letter_at (j : Nat) (hj : j < 64) (h : j < ByteArray.size ⟨#[65, 66, 67, 68, 69, 70, 71, 72, 73, 74, 75, 76, 77, 78, 79, 80, 81, 82, 83, 84, 85, 86, 87, 88, 89, 90, 97, 98, 99, 100, 101, 102, 103, 104, 105, 106, 107, 108, 109, 110, 111, 112, 113, 114, 115, 116, 117, 118, 119, 120, 121, 122, 48, 49, 50, 51, 52, 53, 54, 55, 56, 57, 43, 47]⟩) :
    ((⟨#[65, 66, 67, 68, 69, 70, 71, 72, 73, 74, 75, 76, 77, 78, 79, 80, 81, 82, 83, 84, 85, 86, 87, 88, 89, 90, 97, 98, 99, 100, 101, 102, 103, 104, 105, 106, 107, 108, 109, 110, 111, 112, 113, 114, 115, 116, 117, 118, 119, 120, 121, 122, 48, 49, 50, 51, 52, 53, 54, 55, 56, 57, 43, 47]⟩ : ByteArray)[j]'h).toNat = (b64C j).toNat := by
  have key : ∀ j : Fin 64, ((⟨#[65, 66, 67, 68, 69, 70, 71, 72, 73, 74, 75, 76, 77, 78, 79, 80, 81, 82, 83, 84, 85, 86, 87, 88, 89, 90, 97, 98, 99, 100, 101, 102, 103, 104, 105, 106, 107, 108, 109, 110, 111, 112, 113, 114, 115, 116, 117, 118, 119, 120, 121, 122, 48, 49, 50, 51, 52, 53, 54, 55, 56, 57, 43, 47]⟩ : ByteArray)[j.val]'j.isLt).toNat = (b64C j.val).toNat := by decide +kernel
  exact key ⟨j, hj⟩
theorem b64_step (T : List UInt8) (h : 1 ≤ T.length) : b64T T = b64Q (min 3 T.length) (wAt T 3) ++ b64T (T.drop (min 3 T.length)) := by
  match T, h with
  | [a], _ =>
    have e : wAt [a] 3 = a.toNat * 65536 := by show ((0 * 256 + a.toNat) * 256 + 0) * 256 + 0 = _; omega
    rw [e]; simp [b64T]
  | [a, b], _ =>
    have e : wAt [a, b] 3 = a.toNat * 65536 + b.toNat * 256 := by show ((0 * 256 + a.toNat) * 256 + b.toNat) * 256 + 0 = _; omega
    rw [e]; simp [b64T]
  | a :: b :: c :: s, _ =>
    have e : min 3 (a :: b :: c :: s).length = 3 := by simp only [List.length_cons]; omega
    have e2 : wAt (a :: b :: c :: s) 3 = a.toNat * 65536 + b.toNat * 256 + c.toNat := by show ((0 * 256 + a.toNat) * 256 + b.toNat) * 256 + c.toNat = _; omega
    rw [e, e2, b64T]
    rfl
set_option maxHeartbeats 4000000 in
set_option maxRecDepth 100000 in
theorem base64_any (w : World) (h12 : 12 ≤ w.heap.size) (s : List UInt8) (hs : s.length ≤ 2000000) :
    Calls Tryz.prog 38 #[.string ⟨s.toArray⟩] w fun e w' => e = .returned (.string ⟨(b64T s).toArray⟩) ∧ Below w.heap.size w w' := by
  have hB := bw_new w
  obtain ⟨W0, hW0⟩ : ∃ W0, W0 = w.alloc (.cells #[.pointer none, .slice none 0 0] 80) := ⟨_, rfl⟩
  have hb0 : Below w.heap.size w W0 := by rw [hW0]; exact (Below.refl _ _).alloc (Nat.le_refl _) _
  rw [← hW0] at hB
  have HW := Lib.hid hW0
  have HB := Lib.hid hB
  have HI0 : Hid ([] ++ b64T s = b64T s) := Lib.hid rfl
  clear hB hW0
  go_enter Tryz.func38, Tryz.ntmps38
  go_upto_region 2 with fail
  rw [← HW.out]
  go_loopw [0] (fun x wr => ∃ (t acc : List UInt8) (v : Value), x = .string ⟨t.toArray⟩ ∧ t.length ≤ s.length ∧ Hid (acc ++ b64T t = b64T s) ∧ Hid (Bw w.heap.size 80 [] wr v acc) ∧ Below w.heap.size w wr) (fun x _ => txtLen x)
  case atStart => exact ⟨s, [], _, rfl, Nat.le_refl _, HI0, HB, hb0⟩
  case round =>
    clear HI0 HB hb0
    obtain ⟨t, acc, v, rfl, htl, HV, HB, hbw⟩ := hrel
    cases t with
    | nil =>
      have HE : Hid (acc = b64T s) := Lib.hid (by rw [← HV.out]; simp [b64T])
      go_wp2_with fail
      refine (string_all HB.out).mono ?_
      rintro e' w3 ⟨rfl, hb3⟩
      have hbe := hbw.trans hb3
      go_wp2_with fail
      go_ret
      exact ⟨by rw [HE.out]; rfl, hbe⟩
    | cons a t =>
      have tz : (a :: t).isEmpty = false := rfl
      have hsz : (⟨(a :: t).toArray⟩ : ByteArray).size = t.length + 1 := rfl
      obtain ⟨T, hT⟩ : ∃ T, T = a :: t := ⟨_, rfl⟩
      have HT := Lib.hid hT
      have hTl : T.length = t.length + 1 := by rw [hT]; rfl
      rw [← hT] at HV htl tz hsz ⊢
      obtain ⟨n, hn⟩ : ∃ n, n = min 3 T.length := ⟨_, rfl⟩
      have hnm : min (3 : Int) ((t.length : Int) + 1) = (n : Int) := by rw [hn, hTl]; omega
      have hnb : 1 ≤ n ∧ n ≤ 3 ∧ n ≤ T.length := by omega
      clear hT
      go_wp2_with fail
      go_loop [5, 18] (fun x i => ∃ k : Nat, k ≤ 3 ∧ i = .int .i64 k ∧ x = .int .u32 (wAt T k)) (fun _ i => 3 - (intOf i).toNat)
      case atStart => exact ⟨0, by omega, rfl, rfl⟩
      case round =>
        obtain ⟨k, hk, rfl, rfl⟩ := hrel
        rcases Nat.lt_or_ge k 3 with hlt | hge
        · obtain ⟨q, hq⟩ : ∃ q, q = wAt T k := ⟨_, rfl⟩
          obtain ⟨X, hX⟩ : ∃ X, X = (T.getD k 0).toNat := ⟨_, rfl⟩
          have hqb : q < 65536 := by
            have hw := wAt_lt T
            have hk3 : k = 0 ∨ k = 1 ∨ k = 2 := by omega
            rcases hk3 with rfl | rfl | rfl <;> omega
          have hXb : X < 256 := by rw [hX]; exact (T.getD k 0).toNat_lt
          have HS : Hid (wAt T (k + 1) = q * 256 + X) := Lib.hid (by rw [hq, hX]; rfl)
          have hm1 : ((q : Int) * 256 % 4294967296) = (q : Int) * 256 := by omega
          have hm2 : ((X : Int) % 4294967296) = (X : Int) := by omega
          have HOr := Lib.hid (or_u32 q X hqb hXb)
          rw [← hq]
          clear hq
          by_cases hkn : k < n
          · have hkT : k < T.length := by omega
            have hby : ∀ h, ((⟨T.toArray⟩ : ByteArray)[k]'h).toNat = X := fun h => by
              rw [hX, List.getD_eq_getElem?_getD, List.getElem?_eq_getElem hkT]; rfl
            clear hX
            go_wp2_with fail
            all_goals go_round
            case rel => exact ⟨k + 1, by omega, by go_num, by rw [HS.out, HOr.out]⟩
            case measure => simp [intOf]; omega
          · have hX0 : X = 0 := by
              rw [hX, List.getD_eq_getElem?_getD, List.getElem?_eq_none (by omega)]; rfl
            have HS0 : Hid (wAt T (k + 1) = q * 256) := Lib.hid (by rw [HS.out, hX0]; omega)
            clear hX hX0 HOr hm2
            go_wp2_with fail
            all_goals go_round
            case rel => exact ⟨k + 1, by omega, by go_num, by rw [HS0.out, Int.natCast_mul]; rfl⟩
            case measure => simp [intOf]; omega
        · obtain rfl : k = 3 := by omega
          obtain ⟨W, hW⟩ : ∃ W, W = wAt T 3 := ⟨_, rfl⟩
          have hWb : W < 16777216 := by rw [hW]; exact (wAt_lt T).2.2.2
          have HStep : Hid (b64T T = b64Q n W ++ b64T (T.drop n)) := Lib.hid (by rw [hW, hn]; exact b64_step T (by omega))
          rw [← hW]
          have hal : acc.length ≤ 4000000 := by
            have h1 := congrArg List.length HV.out
            rw [List.length_append, b64_length s] at h1
            omega
          have hq4 : (b64Q n W).length = 4 := rfl
          clear hW hn
          go_wp2_with fail
          go_loopw [33] (fun i wq => ∃ (j : Nat) (vq : Value), j ≤ 4 ∧ i = .int .i64 j ∧ Hid (Bw w.heap.size 80 [] wq vq (acc ++ (b64Q n W).take j)) ∧ Below w.heap.size w wq) (fun i _ => 4 - (intOf i).toNat)
          case atStart => exact ⟨0, v, by omega, rfl, Lib.hid (by rw [List.take_zero, List.append_nil]; exact HB.out), hbw⟩
          case round =>
            clear HB hbw
            obtain ⟨j, vq, hj, rfl, HBq, hbq⟩ := hrel
            rcases Nat.lt_or_ge j 4 with hlt2 | hge2
            · have hj4 : j = 0 ∨ j = 1 ∨ j = 2 ∨ j = 3 := by omega
              rcases hj4 with rfl | rfl | rfl | rfl
              · have tn : decide ((n : Int) < ((0 : Nat) : Int)) = false := decide_eq_false (by omega)
                have tn2 : decide ((n : Int) < 0) = false := decide_eq_false (by omega)
                have hand : bits BinOp.and IntKind.u32 ((W : Int) / 262144) 63 = ((W / 262144 % 64 : Nat) : Int) := by
                  have := and_u32n (W / 262144) (by omega)
                  simpa using this
                obtain ⟨M, hM⟩ : ∃ M, M = W / 262144 % 64 := ⟨_, rfl⟩
                have hMl : M < 64 := by omega
                rw [← hM] at hand
                have hlet := letter_at M hMl
                have HM := Lib.hid hM
                clear hM
                go_wp2_with fail
                refine (writeByte_any fits_builder HBq.out _ (b64C M) rfl (by simp; omega)).mono ?_
                rintro e' w6 ⟨rfl, v6, hA⟩
                have HB6 : Hid (Bw w.heap.size 80 [] w6 v6 (acc ++ (b64Q n W).take 1)) := Lib.hid (by
                  have := hA.now
                  rw [List.append_assoc] at this
                  rw [HM.out] at this
                  exact this)
                have hb6 := hbq.trans (hA.keep.below hbq.size (fun i hi => by
                  rintro (e | e)
                  · omega
                  · have := (HBq.out.own.lt i e.symm).1; omega))
                clear hA
                go_wp2_with fail
                all_goals go_roundw
                case rel => exact ⟨1, v6, by omega, by go_num, HB6, hb6⟩
                case measure => simp [intOf]
              · have tn : decide ((n : Int) < ((1 : Nat) : Int)) = false := decide_eq_false (by omega)
                have tn2 : decide ((n : Int) < 1) = false := decide_eq_false (by omega)
                have hand : bits BinOp.and IntKind.u32 ((W : Int) / 4096) 63 = ((W / 4096 % 64 : Nat) : Int) := by
                  have := and_u32n (W / 4096) (by omega)
                  simpa using this
                obtain ⟨M, hM⟩ : ∃ M, M = W / 4096 % 64 := ⟨_, rfl⟩
                have hMl : M < 64 := by omega
                rw [← hM] at hand
                have hlet := letter_at M hMl
                have HM := Lib.hid hM
                clear hM
                go_wp2_with fail
                refine (writeByte_any fits_builder HBq.out _ (b64C M) rfl (by simp; omega)).mono ?_
                rintro e' w6 ⟨rfl, v6, hA⟩
                have HB6 : Hid (Bw w.heap.size 80 [] w6 v6 (acc ++ (b64Q n W).take 2)) := Lib.hid (by
                  have := hA.now
                  rw [List.append_assoc] at this
                  rw [HM.out] at this
                  exact this)
                have hb6 := hbq.trans (hA.keep.below hbq.size (fun i hi => by
                  rintro (e | e)
                  · omega
                  · have := (HBq.out.own.lt i e.symm).1; omega))
                clear hA
                go_wp2_with fail
                all_goals go_roundw
                case rel => exact ⟨2, v6, by omega, by go_num, HB6, hb6⟩
                case measure => simp [intOf]
              · by_cases hnj : n < 2
                · have tn : decide ((n : Int) < ((2 : Nat) : Int)) = true := decide_eq_true (by omega)
                  have tn2 : decide ((n : Int) < 2) = true := decide_eq_true (by omega)
                  have HE : Hid ((b64Q n W).take 3 = (b64Q n W).take 2 ++ [61]) := Lib.hid (by unfold b64Q; rw [if_neg (show ¬ 2 ≤ n by omega), if_neg (show ¬ 3 ≤ n by omega)]; rfl)
                  go_wp2_with fail
                  refine (writeByte_any fits_builder HBq.out 61 61 rfl (by simp; omega)).mono ?_
                  rintro e' w6 ⟨rfl, v6, hA⟩
                  have HB6 : Hid (Bw w.heap.size 80 [] w6 v6 (acc ++ (b64Q n W).take 3)) := Lib.hid (by
                    have := hA.now
                    rw [List.append_assoc] at this
                    rw [← HE.out] at this
                    exact this)
                  have hb6 := hbq.trans (hA.keep.below hbq.size (fun i hi => by
                    rintro (e | e)
                    · omega
                    · have := (HBq.out.own.lt i e.symm).1; omega))
                  clear hA
                  go_wp2_with fail
                  all_goals go_roundw
                  case rel => exact ⟨3, v6, by omega, by go_num, HB6, hb6⟩
                  case measure => simp [intOf]
                · have tn : decide ((n : Int) < ((2 : Nat) : Int)) = false := decide_eq_false (by omega)
                  have tn2 : decide ((n : Int) < 2) = false := decide_eq_false (by omega)
                  have hand : bits BinOp.and IntKind.u32 ((W : Int) / 64) 63 = ((W / 64 % 64 : Nat) : Int) := by
                    have := and_u32n (W / 64) (by omega)
                    simpa using this
                  obtain ⟨M, hM⟩ : ∃ M, M = W / 64 % 64 := ⟨_, rfl⟩
                  have hMl : M < 64 := by omega
                  rw [← hM] at hand
                  have hlet := letter_at M hMl
                  have HM := Lib.hid hM
                  clear hM
                  have HE : Hid ((b64Q n W).take 3 = (b64Q n W).take 2 ++ [b64C M]) := Lib.hid (by unfold b64Q; rw [if_pos (show 2 ≤ n by omega), HM.out]; rfl)
                  go_wp2_with fail
                  refine (writeByte_any fits_builder HBq.out _ (b64C M) rfl (by simp; omega)).mono ?_
                  rintro e' w6 ⟨rfl, v6, hA⟩
                  have HB6 : Hid (Bw w.heap.size 80 [] w6 v6 (acc ++ (b64Q n W).take 3)) := Lib.hid (by
                    have := hA.now
                    rw [List.append_assoc] at this
                    rw [← HE.out] at this
                    exact this)
                  have hb6 := hbq.trans (hA.keep.below hbq.size (fun i hi => by
                    rintro (e | e)
                    · omega
                    · have := (HBq.out.own.lt i e.symm).1; omega))
                  clear hA
                  go_wp2_with fail
                  all_goals go_roundw
                  case rel => exact ⟨3, v6, by omega, by go_num, HB6, hb6⟩
                  case measure => simp [intOf]
              · by_cases hnj : n < 3
                · have tn : decide ((n : Int) < ((3 : Nat) : Int)) = true := decide_eq_true (by omega)
                  have tn2 : decide ((n : Int) < 3) = true := decide_eq_true (by omega)
                  have HE : Hid ((b64Q n W).take 4 = (b64Q n W).take 3 ++ [61]) := Lib.hid (by unfold b64Q; rw [if_neg (show ¬ 3 ≤ n by omega)]; rfl)
                  go_wp2_with fail
                  refine (writeByte_any fits_builder HBq.out 61 61 rfl (by simp; omega)).mono ?_
                  rintro e' w6 ⟨rfl, v6, hA⟩
                  have HB6 : Hid (Bw w.heap.size 80 [] w6 v6 (acc ++ (b64Q n W).take 4)) := Lib.hid (by
                    have := hA.now
                    rw [List.append_assoc] at this
                    rw [← HE.out] at this
                    exact this)
                  have hb6 := hbq.trans (hA.keep.below hbq.size (fun i hi => by
                    rintro (e | e)
                    · omega
                    · have := (HBq.out.own.lt i e.symm).1; omega))
                  clear hA
                  go_wp2_with fail
                  all_goals go_roundw
                  case rel => exact ⟨4, v6, by omega, by go_num, HB6, hb6⟩
                  case measure => simp [intOf]
                · have tn : decide ((n : Int) < ((3 : Nat) : Int)) = false := decide_eq_false (by omega)
                  have tn2 : decide ((n : Int) < 3) = false := decide_eq_false (by omega)
                  have hand : bits BinOp.and IntKind.u32 (W : Int) 63 = ((W % 64 : Nat) : Int) := by
                    have := and_u32n (W) (by omega)
                    simpa using this
                  obtain ⟨M, hM⟩ : ∃ M, M = W % 64 := ⟨_, rfl⟩
                  have hMl : M < 64 := by omega
                  rw [← hM] at hand
                  have hlet := letter_at M hMl
                  have HM := Lib.hid hM
                  clear hM
                  have HE : Hid ((b64Q n W).take 4 = (b64Q n W).take 3 ++ [b64C M]) := Lib.hid (by unfold b64Q; rw [if_pos (show 2 ≤ n by omega), if_pos (show 3 ≤ n by omega), HM.out]; rfl)
                  go_wp2_with fail
                  refine (writeByte_any fits_builder HBq.out _ (b64C M) rfl (by simp; omega)).mono ?_
                  rintro e' w6 ⟨rfl, v6, hA⟩
                  have HB6 : Hid (Bw w.heap.size 80 [] w6 v6 (acc ++ (b64Q n W).take 4)) := Lib.hid (by
                    have := hA.now
                    rw [List.append_assoc] at this
                    rw [← HE.out] at this
                    exact this)
                  have hb6 := hbq.trans (hA.keep.below hbq.size (fun i hi => by
                    rintro (e | e)
                    · omega
                    · have := (HBq.out.own.lt i e.symm).1; omega))
                  clear hA
                  go_wp2_with fail
                  all_goals go_roundw
                  case rel => exact ⟨4, v6, by omega, by go_num, HB6, hb6⟩
                  case measure => simp [intOf]
            · obtain rfl : j = 4 := by omega
              have hex : (⟨T.toArray⟩ : ByteArray).extract n (t.length + 1) = ⟨(T.drop n).toArray⟩ := ext_drop T n (t.length + 1) (by omega)
              have HV2 : Hid ((acc ++ (b64Q n W).take 4) ++ b64T (T.drop n) = b64T s) := Lib.hid (by
                rw [← HV.out, HStep.out, List.append_assoc]; rfl)
              have hdl : (T.drop n).length + n = T.length := by rw [List.length_drop]; omega
              go_wp2_with fail
              all_goals go_roundw
              case rel => exact ⟨T.drop n, _, vq, rfl, by omega, HV2, HBq, hbq⟩
              case measure => show (T.drop n).length < T.length; omega
end Go.Proofs.YtpfamfkdfbcooaaGreatDoor
