/- In one text: A text that is valid, decoded and encoded again, is itself.; utf8.AppendRune onto the bytes of one's own; Builder.WriteRune; runes.Clean.; format.bytes: what base64 has written, read.; runes.Clean by its contract. -/
import Derived.Test.YtpfamfkdfbcooaaGreatDoorRf
import Derived.Test.YtpfamfkdfbcooaaGreatDoorB6
import Derived.Test.YtpfamfkdfbcooaaGreatDoorRre
import Derived.Test.YtpfamfkdfbcooaaGreatDoorEm
import Derived.Test.YtpfamfkdfbcooaaGreatDoorOpr
import Derived.Lib.MapLaws
import Derived.Lib.RuneBytes
import Derived.Lib.SlBytesRow
import Derived.Lib.BufferRead
set_option linter.unusedVariables false
set_option linter.unusedSimpArgs false
/- A text that is valid, decoded and encoded again, is itself. -/
namespace Go.Proofs.YtpfamfkdfbcooaaGreatDoor
open Go Go.RowKit Go.Proofs
/-- What Clean makes of a text. -/
def cleanFrom (s : ByteArray) : Nat → Nat → List UInt8
  | 0, _ => []
  | f + 1, p => if p < s.size then Lib.encodeRune ((Utf8.decode s p).1 : Int) ++ cleanFrom s f (p + (Utf8.decode s p).2) else []
def cleanB (s : ByteArray) : List UInt8 := cleanFrom s s.size 0
theorem clean_valid (s : ByteArray) : ∀ (f p : Nat), validFrom s f p = true → s.size ≤ p + f → cleanFrom s f p = s.data.toList.drop p
  | 0, p, _, h => by
    rw [cleanFrom, List.drop_eq_nil_of_le]
    have : s.data.toList.length = s.size := by rw [Array.length_toList]; rfl
    omega
  | f + 1, p, hv, h => by
    have hl : s.data.toList.length = s.size := by rw [Array.length_toList]; rfl
    rw [cleanFrom]
    by_cases hp : p < s.size
    · rw [if_pos hp]
      rw [validFrom, if_pos hp, Bool.and_eq_true] at hv
      have hw : 1 ≤ (Utf8.decode s p).2 := by rw [← Lib.decodeL_drop]; exact Lib.decodeL_width _
      have hne : s.data.toList.drop p ≠ [] := fun e => by
        have := congrArg List.length e
        rw [List.length_drop, hl] at this
        simp at this; omega
      rw [clean_valid s f _ hv.2 (by omega)]
      have he := Lib.encode_decode (s.data.toList.drop p) hne (fun ⟨h1, h2⟩ => by
        rw [Lib.decodeL_drop] at h1 h2
        have h3 := hv.1
        unfold okAt at h3
        rw [h2] at h3
        simp at h3
        have h4 : cb s p 0 < 128 := h3
        have h5 := dec_eq s p
        rw [if_pos h4] at h5
        rw [h5] at h1
        have h1' : cb s p 0 = 65533 := h1
        omega)
      rw [Lib.decodeL_drop] at he
      rw [he, ← List.drop_drop, List.take_append_drop]
    · rw [if_neg hp, List.drop_eq_nil_of_le (by omega)]
theorem clean_id (s : List UInt8) (h : validB ⟨s.toArray⟩ = true) : cleanB ⟨s.toArray⟩ = s := by
  unfold cleanB
  rw [clean_valid _ _ _ h (by omega), List.drop_zero]
end Go.Proofs.YtpfamfkdfbcooaaGreatDoor
/- utf8.AppendRune onto the bytes of one's own; Builder.WriteRune; runes.Clean. -/
namespace Go.Proofs.YtpfamfkdfbcooaaGreatDoor
open Go Go.RowKit Go.Proofs
section
variable {B : Nat} {w0 w : World} {v0 v : Value} {bs l : List UInt8}
set_option maxHeartbeats 1000000 in
set_option maxRecDepth 100000 in
theorem rune_two (r : Int) (h0 : 128 ≤ r) (h1 : r ≤ 2047) (hA : App B w0 v0 bs w v l) (hl : bs.length + l.length + 4 ≤ 140737488355328) :
    Calls Tryz.prog 121 #[v, .int .i32 r] w fun e w' => ∃ v', e = .returned v' ∧ App B w0 v0 bs w' v' (l ++ Lib.encodeRune r) := by
  have hE : Lib.byteCells (Lib.encodeRune r) = [.int .u8 (192 + r / 64), .int .u8 (128 + r % 64)] := by rw [Lib.byteCells_encodeRune]; unfold Lib.runeCells; rw [Lib.encodeRuneZ_two h0 h1]; rfl
  have hn : 2 = (Lib.encodeRune r).length := by rw [← Lib.byteCells_length, hE]; rfl
  obtain ⟨E, hEE⟩ : ∃ E, E = Lib.encodeRune r := ⟨_, rfl⟩
  rw [← hEE] at hE hn ⊢
  clear hEE
  have HE := Lib.hid hE
  have HN := Lib.hid hn
  clear hE hn
  go_enter Tryz.func121, Tryz.ntmps121
  go_wp2_with (at_builtin; (refine appN rfl _ _ rfl E 2 _ HN.out rfl rfl (by rw [HE.out]) hA (by have := HN.out; omega) ?_; intro v2 w2 hA2))
  go_ret
  exact ⟨_, rfl, hA2⟩
set_option maxHeartbeats 1000000 in
set_option maxRecDepth 100000 in
theorem rune_lo (r : Int) (h0 : 2048 ≤ r) (h1 : r < 55296) (hA : App B w0 v0 bs w v l) (hl : bs.length + l.length + 4 ≤ 140737488355328) :
    Calls Tryz.prog 121 #[v, .int .i32 r] w fun e w' => ∃ v', e = .returned v' ∧ App B w0 v0 bs w' v' (l ++ Lib.encodeRune r) := by
  have hE : Lib.byteCells (Lib.encodeRune r) = [.int .u8 (224 + r / 4096), .int .u8 (128 + r / 64 % 64), .int .u8 (128 + r % 64)] := by rw [Lib.byteCells_encodeRune]; unfold Lib.runeCells; rw [Lib.encodeRuneZ_three (.inl ⟨h0, h1⟩)]; rfl
  have hn : 3 = (Lib.encodeRune r).length := by rw [← Lib.byteCells_length, hE]; rfl
  obtain ⟨E, hEE⟩ : ∃ E, E = Lib.encodeRune r := ⟨_, rfl⟩
  rw [← hEE] at hE hn ⊢
  clear hEE
  have HE := Lib.hid hE
  have HN := Lib.hid hn
  clear hE hn
  go_enter Tryz.func121, Tryz.ntmps121
  go_wp2_with (at_builtin; (refine appN rfl _ _ rfl E 3 _ HN.out rfl rfl (by rw [HE.out]) hA (by have := HN.out; omega) ?_; intro v2 w2 hA2))
  go_ret
  exact ⟨_, rfl, hA2⟩
set_option maxHeartbeats 1000000 in
set_option maxRecDepth 100000 in
theorem rune_hi (r : Int) (h0 : 57343 < r) (h1 : r ≤ 65535) (hA : App B w0 v0 bs w v l) (hl : bs.length + l.length + 4 ≤ 140737488355328) :
    Calls Tryz.prog 121 #[v, .int .i32 r] w fun e w' => ∃ v', e = .returned v' ∧ App B w0 v0 bs w' v' (l ++ Lib.encodeRune r) := by
  have hE : Lib.byteCells (Lib.encodeRune r) = [.int .u8 (224 + r / 4096), .int .u8 (128 + r / 64 % 64), .int .u8 (128 + r % 64)] := by rw [Lib.byteCells_encodeRune]; unfold Lib.runeCells; rw [Lib.encodeRuneZ_three (.inr ⟨h0, h1⟩)]; rfl
  have hn : 3 = (Lib.encodeRune r).length := by rw [← Lib.byteCells_length, hE]; rfl
  obtain ⟨E, hEE⟩ : ∃ E, E = Lib.encodeRune r := ⟨_, rfl⟩
  rw [← hEE] at hE hn ⊢
  clear hEE
  have HE := Lib.hid hE
  have HN := Lib.hid hn
  clear hE hn
  go_enter Tryz.func121, Tryz.ntmps121
  go_wp2_with (at_builtin; (refine appN rfl _ _ rfl E 3 _ HN.out rfl rfl (by rw [HE.out]) hA (by have := HN.out; omega) ?_; intro v2 w2 hA2))
  go_ret
  exact ⟨_, rfl, hA2⟩
set_option maxHeartbeats 1000000 in
set_option maxRecDepth 100000 in
theorem rune_four (r : Int) (h0 : 65536 ≤ r) (h1 : r ≤ 1114111) (hA : App B w0 v0 bs w v l) (hl : bs.length + l.length + 4 ≤ 140737488355328) :
    Calls Tryz.prog 121 #[v, .int .i32 r] w fun e w' => ∃ v', e = .returned v' ∧ App B w0 v0 bs w' v' (l ++ Lib.encodeRune r) := by
  have hE : Lib.byteCells (Lib.encodeRune r) = [.int .u8 (240 + r / 262144), .int .u8 (128 + r / 4096 % 64), .int .u8 (128 + r / 64 % 64), .int .u8 (128 + r % 64)] := by rw [Lib.byteCells_encodeRune]; unfold Lib.runeCells; rw [Lib.encodeRuneZ_four h0 h1]; rfl
  have hn : 4 = (Lib.encodeRune r).length := by rw [← Lib.byteCells_length, hE]; rfl
  obtain ⟨E, hEE⟩ : ∃ E, E = Lib.encodeRune r := ⟨_, rfl⟩
  rw [← hEE] at hE hn ⊢
  clear hEE
  have HE := Lib.hid hE
  have HN := Lib.hid hn
  clear hE hn
  go_enter Tryz.func121, Tryz.ntmps121
  go_wp2_with (at_builtin; (refine appN rfl _ _ rfl E 4 _ HN.out rfl rfl (by rw [HE.out]) hA (by have := HN.out; omega) ?_; intro v2 w2 hA2))
  go_ret
  exact ⟨_, rfl, hA2⟩
set_option maxHeartbeats 1000000 in
set_option maxRecDepth 100000 in
theorem rune_sur (r : Int) (h0 : 55296 ≤ r) (h1 : r ≤ 57343) (hA : App B w0 v0 bs w v l) (hl : bs.length + l.length + 4 ≤ 140737488355328) :
    Calls Tryz.prog 121 #[v, .int .i32 r] w fun e w' => ∃ v', e = .returned v' ∧ App B w0 v0 bs w' v' (l ++ Lib.encodeRune r) := by
  have hE : Lib.byteCells (Lib.encodeRune r) = [.int .u8 239, .int .u8 191, .int .u8 189] := by rw [Lib.byteCells_encodeRune]; unfold Lib.runeCells; rw [Lib.encodeRuneZ_bad (.inr (.inl ⟨h0, h1⟩))]; rfl
  have hn : 3 = (Lib.encodeRune r).length := by rw [← Lib.byteCells_length, hE]; rfl
  obtain ⟨E, hEE⟩ : ∃ E, E = Lib.encodeRune r := ⟨_, rfl⟩
  rw [← hEE] at hE hn ⊢
  clear hEE
  have HE := Lib.hid hE
  have HN := Lib.hid hn
  clear hE hn
  go_enter Tryz.func121, Tryz.ntmps121
  go_wp2_with (at_builtin; (refine appN rfl _ _ rfl E 3 _ HN.out rfl rfl (by rw [HE.out]) hA (by have := HN.out; omega) ?_; intro v2 w2 hA2))
  go_ret
  exact ⟨_, rfl, hA2⟩
set_option maxHeartbeats 1000000 in
set_option maxRecDepth 100000 in
theorem rune_big (r : Int) (h0 : 1114111 < r) (h1 : r ≤ 2147483647) (hA : App B w0 v0 bs w v l) (hl : bs.length + l.length + 4 ≤ 140737488355328) :
    Calls Tryz.prog 121 #[v, .int .i32 r] w fun e w' => ∃ v', e = .returned v' ∧ App B w0 v0 bs w' v' (l ++ Lib.encodeRune r) := by
  have hE : Lib.byteCells (Lib.encodeRune r) = [.int .u8 239, .int .u8 191, .int .u8 189] := by rw [Lib.byteCells_encodeRune]; unfold Lib.runeCells; rw [Lib.encodeRuneZ_bad (.inr (.inr h0))]; rfl
  have hn : 3 = (Lib.encodeRune r).length := by rw [← Lib.byteCells_length, hE]; rfl
  obtain ⟨E, hEE⟩ : ∃ E, E = Lib.encodeRune r := ⟨_, rfl⟩
  rw [← hEE] at hE hn ⊢
  clear hEE
  have HE := Lib.hid hE
  have HN := Lib.hid hn
  clear hE hn
  go_enter Tryz.func121, Tryz.ntmps121
  go_wp2_with (at_builtin; (refine appN rfl _ _ rfl E 3 _ HN.out rfl rfl (by rw [HE.out]) hA (by have := HN.out; omega) ?_; intro v2 w2 hA2))
  go_ret
  exact ⟨_, rfl, hA2⟩
set_option maxHeartbeats 1000000 in
set_option maxRecDepth 100000 in
theorem rune_one (r : Int) (h0 : 0 ≤ r) (h1 : r ≤ 127) (hA : App B w0 v0 bs w v l) (hl : bs.length + l.length + 4 ≤ 140737488355328) :
    Calls Tryz.prog 98 #[v, .int .i32 r] w fun e w' => ∃ v', e = .returned v' ∧ App B w0 v0 bs w' v' (l ++ Lib.encodeRune r) := by
  have hE : Lib.byteCells (Lib.encodeRune r) = [.int .u8 r] := by rw [Lib.byteCells_encodeRune]; unfold Lib.runeCells; rw [Lib.encodeRuneZ_one h0 h1]; rfl
  have hn : 1 = (Lib.encodeRune r).length := by rw [← Lib.byteCells_length, hE]; rfl
  obtain ⟨E, hEE⟩ : ∃ E, E = Lib.encodeRune r := ⟨_, rfl⟩
  rw [← hEE] at hE hn ⊢
  clear hEE
  have HE := Lib.hid hE
  have HN := Lib.hid hn
  clear hE hn
  go_enter Tryz.func98, Tryz.ntmps98
  go_wp2_with (at_builtin; (refine appN rfl _ _ rfl E 1 _ HN.out rfl rfl (by rw [HE.out]) hA (by have := HN.out; omega) ?_; intro v2 w2 hA2))
  go_ret
  exact ⟨_, rfl, hA2⟩
theorem rune_na (r : Int) (h0 : 128 ≤ r) (h1 : r ≤ 2147483647) (hA : App B w0 v0 bs w v l) (hl : bs.length + l.length + 4 ≤ 140737488355328) :
    Calls Tryz.prog 121 #[v, .int .i32 r] w fun e w' => ∃ v', e = .returned v' ∧ App B w0 v0 bs w' v' (l ++ Lib.encodeRune r) := by
  by_cases a : r ≤ 2047
  · exact rune_two r h0 a hA hl
  by_cases b : r < 55296
  · exact rune_lo r (by omega) b hA hl
  by_cases c : r ≤ 57343
  · exact rune_sur r (by omega) c hA hl
  by_cases d : r ≤ 65535
  · exact rune_hi r (by omega) d hA hl
  by_cases e : r ≤ 1114111
  · exact rune_four r (by omega) e hA hl
  · exact rune_big r (by omega) h1 hA hl
set_option maxRecDepth 100000 in
theorem rune_any (r : Int) (h0 : 0 ≤ r) (h1 : r ≤ 2147483647) (hA : App B w0 v0 bs w v l) (hl : bs.length + l.length + 4 ≤ 140737488355328) :
    Calls Tryz.prog 98 #[v, .int .i32 r] w fun e w' => ∃ v', e = .returned v' ∧ App B w0 v0 bs w' v' (l ++ Lib.encodeRune r) := by
  by_cases a : r ≤ 127
  · exact rune_one r h0 a hA hl
  · have hna := rune_na r (by omega) h1 hA hl
    have hr : (r ≤ 127) = False := eq_false a
    go_enter Tryz.func98, Tryz.ntmps98
    go_wp2_with fail
    refine hna.mono ?_
    rintro e' w' ⟨v', rfl, hA2⟩
    go_wp2_with fail
    go_ret
    exact ⟨_, rfl, hA2⟩
end
section
variable {b : Nat} {T : TypeId} {rest : List Value} {w : World} {v : Value} {bs : List UInt8}
set_option maxRecDepth 100000 in
theorem writeRune_any (hF : Fits T rest.length) (h : Bw b T rest w v bs) (r : Int) (h0 : 0 ≤ r) (h1 : r ≤ 2147483647) (hl : bs.length + 4 ≤ 140737488355328) :
    Calls Tryz.prog 73 #[.pointer (some ⟨b, 0, none⟩), .int .i32 r] w fun e w' => ∃ n, e = .returned (.tuple #[.int .i64 n, .nilIface]) ∧ ∃ v', BApp b T w v bs w' v' (Lib.encodeRune r) rest := by
  go_enter Tryz.func73, Tryz.ntmps73
  go_wp2_with fail
  refine (copyCheck_any hF h).mono ?_
  rintro e w1 ⟨rfl, hB⟩
  have hb1 := hB.now
  rw [List.append_nil] at hb1
  obtain ⟨A, c0, rfl⟩ := hb1.own.shape
  have hc := hb1.cell
  have hA := App.start hb1.own (Nat.le_of_lt hb1.lt)
  have hR := rune_any r h0 h1 hA (by simp; omega)
  have HK := Lib.hid (And.intro hB hb1)
  clear hB hb1 h hA
  go_wp2_with fail
  refine hR.mono ?_
  rintro e' w2 ⟨v2, rfl, hA2⟩
  have hz := frozen_after HK.out.2 hA2
  have hsz := cell_after HK.out.2 hA2
  have hQ := BApp.put' HK.out.1 HK.out.2 hA2
  rw [List.nil_append] at hQ
  have hcc := hQ.now.cell
  obtain ⟨A2, c2, rfl⟩ := hA2.own.shape
  clear hA2 hR
  go_wp2_with fail
  go_ret2
  simp only [List.nil_append, List.length_append] at hQ
  exact ⟨_, rfl, _, hQ⟩
end
end Go.Proofs.YtpfamfkdfbcooaaGreatDoor
/- format.bytes: what base64 has written, read. -/
namespace Go.Proofs.YtpfamfkdfbcooaaGreatDoor
open Go Go.RowKit Go.Proofs
theorem trim_cut (s : List UInt8) : Lib.trimSuffix s [61] = cutQ s := by
  rcases List.eq_nil_or_concat s with rfl | ⟨l, x, rfl⟩
  · rfl
  · rw [List.concat_eq_append]
    by_cases h : x = 61
    · subst h
      rw [cutQ_61]
      simp [Lib.trimSuffix, Lib.hasSuffix]
    · rw [cutQ_snoc _ _ h]
      unfold Lib.trimSuffix Lib.hasSuffix
      rw [if_neg]
      have h' : ¬ (61 : UInt8) = x := fun e => h e.symm
      simp [h, h']
def idxV (c : UInt8) : Int := match b64I c with | some i => (i : Int) | none => -1
theorem idx_eq (c : UInt8) : Lib.indexByte b64A c = idxV c := by
  have key : ∀ n : Fin 256, Lib.indexByte b64A (UInt8.ofNat n.val) = idxV (UInt8.ofNat n.val) := by decide +kernel
  have := key ⟨c.toNat, c.toNat_lt⟩
  simpa using this
theorem b64I_lt (c : UInt8) (i : Nat) (h : b64I c = some i) : i < 64 := by
  unfold b64I at h
  have := (List.findIdx?_eq_some_iff_getElem.1 h).1
  exact this
theorem or_u32w (a b : Nat) (ha : a < 2 ^ 32) (hb : b < 2 ^ 32) : bits BinOp.or IntKind.u32 (a : Int) (b : Int) = ((a ||| b : Nat) : Int) := by
  have hx : a ||| b < 2 ^ 32 := Nat.or_lt_two_pow ha hb
  have h1 : (BitVec.ofInt 32 (a : Int)).toNat = a := by
    rw [BitVec.ofInt_natCast, BitVec.toNat_ofNat]; exact Nat.mod_eq_of_lt (by omega)
  have h2 : (BitVec.ofInt 32 (b : Int)).toNat = b := by
    rw [BitVec.ofInt_natCast, BitVec.toNat_ofNat]; exact Nat.mod_eq_of_lt (by omega)
  show IntKind.u32.wrap ((BitVec.ofInt 32 (a : Int) ||| BitVec.ofInt 32 (b : Int)).toNat : Int) = _
  rw [BitVec.toNat_or, h1, h2, wrapU32]
  omega
theorem or_bits (X d : Nat) (hd : d < 64) : bits BinOp.or IntKind.u32 ((X : Int) * 64 % 4294967296) (d : Int) = (((X * 64 + d) % 4294967296 : Nat) : Int) := by
  obtain ⟨m, hm⟩ : ∃ m, X * 64 % 4294967296 = m * 64 := ⟨X * 64 % 4294967296 / 64, by omega⟩
  have hb : m * 64 < 4294967296 := by omega
  have e : ((X : Int) * 64 % 4294967296) = ((m * 64 : Nat) : Int) := by omega
  rw [e, or_u32w _ _ hb (by omega), Nat.mul_comm m 64, show (64 : Nat) = 2 ^ 6 from rfl, ← Nat.two_pow_add_eq_or_of_lt (by omega : d < 2 ^ 6)]
  omega
set_option maxHeartbeats 4000000 in
set_option maxRecDepth 100000 in
theorem bytes_any (w : World) (s : List UInt8) (hs : s.length ≤ 4000000) :
    Calls Tryz.prog 39 #[.string ⟨s.toArray⟩] w fun e w' => ∃ v ok, e = .returned (.tuple #[v, .bool ok]) ∧ Below w.heap.size w w' ∧ (∃ A n c, v = .slice A n c) ∧
      (∀ out, unT 0 0 (cutQ (cutQ s)) = some out → OwnB w.heap.size w' v out ∧ ok = decide ((cutQ (cutQ s)).length % 4 ≠ 1)) ∧ (unT 0 0 (cutQ (cutQ s)) = none → ok = false) := by
  have hc1 : (cutQ s).length ≤ s.length := by unfold cutQ; split <;> simp
  have hc2 : (cutQ (cutQ s)).length ≤ (cutQ s).length := by
    obtain ⟨q, hq⟩ : ∃ q, q = cutQ s := ⟨_, rfl⟩
    rw [← hq]; unfold cutQ; split <;> simp
  have h61 : (61 : UInt8) = 61 := rfl
  have HT1 : Hid (∀ W, Calls Tryz.prog 72 #[.string ⟨s.toArray⟩, .string ⟨#[61]⟩] W fun e w' => e = .returned (.string ⟨(cutQ s).toArray⟩) ∧ w' = W) := Lib.hid (fun W => by
    have := Tryz.strings_TrimSuffix ⟨s.toArray⟩ ⟨#[61]⟩ W (by show s.length ≤ _; omega)
    rwa [show (⟨s.toArray⟩ : ByteArray).data.toList = s from by simp, show (⟨#[61]⟩ : ByteArray).data.toList = [61] from rfl, trim_cut] at this)
  have HT2 : Hid (∀ W, Calls Tryz.prog 72 #[.string ⟨(cutQ s).toArray⟩, .string ⟨#[61]⟩] W fun e w' => e = .returned (.string ⟨(cutQ (cutQ s)).toArray⟩) ∧ w' = W) := Lib.hid (fun W => by
    have := Tryz.strings_TrimSuffix ⟨(cutQ s).toArray⟩ ⟨#[61]⟩ W (by show (cutQ s).length ≤ _; omega)
    rwa [show (⟨(cutQ s).toArray⟩ : ByteArray).data.toList = cutQ s from by simp, show (⟨#[61]⟩ : ByteArray).data.toList = [61] from rfl, trim_cut] at this)
  have HI : Hid (∀ W (x : UInt8), Calls Tryz.prog 70 #[.string ⟨#[65, 66, 67, 68, 69, 70, 71, 72, 73, 74, 75, 76, 77, 78, 79, 80, 81, 82, 83, 84, 85, 86, 87, 88, 89, 90, 97, 98, 99, 100, 101, 102, 103, 104, 105, 106, 107, 108, 109, 110, 111, 112, 113, 114, 115, 116, 117, 118, 119, 120, 121, 122, 48, 49, 50, 51, 52, 53, 54, 55, 56, 57, 43, 47]⟩, .int .u8 x.toNat] W fun e w' => e = .returned (.int .i64 (idxV x)) ∧ w' = W) := Lib.hid (fun W x => by
    have := Tryz.strings_IndexByte ⟨#[65, 66, 67, 68, 69, 70, 71, 72, 73, 74, 75, 76, 77, 78, 79, 80, 81, 82, 83, 84, 85, 86, 87, 88, 89, 90, 97, 98, 99, 100, 101, 102, 103, 104, 105, 106, 107, 108, 109, 110, 111, 112, 113, 114, 115, 116, 117, 118, 119, 120, 121, 122, 48, 49, 50, 51, 52, 53, 54, 55, 56, 57, 43, 47]⟩ x.toNat W
    rw [← idx_eq x]
    simpa [b64A] using this)
  obtain ⟨S1, hS1⟩ : ∃ S1, S1 = cutQ s := ⟨_, rfl⟩
  rw [← hS1] at HT1 HT2 hc1 hc2 ⊢
  obtain ⟨S, hS⟩ : ∃ S, S = cutQ S1 := ⟨_, rfl⟩
  rw [← hS] at HT2 hc2 ⊢
  obtain ⟨R, hR⟩ : ∃ R, R = unT 0 0 S := ⟨_, rfl⟩
  have HR0 : Hid ((unT 0 0 (S.drop 0)).map (([] : List UInt8) ++ ·) = R) := Lib.hid (by rw [hR, List.drop_zero]; cases unT 0 0 S <;> simp)
  rw [← hR]
  have hA0 := App.start (OwnB.nil w.heap.size w) (Nat.le_refl _)
  have hsz : (⟨S.toArray⟩ : ByteArray).size = S.length := rfl
  clear hS hS1 hR
  go_enter Tryz.func39, Tryz.ntmps39
  go_wp2_with fail
  refine (HT1.out _).mono ?_
  rintro e' w' ⟨rfl, rfl⟩
  go_wp2_with fail
  refine (HT2.out _).mono ?_
  rintro e' w'' ⟨rfl, rfl⟩
  go_wp2_with fail
  go_loopw [4, 5, 6, 14] (fun b x y i wr => ∃ (k X h : Nat) (acc : List UInt8), k ≤ S.length ∧ i = .int .i64 k ∧ x = .int .u32 X ∧ y = .int .i64 h ∧ (h = 0 ∨ h = 2 ∨ h = 4 ∨ h = 6) ∧ X < 4294967296 ∧ App w''.heap.size w'' (.slice none 0 0) [] wr b acc ∧ acc.length ≤ k ∧ Hid ((unT X h (S.drop k)).map (acc ++ ·) = R)) (fun _ _ _ i _ => S.length - (intOf i).toNat)
  case atStart => exact ⟨0, 0, 0, [], by omega, rfl, rfl, rfl, .inl rfl, by omega, hA0, by simp, HR0⟩
  case round =>
    clear hA0 HR0
    obtain ⟨k, X, h, acc, hk, rfl, rfl, rfl, hh, hX, hA, hal, HV⟩ := hrel
    rcases Nat.lt_or_ge k S.length with hlt | hge
    · obtain ⟨x, hx⟩ : ∃ x, x = S[k] := ⟨_, rfl⟩
      have hds := drop_cons S k hlt
      rw [← hx] at hds
      have hby : ∀ h, ((⟨S.toArray⟩ : ByteArray)[k]'h).toNat = x.toNat := fun h => by rw [hx]; rfl
      have hv := HV.out
      rw [hds, unT] at hv
      clear HV hx hds
      cases hi : b64I x with
      | none =>
        rw [hi] at hv
        have hR : R = none := by rw [← hv]; rfl
        have HIx := Lib.hid (HI.out wr x)
        have hidx : idxV x = -1 := by unfold idxV; rw [hi]
        rw [hidx] at HIx
        have hb := hA.fresh
        clear hv hi hidx
        go_wp2_with fail
        refine HIx.out.mono ?_
        rintro e' w3 ⟨rfl, rfl⟩
        go_wp2_with fail
        go_ret2
        refine ⟨_, _, rfl, hb, ⟨none, 0, 0, rfl⟩, fun out ho => ?_, fun _ => rfl⟩
        rw [hR] at ho; cases ho
      | some d =>
        rw [hi] at hv
        have hdl := b64I_lt x d hi
        have HIx := Lib.hid (HI.out wr x)
        have hidx : idxV x = (d : Int) := by unfold idxV; rw [hi]
        rw [hidx] at HIx
        clear hi hidx
        have hor := or_bits X d hdl
        have hdm : ((d : Int) % 4294967296) = (d : Int) := by omega
        have hdn : decide ((d : Int) < 0) = false := decide_eq_false (by omega)
        obtain ⟨Y, hY⟩ : ∃ Y, Y = (X * 64 + d) % 4294967296 := ⟨_, rfl⟩
        have hYb : Y < 4294967296 := by omega
        dsimp only at hv
        rw [← hY] at hor hv
        clear hY
        rcases hh with rfl | rfl | rfl | rfl
        · have HV2 : Hid ((unT Y 6 (S.drop (k + 1))).map (acc ++ ·) = R) := Lib.hid (by
            rw [← hv]; simp)
          clear hv
          go_wp2_with fail
          refine HIx.out.mono ?_
          rintro e' w3 ⟨rfl, rfl⟩
          go_wp2_with fail
          all_goals go_roundw
          case rel => exact ⟨k + 1, Y, 6, acc, by omega, by go_num, by first | rfl | (rw [hor]), by go_num, by simp, hYb, hA, by omega, HV2⟩
          case measure => simp [intOf]; omega
        · have HV2 : Hid ((unT Y 0 (S.drop (k + 1))).map ((acc ++ [UInt8.ofNat (Y / 2 ^ (2 - 2))]) ++ ·) = R) := Lib.hid (by
            rw [← hv]; simp [Function.comp_def])
          have hbyt : ((Y : Int) % 256) = ((UInt8.ofNat (Y / 2 ^ (2 - 2))).toNat : Int) := by
            rw [UInt8.toNat_ofNat']; simp
          obtain ⟨z, hz⟩ : ∃ z, z = UInt8.ofNat (Y / 2 ^ (2 - 2)) := ⟨_, rfl⟩
          rw [← hz] at HV2 hbyt
          clear hv hz
          go_wp2_with fail
          refine HIx.out.mono ?_
          rintro e' w3 ⟨rfl, rfl⟩
          go_wp2_with (at_builtin; refine appN rfl _ _ rfl [z] 1 _ rfl rfl rfl (by simp [hbyt, Lib.byteCells]) hA (by simp; omega) ?_; intro v2 w2 hA2)
          all_goals go_roundw
          case rel => exact ⟨k + 1, Y, 0, _, by omega, by go_num, by first | rfl | (rw [hor]), by go_num, by simp, hYb, hA2, by simp; omega, HV2⟩
          case measure => simp [intOf]; omega
        · have HV2 : Hid ((unT Y 2 (S.drop (k + 1))).map ((acc ++ [UInt8.ofNat (Y / 2 ^ (4 - 2))]) ++ ·) = R) := Lib.hid (by
            rw [← hv]; simp [Function.comp_def])
          have hbyt : (((Y : Int) / 4) % 256) = ((UInt8.ofNat (Y / 2 ^ (4 - 2))).toNat : Int) := by
            rw [UInt8.toNat_ofNat']; simp
          obtain ⟨z, hz⟩ : ∃ z, z = UInt8.ofNat (Y / 2 ^ (4 - 2)) := ⟨_, rfl⟩
          rw [← hz] at HV2 hbyt
          clear hv hz
          go_wp2_with fail
          refine HIx.out.mono ?_
          rintro e' w3 ⟨rfl, rfl⟩
          go_wp2_with (at_builtin; refine appN rfl _ _ rfl [z] 1 _ rfl rfl rfl (by simp [hbyt, Lib.byteCells]) hA (by simp; omega) ?_; intro v2 w2 hA2)
          all_goals go_roundw
          case rel => exact ⟨k + 1, Y, 2, _, by omega, by go_num, by first | rfl | (rw [hor]), by go_num, by simp, hYb, hA2, by simp; omega, HV2⟩
          case measure => simp [intOf]; omega
        · have HV2 : Hid ((unT Y 4 (S.drop (k + 1))).map ((acc ++ [UInt8.ofNat (Y / 2 ^ (6 - 2))]) ++ ·) = R) := Lib.hid (by
            rw [← hv]; simp [Function.comp_def])
          have hbyt : (((Y : Int) / 16) % 256) = ((UInt8.ofNat (Y / 2 ^ (6 - 2))).toNat : Int) := by
            rw [UInt8.toNat_ofNat']; simp
          obtain ⟨z, hz⟩ : ∃ z, z = UInt8.ofNat (Y / 2 ^ (6 - 2)) := ⟨_, rfl⟩
          rw [← hz] at HV2 hbyt
          clear hv hz
          go_wp2_with fail
          refine HIx.out.mono ?_
          rintro e' w3 ⟨rfl, rfl⟩
          go_wp2_with (at_builtin; refine appN rfl _ _ rfl [z] 1 _ rfl rfl rfl (by simp [hbyt, Lib.byteCells]) hA (by simp; omega) ?_; intro v2 w2 hA2)
          all_goals go_roundw
          case rel => exact ⟨k + 1, Y, 4, _, by omega, by go_num, by first | rfl | (rw [hor]), by go_num, by simp, hYb, hA2, by simp; omega, HV2⟩
          case measure => simp [intOf]; omega
    · have hkk : k = S.length := by omega
      have hdr : S.drop k = [] := List.drop_eq_nil_of_le (by omega)
      have hv := HV.out
      rw [hdr, unT] at hv
      have hR : R = some acc := by rw [← hv]; simp
      have hO := hA.own
      have hb := hA.fresh
      obtain ⟨A, c, rfl⟩ := hO.shape
      have hO := hO
      clear HV hv hdr hA
      have hrem : ((S.length : Int) % 4 != 1) = decide (S.length % 4 ≠ 1) := by
        rw [Bool.eq_iff_iff, bne_iff_ne, decide_eq_true_eq]; omega
      go_wp2_with fail
      go_ret2
      refine ⟨_, _, rfl, hb, ⟨_, _, _, rfl⟩, fun out ho => ?_, fun ho => ?_⟩
      · rw [hR] at ho; injection ho with ho; subst ho
        exact ⟨by simpa using hO, by first | rfl | exact hrem | (rw [hrem]) | simp⟩
      · rw [hR] at ho; cases ho
end Go.Proofs.YtpfamfkdfbcooaaGreatDoor
/- runes.Clean by its contract. -/
namespace Go.Proofs.YtpfamfkdfbcooaaGreatDoor
open Go Go.RowKit Go.Proofs
theorem own_text {B : Nat} {w : World} {v : Value} {bs : List UInt8} (h : OwnB B w v bs) : (convert 60 9 v).run Tryz.prog w = .ok (.string ⟨bs.toArray⟩) w := by
  have hO : OwnG 5 1 B w v bs.length (Lib.byteCells bs) := h
  rcases h.2 with ⟨rfl, h0⟩ | ⟨g, cap, cur, rfl, hb, hgg, hnc, hcm, hcs, htake⟩
  · have : bs = [] := List.eq_nil_of_length_eq_zero h0
    subst this
    exact Lib.run_convert_nil_bytes w _ _ _ 0 Tryz.underlying60 Tryz.underlying5 Tryz.underlying9
  · refine Lib.run_convert_whole w _ _ _ Tryz.underlying60 Tryz.underlying5 Tryz.underlying9 g 0 ⟨bs.toArray⟩ ?_ cap
    intro i hi
    have hi' : i < bs.length := hi
    obtain ⟨_, _, hx⟩ := hO.cells rfl
    obtain ⟨g', hg', _, hx2⟩ := hx (by rw [Lib.byteCells_length]; omega)
    injection hg' with hg'
    injection hg' with hg' _ _
    subst hg'
    rw [Nat.zero_add]
    exact hx2 i _ (by simp [Lib.byteCells, hi']; rfl)
theorem encRune_length (r : Int) : (Lib.encodeRune r).length ≤ 4 := by
  rw [← Lib.runeCells_length]; exact (Lib.runeCells_le r).2
set_option maxHeartbeats 1000000 in
set_option maxRecDepth 100000 in
theorem clean_any (w : World) (v : Value) (q : List UInt8) {Bq : Nat} (hO : OwnB Bq w v q) (hl : q.length ≤ 60000000) :
    Calls Tryz.prog 40 #[v] w fun e w' => e = .returned (.string ⟨(cleanB ⟨q.toArray⟩).toArray⟩) ∧ Below w.heap.size w w' := by
  have kc : (convert 60 9 v).run Tryz.prog (w.alloc (.cells #[.pointer none, .slice none 0 0] 80)) = .ok (.string ⟨q.toArray⟩) (w.alloc (.cells #[.pointer none, .slice none 0 0] 80)) := own_text (hO.alloc _)
  clear hO
  obtain ⟨E, hEE⟩ : ∃ E, E = cleanB ⟨q.toArray⟩ := ⟨_, rfl⟩
  rw [← hEE]
  have HE := Lib.hid hEE
  clear hEE
  go_enter Tryz.func40, Tryz.ntmps40
  have hB0 := bw_new w
  go_wp2_with fail
  obtain ⟨B1, hB1⟩ : ∃ B1, B1 = w.heap.size := ⟨_, rfl⟩
  have hst : Bw B1 80 [] ((w.alloc (.cells #[.pointer none, .slice none 0 0] 80)).iter ⟨q.toArray⟩ 0) (.slice none 0 0) [] ∧ ((w.alloc (.cells #[.pointer none, .slice none 0 0] 80)).iter ⟨q.toArray⟩ 0).heap[B1 + 1]? = some (.stringIter ⟨q.toArray⟩ 0) ∧ Below w.heap.size w ((w.alloc (.cells #[.pointer none, .slice none 0 0] 80)).iter ⟨q.toArray⟩ 0) := by
    rw [hB1]
    refine ⟨hB0.below (show Below _ _ (World.alloc _ (.stringIter ⟨q.toArray⟩ 0)) from (Below.refl _ _).alloc (Nat.le_refl _) _), ?_, ?_⟩
    · have := World.iter_heap (w.alloc (.cells #[.pointer none, .slice none 0 0] 80)) ⟨q.toArray⟩ 0
      simpa using this
    · exact (show Below _ _ (World.alloc _ (.stringIter ⟨q.toArray⟩ 0)) from ((Below.refl _ _).alloc (Nat.le_refl _) _).alloc (by simp) _)
  have hw1 : w.heap.size ≤ B1 := by omega
  rw [← hB1]
  clear hB0 kc
  have HST := Lib.hid hst
  have HB1 := Lib.hid hB1
  clear hst hB1
  obtain ⟨qb', hqb⟩ : ∃ Q : ByteArray, Q = ⟨q.toArray⟩ := ⟨_, rfl⟩
  have hqs : qb'.size = q.length := by rw [hqb]; rfl
  rw [← hqb] at HST HE ⊢
  have hqs' : qb'.size ≤ 60000000 := by omega
  clear hqb hqs
  have HEE : Hid (cleanFrom qb' qb'.size 0 = E) := Lib.hid HE.out.symm
  go_loopw [] (fun wr => ∃ (pos fuel : Nat) (acc : List UInt8) (vk : Value), Bw B1 80 [] wr vk acc ∧ wr.heap[B1 + 1]? = some (.stringIter qb' pos) ∧ Below w.heap.size w wr ∧ acc ++ cleanFrom qb' fuel pos = cleanFrom qb' qb'.size 0 ∧ qb'.size ≤ pos + fuel ∧ acc.length ≤ 4 * pos) (fun wr => qb'.size - wr.iterPos (B1 + 1))
  case atStart => exact ⟨0, qb'.size, [], _, HST.out.1, HST.out.2.1, HST.out.2.2, rfl, by omega, by simp⟩
  case round =>
    obtain ⟨pos, fuel, acc, vk, hI, hit, hbw, hacc, hfu, hal⟩ := hrel
    by_cases hp : pos < qb'.size
    · have hnx : ∀ ty, (Instr.next (.pointer (some ⟨B1 + 1, 0, none⟩)) true ty).run Tryz.prog wr = _ := fun ty => Lib.run_next_any_at wr (B1 + 1) qb' pos ty hit hp
      have hwd := width_pos qb' pos hp
      have hd1 := decode_le2 qb' pos
      have hI2 := hI.iterAt hit (pos + (Utf8.decode qb' pos).2)
      have hit2 := Lib.iterAt_heap wr (B1 + 1) qb' pos (pos + (Utf8.decode qb' pos).2) hit
      have hbw2 := Lib.below_iterAt hbw (k := B1 + 1) (by omega) qb' (pos + (Utf8.decode qb' pos).2)
      obtain ⟨f, rfl⟩ : ∃ f, fuel = f + 1 := ⟨fuel - 1, by omega⟩
      have hstep : cleanFrom qb' (f + 1) pos = Lib.encodeRune ((Utf8.decode qb' pos).1 : Int) ++ cleanFrom qb' f (pos + (Utf8.decode qb' pos).2) := by rw [cleanFrom, if_pos hp]
      rw [hstep] at hacc
      obtain ⟨r, hr⟩ : ∃ r, r = (Utf8.decode qb' pos).1 := ⟨_, rfl⟩
      obtain ⟨n, hn⟩ : ∃ n, n = (Utf8.decode qb' pos).2 := ⟨_, rfl⟩
      rw [← hr] at hnx hacc hd1
      rw [← hn] at hnx hI2 hit2 hbw2 hacc hwd
      obtain ⟨W2, hW2⟩ : ∃ W2, W2 = wr.iterAt (B1 + 1) qb' (pos + n) := ⟨_, rfl⟩
      rw [← hW2] at hnx hI2 hit2 hbw2
      have HACC := Lib.hid hacc
      have HIT := Lib.hid hit2
      clear hacc hr hn hW2 hstep hit2
      have hfin : ∀ (w3 : World) (v3 : Value), BApp B1 80 W2 vk acc w3 v3 (Lib.encodeRune (r : Int)) [] → Bw B1 80 [] w3 v3 (acc ++ Lib.encodeRune (r : Int)) ∧ w3.heap[B1 + 1]? = some (.stringIter qb' (pos + n)) ∧ Below w.heap.size w w3 ∧ (acc ++ Lib.encodeRune (r : Int)) ++ cleanFrom qb' f (pos + n) = cleanFrom qb' qb'.size 0 ∧ qb'.size ≤ (pos + n) + f ∧ (acc ++ Lib.encodeRune (r : Int)).length ≤ 4 * (pos + n) := by
        intro w3 v3 hA
        refine ⟨hA.now, hA.iter hI2 HIT.out, hbw2.trans (hA.keep.below hbw2.size (fun k hk => ?_)), by rw [List.append_assoc]; exact HACC.out, by omega, ?_⟩
        · rintro (e | e)
          · omega
          · have := (hI2.own.lt k e.symm).1; omega
        · have := encRune_length (r : Int); rw [List.length_append]; omega
      go_wp2_with fail
      refine (writeRune_any (rest := []) fits_builder hI2 (r : Int) (by omega) (by omega) (by omega)).mono ?_
      rintro e' w3 ⟨n3, rfl, v3, hA⟩
      have hF := hfin w3 v3 hA
      clear hA
      have hF2 := Lib.hid hF.2.1
      go_wp2_with fail
      all_goals go_roundw
      case rel => exact ⟨pos + n, f, _, v3, hF⟩
      case measure =>
        simp only [World.iterPos, hF2.out, hit]
        omega
    · have hnx : ∀ ty, (Instr.next (.pointer (some ⟨B1 + 1, 0, none⟩)) true ty).run Tryz.prog wr = _ := fun ty => Lib.run_next_end_at wr (B1 + 1) qb' pos ty hit hp
      have hend : acc = E := by
        rw [← HEE.out, ← hacc]
        cases fuel with
        | zero => simp [cleanFrom]
        | succ f => rw [cleanFrom, if_neg hp, List.append_nil]
      rw [hend] at hI
      clear hend hacc
      go_wp2_with fail
      refine (string_all hI).mono ?_
      rintro e' w3 ⟨rfl, hb3⟩
      have hbw3 := hbw.trans (hb3.mono hw1)
      go_wp2_with fail
      go_ret
      exact ⟨rfl, hbw3⟩
/-- A valid text is cleaned into itself. -/
theorem clean_text (w : World) (v : Value) (q : List UInt8) {Bq : Nat} (hO : OwnB Bq w v q) (hl : q.length ≤ 60000000) (hv : validB ⟨q.toArray⟩ = true) :
    Calls Tryz.prog 40 #[v] w fun e w' => e = .returned (.string ⟨q.toArray⟩) ∧ Below w.heap.size w w' := by
  have := clean_any w v q hO hl
  rwa [clean_id q hv] at this
end Go.Proofs.YtpfamfkdfbcooaaGreatDoor
