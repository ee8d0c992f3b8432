/- In one text: printer.Escape by its contract.; printer.sheet.many, and the colours. -/
import Derived.Test.YtpfamfkdfbcooaaGreatDoorQuv
set_option linter.unusedVariables false
set_option linter.unusedSimpArgs false
/- printer.Escape by its contract. -/
namespace Go.Proofs.YtpfamfkdfbcooaaGreatDoor
open Go Go.RowKit Go.Proofs

def escR (r : Nat) : List UInt8 := if r < 128 then [UInt8.ofNat r] else if 65535 < r then unitT (55296 + (r - 65536) / 1024) ++ unitT (56320 + (r - 65536) % 1024) else unitT r
def escFrom (s : ByteArray) : Nat → Nat → List UInt8
  | 0, _ => []
  | f + 1, p => if p < s.size then escR (Utf8.decode s p).1 ++ escFrom s f (p + (Utf8.decode s p).2) else []
def escA (q : List UInt8) : List UInt8 := escFrom ⟨q.toArray⟩ q.length 0
def escT (s : List UInt8) (asc : Bool) : List UInt8 := if asc = true then escA (quoteT s) else quoteT s
theorem width_pos (s : ByteArray) (pos : Nat) (h : pos < s.size) : 1 ≤ (Utf8.decode s pos).2 := by
  by_cases ha : (s[pos]'h).toNat < 128
  · rw [decode_ascii s pos h ha]
    exact Nat.le_refl _
  · exact (decode_high s pos h (by omega)).2
theorem decode_le2 (s : ByteArray) (pos : Nat) : (Utf8.decode s pos).1 ≤ 2097151 := by
  have hb : ∀ k, (s.get! (pos + k)).toNat < 256 := fun k => (s.get! (pos + k)).toNat_lt
  have h0 := hb 0; have h1 := hb 1; have h2 := hb 2; have h3 := hb 3
  simp only [Utf8.decode]
  repeat' split
  all_goals simp_all [Utf8.runeError]
  all_goals omega
theorem escR_length (r : Nat) : (escR r).length ≤ 12 := by
  unfold escR unitT
  repeat' split
  all_goals simp
theorem escR_pos (r : Nat) : escR r ≠ [] := by
  unfold escR unitT
  repeat' split
  all_goals simp
theorem keep_iterAt (w : World) (k : Nat) (s : ByteArray) (pos : Nat) : Keep (fun j => j = k) w (w.iterAt k s pos) :=
  ⟨rfl, rfl, rfl, by rw [Lib.iterAt_size]; exact Nat.le_refl _, fun j _ hj => Lib.iterAt_other w k j s pos hj⟩
theorem Bw.iter_ne {b : Nat} {T : TypeId} {rest : List Value} {w : World} {v : Value} {bs : List UInt8} (h : Bw b T rest w v bs) {k : Nat} {s : ByteArray} {pos : Nat} (hk : w.heap[k]? = some (.stringIter s pos)) : v.ownBlock ≠ some k ∧ b ≠ k := by
  refine ⟨fun e => ?_, fun e => ?_⟩
  · obtain ⟨cur, hc⟩ := h.own.type_of k e
    rw [hk] at hc
    cases hc
  · subst e
    obtain ⟨p, hp, _⟩ := h.heap
    rw [hk] at hp
    cases hp
theorem Bw.iterAt {b : Nat} {T : TypeId} {rest : List Value} {w : World} {v : Value} {bs : List UInt8} (h : Bw b T rest w v bs) {k : Nat} {s : ByteArray} {pos : Nat} (hk : w.heap[k]? = some (.stringIter s pos)) (pos' : Nat) : Bw b T rest (w.iterAt k s pos') v bs :=
  h.keep (keep_iterAt w k s pos') (h.iter_ne hk).2 (fun j hj e => (h.iter_ne hk).1 (by rw [hj, e]))
theorem BApp.iter {b : Nat} {T : TypeId} {rest : List Value} {w w' : World} {v v' : Value} {bs l : List UInt8} (hB : BApp b T w v bs w' v' l rest) (h : Bw b T rest w v bs) {k : Nat} {s : ByteArray} {pos : Nat} (hk : w.heap[k]? = some (.stringIter s pos)) : w'.heap[k]? = some (.stringIter s pos) :=
  hB.keep.heap hk (fun e => by
    rcases e with e | e
    · exact (h.iter_ne hk).2 e.symm
    · exact (h.iter_ne hk).1 e.symm)
theorem strVal (s : List UInt8) : Value.agg #[.int .i64 4, .float .f64 0, .string ⟨s.toArray⟩, .slice none 0 0, .slice none 0 0] = .agg #[.int .i64 ((4 : Nat) : Int), .float .f64 0, .string ⟨s.toArray⟩, .slice none 0 0, .slice none 0 0] := rfl
end Go.Proofs.YtpfamfkdfbcooaaGreatDoor
/- printer.sheet.many, and the colours. -/
namespace Go.Proofs.YtpfamfkdfbcooaaGreatDoor
open Go Go.RowKit Go.Proofs

def sgn : List UInt8 := [49, 59, 51, 57]
def loopS (S : Sty) (lvl : Nat) (part : Nat → St → St) : Nat → Nat → St → St
  | 0, _, st => st
  | m + 1, i, st => if st.2 = true then st else loopS S lvl part m (i + 1) (part i (lineS S (if 0 < i then tokS S st [44] sgn else st) (lvl + 1)))
def manyS (S : Sty) (lvl : Nat) (part : Nat → St → St) (op cl : List UInt8) (n : Nat) (st : St) : St :=
  tokS S (if 0 < n then lineS S (loopS S lvl part n 0 (tokS S st op sgn)) lvl else loopS S lvl part n 0 (tokS S st op sgn)) cl sgn
theorem loopS_full (S : Sty) (lvl : Nat) (part : Nat → St → St) (m i : Nat) (st : St) (h : st.2 = true) : loopS S lvl part m i st = st := by
  cases m with
  | zero => rfl
  | succ m => rw [loopS, if_pos h]
def colT (k : Nat) : List UInt8 := if k = 0 then [49, 59, 51, 48] else if k = 4 then [48, 59, 51, 50] else if k ≤ 3 then [48, 59, 51, 57] else [49, 59, 51, 57]

section
variable {b : Nat} {S : Sty} {w : World} {v : Value} {st : St}
end

section
variable {b : Nat} {S : Sty} {w : World} {v : Value} {st : St}
end
end Go.Proofs.YtpfamfkdfbcooaaGreatDoor
