/- In one text: printer.Colour.; Values as trees; printer.sheet.value where keys are not sorted.; printer.sheet.value's second closure, where keys are not sorted. -/
import Derived.Test.YtpfamfkdfbcooaaGreatDoorEm
import Derived.StillTailTactics
import Derived.Deep.RegionHeld3
set_option linter.unusedVariables false
set_option linter.unusedSimpArgs false
/- printer.Colour. -/
namespace Go.Proofs.YtpfamfkdfbcooaaGreatDoor
open Go Go.RowKit Go.Proofs
end Go.Proofs.YtpfamfkdfbcooaaGreatDoor
/- Values as trees; printer.sheet.value where keys are not sorted. -/
namespace Go.Proofs.YtpfamfkdfbcooaaGreatDoor
open Go Go.RowKit Go.Proofs

/-- A value as a tree. -/
inductive Tr where
  | mk (k : Int) (num : Nat) (str : List UInt8) (keys : List (List UInt8)) (list : List Tr)
instance : Inhabited Tr := ⟨.mk 0 0 [] [] []⟩
/-- Five cells from an address on. -/
def Cells5 (w : World) (a : Addr) (x0 x1 x2 x3 x4 : Value) : Prop :=
  w.cell? a = some x0 ∧ w.cell? ⟨a.block, a.off + 1, none⟩ = some x1 ∧ w.cell? ⟨a.block, a.off + 2, none⟩ = some x2 ∧ w.cell? ⟨a.block, a.off + 3, none⟩ = some x3 ∧ w.cell? ⟨a.block, a.off + 4, none⟩ = some x4
/-- A tree of fewer than d levels stands in the world as the five parts of a value. -/
def Rep : Nat → World → Tr → Value → Value → Value → Value → Value → Prop
  | 0, _, _, _, _, _, _, _ => False
  | d + 1, w, .mk k num str keys list, x0, x1, x2, x3, x4 =>
    x0 = .int .i64 k ∧ x1 = .float .f64 num ∧ x2 = .string ⟨str.toArray⟩ ∧ num < 18446744073709551616 ∧ str.length ≤ 1048576 ∧ list.length ≤ 1048576 ∧ keys.length ≤ 1048576 ∧
    ∃ A c A2 c2, x3 = .slice A list.length c ∧ x4 = .slice A2 keys.length c2 ∧
      (∀ i (h : i < list.length), ∃ ad, A = some ad ∧ ∃ y0 y1 y2 y3 y4, Cells5 w (ad.add (i * 5)) y0 y1 y2 y3 y4 ∧ Rep d w list[i] y0 y1 y2 y3 y4) ∧
      (∀ i (h : i < keys.length), keys[i].length ≤ 1048576 ∧ ∃ ad, A2 = some ad ∧ w.cell? (ad.add i) = some (.string ⟨keys[i].toArray⟩)) ∧ keys.length ≤ c2 ∧ list.length ≤ c ∧ (A2 = none → c2 = 0) ∧ (A = none → c = 0)
/-- It may be printed: kinds are kinds, an object has as many keys as values. -/
def Okp : Nat → Tr → Prop
  | 0, _ => False
  | d + 1, .mk k _ _ keys list => 0 ≤ k ∧ k ≤ 6 ∧ (k = 6 → keys.length = list.length) ∧ ∀ i (h : i < list.length), Okp d list[i]
def keyS (S : Sty) (st : St) (key : List UInt8) : St :=
  if S.loose = true then putS (tokS S (tokS S st (escT key S.asc) [51, 52, 59, 49]) [58] sgn) [32] else tokS S (tokS S st (escT key S.asc) [51, 52, 59, 49]) [58] sgn
/-- What a value's writing makes of a sheet. -/
def pv (S : Sty) : Nat → Tr → Nat → St → St
  | 0, _, _, st => st
  | d + 1, .mk k num str keys list, lvl, st =>
    if k = 5 then manyS S lvl (fun i st => pv S d (list.getD i default) (lvl + 1) st) [91] [93] list.length st
    else if k = 6 then manyS S lvl (fun i st => pv S d (list.getD i default) (lvl + 1) (keyS S st (keys.getD i []))) [123] [125] keys.length st
    else tokS S st (if k = 4 then escT str S.asc else plainT k.toNat num str) (colT k.toNat)
theorem Cells5.below {w w' : World} {a : Addr} {x0 x1 x2 x3 x4 : Value} (h : Cells5 w a x0 x1 x2 x3 x4) (hb : Below w.heap.size w w') : Cells5 w' a x0 x1 x2 x3 x4 := by
  have hl : a.block < w.heap.size := World.block_lt_of_cell? w a h.1
  exact ⟨(hb.cell hl).trans h.1, (hb.cell (p := ⟨a.block, _, none⟩) hl).trans h.2.1, (hb.cell (p := ⟨a.block, _, none⟩) hl).trans h.2.2.1, (hb.cell (p := ⟨a.block, _, none⟩) hl).trans h.2.2.2.1, (hb.cell (p := ⟨a.block, _, none⟩) hl).trans h.2.2.2.2⟩
section
variable {b : Nat} {S : Sty} {w : World} {v : Value} {st : St}
end
end Go.Proofs.YtpfamfkdfbcooaaGreatDoor
/- printer.sheet.value's second closure, where keys are not sorted. -/
namespace Go.Proofs.YtpfamfkdfbcooaaGreatDoor
open Go Go.RowKit Go.Proofs
theorem escFrom_length (s : ByteArray) : ∀ f p, (escFrom s f p).length ≤ 12 * f
  | 0, _ => by simp [escFrom]
  | f + 1, p => by
    have := escR_length (Utf8.decode s p).1
    have := escFrom_length s f (p + (Utf8.decode s p).2)
    rw [escFrom]
    split
    · rw [List.length_append]; omega
    · simp
theorem escT_length (s : List UInt8) (asc : Bool) (h : s.length ≤ 1048576) : (escT s asc).length ≤ 900000000 := by
  have h2 := flatMap_length s
  have h3 : (quoteT s).length ≤ 6 * s.length + 2 := by
    unfold quoteT
    rw [List.length_cons, List.length_append, List.length_singleton]
    omega
  have h4 := escFrom_length ⟨(quoteT s).toArray⟩ (quoteT s).length 0
  unfold escT escA
  split <;> omega
theorem after_new (w w' : World) (t : TypeId) (x0 x1 x2 x3 x4 : Value) (h : w' = w.alloc (.cells #[x0, x1, x2, x3, x4] t)) :
    Below w.heap.size w w' ∧ w'.cell? ⟨w.heap.size, 0, none⟩ = some x0 ∧ w'.cell? ⟨w.heap.size, 1, none⟩ = some x1 ∧ w'.cell? ⟨w.heap.size, 2, none⟩ = some x2 ∧ w'.cell? ⟨w.heap.size, 3, none⟩ = some x3 ∧ w'.cell? ⟨w.heap.size, 4, none⟩ = some x4 := by
  subst h
  refine ⟨(Below.refl _ _).alloc (Nat.le_refl _) _, ?_, ?_, ?_, ?_, ?_⟩ <;> · rw [World.cell?_alloc_new]; rfl
theorem one5 (kk : Int) (nn : Nat) (ss : ByteArray) (A3 A4 : Option Addr) (n3 e3 n4 e4 : Nat) : (#[Value.int .i64 kk, Value.float .f64 nn, Value.string ss, Value.slice A3 n3 e3, Value.slice A4 n4 e4].all (·.oneCell')) = true := by simp [Value.oneCell']
theorem setRow_new (w : World) (cs cs' : Array Value) (t : TypeId) : (w.alloc (.cells cs t)).setRow w.heap.size cs' = w.alloc (.cells cs' t) := by
  have : (w.alloc (.cells cs t)).heap = w.heap.push (.cells cs t) := rfl
  unfold World.setRow
  simp only [this]
  show ({ w with heap := _ } : World) = { w with heap := w.heap.push (.cells cs' t) }
  congr 1
  apply Array.ext
  · simp
  · intro i h1 h2
    simp only [Array.getElem_modify, Array.getElem_push]
    simp at h1
    by_cases hi : i = w.heap.size
    · subst hi; simp
    · simp [Ne.symm hi, show i < w.heap.size by omega]
section
variable {b : Nat} {S : Sty} {w : World} {v : Value} {st : St}
end
end Go.Proofs.YtpfamfkdfbcooaaGreatDoor
