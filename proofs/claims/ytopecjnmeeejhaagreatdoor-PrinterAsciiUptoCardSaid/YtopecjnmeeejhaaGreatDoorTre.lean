/- Values as trees; printer.sheet.value where keys are not sorted. -/
import Derived.Test.YtopecjnmeeejhaaGreatDoorCol
import Derived.StillTailTactics
set_option linter.unusedVariables false
set_option linter.unusedSimpArgs false
namespace Go.Proofs.YtopecjnmeeejhaaGreatDoor
open Go Go.RowKit Go.Proofs

/-- A value as a tree. -/
inductive Tr where
  | mk (k : Int) (num : Nat) (str : List UInt8) (keys : List (List UInt8)) (list : List Tr)
instance : Inhabited Tr := ⟨.mk 0 0 [] [] []⟩
/-- Five cells from an address on. -/
def Cells5 (w : World) (a : Addr) (x0 x1 x2 x3 x4 : Value) : Prop :=
  w.cell? a = some x0 ∧ w.cell? ⟨a.block, a.off + 1, none⟩ = some x1 ∧ w.cell? ⟨a.block, a.off + 2, none⟩ = some x2 ∧ w.cell? ⟨a.block, a.off + 3, none⟩ = some x3 ∧ w.cell? ⟨a.block, a.off + 4, none⟩ = some x4
/-- A tree of fewer than d levels stands in the world as the five parts of a value. -/
def Rep : Nat → World → Tr → Value → Value → Value → Value → Value → Prop
  | 0, _, _, _, _, _, _, _ => False
  | d + 1, w, .mk k num str keys list, x0, x1, x2, x3, x4 =>
    x0 = .int .i64 k ∧ x1 = .float .f64 num ∧ x2 = .string ⟨str.toArray⟩ ∧ num < 18446744073709551616 ∧ str.length ≤ 1048576 ∧ list.length ≤ 1048576 ∧ keys.length ≤ 1048576 ∧
    ∃ A c A2 c2, x3 = .slice A list.length c ∧ x4 = .slice A2 keys.length c2 ∧
      (∀ i (h : i < list.length), ∃ ad, A = some ad ∧ ∃ y0 y1 y2 y3 y4, Cells5 w (ad.add (i * 5)) y0 y1 y2 y3 y4 ∧ Rep d w list[i] y0 y1 y2 y3 y4) ∧
      (∀ i (h : i < keys.length), keys[i].length ≤ 1048576 ∧ ∃ ad, A2 = some ad ∧ w.cell? (ad.add i) = some (.string ⟨keys[i].toArray⟩)) ∧ keys.length ≤ c2 ∧ list.length ≤ c ∧ (A2 = none → c2 = 0) ∧ (A = none → c = 0)
/-- It may be printed: kinds are kinds, an object has as many keys as values. -/
def Okp : Nat → Tr → Prop
  | 0, _ => False
  | d + 1, .mk k _ _ keys list => 0 ≤ k ∧ k ≤ 6 ∧ (k = 6 → keys.length = list.length) ∧ ∀ i (h : i < list.length), Okp d list[i]
def keyS (S : Sty) (st : St) (key : List UInt8) : St :=
  if S.loose = true then putS (tokS S (tokS S st (escT key S.asc) [51, 52, 59, 49]) [58] sgn) [32] else tokS S (tokS S st (escT key S.asc) [51, 52, 59, 49]) [58] sgn
/-- What a value's writing makes of a sheet. -/
def pv (S : Sty) : Nat → Tr → Nat → St → St
  | 0, _, _, st => st
  | d + 1, .mk k num str keys list, lvl, st =>
    if k = 5 then manyS S lvl (fun i st => pv S d (list.getD i default) (lvl + 1) st) [91] [93] list.length st
    else if k = 6 then manyS S lvl (fun i st => pv S d (list.getD i default) (lvl + 1) (keyS S st (keys.getD i []))) [123] [125] keys.length st
    else tokS S st (if k = 4 then escT str S.asc else plainT k.toNat num str) (colT k.toNat)
theorem Cells5.below {w w' : World} {a : Addr} {x0 x1 x2 x3 x4 : Value} (h : Cells5 w a x0 x1 x2 x3 x4) (hb : Below w.heap.size w w') : Cells5 w' a x0 x1 x2 x3 x4 := by
  have hl : a.block < w.heap.size := World.block_lt_of_cell? w a h.1
  exact ⟨(hb.cell hl).trans h.1, (hb.cell (p := ⟨a.block, _, none⟩) hl).trans h.2.1, (hb.cell (p := ⟨a.block, _, none⟩) hl).trans h.2.2.1, (hb.cell (p := ⟨a.block, _, none⟩) hl).trans h.2.2.2.1, (hb.cell (p := ⟨a.block, _, none⟩) hl).trans h.2.2.2.2⟩
/-- What p.value is claimed to do of a tree, at whatever place. -/
def Vals (S : Sty) (w0 : World) (d : Nat) (t : Tr) (y0 y1 y2 y3 y4 : Value) : Prop :=
  ∀ (b : Nat) (w : World) (v : Value) (st : St) (lvl : Nat) (x : Int), x = (lvl : Int) → lvl + d ≤ 900000 → w0.heap.size ≤ b → Below w0.heap.size w0 w → Sh b S w v st →
    Calls Tryz.prog 53 #[.pointer (some ⟨b, 0, none⟩), .agg #[y0, y1, y2, y3, y4], .int .i64 x] w fun e w' => e = .returned (.tuple #[]) ∧ ∃ v', SStep b S w v w' v' (pv S d t lvl st)
section
variable {b : Nat} {S : Sty} {w : World} {v : Value} {st : St}
theorem SStep.below0 {w0 w1 : World} {v1 : Value} {s1 : St} (h : SStep b S w v w1 v1 s1) (hs : Sh b S w v st) (hb : w0.heap.size ≤ b) (h0 : Below w0.heap.size w0 w) : Below w0.heap.size w0 w1 :=
  h0.trans (h.keep.below h0.size (fun k hk e => by
    rcases e with e | e
    · omega
    · have := (hs.bw.own.lt k e.symm).1; omega))
theorem SStep.cell {w1 : World} {v1 : Value} {s1 : St} (h : SStep b S w v w1 v1 s1) (hs : Sh b S w v st) {k o : Nat} {u : Value} (hc : w.cell? ⟨k, o, none⟩ = some u) (h1 : k ≠ b) (h2 : v.ownBlock ≠ some k) : w1.cell? ⟨k, o, none⟩ = some u :=
  h.keep.cell hc (fun e => by
    rcases e with e | e
    · exact h1 e
    · exact h2 e.symm)
set_option maxHeartbeats 1000000 in
set_option maxRecDepth 100000 in
theorem value1_any (h : Sh b S w v st) (w0 : World) (hb : w0.heap.size ≤ b) (h0 : Below w0.heap.size w0 w) (d : Nat) (t : Tr) (c1 c2 c3 i n cc lvl : Nat) (ad : Addr) (y0 y1 y2 y3 y4 : Value) (hin : i < n) (hlv : lvl + 1 + d ≤ 900000)
    (h1 : w.cell? ⟨c1, 0, none⟩ = some (.pointer (some ⟨b, 0, none⟩))) (h2 : w.cell? ⟨c2, 3, none⟩ = some (.slice (some ad) n cc)) (h3 : w.cell? ⟨c3, 0, none⟩ = some (.int .i64 lvl))
    (hc5 : Cells5 w0 (ad.add (i * 5)) y0 y1 y2 y3 y4) (hV : Vals S w0 d t y0 y1 y2 y3 y4) :
    Calls Tryz.prog 110 #[.int .i64 i, .pointer (some ⟨c1, 0, none⟩), .pointer (some ⟨c2, 0, none⟩), .pointer (some ⟨c3, 0, none⟩)] w fun e w' => e = .returned (.tuple #[]) ∧ ∃ v', SStep b S w v w' v' (pv S d t (lvl + 1) st) := by
  have hC := fun (x : Int) (hx : x = ((lvl + 1 : Nat) : Int)) => hV b w.drew v st (lvl + 1) x hx (by omega) hb h0.drew (h.below (Below.refl _ _).drew)
  obtain ⟨g0, g1, g2, g3, g4⟩ := hc5.below h0
  have HC := Lib.hid hC
  clear hC hV hc5
  go_enter Tryz.func110, Tryz.ntmps110
  go_wp2_with fail
  go_still_tail 8, (by kernel_rfl)
  change wpList _ _ _ _ _ w.drew
  go_wp2_with fail
  refine (HC.out _ (by first | omega | (rw [IntKind.wrap_i64]; omega))).mono ?_
  rintro e' w1 ⟨rfl, v1, hA⟩
  have hF := ((SStep.start h).below (Below.refl _ _).drew).join hA
  go_wp2_with fail
  go_end0
  exact ⟨rfl, v1, hF⟩
end
end Go.Proofs.YtopecjnmeeejhaaGreatDoor
