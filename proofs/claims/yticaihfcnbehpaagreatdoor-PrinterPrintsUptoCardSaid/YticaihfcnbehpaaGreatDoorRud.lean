/- The document's printer: many: objects: what is claimed of keys and of Get. -/
import Derived.Test.YticaihfcnbehpaaGreatDoorRuw
import Derived.Test.YticaihfcnbehpaaGreatDoorRgt
set_option linter.unusedVariables false
set_option linter.unusedSimpArgs false
namespace Go.Proofs.YticaihfcnbehpaaGreatDoor
open Go Go.RowKit Go.Proofs
/-- Texts in a row that the run does not write. -/
def KeyFar (b : Nat) (v : Value) (W : World) (AK : Option Addr) (ys : List Txt) : Prop :=
  ∀ i (h : i < ys.length), ∃ ad, AK = some ad ∧ W.cell? (ad.add i) = some (.string ⟨ys[i].toArray⟩) ∧ (ad.add i).block ≠ b ∧ v.ownBlock ≠ some (ad.add i).block
/-- What Get is claimed to find, and what run.value does of it. -/
def GetsAt (w0 : World) (b : Nat) (S : Sty) (lvl n c c2 num : Nat) (str : ByteArray) (A A2 : Option Addr) (y : Txt) (g : List UInt8) : Prop :=
  ∀ W, Below w0.heap.size w0 W → Calls Tryz.prog 55 #[.agg #[.int .i64 6, .float .f64 num, .string str, .slice A n c, .slice A2 n c2], .string ⟨y.toArray⟩] W fun e w' =>
    ∃ (kk : Int) (nn : Nat) (ss : ByteArray) (A3 : Option Addr) (n3 e3 : Nat) (A4 : Option Addr) (n4 e4 : Nat), e = .returned (.tuple #[.agg #[.int .i64 kk, .float .f64 nn, .string ss, .slice A3 n3 e3, .slice A4 n4 e4], .bool true]) ∧ Below W.heap.size W w' ∧
      ∀ (w'' : World) (v' : Value) (st' : St) (x : Int), x = ((lvl + 1 : Nat) : Int) → Below w0.heap.size w0 w'' → Rn b S w'' v' st' → Calls Tryz.prog 17 #[.pointer (some ⟨b, 0, none⟩), .agg #[.int .i64 kk, .float .f64 nn, .string ss, .slice A3 n3 e3, .slice A4 n4 e4], .int .i64 x] w'' (RP b S w'' v' st' g)
theorem KeyFar.below {b : Nat} {v : Value} {W W' : World} {AK : Option Addr} {ys : List Txt} (h : KeyFar b v W AK ys) (hb : Below W.heap.size W W') : KeyFar b v W' AK ys := fun i hi => by
  obtain ⟨ad, e, hc, h1, h2⟩ := h i hi
  exact ⟨ad, e, (hb.cell (World.block_lt_of_cell? W _ hc)).trans hc, h1, h2⟩
theorem KeyFar.step {b : Nat} {S : Sty} {v v' : Value} {W W' : World} {AK : Option Addr} {ys : List Txt} {s' : St} (h : KeyFar b v W AK ys) (hr : RStep b S W v W' v' s') : KeyFar b v' W' AK ys := fun i hi => by
  obtain ⟨ad, e, hc, h1, h2⟩ := h i hi
  obtain ⟨k1, k2⟩ := hr.off ⟨h1, h2⟩ (World.block_lt_of_cell? W _ hc)
  exact ⟨ad, e, hr.far hc ⟨h1, h2⟩, k1, k2⟩
end Go.Proofs.YticaihfcnbehpaaGreatDoor
