/- What the program's package-level tables hold, and that every later world holds it still. -/
import Derived.Test.YtpfamfkdfbcooaaGreatDoorShelf
import Derived.WalkSmall
import Derived.WalkLawsBesides
import Derived.WalkSpells
import Derived.KernelRfl
import Derived.Lib.Hide
import Derived.Deep.QuietTactic
import Derived.BigQuiet
import GoSem.PinnedTables
set_option linter.unusedVariables false
set_option linter.unusedSimpArgs false
namespace Go.Proofs.YtpfamfkdfbcooaaGreatDoor
open Go Go.RowKit Go.Proofs

theorem g_u10 : Tryz.prog.globalNamed "internal/strconv.uint64pow10" = some 7 := by kernel_rfl
theorem g_first : Tryz.prog.globalNamed "unicode/utf8.first" = some 2 := by kernel_rfl

/-- The tables, as the program's text lays them. -/
structure Tabs (w : World) : Prop where
  size : 12 ≤ w.heap.size
  p10 : ∀ (i : Nat) (x : Nat × Nat), Pinned.pow10Rows[i]? = some x → w.cell? ⟨8, i * 2, none⟩ = some (.int .u64 x.1) ∧ w.cell? ⟨8, i * 2 + 1, none⟩ = some (.int .u64 x.2)
  u10 : Lib.TabIs Tryz.prog w "internal/strconv.uint64pow10" .u64 Lib.pow10Tab
  first : ∀ (i : Nat) (x : Nat), Pinned.utf8FirstZ[i]? = some x → w.cell? ⟨2, i, none⟩ = some (.int .u8 x)
  opt : w.cell? ⟨4, 0, none⟩ = some (.bool true)
  maxLen : ∃ m : Int, w.cell? ⟨1, 0, none⟩ = some (.int .i64 m)

theorem cell_later {B : Nat} {w w' : World} (h : Below B w w') {b o : Nat} {v : Value} (hb : b < B) (hc : w.cell? ⟨b, o, none⟩ = some v) : w'.cell? ⟨b, o, none⟩ = some v := (h.cell (p := ⟨b, o, none⟩) hb).trans hc

theorem Tabs.below {w w' : World} {B : Nat} (h : Tabs w) (hB : 12 ≤ B) (hb : Below B w w') : Tabs w' where
  size := Nat.le_trans h.size hb.size
  p10 i x hx := ⟨cell_later hb (by omega) (h.p10 i x hx).1, cell_later hb (by omega) (h.p10 i x hx).2⟩
  u10 := var?_below hb g_u10 (by omega) h.u10
  first i x hx := cell_later hb (by omega) (h.first i x hx)
  opt := cell_later hb (by omega) h.opt
  maxLen := h.maxLen.elim fun m hm => ⟨m, cell_later hb (by omega) hm⟩

theorem Tabs.drewN {w : World} (h : Tabs w) (n : Nat) : Tabs (w.drewN n) := h.below h.size (below_drewN (Below.refl _ _) n)
theorem Tabs.next {w w' : World} (h : Tabs w) (hb : Below w.heap.size w w') : Tabs w' := h.below h.size hb

/-- Whatever came first, then something that leaves all as it was. -/
theorem Below.next {B : Nat} {w w1 w2 : World} (h : Below B w w1) (hB : B ≤ w1.heap.size) (h2 : Below w1.heap.size w1 w2) : Below B w w2 := h.trans (h2.mono hB)
end Go.Proofs.YtpfamfkdfbcooaaGreatDoor
