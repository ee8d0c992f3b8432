/- The document's Text of null, false and true. -/
import Derived.Test.YticaihfcnbehpaaGreatDoorRfu
import Derived.Test.YticaihfcnbehpaaGreatDoorVap
set_option linter.unusedVariables false
set_option linter.unusedSimpArgs false
namespace Go.Proofs.YticaihfcnbehpaaGreatDoor
open Go Go.RowKit Go.Proofs
set_option maxRecDepth 100000 in
theorem refWrite3_any (w : World) (k : Nat) (hk : k ≤ 2) (num : Nat) (s : List UInt8) (A3 A4 : Option Addr) (n3 e3 n4 e4 : Nat) :
    Calls Tryz.prog 65 #[.slice none 0 0, .agg #[.int .i64 k, .float .f64 num, .string ⟨s.toArray⟩, .slice A3 n3 e3, .slice A4 n4 e4]] w fun e w' => ∃ v', e = .returned v' ∧ OwnB w.heap.size w' v' (plainT k num s) ∧ Below w.heap.size w w' := by
  have hb1 := (Below.refl w.heap.size w).alloc (Nat.le_refl _) (.cells #[.int .i64 k, .float .f64 num, .string ⟨s.toArray⟩, .slice A3 n3 e3, .slice A4 n4 e4] 27)
  have hA0 := App.start (OwnB.nil w.heap.size (w.alloc (.cells #[.int .i64 k, .float .f64 num, .string ⟨s.toArray⟩, .slice A3 n3 e3, .slice A4 n4 e4] 27))) hb1.size
  obtain rfl | rfl | rfl : k = 0 ∨ k = 1 ∨ k = 2 := by omega
  · go_enter Tryz.func65, Tryz.ntmps65
    go_wp2_with (at_builtin; refine appS (l := []) rfl _ _ rfl [110, 117, 108, 108] rfl rfl hA0 (by simp) ?_; intro v2 w2 hA2)
    go_ret
    exact ⟨_, rfl, by simpa [plainT] using hA2.own, hb1.trans (hA2.fresh.mono hb1.size)⟩
  · go_enter Tryz.func65, Tryz.ntmps65
    go_wp2_with (at_builtin; refine appS (l := []) rfl _ _ rfl [102, 97, 108, 115, 101] rfl rfl hA0 (by simp) ?_; intro v2 w2 hA2)
    go_ret
    exact ⟨_, rfl, by simpa [plainT] using hA2.own, hb1.trans (hA2.fresh.mono hb1.size)⟩
  · go_enter Tryz.func65, Tryz.ntmps65
    go_wp2_with (at_builtin; refine appS (l := []) rfl _ _ rfl [116, 114, 117, 101] rfl rfl hA0 (by simp) ?_; intro v2 w2 hA2)
    go_ret
    exact ⟨_, rfl, by simpa [plainT] using hA2.own, hb1.trans (hA2.fresh.mono hb1.size)⟩
set_option maxRecDepth 100000 in
theorem refText3_any (w : World) (TW : Tabs w) (k : Nat) (hk : k ≤ 2) (num : Nat) (hn : num < 18446744073709551616) (s : List UInt8) (L K : Value) (hL : ∃ a n c, L = .slice a n c) (hK : ∃ a n c, K = .slice a n c) (hl : s.length ≤ 100000000) :
    Calls Tryz.prog 41 #[.agg #[.int .i64 k, .float .f64 num, .string ⟨s.toArray⟩, L, K]] w fun e w' => e = .returned (.string ⟨(plainT k num s).toArray⟩) ∧ Below w.heap.size w w' := by
  obtain ⟨A3, n3, e3, rfl⟩ := hL
  obtain ⟨A4, n4, e4, rfl⟩ := hK
  have hb1 := (Below.refl w.heap.size w).alloc (Nat.le_refl _) (.cells #[.int .i64 k, .float .f64 num, .string ⟨s.toArray⟩, .slice A3 n3 e3, .slice A4 n4 e4] 27)
  have HW := Lib.hid (fun W => refWrite3_any W k hk num s A3 A4 n3 e3 n4 e4)
  obtain ⟨P, hP⟩ : ∃ P, P = plainT k num s := ⟨_, rfl⟩
  rw [← hP] at HW ⊢
  clear hP
  go_enter Tryz.func41, Tryz.ntmps41
  go_wp2_with fail
  refine (HW.out _).mono ?_
  rintro e' w2 ⟨v2, rfl, hO, hb2⟩
  have hcv := convOwn hO
  have hb3 := hb1.trans (hb2.mono hb1.size)
  clear hO
  go_wp2_with fail
  go_ret
  exact ⟨rfl, hb3⟩
end Go.Proofs.YticaihfcnbehpaaGreatDoor
