/- strconv.FormatFloat(f, e, -1, 64) of a positive finite f: its text; nothing of the world before is changed. -/
import Derived.Test.YtopecjnmeeejhaaGreatDoorFlE
import Derived.Laws.IdiomStrings
import Derived.Laws.MakeOwn
set_option linter.unusedVariables false
set_option linter.unusedSimpArgs false
namespace Go.Proofs.YtopecjnmeeejhaaGreatDoor
open Go Go.RowKit Go.Proofs Go.Sort

theorem fmtT_pos (D : List UInt8) (dp : Int) : 0 < (fmtT D dp).length := by simp [fmtT]

theorem ftoa_any (B : Nat) (w : World) (v : Value) (bits : Nat) (T : Tabs w) (HO : OwnB B w v []) (hB : B ≤ w.heap.size) (h0 : 0 < bits) (h1 : bits < 9218868437227405312) :
    Calls Tryz.prog 187 #[v, .float .f64 bits, .int .u8 101, .int .i64 (-1)] w (FtoaPost B w v (floatT bits)) := by
  rcases Nat.lt_or_ge bits 4503599627370496 with h | h
  · exact ftoa_sub B w v bits T HO hB h0 h
  · exact ftoa_norm B w v bits T HO hB h h1

/-- What a call's own bytes are as a string. -/
theorem conv_own {B : Nat} {w : World} {v : Value} {bs : List UInt8} (h : OwnB B w v bs) (hp : 0 < bs.length) : (convert 42 9 v).run Tryz.prog w = .ok (.string ⟨bs.toArray⟩) w := by
  rcases h.2 with ⟨_, h0⟩ | ⟨g, cap, cur, rfl, _⟩
  · omega
  · refine run_convert_bytes_back w 42 9 5 ⟨g, 0, none⟩ cap bs Tryz.underlying42 Tryz.underlying5 Tryz.underlying9 ?_
    intro j hj
    refine h.cells (g := g) rfl j _ ?_
    simp [Lib.byteCells, hj]

theorem own_made (w : World) (cs : Array Value) (c : Nat) (hc : cs.size = c) (h63 : c ≤ maxLen) : OwnB w.heap.size (w.alloc (.cells cs 5)) (.slice (some ⟨w.heap.size, 0, none⟩) 0 c) [] :=
  World.ownsRow_made w _ c (Nat.le_refl _) h63 (by rw [hc, Nat.mul_one])

set_option maxRecDepth 100000 in
theorem format_in (bits : Nat) (w : World) (T : Tabs w) (h0 : 0 < bits) (h1 : bits < 9218868437227405312) :
    Calls Tryz.prog 144 #[.float .f64 bits, .int .u8 101, .int .i64 (-1), .int .i64 64] w fun e w' => e = .returned (.string ⟨(floatT bits).toArray⟩) ∧ Below w.heap.size w w' := by
  have hmk : ∀ u : World, (Instr.makeSlice 42 (.int .i64 0) (.int .i64 (max 3 24))).run Tryz.prog u = .ok (.slice (some ⟨u.heap.size, 0, none⟩) 0 24) (u.alloc (.cells (Array.replicate 24 (.int .u8 0)) 5)) := fun u => by kernel_rfl
  go_enter Tryz.func144, Tryz.ntmps144
  go_wp2_with fail
  obtain ⟨W0, hW0⟩ : ∃ W0, W0 = w.alloc (.cells (Array.replicate 24 (.int .u8 0)) 5) := ⟨_, rfl⟩
  rw [← hW0]
  have hO : OwnB w.heap.size W0 (.slice (some ⟨w.heap.size, 0, none⟩) 0 24) [] := by rw [hW0]; exact own_made w _ 24 (by simp) (by unfold maxLen; omega)
  have hb : Below w.heap.size w W0 := by rw [hW0]; exact (Below.refl _ _).alloc (Nat.le_refl _) _
  clear hW0
  refine (ftoa_any w.heap.size W0 _ bits (T.next hb) hO hb.size h0 h1).mono ?_
  rintro e' w1 ⟨v1, rfl, hA⟩
  have hcv : (convert 42 9 v1).run Tryz.prog w1 = .ok (.string ⟨(floatT bits).toArray⟩) w1 := conv_own (by have := hA.own; rwa [List.nil_append] at this) (fmtT_pos _ _)
  have hb1 : Below w.heap.size w w1 := hb.trans (hA.keep.below hb.size (fun k hk => by
    simp [Value.ownBlock]
    omega))
  go_wp2_with fail
  go_ret
  exact ⟨rfl, hb1⟩
end Go.Proofs.YtopecjnmeeejhaaGreatDoor
