/- In one text: The document's Str and Bool; format.Names.; colanderlaw13.heads. -/
import Derived.Test.YtpfamfkdfbcooaaGreatDoorRf
import Derived.Test.YtpfamfkdfbcooaaGreatDoorFr1
import Derived.Test.YtpfamfkdfbcooaaGreatDoorFmx
import Derived.Test.YtpfamfkdfbcooaaGreatDoorFmu
import Derived.Test.YtpfamfkdfbcooaaGreatDoorFfd
set_option linter.unusedVariables false
set_option linter.unusedSimpArgs false
/- The document's Str and Bool; format.Names. -/
namespace Go.Proofs.YtpfamfkdfbcooaaGreatDoor
open Go Go.RowKit Go.Proofs
set_option maxRecDepth 100000 in
theorem rstr_any (s : ByteArray) (w : World) : Calls Tryz.prog 21 #[.string s] w fun e w' => e = .returned (.agg #[.int .i64 4, .float .f64 0, .string s, .slice none 0 0, .slice none 0 0]) ∧ Below w.heap.size w w' := by
  go_enter Tryz.func21, Tryz.ntmps21
  go_wp2_with (refine wpList_store_row rfl 27 (.tmp 2) (.tmp 4) rfl _ #[.int .i64 4, .float .f64 0, .string s, .slice none 0 0, .slice none 0 0] rfl rfl 27 #[.int .i64 0, .float .f64 0, .string ⟨#[]⟩, .slice none 0 0, .slice none 0 0] (heap_alloc_new _ _) (by kernel_rfl) rfl (one5 4 0 s none none 0 0 0 0) ?_; rw [setRow_new])
  refine bodyPost_ret (results_cell_row rfl _ _ w.heap.size 27 _ (0, 0) _ rfl (heap_alloc_new _ _) Tryz.underlying27 rfl (by kernel_rfl)) rfl ?_
  exact ⟨rfl, (Below.refl _ _).alloc (Nat.le_refl _) _⟩
set_option maxRecDepth 100000 in
theorem rtrue_any (w : World) : Calls Tryz.prog 28 #[.bool true] w fun e w' => e = .returned (.agg #[.int .i64 2, .float .f64 0, .string ⟨#[]⟩, .slice none 0 0, .slice none 0 0]) ∧ Below w.heap.size w w' := by
  go_enter Tryz.func28, Tryz.ntmps28
  go_wp2_with (refine wpList_store_row rfl 27 (.tmp 2) (.tmp 4) rfl _ #[.int .i64 2, .float .f64 0, .string ⟨#[]⟩, .slice none 0 0, .slice none 0 0] rfl rfl 27 #[.int .i64 0, .float .f64 0, .string ⟨#[]⟩, .slice none 0 0, .slice none 0 0] (heap_alloc_new _ _) (by kernel_rfl) rfl (one5 2 0 ⟨#[]⟩ none none 0 0 0 0) ?_; rw [setRow_new])
  refine bodyPost_ret (results_cell_row rfl _ _ w.heap.size 27 _ (0, 0) _ rfl (heap_alloc_new _ _) Tryz.underlying27 rfl (by kernel_rfl)) rfl ?_
  exact ⟨rfl, (Below.refl _ _).alloc (Nat.le_refl _) _⟩
def namesT : List UInt8 := [98, 97, 115, 101, 54, 52, 32, 98, 97, 115, 101, 54, 52, 100, 32, 99, 115, 118, 32, 104, 116, 109, 108, 32, 106, 115, 111, 110, 32, 115, 104, 32, 116, 101, 120, 116, 32, 116, 115, 118, 32, 117, 114, 105]
def namesL : List (List UInt8) := [[98, 97, 115, 101, 54, 52], [98, 97, 115, 101, 54, 52, 100], [99, 115, 118], [104, 116, 109, 108], [106, 115, 111, 110], [115, 104], [116, 101, 120, 116], [116, 115, 118], [117, 114, 105]]
theorem names_count : Lib.countB ⟨namesT.toArray⟩ ⟨#[32]⟩ = 8 := by decide +kernel
theorem names_split : (Lib.splitB ⟨#[32]⟩ 0 8 ⟨namesT.toArray⟩) = namesL.map fun s => ⟨s.toArray⟩ := by decide +kernel
set_option maxRecDepth 100000 in
theorem names_any (w : World) (T : Tabs w) : Calls Tryz.prog 18 #[] w fun e w' => e = .returned (.slice (some ⟨w.heap.size, 0, none⟩) 9 9) ∧ w' = w.alloc (.cells (namesL.map fun s => Value.string ⟨s.toArray⟩).toArray 9) := by
  obtain ⟨m, hm⟩ := T.maxLen
  have h := Any.strings_Split { Tryz.laysM146 with } Tryz.laysM146.i9 ⟨namesT.toArray⟩ ⟨#[32]⟩ m w (by decide) hm (by decide)
  rw [names_count, names_split] at h
  have HS : Hid (Calls Tryz.prog 53 #[.string ⟨namesT.toArray⟩, .string ⟨#[32]⟩] w fun e w' => e = .returned (.slice (some ⟨w.heap.size, 0, none⟩) 9 9) ∧ w' = w.alloc (.cells (namesL.map fun s => Value.string ⟨s.toArray⟩).toArray 9)) := Lib.hid (by
    refine h.mono fun e w' ⟨he, hw⟩ => ⟨he, ?_⟩
    rw [hw, List.map_map]; rfl)
  clear h hm
  go_enter Tryz.func18, Tryz.ntmps18
  go_wp2_with fail
  refine HS.out.mono ?_
  rintro e' w2 ⟨rfl, rfl⟩
  go_wp2_with fail
  go_ret
  exact ⟨rfl, rfl⟩
end Go.Proofs.YtpfamfkdfbcooaaGreatDoor
/- colanderlaw13.heads. -/
namespace Go.Proofs.YtpfamfkdfbcooaaGreatDoor
open Go Go.RowKit Go.Proofs
def h13L : List Tr := [.mk 3 4607182418800017408 [] [] [], .mk 4 0 [97, 34, 98] [] [], .mk 0 0 [] [] [], .mk 2 0 [] [] []]
def h13T : Tr := .mk 5 0 [] [] h13L
theorem h13_csv : joinB 44 (h13L.map (cellT [] csvQ)) = [49, 44, 34, 97, 34, 34, 98, 34, 44, 44, 116, 114, 117, 101] := by decide +kernel
theorem h13_text : (textT 2 h13T).length ≤ 1000 := by decide +kernel
theorem h13_num : plainT 3 4607182418800017408 [] = [49] := by decide +kernel
theorem h13_uri : [195, 169, 47, 32].flatMap uriE = [37, 67, 51, 37, 65, 57, 37, 50, 70, 37, 50, 48] := by decide +kernel
theorem h13_ok : Okp 2 h13T := by
  refine ⟨by decide, by decide, fun h => (by cases h), fun i h => ?_⟩
  match i, h with
  | 0, _ => exact ⟨by decide, by decide, fun _ => rfl, fun i h => absurd h (Nat.not_lt_zero _)⟩
  | 1, _ => exact ⟨by decide, by decide, fun _ => rfl, fun i h => absurd h (Nat.not_lt_zero _)⟩
  | 2, _ => exact ⟨by decide, by decide, fun _ => rfl, fun i h => absurd h (Nat.not_lt_zero _)⟩
  | 3, _ => exact ⟨by decide, by decide, fun _ => rfl, fun i h => absurd h (Nat.not_lt_zero _)⟩
theorem str_rep (d : Nat) (w : World) (k : Int) (num : Nat) (s : List UInt8) (hn : num < 18446744073709551616) (hs : s.length ≤ 1048576) : Rep (d + 1) w (.mk k num s [] []) (.int .i64 k) (.float .f64 num) (.string ⟨s.toArray⟩) (.slice none 0 0) (.slice none 0 0) :=
  ⟨rfl, rfl, rfl, hn, hs, by decide, by decide, none, 0, none, 0, rfl, rfl, fun i h => absurd h (Nat.not_lt_zero _), fun i h => absurd h (Nat.not_lt_zero _), by decide, by decide, fun _ => rfl, fun _ => rfl⟩
abbrev h13C : Array Value := #[.int .i64 3, .float .f64 4607182418800017408, .string ⟨#[]⟩, .slice none 0 0, .slice none 0 0, .int .i64 4, .float .f64 0, .string ⟨#[97, 34, 98]⟩, .slice none 0 0, .slice none 0 0, .int .i64 0, .float .f64 0, .string ⟨#[]⟩, .slice none 0 0, .slice none 0 0, .int .i64 2, .float .f64 0, .string ⟨#[]⟩, .slice none 0 0, .slice none 0 0]
theorem h13_cells {W : World} {g : Nat} {T : TypeId} (h : W.heap[g]? = some (.cells h13C T (0, 0))) (i : Nat) (hi : i < h13L.length) : ∃ kk num s, h13L[i] = .mk kk num s [] [] ∧ 0 ≤ kk ∧ kk ≤ 4 ∧ num < 18446744073709551616 ∧ s.length ≤ 1048576 ∧ Cells5 W ((⟨g, 0, none⟩ : Addr).add (i * 5)) (.int .i64 kk) (.float .f64 num) (.string ⟨s.toArray⟩) (.slice none 0 0) (.slice none 0 0) := by
  rw [add_mk]
  match i, hi with
  | 0, _ => exact ⟨3, 4607182418800017408, [], rfl, by decide, by decide, by decide, by decide, cell_of_heap h rfl, cell_of_heap h rfl, cell_of_heap h rfl, cell_of_heap h rfl, cell_of_heap h rfl⟩
  | 1, _ => exact ⟨4, 0, [97, 34, 98], rfl, by decide, by decide, by decide, by decide, cell_of_heap h rfl, cell_of_heap h rfl, cell_of_heap h rfl, cell_of_heap h rfl, cell_of_heap h rfl⟩
  | 2, _ => exact ⟨0, 0, [], rfl, by decide, by decide, by decide, by decide, cell_of_heap h rfl, cell_of_heap h rfl, cell_of_heap h rfl, cell_of_heap h rfl, cell_of_heap h rfl⟩
  | 3, _ => exact ⟨2, 0, [], rfl, by decide, by decide, by decide, by decide, cell_of_heap h rfl, cell_of_heap h rfl, cell_of_heap h rfl, cell_of_heap h rfl, cell_of_heap h rfl⟩
theorem h13_row {W : World} {g : Nat} {T : TypeId} (h : W.heap[g]? = some (.cells h13C T (0, 0))) : RowAt W (some ⟨g, 0, none⟩) h13L ∧ Rep 2 W h13T (.int .i64 5) (.float .f64 0) (.string ⟨#[]⟩) (.slice (some ⟨g, 0, none⟩) 4 4) (.slice none 0 0) := by
  refine ⟨⟨by decide, fun i hi => ?_⟩, rfl, rfl, rfl, by decide, by decide, by decide, by decide, some ⟨g, 0, none⟩, 4, none, 0, rfl, rfl, fun i hi => ?_, fun i hi => absurd hi (Nat.not_lt_zero _), by decide, by decide, fun _ => rfl, fun h => (by cases h)⟩
  · obtain ⟨kk, num, s, e, h0, h4, hn, hs, h5⟩ := h13_cells h i hi
    refine ⟨_, rfl, ?_⟩
    rw [e]
    exact ⟨h0, h4, hn, hs, _, _, _, _, _, _, h5⟩
  · obtain ⟨kk, num, s, e, h0, h4, hn, hs, h5⟩ := h13_cells h i hi
    refine ⟨_, rfl, _, _, _, _, _, h5, ?_⟩
    rw [e]
    exact str_rep 0 W kk num s hn hs
theorem parts5 {W : World} {g : Nat} {T : TypeId} {x0 x1 x2 x3 x4 : Value} (h : W.heap[g]? = some (.cells #[x0, x1, x2, x3, x4] T (0, 0))) : W.cell? ⟨g, 0, none⟩ = some x0 ∧ W.cell? ⟨g, 1, none⟩ = some x1 ∧ W.cell? ⟨g, 2, none⟩ = some x2 ∧ W.cell? ⟨g, 3, none⟩ = some x3 ∧ W.cell? ⟨g, 4, none⟩ = some x4 :=
  ⟨cell_of_heap h rfl, cell_of_heap h rfl, cell_of_heap h rfl, cell_of_heap h rfl, cell_of_heap h rfl⟩
/-- The calls of Format that heads makes. -/
structure H13 (w4 : World) (G : Nat) : Prop where
  f0 : ∀ W, Below w4.heap.size w4 W → Calls Tryz.prog 11 #[.string ⟨#[99, 115, 118]⟩, .agg #[.int .i64 5, .float .f64 0, .string ⟨#[]⟩, .slice (some ⟨G, 0, none⟩) 4 4, .slice none 0 0]] W fun e w' => e = .returned (.tuple #[.agg #[.int .i64 4, .float .f64 0, .string ⟨#[49, 44, 34, 97, 34, 34, 98, 34, 44, 44, 116, 114, 117, 101]⟩, .slice none 0 0, .slice none 0 0], .agg #[.bool false, .int .i64 0, .float .f64 0, .string ⟨#[]⟩, .slice none 0 0, .slice none 0 0]]) ∧ Below W.heap.size W w'
  f1 : ∀ W, Below w4.heap.size w4 W → Calls Tryz.prog 11 #[.string ⟨#[115, 104]⟩, .agg #[.int .i64 4, .float .f64 0, .string ⟨#[105, 116, 39, 115]⟩, .slice none 0 0, .slice none 0 0]] W fun e w' => e = .returned (.tuple #[.agg #[.int .i64 4, .float .f64 0, .string ⟨#[39, 105, 116, 39, 92, 39, 39, 115, 39]⟩, .slice none 0 0, .slice none 0 0], .agg #[.bool false, .int .i64 0, .float .f64 0, .string ⟨#[]⟩, .slice none 0 0, .slice none 0 0]]) ∧ Below W.heap.size W w'
  f2 : ∀ W, Below w4.heap.size w4 W → Calls Tryz.prog 11 #[.string ⟨#[98, 97, 115, 101, 54, 52]⟩, .agg #[.int .i64 4, .float .f64 0, .string ⟨#[104, 105]⟩, .slice none 0 0, .slice none 0 0]] W fun e w' => e = .returned (.tuple #[.agg #[.int .i64 4, .float .f64 0, .string ⟨#[97, 71, 107, 61]⟩, .slice none 0 0, .slice none 0 0], .agg #[.bool false, .int .i64 0, .float .f64 0, .string ⟨#[]⟩, .slice none 0 0, .slice none 0 0]]) ∧ Below W.heap.size W w'
  f3 : ∀ W, Below w4.heap.size w4 W → Calls Tryz.prog 11 #[.string ⟨#[98, 97, 115, 101, 54, 52, 100]⟩, .agg #[.int .i64 4, .float .f64 0, .string ⟨#[97, 71, 107, 61]⟩, .slice none 0 0, .slice none 0 0]] W fun e w' => e = .returned (.tuple #[.agg #[.int .i64 4, .float .f64 0, .string ⟨#[104, 105]⟩, .slice none 0 0, .slice none 0 0], .agg #[.bool false, .int .i64 0, .float .f64 0, .string ⟨#[]⟩, .slice none 0 0, .slice none 0 0]]) ∧ Below W.heap.size W w'
  f4 : ∀ W, Below w4.heap.size w4 W → Calls Tryz.prog 11 #[.string ⟨#[120]⟩, .agg #[.int .i64 5, .float .f64 0, .string ⟨#[]⟩, .slice (some ⟨G, 0, none⟩) 4 4, .slice none 0 0]] W fun e w' => e = .returned (.tuple #[.agg #[.int .i64 0, .float .f64 0, .string ⟨#[]⟩, .slice none 0 0, .slice none 0 0], .agg #[.bool true, .int .i64 4, .float .f64 0, .string ⟨#[120, 32, 105, 115, 32, 110, 111, 116, 32, 97, 32, 118, 97, 108, 105, 100, 32, 102, 111, 114, 109, 97, 116]⟩, .slice none 0 0, .slice none 0 0]]) ∧ Below W.heap.size W w'
  f5 : ∀ W, Below w4.heap.size w4 W → Calls Tryz.prog 11 #[.string ⟨#[117, 114, 105]⟩, .agg #[.int .i64 4, .float .f64 0, .string ⟨#[195, 169, 47, 32]⟩, .slice none 0 0, .slice none 0 0]] W fun e w' => e = .returned (.tuple #[.agg #[.int .i64 4, .float .f64 0, .string ⟨#[37, 67, 51, 37, 65, 57, 37, 50, 70, 37, 50, 48]⟩, .slice none 0 0, .slice none 0 0], .agg #[.bool false, .int .i64 0, .float .f64 0, .string ⟨#[]⟩, .slice none 0 0, .slice none 0 0]]) ∧ Below W.heap.size W w'
  str : ∀ W, Below w4.heap.size w4 W → Calls Tryz.prog 15 #[.agg #[.int .i64 3, .float .f64 4607182418800017408, .string ⟨#[]⟩, .slice none 0 0, .slice none 0 0]] W fun e w' => e = .returned (.string ⟨#[49]⟩) ∧ Below W.heap.size W w'
  names : ∀ W, Below w4.heap.size w4 W → Calls Tryz.prog 18 #[] W fun e w' => ∃ A, e = .returned (.slice A 9 9) ∧ Below W.heap.size W w'
theorem h13_of {w4 : World} {G : Nat} {T : TypeId} (T4 : Tabs w4) (h : w4.heap[G]? = some (.cells h13C T (0, 0))) : H13 w4 G := by
  have hTx : ∀ W, Below w4.heap.size w4 W → Calls Tryz.prog 35 #[.agg #[.int .i64 5, .float .f64 0, .string ⟨#[]⟩, .slice (some ⟨G, 0, none⟩) 4 4, .slice none 0 0]] W fun e w' => e = .returned (.string ⟨(textT 2 h13T).toArray⟩) ∧ Below W.heap.size W w' := fun W hW => valueTextT_any W (T4.next hW) 1 h13T _ _ _ _ _ (h13_row (hlBelow hW h)).2 h13_ok (by have h9 : (textT (1 + 1) h13T).length ≤ 1000 := h13_text; omega)
  have hl := h13_text
  have hStr : ∀ (W W2 : World) (s : List UInt8), Below w4.heap.size w4 W → Below W.heap.size W W2 → s.length ≤ 1000 → Calls Tryz.prog 35 #[.agg #[.int .i64 (4 : Nat), .float .f64 0, .string ⟨s.toArray⟩, .slice none 0 0, .slice none 0 0]] W2 fun e w' => e = .returned (.string ⟨(plainT 4 0 s).toArray⟩) ∧ Below W2.heap.size W2 w' := fun W W2 s h1 h2 hs => valueText_any W2 ((T4.next h1).next h2) 4 (by omega) 0 (by decide) s _ _ ⟨_, _, _, rfl⟩ ⟨_, _, _, rfl⟩ (by omega)
  refine ⟨fun W hW => ?_, fun W hW => ?_, fun W hW => ?_, fun W hW => ?_, fun W hW => ?_, fun W hW => ?_, fun W hW => ?_, fun W hW => ?_⟩
  · have := format_csv W (T4.next hW) 0 ⟨#[]⟩ (some ⟨G, 0, none⟩) 4 h13L (h13_row (hlBelow hW h)).1 none 0 0 (textT 2 h13T) (by omega) (fun W2 h2 => hTx W2 (hW.trans (h2.mono hW.size)))
    rw [h13_csv, show outV [49, 44, 34, 97, 34, 34, 98, 34, 44, 44, 116, 114, 117, 101] = .tuple #[.agg #[.int .i64 4, .float .f64 0, .string ⟨#[49, 44, 34, 97, 34, 34, 98, 34, 44, 44, 116, 114, 117, 101]⟩, .slice none 0 0, .slice none 0 0], .agg #[.bool false, .int .i64 0, .float .f64 0, .string ⟨#[]⟩, .slice none 0 0, .slice none 0 0]] from by unfold outV; rw [if_pos (by decide)]] at this
    exact this
  · have := format_sh1 W (T4.next hW) 4 0 (by omega) (by decide) [105, 116, 39, 115] (by decide) none 0 0 none 0 0
    rw [if_neg (by decide), if_pos rfl, show shQ [105, 116, 39, 115] = [39, 105, 116, 39, 92, 39, 39, 115, 39] from by decide +kernel, show outV [39, 105, 116, 39, 92, 39, 39, 115, 39] = .tuple #[.agg #[.int .i64 4, .float .f64 0, .string ⟨#[39, 105, 116, 39, 92, 39, 39, 115, 39]⟩, .slice none 0 0, .slice none 0 0], .agg #[.bool false, .int .i64 0, .float .f64 0, .string ⟨#[]⟩, .slice none 0 0, .slice none 0 0]] from by unfold outV; rw [if_pos (by decide)]] at this
    exact this
  · have := format_b64 W (T4.next hW) [104, 105] (by decide)
    rw [show b64T [104, 105] = [97, 71, 107, 61] from by decide +kernel, show outV [97, 71, 107, 61] = .tuple #[.agg #[.int .i64 4, .float .f64 0, .string ⟨#[97, 71, 107, 61]⟩, .slice none 0 0, .slice none 0 0], .agg #[.bool false, .int .i64 0, .float .f64 0, .string ⟨#[]⟩, .slice none 0 0, .slice none 0 0]] from by unfold outV; rw [if_pos (by decide)]] at this
    exact this
  · have := format_b64d W (T4.next hW) [97, 71, 107, 61] [104, 105] (by decide) (by decide +kernel) (by decide +kernel) (by decide +kernel) (by decide)
    rw [show outV [104, 105] = .tuple #[.agg #[.int .i64 4, .float .f64 0, .string ⟨#[104, 105]⟩, .slice none 0 0, .slice none 0 0], .agg #[.bool false, .int .i64 0, .float .f64 0, .string ⟨#[]⟩, .slice none 0 0, .slice none 0 0]] from by unfold outV; rw [if_pos (by decide)]] at this
    exact this
  · have := format_none W (T4.next hW) [120] (by decide) rfl rfl rfl rfl rfl rfl rfl rfl rfl 5 0 (by omega) ⟨#[]⟩ (some ⟨G, 0, none⟩) 4 4 none 0 0 (textT 2 h13T) (by omega) (fun W2 h2 => hTx W2 (hW.trans (h2.mono hW.size))) (textT 2 h13T) (by omega) (fun W2 h2 => fstring_of W2 5 0 (by decide) (by decide) ⟨#[]⟩ (some ⟨G, 0, none⟩) 4 4 none 0 0 (textT 2 h13T) (fun W3 h3 => hTx W3 ((hW.trans (h2.mono hW.size)).trans (h3.mono (hW.trans (h2.mono hW.size)).size))))
    exact this
  · have := format_uri W (T4.next hW) 4 0 (by omega) ⟨#[195, 169, 47, 32]⟩ none 0 0 none 0 0 (plainT 4 0 [195, 169, 47, 32]) (by have := plainT_length 4 0 [195, 169, 47, 32]; have : ([195, 169, 47, 32] : List UInt8).length = 4 := rfl; omega) (fun W2 h2 => hStr W W2 [195, 169, 47, 32] hW h2 (by decide)) [195, 169, 47, 32] (by decide) (fun W2 h2 => fstring_str W2 0 _ _ _ _ _ _ _)
    rw [h13_uri, show outV [37, 67, 51, 37, 65, 57, 37, 50, 70, 37, 50, 48] = .tuple #[.agg #[.int .i64 4, .float .f64 0, .string ⟨#[37, 67, 51, 37, 65, 57, 37, 50, 70, 37, 50, 48]⟩, .slice none 0 0, .slice none 0 0], .agg #[.bool false, .int .i64 0, .float .f64 0, .string ⟨#[]⟩, .slice none 0 0, .slice none 0 0]] from by unfold outV; rw [if_pos (by decide)]] at this
    exact this
  · have := fstring_of W 3 4607182418800017408 (by decide) (by decide) ⟨#[]⟩ none 0 0 none 0 0 (plainT 3 4607182418800017408 []) (fun W2 h2 => valueText_any W2 ((T4.next hW).next h2) 3 (by omega) 4607182418800017408 (by decide) [] _ _ ⟨_, _, _, rfl⟩ ⟨_, _, _, rfl⟩ (by decide))
    rw [h13_num] at this
    exact this
  · refine (names_any W (T4.next hW)).mono ?_
    rintro e w' ⟨he, rfl⟩
    exact ⟨_, he, (Below.refl _ _).alloc (Nat.le_refl _) _⟩
set_option maxHeartbeats 20000000 in
set_option maxRecDepth 100000 in
theorem heads13_any (w : World) (TW : Tabs w) : Calls Tryz.prog 9 #[] w fun e w' => e = .returned (.bool true) ∧ Below w.heap.size w w' := by
  have TH := Lib.hid TW
  clear TW
  go_enter Tryz.func9, Tryz.ntmps9
  go_wp2_with fail
  refine (num_any _ _).mono ?_
  rintro e' w1 ⟨rfl, hb1⟩
  go_wp2_with fail
  refine (rstr_any _ _).mono ?_
  rintro e' w2 ⟨rfl, hb2⟩
  have hb2 := hb1.trans (hb2.mono hb1.size)
  clear hb1
  go_wp2_with fail
  refine (rtrue_any _).mono ?_
  rintro e' w3 ⟨rfl, hb3⟩
  have hb3 := hb2.trans (hb3.mono hb2.size)
  clear hb2
  go_wp2_with fail
  refine (arr_any _ _ _ _).mono ?_
  rintro e' w4 ⟨rfl, hb4⟩
  have hrow := hlBelow hb4 (heap_alloc_new _ _)
  have hx4 : Below w.heap.size w w4 := (hb3.alloc hb3.size _).trans (hb4.mono (hb3.alloc hb3.size _).size)
  have HF := Lib.hid (h13_of (TH.out.next hx4) hrow)
  obtain ⟨G, hG⟩ : ∃ G, G = w3.heap.size := ⟨_, rfl⟩
  rw [← hG] at HF
  have hb5 : Below w4.heap.size w4 (w4.alloc (.cells #[.int .i64 5, .float .f64 0, .string ⟨#[]⟩, .slice (some ⟨G, 0, none⟩) 4 4, .slice none 0 0] 27)) := (Below.refl _ _).alloc (Nat.le_refl _) _
  have hr5 := heap_alloc_new w4 (.cells #[.int .i64 5, .float .f64 0, .string ⟨#[]⟩, .slice (some ⟨G, 0, none⟩) 4 4, .slice none 0 0] 27)
  obtain ⟨W5, hW5⟩ : ∃ W5, W5 = w4.alloc (.cells #[.int .i64 5, .float .f64 0, .string ⟨#[]⟩, .slice (some ⟨G, 0, none⟩) 4 4, .slice none 0 0] 27) := ⟨_, rfl⟩
  rw [← hW5] at hb5 hr5
  obtain ⟨H, hH⟩ : ∃ H, H = w4.heap.size := ⟨_, rfl⟩
  rw [← hH] at hr5
  have HR5 := Lib.hid hr5
  have HW5 : Hid (w4.alloc (.cells #[.int .i64 5, .float .f64 0, .string ⟨#[]⟩, .slice (some ⟨G, 0, none⟩) 4 4, .slice none 0 0] 27) = W5) := Lib.hid hW5.symm
  have HH : Hid (w4.heap.size = H) := Lib.hid hH.symm
  have HG : Hid (w3.heap.size = G) := Lib.hid hG.symm
  obtain ⟨p0, p1, p2, p3, p4⟩ := parts5 hr5
  clear hrow hW5 hH hr5 hb4 hb3 hG
  rw [HG.out]
  go_wp2_with (refine wpList_store_row rfl 27 (.tmp 1) (.tmp 19) rfl w4.heap.size #[.int .i64 5, .float .f64 0, .string ⟨#[]⟩, .slice (some ⟨G, 0, none⟩) 4 4, .slice none 0 0] rfl rfl 27 vZ (heap_alloc_new _ _) (by kernel_rfl) rfl (by simp [Value.oneCell']) ?_; rw [setRow_new, HW5.out, HH.out])
  have hp0 : Below W5.heap.size W5 W5 := Below.refl _ _
  refine (HF.out.f0 _ hb5).mono ?_
  rintro e' w10 ⟨rfl, hc0⟩
  have hcb0 := hb5.trans (hc0.mono hb5.size)
  have hcp0 := hp0.trans (hc0.mono hp0.size)
  have HT0 := Lib.hid (two_new w10)
  clear p0 p1 p2 p3 p4
  clear hc0 hp0
  go_wp2_with (first
    | (refine wpList_store_row rfl 27 (.tmp 2) (.tmp 23) rfl w10.heap.size #[.int .i64 4, .float .f64 0, .string ⟨#[49, 44, 34, 97, 34, 34, 98, 34, 44, 44, 116, 114, 117, 101]⟩, .slice none 0 0, .slice none 0 0] rfl rfl 27 vZ HT0.out.v (by kernel_rfl) rfl (by simp [Value.oneCell']) ?_; have HY0 := Lib.hid (HT0.out.setV #[.int .i64 4, .float .f64 0, .string ⟨#[49, 44, 34, 97, 34, 34, 98, 34, 44, 44, 116, 114, 117, 101]⟩, .slice none 0 0, .slice none 0 0]); obtain ⟨X0, hX0⟩ : ∃ X, X = ((w10.alloc (.cells vZ 27)).alloc (.cells eZ 32)).setRow w10.heap.size #[.int .i64 4, .float .f64 0, .string ⟨#[49, 44, 34, 97, 34, 34, 98, 34, 44, 44, 116, 114, 117, 101]⟩, .slice none 0 0, .slice none 0 0] := ⟨_, rfl⟩; rw [← hX0] at HY0 ⊢; clear hX0)
    | (refine wpList_store_row rfl 32 (.tmp 3) (.tmp 24) rfl (w10.heap.size + 1) #[.bool false, .int .i64 0, .float .f64 0, .string ⟨#[]⟩, .slice none 0 0, .slice none 0 0] rfl rfl 32 eZ HY0.out.e (by kernel_rfl) rfl (by simp [Value.oneCell']) ?_; have HZ0 := Lib.hid (HY0.out.setE #[.bool false, .int .i64 0, .float .f64 0, .string ⟨#[]⟩, .slice none 0 0, .slice none 0 0]); obtain ⟨Y0, hY0⟩ : ∃ Y, Y = X0.setRow (w10.heap.size + 1) #[.bool false, .int .i64 0, .float .f64 0, .string ⟨#[]⟩, .slice none 0 0, .slice none 0 0] := ⟨_, rfl⟩; rw [← hY0] at HZ0 ⊢; clear hY0 HY0 HT0; have hd0 := hcb0.trans (HZ0.out.below.mono hcb0.size); have hy0 := hcp0.trans (HZ0.out.below.mono hcp0.size); have RW := Lib.hid (hlBelow hy0 HR5.out); have VA0 := Lib.hid HZ0.out.v; have EA0 := Lib.hid HZ0.out.e))
  have hp1 : Below Y0.heap.size Y0 Y0 := Below.refl _ _
  refine (rstr_any _ _).mono ?_
  rintro e' u1 ⟨rfl, hs1⟩
  have hsb1 := hd0.trans (hs1.mono hd0.size)
  have hsp1 := hp1.trans (hs1.mono hp1.size)
  go_wp2_with fail
  refine (HF.out.f1 _ hsb1).mono ?_
  rintro e' w11 ⟨rfl, hc1⟩
  have hcb1 := hsb1.trans (hc1.mono hsb1.size)
  have hcp1 := hsp1.trans (hc1.mono hsp1.size)
  have HT1 := Lib.hid (two_new w11)
  clear hs1 hsb1 hsp1
  clear hc1 hp1
  go_wp2_with (first
    | (refine wpList_store_row rfl 27 (.tmp 4) (.tmp 28) rfl w11.heap.size #[.int .i64 4, .float .f64 0, .string ⟨#[39, 105, 116, 39, 92, 39, 39, 115, 39]⟩, .slice none 0 0, .slice none 0 0] rfl rfl 27 vZ HT1.out.v (by kernel_rfl) rfl (by simp [Value.oneCell']) ?_; have HY1 := Lib.hid (HT1.out.setV #[.int .i64 4, .float .f64 0, .string ⟨#[39, 105, 116, 39, 92, 39, 39, 115, 39]⟩, .slice none 0 0, .slice none 0 0]); obtain ⟨X1, hX1⟩ : ∃ X, X = ((w11.alloc (.cells vZ 27)).alloc (.cells eZ 32)).setRow w11.heap.size #[.int .i64 4, .float .f64 0, .string ⟨#[39, 105, 116, 39, 92, 39, 39, 115, 39]⟩, .slice none 0 0, .slice none 0 0] := ⟨_, rfl⟩; rw [← hX1] at HY1 ⊢; clear hX1)
    | (refine wpList_store_row rfl 32 (.tmp 5) (.tmp 29) rfl (w11.heap.size + 1) #[.bool false, .int .i64 0, .float .f64 0, .string ⟨#[]⟩, .slice none 0 0, .slice none 0 0] rfl rfl 32 eZ HY1.out.e (by kernel_rfl) rfl (by simp [Value.oneCell']) ?_; have HZ1 := Lib.hid (HY1.out.setE #[.bool false, .int .i64 0, .float .f64 0, .string ⟨#[]⟩, .slice none 0 0, .slice none 0 0]); obtain ⟨Y1, hY1⟩ : ∃ Y, Y = X1.setRow (w11.heap.size + 1) #[.bool false, .int .i64 0, .float .f64 0, .string ⟨#[]⟩, .slice none 0 0, .slice none 0 0] := ⟨_, rfl⟩; rw [← hY1] at HZ1 ⊢; clear hY1 HY1 HT1; have hd1 := hcb1.trans (HZ1.out.below.mono hcb1.size); have hy1 := hcp1.trans (HZ1.out.below.mono hcp1.size); have VA0 := Lib.hid (hlBelow hy1 VA0.out); have EA0 := Lib.hid (hlBelow hy1 EA0.out); have RW := Lib.hid (hlBelow hy1 RW.out); have VA1 := Lib.hid HZ1.out.v; have EA1 := Lib.hid HZ1.out.e))
  have hp2 : Below Y1.heap.size Y1 Y1 := Below.refl _ _
  refine (rstr_any _ _).mono ?_
  rintro e' u2 ⟨rfl, hs2⟩
  have hsb2 := hd1.trans (hs2.mono hd1.size)
  have hsp2 := hp2.trans (hs2.mono hp2.size)
  go_wp2_with fail
  refine (HF.out.f2 _ hsb2).mono ?_
  rintro e' w12 ⟨rfl, hc2⟩
  have hcb2 := hsb2.trans (hc2.mono hsb2.size)
  have hcp2 := hsp2.trans (hc2.mono hsp2.size)
  have HT2 := Lib.hid (two_new w12)
  clear hs2 hsb2 hsp2
  clear hc2 hp2
  go_wp2_with (first
    | (refine wpList_store_row rfl 27 (.tmp 6) (.tmp 33) rfl w12.heap.size #[.int .i64 4, .float .f64 0, .string ⟨#[97, 71, 107, 61]⟩, .slice none 0 0, .slice none 0 0] rfl rfl 27 vZ HT2.out.v (by kernel_rfl) rfl (by simp [Value.oneCell']) ?_; have HY2 := Lib.hid (HT2.out.setV #[.int .i64 4, .float .f64 0, .string ⟨#[97, 71, 107, 61]⟩, .slice none 0 0, .slice none 0 0]); obtain ⟨X2, hX2⟩ : ∃ X, X = ((w12.alloc (.cells vZ 27)).alloc (.cells eZ 32)).setRow w12.heap.size #[.int .i64 4, .float .f64 0, .string ⟨#[97, 71, 107, 61]⟩, .slice none 0 0, .slice none 0 0] := ⟨_, rfl⟩; rw [← hX2] at HY2 ⊢; clear hX2)
    | (refine wpList_store_row rfl 32 (.tmp 7) (.tmp 34) rfl (w12.heap.size + 1) #[.bool false, .int .i64 0, .float .f64 0, .string ⟨#[]⟩, .slice none 0 0, .slice none 0 0] rfl rfl 32 eZ HY2.out.e (by kernel_rfl) rfl (by simp [Value.oneCell']) ?_; have HZ2 := Lib.hid (HY2.out.setE #[.bool false, .int .i64 0, .float .f64 0, .string ⟨#[]⟩, .slice none 0 0, .slice none 0 0]); obtain ⟨Y2, hY2⟩ : ∃ Y, Y = X2.setRow (w12.heap.size + 1) #[.bool false, .int .i64 0, .float .f64 0, .string ⟨#[]⟩, .slice none 0 0, .slice none 0 0] := ⟨_, rfl⟩; rw [← hY2] at HZ2 ⊢; clear hY2 HY2 HT2; have hd2 := hcb2.trans (HZ2.out.below.mono hcb2.size); have hy2 := hcp2.trans (HZ2.out.below.mono hcp2.size); have VA0 := Lib.hid (hlBelow hy2 VA0.out); have EA0 := Lib.hid (hlBelow hy2 EA0.out); have VA1 := Lib.hid (hlBelow hy2 VA1.out); have EA1 := Lib.hid (hlBelow hy2 EA1.out); have RW := Lib.hid (hlBelow hy2 RW.out); have VA2 := Lib.hid HZ2.out.v; have EA2 := Lib.hid HZ2.out.e; obtain ⟨p0, p1, p2, p3, p4⟩ := parts5 VA2.out))
  have hp3 : Below Y2.heap.size Y2 Y2 := Below.refl _ _
  refine (HF.out.f3 _ hd2).mono ?_
  rintro e' w13 ⟨rfl, hc3⟩
  have hcb3 := hd2.trans (hc3.mono hd2.size)
  have hcp3 := hp3.trans (hc3.mono hp3.size)
  have HT3 := Lib.hid (two_new w13)
  clear p0 p1 p2 p3 p4
  clear hc3 hp3
  go_wp2_with (first
    | (refine wpList_store_row rfl 27 (.tmp 8) (.tmp 38) rfl w13.heap.size #[.int .i64 4, .float .f64 0, .string ⟨#[104, 105]⟩, .slice none 0 0, .slice none 0 0] rfl rfl 27 vZ HT3.out.v (by kernel_rfl) rfl (by simp [Value.oneCell']) ?_; have HY3 := Lib.hid (HT3.out.setV #[.int .i64 4, .float .f64 0, .string ⟨#[104, 105]⟩, .slice none 0 0, .slice none 0 0]); obtain ⟨X3, hX3⟩ : ∃ X, X = ((w13.alloc (.cells vZ 27)).alloc (.cells eZ 32)).setRow w13.heap.size #[.int .i64 4, .float .f64 0, .string ⟨#[104, 105]⟩, .slice none 0 0, .slice none 0 0] := ⟨_, rfl⟩; rw [← hX3] at HY3 ⊢; clear hX3)
    | (refine wpList_store_row rfl 32 (.tmp 9) (.tmp 39) rfl (w13.heap.size + 1) #[.bool false, .int .i64 0, .float .f64 0, .string ⟨#[]⟩, .slice none 0 0, .slice none 0 0] rfl rfl 32 eZ HY3.out.e (by kernel_rfl) rfl (by simp [Value.oneCell']) ?_; have HZ3 := Lib.hid (HY3.out.setE #[.bool false, .int .i64 0, .float .f64 0, .string ⟨#[]⟩, .slice none 0 0, .slice none 0 0]); obtain ⟨Y3, hY3⟩ : ∃ Y, Y = X3.setRow (w13.heap.size + 1) #[.bool false, .int .i64 0, .float .f64 0, .string ⟨#[]⟩, .slice none 0 0, .slice none 0 0] := ⟨_, rfl⟩; rw [← hY3] at HZ3 ⊢; clear hY3 HY3 HT3; have hd3 := hcb3.trans (HZ3.out.below.mono hcb3.size); have hy3 := hcp3.trans (HZ3.out.below.mono hcp3.size); have VA0 := Lib.hid (hlBelow hy3 VA0.out); have EA0 := Lib.hid (hlBelow hy3 EA0.out); have VA1 := Lib.hid (hlBelow hy3 VA1.out); have EA1 := Lib.hid (hlBelow hy3 EA1.out); have VA2 := Lib.hid (hlBelow hy3 VA2.out); have EA2 := Lib.hid (hlBelow hy3 EA2.out); have RW := Lib.hid (hlBelow hy3 RW.out); have VA3 := Lib.hid HZ3.out.v; have EA3 := Lib.hid HZ3.out.e; obtain ⟨p0, p1, p2, p3, p4⟩ := parts5 RW.out))
  have hp4 : Below Y3.heap.size Y3 Y3 := Below.refl _ _
  refine (HF.out.f4 _ hd3).mono ?_
  rintro e' w14 ⟨rfl, hc4⟩
  have hcb4 := hd3.trans (hc4.mono hd3.size)
  have hcp4 := hp4.trans (hc4.mono hp4.size)
  have HT4 := Lib.hid (two_new w14)
  clear p0 p1 p2 p3 p4
  clear hc4 hp4
  go_wp2_with (first
    | (refine wpList_store_row rfl 27 (.tmp 10) (.tmp 43) rfl w14.heap.size #[.int .i64 0, .float .f64 0, .string ⟨#[]⟩, .slice none 0 0, .slice none 0 0] rfl rfl 27 vZ HT4.out.v (by kernel_rfl) rfl (by simp [Value.oneCell']) ?_; have HY4 := Lib.hid (HT4.out.setV #[.int .i64 0, .float .f64 0, .string ⟨#[]⟩, .slice none 0 0, .slice none 0 0]); obtain ⟨X4, hX4⟩ : ∃ X, X = ((w14.alloc (.cells vZ 27)).alloc (.cells eZ 32)).setRow w14.heap.size #[.int .i64 0, .float .f64 0, .string ⟨#[]⟩, .slice none 0 0, .slice none 0 0] := ⟨_, rfl⟩; rw [← hX4] at HY4 ⊢; clear hX4)
    | (refine wpList_store_row rfl 32 (.tmp 11) (.tmp 44) rfl (w14.heap.size + 1) #[.bool true, .int .i64 4, .float .f64 0, .string ⟨#[120, 32, 105, 115, 32, 110, 111, 116, 32, 97, 32, 118, 97, 108, 105, 100, 32, 102, 111, 114, 109, 97, 116]⟩, .slice none 0 0, .slice none 0 0] rfl rfl 32 eZ HY4.out.e (by kernel_rfl) rfl (by simp [Value.oneCell']) ?_; have HZ4 := Lib.hid (HY4.out.setE #[.bool true, .int .i64 4, .float .f64 0, .string ⟨#[120, 32, 105, 115, 32, 110, 111, 116, 32, 97, 32, 118, 97, 108, 105, 100, 32, 102, 111, 114, 109, 97, 116]⟩, .slice none 0 0, .slice none 0 0]); obtain ⟨Y4, hY4⟩ : ∃ Y, Y = X4.setRow (w14.heap.size + 1) #[.bool true, .int .i64 4, .float .f64 0, .string ⟨#[120, 32, 105, 115, 32, 110, 111, 116, 32, 97, 32, 118, 97, 108, 105, 100, 32, 102, 111, 114, 109, 97, 116]⟩, .slice none 0 0, .slice none 0 0] := ⟨_, rfl⟩; rw [← hY4] at HZ4 ⊢; clear hY4 HY4 HT4; have hd4 := hcb4.trans (HZ4.out.below.mono hcb4.size); have hy4 := hcp4.trans (HZ4.out.below.mono hcp4.size); have VA0 := Lib.hid (hlBelow hy4 VA0.out); have EA0 := Lib.hid (hlBelow hy4 EA0.out); have VA1 := Lib.hid (hlBelow hy4 VA1.out); have EA1 := Lib.hid (hlBelow hy4 EA1.out); have VA2 := Lib.hid (hlBelow hy4 VA2.out); have EA2 := Lib.hid (hlBelow hy4 EA2.out); have VA3 := Lib.hid (hlBelow hy4 VA3.out); have EA3 := Lib.hid (hlBelow hy4 EA3.out); have RW := Lib.hid (hlBelow hy4 RW.out); have VA4 := Lib.hid HZ4.out.v; have EA4 := Lib.hid HZ4.out.e))
  have hp5 : Below Y4.heap.size Y4 Y4 := Below.refl _ _
  refine (rstr_any _ _).mono ?_
  rintro e' u5 ⟨rfl, hs5⟩
  have hsb5 := hd4.trans (hs5.mono hd4.size)
  have hsp5 := hp5.trans (hs5.mono hp5.size)
  go_wp2_with fail
  refine (HF.out.f5 _ hsb5).mono ?_
  rintro e' w15 ⟨rfl, hc5⟩
  have hcb5 := hsb5.trans (hc5.mono hsb5.size)
  have hcp5 := hsp5.trans (hc5.mono hsp5.size)
  have HT5 := Lib.hid (two_new w15)
  clear hs5 hsb5 hsp5
  clear hc5 hp5
  go_wp2_with (first
    | (refine wpList_store_row rfl 27 (.tmp 12) (.tmp 48) rfl w15.heap.size #[.int .i64 4, .float .f64 0, .string ⟨#[37, 67, 51, 37, 65, 57, 37, 50, 70, 37, 50, 48]⟩, .slice none 0 0, .slice none 0 0] rfl rfl 27 vZ HT5.out.v (by kernel_rfl) rfl (by simp [Value.oneCell']) ?_; have HY5 := Lib.hid (HT5.out.setV #[.int .i64 4, .float .f64 0, .string ⟨#[37, 67, 51, 37, 65, 57, 37, 50, 70, 37, 50, 48]⟩, .slice none 0 0, .slice none 0 0]); obtain ⟨X5, hX5⟩ : ∃ X, X = ((w15.alloc (.cells vZ 27)).alloc (.cells eZ 32)).setRow w15.heap.size #[.int .i64 4, .float .f64 0, .string ⟨#[37, 67, 51, 37, 65, 57, 37, 50, 70, 37, 50, 48]⟩, .slice none 0 0, .slice none 0 0] := ⟨_, rfl⟩; rw [← hX5] at HY5 ⊢; clear hX5)
    | (refine wpList_store_row rfl 32 (.tmp 13) (.tmp 49) rfl (w15.heap.size + 1) #[.bool false, .int .i64 0, .float .f64 0, .string ⟨#[]⟩, .slice none 0 0, .slice none 0 0] rfl rfl 32 eZ HY5.out.e (by kernel_rfl) rfl (by simp [Value.oneCell']) ?_; have HZ5 := Lib.hid (HY5.out.setE #[.bool false, .int .i64 0, .float .f64 0, .string ⟨#[]⟩, .slice none 0 0, .slice none 0 0]); obtain ⟨Y5, hY5⟩ : ∃ Y, Y = X5.setRow (w15.heap.size + 1) #[.bool false, .int .i64 0, .float .f64 0, .string ⟨#[]⟩, .slice none 0 0, .slice none 0 0] := ⟨_, rfl⟩; rw [← hY5] at HZ5 ⊢; clear hY5 HY5 HT5; have hd5 := hcb5.trans (HZ5.out.below.mono hcb5.size); have hy5 := hcp5.trans (HZ5.out.below.mono hcp5.size); have VA0 := Lib.hid (hlBelow hy5 VA0.out); have EA0 := Lib.hid (hlBelow hy5 EA0.out); have VA1 := Lib.hid (hlBelow hy5 VA1.out); have EA1 := Lib.hid (hlBelow hy5 EA1.out); have VA2 := Lib.hid (hlBelow hy5 VA2.out); have EA2 := Lib.hid (hlBelow hy5 EA2.out); have VA3 := Lib.hid (hlBelow hy5 VA3.out); have EA3 := Lib.hid (hlBelow hy5 EA3.out); have VA4 := Lib.hid (hlBelow hy5 VA4.out); have EA4 := Lib.hid (hlBelow hy5 EA4.out); have RW := Lib.hid (hlBelow hy5 RW.out); have VA5 := Lib.hid HZ5.out.v; have EA5 := Lib.hid HZ5.out.e; have m0 := cell_of_heap (j := 2) VA0.out rfl; have l0 := cell_of_heap (j := 0) EA0.out rfl; have m1 := cell_of_heap (j := 2) VA1.out rfl; have l1 := cell_of_heap (j := 0) EA1.out rfl; have m2 := cell_of_heap (j := 2) VA2.out rfl; have l2 := cell_of_heap (j := 0) EA2.out rfl; have m3 := cell_of_heap (j := 2) VA3.out rfl; have l3 := cell_of_heap (j := 0) EA3.out rfl; have m4 := cell_of_heap (j := 2) VA4.out rfl; have l4 := cell_of_heap (j := 0) EA4.out rfl; have m5 := cell_of_heap (j := 2) VA5.out rfl; have l5 := cell_of_heap (j := 0) EA5.out rfl; have l9 := cell_of_heap (j := 3) EA4.out rfl))
  refine (num_any _ _).mono ?_
  rintro e' z1 ⟨rfl, hz1⟩
  have hz1 := hd5.trans (hz1.mono hd5.size)
  clear m0 m1 m2 m3 m4 m5 l0 l1 l2 l3 l4 l5 l9
  go_wp2_with fail
  refine (HF.out.str _ hz1).mono ?_
  rintro e' z2 ⟨rfl, hz2⟩
  have hz2 := hz1.trans (hz2.mono hz1.size)
  go_wp2_with fail
  refine (HF.out.names _ hz2).mono ?_
  rintro e' z3 ⟨A9, rfl, hz3⟩
  have hz3 := hz2.trans (hz3.mono hz2.size)
  have hxx := hx4.trans (hz3.mono hx4.size)
  go_wp2_with fail
  go_ret
  exact ⟨rfl, hxx⟩
end Go.Proofs.YtpfamfkdfbcooaaGreatDoor
