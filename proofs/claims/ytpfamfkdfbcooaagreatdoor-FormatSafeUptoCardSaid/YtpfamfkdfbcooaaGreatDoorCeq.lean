/- In one text: format's (row).cells where no cell is an array or an object.; How long quoted cells are; a row of trees. -/
import Derived.Test.YtpfamfkdfbcooaaGreatDoorFmq
import Derived.Test.YtpfamfkdfbcooaaGreatDoorSam
set_option linter.unusedVariables false
set_option linter.unusedSimpArgs false
/- format's (row).cells where no cell is an array or an object. -/
namespace Go.Proofs.YtpfamfkdfbcooaaGreatDoor
open Go Go.RowKit Go.Proofs
/-- A cell's text. -/
def cellT (null : List UInt8) (Q : List UInt8 → List UInt8) : Tr → List UInt8
  | .mk k num str _ _ => if k = 0 then null else if k = 4 then Q str else plainT k.toNat num str
/-- A value that has no parts stands at an address. -/
def LeafAt (w : World) (a : Addr) : Tr → Prop
  | .mk k num str _ _ => 0 ≤ k ∧ k ≤ 4 ∧ num < 18446744073709551616 ∧ str.length ≤ 1048576 ∧ ∃ (A3 : Option Addr) (n3 e3 : Nat) (A4 : Option Addr) (n4 e4 : Nat), Cells5 w a (.int .i64 k) (.float .f64 num) (.string ⟨str.toArray⟩) (.slice A3 n3 e3) (.slice A4 n4 e4)
theorem LeafAt.below {w W : World} {a : Addr} {t : Tr} (h : LeafAt w a t) (hb : Below w.heap.size w W) : LeafAt W a t := by
  cases t with
  | mk k num str keys list =>
  obtain ⟨h1, h2, h3, h4, A3, n3, e3, A4, n4, e4, h5⟩ := h
  exact ⟨h1, h2, h3, h4, A3, n3, e3, A4, n4, e4, h5.below hb⟩
/-- k texts have been put into the block. -/
structure OutI (W1 : World) (Bf n : Nat) (f : Nat → List UInt8) (W : World) (k : Nat) : Prop where
  below : Below W1.heap.size W1 W
  row : ∃ cs : Array Value, W.heap[Bf]? = some (.cells cs 9 (0, 0)) ∧ cs.size = n ∧ ∀ j, j < k → cs[j]? = some (.string ⟨(f j).toArray⟩)
  bge : W1.heap.size ≤ Bf
theorem OutI.put {W1 : World} {Bf n : Nat} {f : Nat → List UInt8} {W : World} {k : Nat} (h : OutI W1 Bf n f W k) (hk : k < n) {s : List UInt8} (hs : s = f k) : OutI W1 Bf n f (W.setCell ⟨Bf, k, none⟩ (.string ⟨s.toArray⟩)) (k + 1) := by
  obtain ⟨cs, h1, h2, h3⟩ := h.row
  subst hs
  refine ⟨h.below.setCell h.bge _, ⟨_, Go.heap_setCell_same _ _ k _ _ _ h1, by simp [h2], fun j hj => ?_⟩, h.bge⟩
  rcases Nat.lt_or_ge j k with hlt | hge
  · rw [Array.getElem?_setIfInBounds_ne (by omega)]; exact h3 j hlt
  · obtain rfl : j = k := by omega
    rw [Array.getElem?_setIfInBounds_self_of_lt (by omega)]
theorem OutI.later {W1 : World} {Bf n : Nat} {f : Nat → List UInt8} {W W' : World} {k : Nat} (h : OutI W1 Bf n f W k) (hb : Below W.heap.size W W') : OutI W1 Bf n f W' k := by
  obtain ⟨cs, h1, h2, h3⟩ := h.row
  exact ⟨h.below.trans (hb.mono h.below.size), ⟨cs, hlBelow hb h1, h2, h3⟩, h.bge⟩
theorem OutI.cell {W1 : World} {Bf n : Nat} {f : Nat → List UInt8} {W : World} {k : Nat} (h : OutI W1 Bf n f W k) {j : Nat} (hj : j < n) : (∃ u, W.cell? ⟨Bf, j, none⟩ = some u) ∧ W.frozen? ⟨Bf, j, none⟩ = false := by
  obtain ⟨cs, h1, h2, h3⟩ := h.row
  exact ⟨⟨cs[j]'(by omega), cell_of_heap h1 (by simp [h2, hj])⟩, frozen_of_heap j h1⟩
theorem join_joinB (x : UInt8) : ∀ l : List (List UInt8), Lib.join l [x] = joinB x l
  | [] => rfl
  | [a] => by rw [Lib.join_one]; rfl
  | a :: b :: l => by
    have h := join_joinB x (b :: l)
    rw [Lib.join_cons] at h ⊢
    show _ = a ++ x :: joinB x (b :: l)
    rw [← h]
    unfold Lib.joinTail
    simp
theorem joinB_len (x : UInt8) (M : Nat) : ∀ l : List (List UInt8), (∀ a ∈ l, a.length ≤ M) → (joinB x l).length ≤ l.length * (M + 1)
  | [], _ => by simp [joinB]
  | [a], h => by
    have := h a (by simp)
    show a.length ≤ _
    simp; omega
  | a :: b :: l, h => by
    have h1 := h a (by simp)
    have h2 := joinB_len x M (b :: l) (fun c hc => h c (List.mem_cons_of_mem _ hc))
    show (a ++ x :: joinB x (b :: l)).length ≤ _
    rw [List.length_append, List.length_cons, List.length_cons, Nat.add_mul, Nat.one_mul]
    omega
theorem cellT_len {null : List UInt8} {Q : List UInt8 → List UInt8} (hnull : null.length ≤ 10) (hQl : ∀ s, (Q s).length ≤ 6 * s.length + 1001) {w : World} {a : Addr} {t : Tr} (h : LeafAt w a t) : (cellT null Q t).length ≤ 6292457 := by
  cases t with
  | mk k num str keys list =>
  obtain ⟨_, _, _, hs, _⟩ := h
  have e : cellT null Q (.mk k num str keys list) = if k = 0 then null else if k = 4 then Q str else plainT k.toNat num str := rfl
  rw [e]
  split
  · omega
  · split
    · have := hQl str; omega
    · have := plainT_length k.toNat num str; omega
end Go.Proofs.YtpfamfkdfbcooaaGreatDoor
/- How long quoted cells are; a row of trees. -/
namespace Go.Proofs.YtpfamfkdfbcooaaGreatDoor
open Go Go.RowKit Go.Proofs
theorem flat_le (f : UInt8 → List UInt8) (M : Nat) (hf : ∀ c, (f c).length ≤ M) : ∀ s : List UInt8, (s.flatMap f).length ≤ M * s.length
  | [] => by simp
  | c :: s => by
    have h := flat_le f M hf s
    have h1 := hf c
    rw [List.flatMap_cons, List.length_append, List.length_cons, Nat.mul_add, Nat.mul_one]
    omega
theorem csvQ_len (s : List UInt8) : (csvQ s).length ≤ 6 * s.length + 1001 := by
  have := flat_le csvE 6 (fun c => by unfold csvE; split <;> simp) s
  unfold csvQ
  rw [List.length_cons, List.length_append, List.length_singleton]
  omega
theorem tsvQ_len (s : List UInt8) : (tsvQ s).length ≤ 6 * s.length + 1001 := by
  have := flat_le tsvE 6 (fun c => by unfold tsvE; repeat' split
                                      all_goals simp) s
  unfold tsvQ
  omega
theorem shQ_len (s : List UInt8) : (shQ s).length ≤ 6 * s.length + 1001 := by
  have := flat_le shE 6 (fun c => by unfold shE; split <;> simp) s
  unfold shQ
  rw [List.length_cons, List.length_append, List.length_singleton]
  omega
/-- What the cells of a row are: a list of trees that have no parts. -/
structure RowAt (w : World) (A : Option Addr) (list : List Tr) : Prop where
  len : list.length ≤ 1048576
  at_ : ∀ i (h : i < list.length), ∃ ad, A = some ad ∧ LeafAt w (ad.add (i * 5)) list[i]
theorem RowAt.below {w W : World} {A : Option Addr} {list : List Tr} (h : RowAt w A list) (hb : Below w.heap.size w W) : RowAt W A list :=
  ⟨h.len, fun i hi => by
    obtain ⟨ad, e, hR⟩ := h.at_ i hi
    exact ⟨ad, e, hR.below hb⟩⟩
end Go.Proofs.YtpfamfkdfbcooaaGreatDoor
