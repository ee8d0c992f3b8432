/- How long a tree's text may be. -/
import Derived.Test.YtpfamfkdfbcooaaGreatDoorVmy
import Derived.Test.YtpfamfkdfbcooaaGreatDoorAll
set_option linter.unusedVariables false
set_option linter.unusedSimpArgs false
namespace Go.Proofs.YtpfamfkdfbcooaaGreatDoor
open Go Go.RowKit Go.Proofs
theorem tjoin_sum (f : Nat → List UInt8) (g : Nat → Nat) : ∀ (m i : Nat), (∀ j, j < m → (f (i + j)).length ≤ g (i + j)) → (tjoin f m i).length ≤ m + ((List.range m).map fun j => g (i + j)).sum
  | 0, i, _ => by simp [tjoin]
  | m + 1, i, h => by
    rw [tjoin_snoc, List.range_succ, List.map_append, List.sum_append, List.length_append, List.length_append]
    have h1 := tjoin_sum f g m i (fun j hj => h j (by omega))
    have h2 := h m (by omega)
    have h3 : (if 0 < i + m then [(44 : UInt8)] else []).length ≤ 1 := by split <;> simp
    simp only [List.map_cons, List.map_nil, List.sum_cons, List.sum_nil]
    omega
theorem getD_sum {α : Type} (z : α) (g : α → Nat) (l : List α) : ((List.range l.length).map fun j => g (l.getD j z)).sum = (l.map g).sum := by
  congr 1
  refine List.ext_getElem (by simp) fun i h1 h2 => ?_
  rw [List.getElem_map, List.getElem_map, List.getElem_range, List.getD_eq_getElem?_getD, List.getElem?_eq_getElem (by simpa using h2)]
  rfl
theorem sum_zero : ∀ m : Nat, ((List.range m).map fun _ => 0).sum = 0
  | 0 => rfl
  | m + 1 => by rw [List.range_succ, List.map_append, List.sum_append, sum_zero m]; rfl
theorem keys_sum : ∀ (m : Nat) (keys : List (List UInt8)), ((List.range m).map fun j => (keys.getD j []).length).sum ≤ (keys.map fun s => s.length + 1).sum
  | 0, _ => by simp
  | m + 1, [] => by
    have : ((List.range (m + 1)).map fun j => (([] : List (List UInt8)).getD j []).length) = (List.range (m + 1)).map fun _ => 0 := by
      refine List.map_congr_left fun j _ => ?_
      simp
    rw [this, sum_zero]
    exact Nat.zero_le _
  | m + 1, k :: keys => by
    rw [List.range_succ_eq_map, List.map_cons, List.map_map, List.sum_cons, List.map_cons, List.sum_cons]
    have h := keys_sum m keys
    have e : ((List.range m).map ((fun j => ((k :: keys).getD j []).length) ∘ Nat.succ)) = (List.range m).map fun j => (keys.getD j []).length := by
      refine List.map_congr_left fun j _ => ?_
      simp
    rw [e]
    have e0 : ((k :: keys).getD 0 []).length = k.length := rfl
    rw [e0]
    omega
theorem sum_lin (a b : Nat → Nat) (p q r : Nat) : ∀ m : Nat, ((List.range m).map fun j => p * a j + q + r * b j).sum = p * ((List.range m).map a).sum + q * m + r * ((List.range m).map b).sum
  | 0 => by simp
  | m + 1 => by
    rw [List.range_succ, List.map_append, List.map_append, List.map_append, List.sum_append, List.sum_append, List.sum_append, sum_lin a b p q r m]
    simp only [List.map_cons, List.map_nil, List.sum_cons, List.sum_nil, Nat.add_zero, Nat.mul_add, Nat.mul_one]
    omega
theorem sum_add1 (g : Tr → Nat) : ∀ l : List Tr, (l.map fun t => g t + 1).sum = (l.map g).sum + l.length
  | [] => rfl
  | t :: l => by rw [List.map_cons, List.sum_cons, sum_add1 g l, List.map_cons, List.sum_cons, List.length_cons]; omega
theorem quoteT_len (s : List UInt8) : (quoteT s).length ≤ 6 * s.length + 2 := by
  have h2 := flatMap_length s
  unfold quoteT
  rw [List.length_cons, List.length_append, List.length_singleton]
  omega
theorem textT_len : ∀ (d : Nat) (t : Tr), (textT d t).length ≤ 1100 * wtT d t
  | 0, _ => by simp [textT]
  | d + 1, .mk k num str keys list => by
    have hc : ∀ j, (textT d (list.getD j default)).length ≤ 1100 * wtT d (list.getD j default) := fun j => textT_len d _
    have hs := getD_sum default (wtT d) list
    have hk := keys_sum list.length keys
    rw [textT, wtT, sum_add1]
    split
    · have h := tjoin_sum (fun i => textT d (list.getD i default)) (fun j => 0 * 0 + 0 + 1100 * wtT d (list.getD j default)) list.length 0 (fun j _ => by
        have := hc (0 + j)
        show _ ≤ 0 * 0 + 0 + 1100 * _
        omega)
      simp only [Nat.zero_add] at h
      have e := sum_lin (fun _ => 0) (fun j => wtT d (list.getD j default)) 0 0 1100 list.length
      simp only [Nat.zero_mul, Nat.zero_add, Nat.add_zero] at e h
      rw [e, hs] at h
      rw [List.length_cons, List.length_append, List.length_singleton]
      omega
    · split
      · have h := tjoin_sum (fun i => (quoteT (keys.getD i []) ++ [58]) ++ textT d (list.getD i default)) (fun j => 6 * (keys.getD j []).length + 3 + 1100 * wtT d (list.getD j default)) list.length 0 (fun j _ => by
          have h1 := hc (0 + j)
          have h2 := quoteT_len (keys.getD (0 + j) [])
          simp only [List.length_append, List.length_singleton]
          omega)
        simp only [Nat.zero_add] at h
        have e := sum_lin (fun j => (keys.getD j []).length) (fun j => wtT d (list.getD j default)) 6 3 1100 list.length
        rw [e, hs] at h
        rw [List.length_cons, List.length_append, List.length_singleton]
        omega
      · have := plainT_length k.toNat num str
        omega
end Go.Proofs.YtpfamfkdfbcooaaGreatDoor
