/- What a value that may be gives: it may be printed. -/
import Derived.Test.YtpfamfkdfbcooaaGreatDoorCot
import Derived.Test.YtpfamfkdfbcooaaGreatDoorKer
set_option linter.unusedVariables false
set_option linter.unusedSimpArgs false
namespace Go.Proofs.YtpfamfkdfbcooaaGreatDoor
open Go Go.RowKit Go.Proofs
/-- What a tree that is right gives. -/
theorem right_parts {m : Nat} {k : Int} {num : Nat} {str : Txt} {keys : List Txt} {list : List Tr} (h : rightT (m + 1) (.mk k num str keys list) = true) :
    (0 ≤ k ∧ k ≤ 6) ∧ (k = 3 ∨ num = 0) ∧ (k = 4 ∨ str = []) ∧ (5 ≤ k ∨ list = []) ∧ (k = 6 → keys.length = list.length) ∧ (k = 6 ∨ keys = []) ∧ validB ⟨str.toArray⟩ = true ∧ keysT keys = true ∧ ∀ i (hi : i < list.length), rightT m list[i] = true := by
  rw [rightT] at h
  split at h
  · cases h
  rename_i h1
  split at h
  · cases h
  rename_i h2
  split at h
  · cases h
  rename_i h3
  split at h
  · cases h
  rename_i h4
  split at h
  · cases h
  rename_i h5
  split at h
  · cases h
  rename_i h6
  split at h
  · cases h
  rename_i h7
  split at h
  · cases h
  rename_i h8
  refine ⟨by omega, ?_, ?_, ?_, ?_, ?_, ?_, ?_, fun i hi => ?_⟩
  · by_cases e : k = 3
    · exact .inl e
    · exact .inr (Decidable.byContradiction fun e2 => h2 ⟨e, e2⟩)
  · by_cases e : k = 4
    · exact .inl e
    · exact .inr (Decidable.byContradiction fun e2 => h3 ⟨e, e2⟩)
  · by_cases e : k < 5
    · cases list with
      | nil => exact .inr rfl
      | cons a l => exact absurd ⟨e, by simp⟩ h4
    · exact .inl (by omega)
  · intro e
    exact Decidable.byContradiction fun e2 => h5 ⟨e, e2⟩
  · by_cases e : k = 6
    · exact .inl e
    · exact .inr (Decidable.byContradiction fun e2 => h6 ⟨e, e2⟩)
  · cases hv : validB ⟨str.toArray⟩ with
    | true => rfl
    | false => exact absurd hv h7
  · cases hv : keysT keys with
    | true => rfl
    | false => exact absurd hv h8
  · exact List.all_eq_true.1 h _ (List.getElem_mem hi)
theorem right_okp : ∀ (d m : Nat) (w : World) (t : Tr) (x0 x1 x2 x3 x4 : Value), rightT m t = true → Rep d w t x0 x1 x2 x3 x4 → Okp d t
  | 0, _, _, _, _, _, _, _, _, _, h => h.elim
  | d + 1, 0, _, .mk _ _ _ _ _, _, _, _, _, _, h, _ => by cases h
  | d + 1, m + 1, w, .mk k num str keys list, x0, x1, x2, x3, x4, h, hR => by
    obtain ⟨hk, _, _, _, h6, _, _, _, hl⟩ := right_parts h
    obtain ⟨_, _, _, _, _, _, _, A, c, A2, c2, _, _, hL, _⟩ := hR
    refine ⟨hk.1, hk.2, h6, fun i hi => ?_⟩
    obtain ⟨ad, _, y0, y1, y2, y3, y4, _, hRi⟩ := hL i hi
    exact right_okp d m w list[i] y0 y1 y2 y3 y4 (hl i hi) hRi
end Go.Proofs.YtpfamfkdfbcooaaGreatDoor
