/- In one text: What a value that may be gives: it may be printed.; Values that may be have keys unlike each other, at every level. -/
import Derived.Test.YticaihfcnbehpaaGreatDoorCot
import Derived.Test.YticaihfcnbehpaaGreatDoorKer
import Derived.Test.YticaihfcnbehpaaGreatDoorSw
set_option linter.unusedVariables false
set_option linter.unusedSimpArgs false
/- What a value that may be gives: it may be printed. -/
namespace Go.Proofs.YticaihfcnbehpaaGreatDoor
open Go Go.RowKit Go.Proofs
/-- What a tree that is right gives. -/
theorem right_parts {m : Nat} {k : Int} {num : Nat} {str : Txt} {keys : List Txt} {list : List Tr} (h : rightT (m + 1) (.mk k num str keys list) = true) :
    (0 ≤ k ∧ k ≤ 6) ∧ (k = 3 ∨ num = 0) ∧ (k = 4 ∨ str = []) ∧ (5 ≤ k ∨ list = []) ∧ (k = 6 → keys.length = list.length) ∧ (k = 6 ∨ keys = []) ∧ validB ⟨str.toArray⟩ = true ∧ keysT keys = true ∧ ∀ i (hi : i < list.length), rightT m list[i] = true := by
  rw [rightT] at h
  split at h
  · cases h
  rename_i h1
  split at h
  · cases h
  rename_i h2
  split at h
  · cases h
  rename_i h3
  split at h
  · cases h
  rename_i h4
  split at h
  · cases h
  rename_i h5
  split at h
  · cases h
  rename_i h6
  split at h
  · cases h
  rename_i h7
  split at h
  · cases h
  rename_i h8
  refine ⟨by omega, ?_, ?_, ?_, ?_, ?_, ?_, ?_, fun i hi => ?_⟩
  · by_cases e : k = 3
    · exact .inl e
    · exact .inr (Decidable.byContradiction fun e2 => h2 ⟨e, e2⟩)
  · by_cases e : k = 4
    · exact .inl e
    · exact .inr (Decidable.byContradiction fun e2 => h3 ⟨e, e2⟩)
  · by_cases e : k < 5
    · cases list with
      | nil => exact .inr rfl
      | cons a l => exact absurd ⟨e, by simp⟩ h4
    · exact .inl (by omega)
  · intro e
    exact Decidable.byContradiction fun e2 => h5 ⟨e, e2⟩
  · by_cases e : k = 6
    · exact .inl e
    · exact .inr (Decidable.byContradiction fun e2 => h6 ⟨e, e2⟩)
  · cases hv : validB ⟨str.toArray⟩ with
    | true => rfl
    | false => exact absurd hv h7
  · cases hv : keysT keys with
    | true => rfl
    | false => exact absurd hv h8
  · exact List.all_eq_true.1 h _ (List.getElem_mem hi)
theorem right_okp : ∀ (d m : Nat) (w : World) (t : Tr) (x0 x1 x2 x3 x4 : Value), rightT m t = true → Rep d w t x0 x1 x2 x3 x4 → Okp d t
  | 0, _, _, _, _, _, _, _, _, _, h => h.elim
  | d + 1, 0, _, .mk _ _ _ _ _, _, _, _, _, _, h, _ => by cases h
  | d + 1, m + 1, w, .mk k num str keys list, x0, x1, x2, x3, x4, h, hR => by
    obtain ⟨hk, _, _, _, h6, _, _, _, hl⟩ := right_parts h
    obtain ⟨_, _, _, _, _, _, _, A, c, A2, c2, _, _, hL, _⟩ := hR
    refine ⟨hk.1, hk.2, h6, fun i hi => ?_⟩
    obtain ⟨ad, _, y0, y1, y2, y3, y4, _, hRi⟩ := hL i hi
    exact right_okp d m w list[i] y0 y1 y2 y3 y4 (hl i hi) hRi
end Go.Proofs.YticaihfcnbehpaaGreatDoor
/- Values that may be have keys unlike each other, at every level. -/
namespace Go.Proofs.YticaihfcnbehpaaGreatDoor
open Go Go.RowKit Go.Proofs
theorem keysFrom_nodup : ∀ (l : List Txt) (p : Option Txt), keysFrom p l = true → Asd l → (∀ x, p = some x → ∀ y ∈ l, leS x y = true) → (∀ x, p = some x → x ∉ l) ∧ l.Nodup
  | [], _, _, _, _ => ⟨fun _ _ h => (by cases h), List.Pairwise.nil⟩
  | x :: s, p, h, ha, hp => by
    rw [keysFrom] at h
    split at h
    · split at h
      · cases h
      · rename_i hne
        have ha' := List.pairwise_cons.1 ha
        obtain ⟨h1, h2⟩ := keysFrom_nodup s (some x) h ha'.2 (fun z hz y hy => by injection hz with hz; subst hz; exact ha'.1 y hy)
        refine ⟨fun z hz hm => ?_, List.nodup_cons.2 ⟨h1 x rfl, h2⟩⟩
        rcases List.mem_cons.1 hm with e | e
        · exact hne (by rw [hz, e])
        · have hzx := hp z hz x (List.mem_cons_self ..)
          have hxz := ha'.1 z e
          have : z = x := leS_anti hzx hxz
          exact hne (by rw [hz, this])
    · cases h
theorem keysT_nodup {l : List Txt} (h : keysT l = true) : l.Nodup :=
  (sortT_perm l.length l).nodup_iff.1 (keysFrom_nodup _ none h (sortT_asd l.length l (by omega)) (fun _ h => (by cases h))).2
/-- An object's keys are unlike each other, at every level. -/
def Dst : Nat → Tr → Prop
  | 0, _ => False
  | d + 1, .mk _ _ _ keys list => keys.Nodup ∧ ∀ i (h : i < list.length), Dst d list[i]
theorem right_dst : ∀ (d m : Nat) (w : World) (t : Tr) (x0 x1 x2 x3 x4 : Value), rightT m t = true → Rep d w t x0 x1 x2 x3 x4 → Dst d t
  | 0, _, _, _, _, _, _, _, _, _, h => h.elim
  | d + 1, 0, _, .mk _ _ _ _ _, _, _, _, _, _, h, _ => by cases h
  | d + 1, m + 1, w, .mk k num str keys list, x0, x1, x2, x3, x4, h, hR => by
    obtain ⟨hk, _, _, _, h6, _, _, hky, hl⟩ := right_parts h
    obtain ⟨_, _, _, _, _, _, _, A, c, A2, c2, _, _, hL, _⟩ := hR
    refine ⟨keysT_nodup hky, fun i hi => ?_⟩
    obtain ⟨ad, _, y0, y1, y2, y3, y4, _, hRi⟩ := hL i hi
    exact right_dst d m w list[i] y0 y1 y2 y3 y4 (hl i hi) hRi
theorem atT_nodup {l : List Txt} (h : l.Nodup) (i : Nat) (hi : i < l.length) : atT l l[i] = (i : Int) := by
  obtain ⟨j, hj, e1, e2⟩ := atT_mem l l[i] (List.getElem_mem hi)
  rw [e1, (List.getElem_inj h).1 e2]
end Go.Proofs.YticaihfcnbehpaaGreatDoor
