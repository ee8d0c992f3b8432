/- In one text: printer.sheet.value of a tree, where keys are not sorted.; printer.sheet.value of what has no parts; of every tree.; printer.Print, where keys are not sorted. -/
import Derived.Test.YtpfamfkdfbcooaaGreatDoorCot
import Derived.Deep.DeepCutAuto
set_option linter.unusedVariables false
set_option linter.unusedSimpArgs false
/- printer.sheet.value of a tree, where keys are not sorted. -/
namespace Go.Proofs.YtpfamfkdfbcooaaGreatDoor
open Go Go.RowKit Go.Proofs
theorem below_boxes (w : World) (o1 o2 o3 : Obj) : Below w.heap.size w (((w.alloc o1).alloc o2).alloc o3) :=
  (((Below.refl _ _).alloc (Nat.le_refl _) o1).alloc (by simp) o2).alloc (by simp; omega) o3
theorem rep_shape {d : Nat} {w : World} {t : Tr} {y0 y1 y2 y3 y4 : Value} (h : Rep d w t y0 y1 y2 y3 y4) : ∃ (kk : Int) (nn : Nat) (ss : ByteArray) (A3 : Option Addr) (n3 e3 : Nat) (A4 : Option Addr) (n4 e4 : Nat), y0 = .int .i64 kk ∧ y1 = .float .f64 nn ∧ y2 = .string ss ∧ y3 = .slice A3 n3 e3 ∧ y4 = .slice A4 n4 e4 := by
  cases d with
  | zero => exact h.elim
  | succ d =>
    cases t with
    | mk k num str keys list =>
      obtain ⟨rfl, rfl, rfl, _, _, _, _, A, c, A2, c2, rfl, rfl, _⟩ := h
      exact ⟨_, _, _, _, _, _, _, _, _, rfl, rfl, rfl, rfl, rfl⟩
theorem old_cell (w : World) (o : Obj) (k j : Nat) (h : k < w.heap.size) : (w.alloc o).cell? ⟨k, j, none⟩ = w.cell? ⟨k, j, none⟩ := ((Below.refl w.heap.size w).alloc (Nat.le_refl _) o).cell (p := ⟨k, j, none⟩) h
theorem boxes3 (w : World) (c1 c2 c3 : Array Value) (t1 t2 t3 : TypeId) (j : Nat) :
    (((w.alloc (.cells c1 t1)).alloc (.cells c2 t2)).alloc (.cells c3 t3)).cell? ⟨w.heap.size, j, none⟩ = c1[j]? ∧ (((w.alloc (.cells c1 t1)).alloc (.cells c2 t2)).alloc (.cells c3 t3)).cell? ⟨w.heap.size + 1, j, none⟩ = c2[j]? ∧ (((w.alloc (.cells c1 t1)).alloc (.cells c2 t2)).alloc (.cells c3 t3)).cell? ⟨w.heap.size + 1 + 1, j, none⟩ = c3[j]? := by
  have s1 : (w.alloc (.cells c1 t1)).heap.size = w.heap.size + 1 := by simp
  have s2 : ((w.alloc (.cells c1 t1)).alloc (.cells c2 t2)).heap.size = w.heap.size + 1 + 1 := by simp
  refine ⟨?_, ?_, ?_⟩
  · rw [old_cell _ _ _ _ (by omega), old_cell _ _ _ _ (by omega), World.cell?_alloc_new]
  · rw [old_cell _ _ _ _ (by omega), ← s1, World.cell?_alloc_new]
  · rw [← s2, World.cell?_alloc_new]
end Go.Proofs.YtpfamfkdfbcooaaGreatDoor
/- printer.sheet.value of what has no parts; of every tree. -/
namespace Go.Proofs.YtpfamfkdfbcooaaGreatDoor
open Go Go.RowKit Go.Proofs
theorem colT_length (k : Nat) : (colT k).length ≤ 1000 := by
  unfold colT
  repeat' split
  all_goals decide

end Go.Proofs.YtpfamfkdfbcooaaGreatDoor
/- printer.Print, where keys are not sorted. -/
namespace Go.Proofs.YtpfamfkdfbcooaaGreatDoor
open Go Go.RowKit Go.Proofs

def printS (S : Sty) (d : Nat) (t : Tr) : St := pv S d t 0 ([], false)
/-- What Print answers. -/
def printV (r : St) : Value := if r.2 = true then .tuple #[.string ⟨#[]⟩, .int .i64 171] else .tuple #[.string ⟨r.1.toArray⟩, .int .i64 0]
theorem tokS_pos (S : Sty) (st : St) (s c : List UInt8) (hs : s ≠ []) (h : (tokS S st s c).2 = false) : (tokS S st s c).1 ≠ [] := by
  have ht : tokT S s c ≠ [] := by
    unfold tokT
    split
    · simp
    · exact hs
  unfold tokS putS at h ⊢
  split at h
  · cases h
  · rename_i hn
    rw [if_neg hn]
    intro e
    exact ht (List.append_eq_nil_iff.1 e).2
theorem escFrom_pos (q : List UInt8) (h : q ≠ []) : escA q ≠ [] := by
  have hp : 0 < (⟨q.toArray⟩ : ByteArray).size := by show 0 < q.length; exact List.length_pos_iff.2 h
  have hr := escR_pos (Utf8.decode ⟨q.toArray⟩ 0).1
  obtain ⟨m, hm⟩ : ∃ m, q.length = m + 1 := ⟨q.length - 1, by have := List.length_pos_iff.2 h; omega⟩
  unfold escA
  rw [hm, escFrom, if_pos hp]
  intro h
  exact hr (List.append_eq_nil_iff.1 h).1
theorem escT_pos (s : List UInt8) (asc : Bool) : escT s asc ≠ [] := by
  unfold escT
  split
  · exact escFrom_pos _ (quoteT_pos s)
  · exact quoteT_pos s
theorem printS_pos (S : Sty) (d : Nat) (t : Tr) (h : (printS S (d + 1) t).2 = false) : (printS S (d + 1) t).1 ≠ [] := by
  cases t with
  | mk k num str keys list =>
    unfold printS at h ⊢
    rw [pv] at h ⊢
    split at h
    · rename_i hk
      rw [if_pos hk]
      exact tokS_pos S _ _ _ (by simp) h
    · rename_i hk
      rw [if_neg hk]
      split at h
      · rename_i hk2
        rw [if_pos hk2]
        exact tokS_pos S _ _ _ (by simp) h
      · rename_i hk2
        rw [if_neg hk2]
        refine tokS_pos S _ _ _ ?_ h
        split
        · exact escT_pos _ _
        · exact plainT_pos _ _ _
end Go.Proofs.YtpfamfkdfbcooaaGreatDoor
