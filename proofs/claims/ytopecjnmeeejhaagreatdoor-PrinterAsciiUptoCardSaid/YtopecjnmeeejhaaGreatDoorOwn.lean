/- Slices of any elements that a call has made itself. -/
import Derived.Test.YtopecjnmeeejhaaGreatDoorRf
import Derived.Laws.AppendOwnNone
set_option linter.unusedVariables false
set_option linter.unusedSimpArgs false
namespace Go.Proofs.YtopecjnmeeejhaaGreatDoor
open Go Go.RowKit Go.Proofs

/-- S is a slice type: its elements are of type E, so many cells, so many bytes, with this zero. -/
structure Elt (S E : TypeId) (size bytes : Nat) (z : Value) : Prop where
  under : Tryz.prog.underlying S = some (.slice E)
  info : (Tryz.prog.info? E).map (fun i => (i.zero, i.size, i.bytes)) = some (some z, size, bytes)
  cells : z.cells.size = size
  pos : 0 < size
/-- v is a slice of n elements of the call's own (its block is B or later); its cells are xs. -/
def OwnG (E : TypeId) (size B : Nat) (w : World) (v : Value) (n : Nat) (xs : List Value) : Prop := w.ownsRow B E size v n xs
namespace OwnG
variable {E : TypeId} {size B n : Nat} {w w' : World} {v : Value} {xs : List Value}
theorem nil (E : TypeId) (size B : Nat) (w : World) : OwnG E size B w (.slice none 0 0) 0 [] := World.ownsRow_nil _ _ _ _
theorem keep {S : Nat → Prop} (h : OwnG E size B w v n xs) (hk : Keep S w w') (hn : ∀ k, v.ownBlock = some k → ¬ S k) : OwnG E size B w' v n xs := by
  refine ⟨h.1, ?_⟩
  rcases h.2 with hz | ⟨g, cap, cur, rfl, hb, hgg, rest⟩
  · exact .inl hz
  · refine .inr ⟨g, cap, cur, rfl, hb, ?_, rest⟩
    exact hk.heap hgg (hn g rfl)
theorem below (h : OwnG E size B w v n xs) (hb : Below w.heap.size w w') : OwnG E size B w' v n xs := h.keep (S := fun _ => False) (Keep.of_below hb) (fun _ _ h => h)
theorem alloc (h : OwnG E size B w v n xs) (o : Obj) : OwnG E size B (w.alloc o) v n xs := World.ownsRow.alloc h o
theorem lt (h : OwnG E size B w v n xs) : ∀ k, v.ownBlock = some k → B ≤ k ∧ k < w.heap.size := World.ownsRow.lt h
theorem mono (h : OwnG E size B w v n xs) {B' : Nat} (hB : B' ≤ B) : OwnG E size B' w v n xs := by
  refine ⟨h.1, ?_⟩
  rcases h.2 with hz | ⟨g, cap, cur, rfl, hb, hgg, rest⟩
  · exact .inl hz
  · exact .inr ⟨g, cap, cur, rfl, Nat.le_trans hB hb, hgg, rest⟩
theorem shape (h : OwnG E size B w v n xs) : ∃ A c, v = .slice A n c := by
  rcases h.2 with ⟨rfl, h0⟩ | ⟨g, cap, cur, rfl, _⟩
  · exact ⟨none, 0, by rw [h0]⟩
  · exact ⟨_, _, rfl⟩
theorem cells (h : OwnG E size B w v n xs) {A : Option Addr} {m c : Nat} (hv : v = .slice A m c) : m = n ∧ n ≤ c ∧ (0 < xs.length → ∃ g, A = some ⟨g, 0, none⟩ ∧ v.ownBlock = some g ∧ ∀ j u, xs[j]? = some u → w.cell? ⟨g, j, none⟩ = some u) := by
  rcases h.2 with ⟨rfl, h0⟩ | ⟨g, cap, cur, rfl, hb, hgg, hnc, hcm, hcs, htake⟩
  · injection hv with h1 h2 h3
    refine ⟨by omega, by omega, fun hx => ?_⟩
    have := h.1; rw [h0] at this; omega
  · injection hv with h1 h2 h3
    refine ⟨by omega, by omega, fun _ => ⟨g, h1.symm, rfl, fun j u hj => ?_⟩⟩
    simp only [World.cell?, hgg]
    rw [← htake] at hj
    rw [List.getElem?_take] at hj
    split at hj
    · rw [← Array.getElem?_toList, hj]; rfl
    · cases hj
theorem type_of (h : OwnG E size B w v n xs) : ∀ k, v.ownBlock = some k → ∃ cur, w.heap[k]? = some (.cells cur E (0, 0)) := by
  intro k hk
  rcases h.2 with ⟨rfl, _⟩ | ⟨g, cap, cur, rfl, _, hgg, _⟩
  · simp [Value.ownBlock] at hk
  · simp [Value.ownBlock] at hk; subst hk; exact ⟨cur, hgg⟩
end OwnG
/-- Since the world w, when v held n elements xs, m elements l have been appended; now v1 holds all, and nothing else of w has changed. -/
structure AppG (E : TypeId) (size B : Nat) (w : World) (v : Value) (n : Nat) (xs : List Value) (w1 : World) (v1 : Value) (m : Nat) (l : List Value) : Prop where
  own : OwnG E size B w1 v1 (n + m) (xs ++ l)
  keep : Keep (fun k => some k = v.ownBlock) w w1
  at_ : v1.ownBlock = v.ownBlock ∨ ∃ b, v1.ownBlock = some b ∧ w.heap.size ≤ b
  base : B ≤ w1.heap.size
namespace AppG
variable {E : TypeId} {size B n m m2 : Nat} {w w1 w2 : World} {v v1 v2 : Value} {xs l l2 : List Value}
theorem start (h : OwnG E size B w v n xs) (hB : B ≤ w.heap.size) : AppG E size B w v n xs w v 0 [] := ⟨by rw [List.append_nil]; exact h, Keep.refl _ _, .inl rfl, hB⟩
theorem next (h : AppG E size B w v n xs w1 v1 m l) (ho : OwnG E size B w2 v2 (n + m + m2) ((xs ++ l) ++ l2)) (hg : w1.grownBy w2 v1.ownBlock) (hat : v2.ownBlock = v1.ownBlock ∨ ∃ b, v2.ownBlock = some b ∧ w1.heap.size ≤ b) : AppG E size B w v n xs w2 v2 (m + m2) (l ++ l2) := by
  refine ⟨by rw [← List.append_assoc, ← Nat.add_assoc]; exact ho, h.keep.trans (Keep.of_grown hg) ?_, ?_, Nat.le_trans h.base hg.size⟩
  · intro i hi he
    rcases h.at_ with h1 | ⟨b, h1, h2⟩
    · exact he.trans h1
    · have : i = b := by rw [h1] at he; exact Option.some.inj he
      omega
  · rcases hat with h1 | ⟨b, h1, h2⟩
    · rw [h1]; exact h.at_
    · exact .inr ⟨b, h1, Nat.le_trans h.keep.size h2⟩
theorem below (h : AppG E size B w v n xs w1 v1 m l) (hb : Below w1.heap.size w1 w2) : AppG E size B w v n xs w2 v1 m l :=
  ⟨h.own.below hb, h.keep.trans (S' := fun _ => False) (Keep.of_below hb) (fun _ _ h => h.elim), h.at_, Nat.le_trans h.base hb.size⟩
/-- Where there was no row yet, nothing at all has changed. -/
theorem fresh (h : AppG E size B w (.slice none 0 0) n xs w1 v1 m l) : Below w.heap.size w w1 :=
  h.keep.below (Nat.le_refl _) (fun k _ e => by cases e)
theorem at_new (h : AppG E size B w (.slice none 0 0) n xs w1 v1 m l) : ∀ k, v1.ownBlock = some k → w.heap.size ≤ k := by
  intro k hk
  rcases h.at_ with h1 | ⟨b, h1, h2⟩
  · rw [h1] at hk; cases hk
  · rw [h1] at hk; injection hk with hk; omega
end AppG
section
variable {ops : Array Oper} {rest : List Oper} {o : Oper} {a : Act} {Q : Exit → Act → World → Prop} {S E : TypeId} {size bytes : Nat} {z : Value}
theorem appGx {B n : Nat} {w : World} {v : Value} {xs l : List Value} {k : Nat} {W : World} {v1 : Value} (HE : Elt S E size bytes z) (hgd : o.guard = none) (s x : Operand) (ho : o.op = .call { callee := .builtin .append, args := #[s, x], argTypes := #[S, S] })
    (l2 : List Value) (m c : Nat) (ad : Addr) (hm : l2.length = m * size) (hs : a.eval s = v1) (hx : a.eval x = .slice (some ad) m c) (hc : ∀ j u, l2[j]? = some u → W.cell? (ad.add j) = some u) (h1 : ∀ u ∈ l2, u.oneCell' = true)
    (hA : AppG E size B w v n xs W v1 k l) (hl : n + k + m ≤ maxLen) (hb : (n + k + m) * bytes ≤ 140737488355328)
    (h : ∀ v2 w2, AppG E size B w v n xs w2 v2 (k + m) (l ++ l2) → wpList Tryz.prog ops Q rest (a.put o.dst v2) w2) :
    wpList Tryz.prog ops Q (o :: rest) a W := by
  obtain ⟨i0, hi, hz0, hz1, hz2⟩ := info_parts HE.info
  refine wpList_append_own_at W hgd s x S ho B E i0 z size bytes HE.under hi hz0 hz1 hz2 HE.cells HE.pos v1 (n + k) (xs ++ l) hs hA.own ad m c l2 hx hm hc h1 hl hb hA.base ?_
  intro v2 w2 hown hg _ hat
  refine h v2 w2 (hA.next hown hg ?_)
  rcases hat with hat | hat
  · exact .inl hat
  · exact .inr ⟨_, hat, Nat.le_refl _⟩
theorem appGn {B n : Nat} {w : World} {v : Value} {xs l : List Value} {k : Nat} {W : World} {v1 : Value} (HE : Elt S E size bytes z) (hgd : o.guard = none) (s x : Operand) (ho : o.op = .call { callee := .builtin .append, args := #[s, x], argTypes := #[S, S] })
    (l2 : List Value) (m c : Nat) (arr : Array Value) (T : TypeId) (hm : l2.length = m * size) (hs : a.eval s = v1) (hx : a.eval x = .slice (some ⟨W.heap.size, 0, none⟩) m c) (harr : arr.toList = l2) (h1 : ∀ u ∈ l2, u.oneCell' = true)
    (hA : AppG E size B w v n xs W v1 k l) (hl : n + k + m ≤ maxLen) (hb : (n + k + m) * bytes ≤ 140737488355328)
    (h : ∀ v2 w2, AppG E size B w v n xs w2 v2 (k + m) (l ++ l2) → wpList Tryz.prog ops Q rest (a.put o.dst v2) w2) :
    wpList Tryz.prog ops Q (o :: rest) a (W.alloc (.cells arr T)) := by
  refine appGx HE hgd s x ho l2 m c _ hm hs hx ?_ h1 (hA.below ((Below.refl _ _).alloc (Nat.le_refl _) _)) hl hb h
  intro j u hu
  have hc := heap_alloc_new W (.cells arr T)
  have ha : (⟨W.heap.size, 0, none⟩ : Addr).add j = ⟨W.heap.size, j, none⟩ := by unfold Addr.add; split <;> simp_all
  rw [ha]
  simp only [World.cell?, hc]
  rw [← Array.getElem?_toList, harr, hu]
  rfl
end
/-- A slice of so many cells, wherever it lies: l are the cells. -/
def At (w : World) (A : Option Addr) (m c : Nat) (l : List Value) : Prop := (A = none → m = 0 ∧ c = 0 ∧ l = []) ∧ ∀ ad, A = some ad → ∀ j u, l[j]? = some u → w.cell? (ad.add j) = some u
section
variable {ops : Array Oper} {rest : List Oper} {o : Oper} {a : Act} {Q : Exit → Act → World → Prop} {S E : TypeId} {size bytes : Nat} {z : Value}
theorem appGs {B n : Nat} {w : World} {v : Value} {xs l : List Value} {k : Nat} {W : World} {v1 : Value} (HE : Elt S E size bytes z) (hgd : o.guard = none) (s x : Operand) (ho : o.op = .call { callee := .builtin .append, args := #[s, x], argTypes := #[S, S] })
    (l2 : List Value) (m c : Nat) (A : Option Addr) (hm : l2.length = m * size) (hs : a.eval s = v1) (hx : a.eval x = .slice A m c) (hc : At W A m c l2) (h1 : ∀ u ∈ l2, u.oneCell' = true)
    (hA : AppG E size B w v n xs W v1 k l) (hl : n + k + m ≤ maxLen) (hb : (n + k + m) * bytes ≤ 140737488355328)
    (h : ∀ v2 w2, AppG E size B w v n xs w2 v2 (k + m) (l ++ l2) → wpList Tryz.prog ops Q rest (a.put o.dst v2) w2) :
    wpList Tryz.prog ops Q (o :: rest) a W := by
  cases A with
  | some ad => exact appGx HE hgd s x ho l2 m c ad hm hs hx (hc.2 ad rfl) h1 hA hl hb h
  | none =>
    obtain ⟨rfl, rfl, rfl⟩ := hc.1 rfl
    obtain ⟨i0, hi, hz0, hz1, hz2⟩ := info_parts HE.info
    refine wpList_append_own_none hgd s x S ho B E i0 size HE.under hi v1 (n + k) (xs ++ l) hs hA.own hx ?_
    have := h v1 W (by simpa using hA)
    exact this
end
theorem add_mk (g o j : Nat) : (⟨g, o, none⟩ : Addr).add j = ⟨g, o + j, none⟩ := by unfold Addr.add; split <;> simp_all
theorem eltInts : Elt 95 3 1 8 (.int .i64 0) := ⟨Tryz.underlying95, by kernel_rfl, rfl, by decide⟩
theorem eltStrs : Elt 25 9 1 16 (.string ⟨#[]⟩) := ⟨Tryz.underlying25, by kernel_rfl, rfl, by decide⟩
def strCs (l : List (List UInt8)) : List Value := l.map fun s => Value.string ⟨s.toArray⟩
def intCs (l : List Nat) : List Value := l.map fun n : Nat => Value.int .i64 (n : Int)
theorem strCs_one (l : List (List UInt8)) : ∀ u ∈ strCs l, u.oneCell' = true := by
  intro u hu
  obtain ⟨s, _, rfl⟩ := List.mem_map.1 hu
  rfl
theorem intCs_one (l : List Nat) : ∀ u ∈ intCs l, u.oneCell' = true := by
  intro u hu
  obtain ⟨s, _, rfl⟩ := List.mem_map.1 hu
  rfl
end Go.Proofs.YtopecjnmeeejhaaGreatDoor
