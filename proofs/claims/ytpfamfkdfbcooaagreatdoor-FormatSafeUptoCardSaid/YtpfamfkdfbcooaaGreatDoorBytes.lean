/- Slices of bytes that a call has made itself; what is written; the frame. -/
import Derived.Test.YtpfamfkdfbcooaaGreatDoorTabs
import Derived.Maps.AppendAt
import Derived.Lib.AppendStr
import Derived.Lib.UnsafeStr
import Derived.Lib.ConvBytes
set_option linter.unusedVariables false
set_option linter.unusedSimpArgs false
namespace Go.Proofs.YtpfamfkdfbcooaaGreatDoor
open Go Go.RowKit Go.Proofs

theorem info_u8 : (Tryz.prog.info? 5).map (fun i => (i.zero, i.size, i.bytes)) = some (some (.int .u8 0), 1, 1) := by kernel_rfl

/-- All blocks of w but those in S are in w' as they were. -/
structure Keep (S : Nat → Prop) (w w' : World) : Prop where
  os : w'.os = w.os
  tape : w'.tape = w.tape
  output : w'.output = w.output
  size : w.heap.size ≤ w'.heap.size
  block : ∀ k, k < w.heap.size → ¬ S k → w'.heap[k]? = w.heap[k]?

theorem Keep.refl (S : Nat → Prop) (w : World) : Keep S w w := ⟨rfl, rfl, rfl, Nat.le_refl _, fun _ _ _ => rfl⟩
theorem Keep.trans {S S' : Nat → Prop} {a b c : World} (h : Keep S a b) (k : Keep S' b c) (hs : ∀ i, i < a.heap.size → S' i → S i) : Keep S a c :=
  ⟨k.os.trans h.os, k.tape.trans h.tape, k.output.trans h.output, Nat.le_trans h.size k.size, fun i hi hn => (k.block i (Nat.lt_of_lt_of_le hi h.size) (fun hx => hn (hs i hi hx))).trans (h.block i hi hn)⟩
theorem Keep.mono {S S' : Nat → Prop} {a b : World} (h : Keep S a b) (hs : ∀ i, i < a.heap.size → S i → S' i) : Keep S' a b :=
  ⟨h.os, h.tape, h.output, h.size, fun i hi hn => h.block i hi (fun hx => hn (hs i hi hx))⟩
theorem Keep.of_grown {a b : World} {row : Option Nat} (h : a.grownBy b row) : Keep (fun k => some k = row) a b := ⟨h.os, h.tape, h.output, h.size, h.block⟩
theorem Keep.of_below {S : Nat → Prop} {a b : World} (h : Below a.heap.size a b) : Keep S a b := ⟨h.os, h.tape, h.output, h.size, fun k hk _ => h.block k hk⟩
theorem Keep.below {S : Nat → Prop} {a b : World} {B : Nat} (h : Keep S a b) (hB : B ≤ a.heap.size) (hs : ∀ k, k < B → ¬ S k) : Below B a b := ⟨h.os, h.tape, h.output, h.size, fun k hk => h.block k (Nat.lt_of_lt_of_le hk hB) (hs k hk)⟩
theorem Keep.drewN {S : Nat → Prop} {a b : World} (h : Keep S a b) (n : Nat) : Keep S a (b.drewN n) := h.trans (S' := S) (Keep.of_below (below_drewN (Below.refl _ _) n)) (fun _ _ h => h)
theorem Keep.alloc {S : Nat → Prop} {a b : World} (h : Keep S a b) (o : Obj) : Keep S a (b.alloc o) := h.trans (S' := S) (Keep.of_below ((Below.refl _ _).alloc (Nat.le_refl _) o)) (fun _ _ h => h)
theorem Keep.set {S : Nat → Prop} {a b : World} (h : Keep S a b) {p : Addr} (hp : S p.block ∨ a.heap.size ≤ p.block) (u : Value) : Keep S a (b.setCell p u) :=
  ⟨h.os, h.tape, h.output, Nat.le_trans h.size (by simp [World.setCell]), fun k hk hn => (Below.heap_setCell _ _ _ _ (by rintro rfl; rcases hp with h1 | h1; exact hn h1; omega)).trans (h.block k hk hn)⟩
theorem Keep.cell {S : Nat → Prop} {a b : World} (h : Keep S a b) {k o : Nat} {v : Value} (hc : a.cell? ⟨k, o, none⟩ = some v) (hn : ¬ S k) : b.cell? ⟨k, o, none⟩ = some v :=
  (World.cell?_of_block (w := a) (h.block k (World.block_lt_of_cell? a _ hc) hn)).trans hc
theorem Keep.heap {S : Nat → Prop} {a b : World} (h : Keep S a b) {k : Nat} {o : Obj} (hc : a.heap[k]? = some o) (hn : ¬ S k) : b.heap[k]? = some o :=
  (h.block k (Array.getElem?_eq_some_iff.1 hc).1 hn).trans hc
theorem lt_of_heap {w : World} {k : Nat} {o : Obj} (hc : w.heap[k]? = some o) : k < w.heap.size := (Array.getElem?_eq_some_iff.1 hc).1

/-- v is a slice of the call's own (its block is B or later) that holds the bytes bs. -/
def OwnB (B : Nat) (w : World) (v : Value) (bs : List UInt8) : Prop := w.ownsRow B 5 1 v bs.length (Lib.byteCells bs)
namespace OwnB
variable {B : Nat} {w w' : World} {v : Value} {bs : List UInt8}
theorem nil (B : Nat) (w : World) : OwnB B w (.slice none 0 0) [] := World.ownsRow_nil _ _ _ _
theorem keep {S : Nat → Prop} (h : OwnB B w v bs) (hk : Keep S w w') (hn : ∀ k, v.ownBlock = some k → ¬ S k) : OwnB B w' v bs := by
  refine ⟨h.1, ?_⟩
  rcases h.2 with hz | ⟨g, cap, cur, rfl, hb, hgg, rest⟩
  · exact .inl hz
  · refine .inr ⟨g, cap, cur, rfl, hb, ?_, rest⟩
    exact hk.heap hgg (hn g rfl)
theorem below (h : OwnB B w v bs) (hb : Below w.heap.size w w') : OwnB B w' v bs := h.keep (S := fun _ => False) (Keep.of_below hb) (fun _ _ h => h)
theorem alloc (h : OwnB B w v bs) (o : Obj) : OwnB B (w.alloc o) v bs := World.ownsRow.alloc h o
theorem lt (h : OwnB B w v bs) : ∀ k, v.ownBlock = some k → B ≤ k ∧ k < w.heap.size := World.ownsRow.lt h
theorem shape (h : OwnB B w v bs) : ∃ A c, v = .slice A bs.length c := by
  rcases h.2 with ⟨rfl, h0⟩ | ⟨g, cap, cur, rfl, _⟩
  · exact ⟨none, 0, by rw [h0]⟩
  · exact ⟨_, _, rfl⟩
theorem type_of (h : OwnB B w v bs) : ∀ k, v.ownBlock = some k → ∃ cur, w.heap[k]? = some (.cells cur 5 (0, 0)) := by
  intro k hk
  rcases h.2 with ⟨rfl, _⟩ | ⟨g, cap, cur, rfl, _, hgg, _⟩
  · simp [Value.ownBlock] at hk
  · simp [Value.ownBlock] at hk; subst hk; exact ⟨cur, hgg⟩
theorem ne_of_type (h : OwnB B w v bs) {k : Nat} {cur : Array Value} {t : TypeId} {fz : Nat × Nat} (hk : w.heap[k]? = some (.cells cur t fz)) (ht : t ≠ 5) : v.ownBlock ≠ some k := by
  intro e
  obtain ⟨cur', h'⟩ := h.type_of k e
  rw [hk] at h'
  injection h' with h'
  injection h' with _ h2 _
  exact ht h2
end OwnB

section
variable {ops : Array Oper} {rest : List Oper} {o : Oper} {a : Act} {Q : Exit → Act → World → Prop}
/-- append(v, b1, ..): the bytes lie in a new block. -/
theorem app_new {W : World} (hgd : o.guard = none) (s x : Operand) (ho : o.op = .call { callee := .builtin .append, args := #[s, x], argTypes := #[60, 60] })
    (B : Nat) (v : Value) (bs : List UInt8) (arr : Array Value) (l : List UInt8) (m : Nat) (hm : m = l.length) (hs : a.eval s = v) (hx : a.eval x = .slice (some ⟨W.heap.size, 0, none⟩) m m) (harr : arr.toList = Lib.byteCells l)
    (HO : OwnB B W v bs) (hbase : B ≤ W.heap.size) (hl : bs.length + l.length ≤ 140737488355328)
    (h : ∀ v1 w1, OwnB B w1 v1 (bs ++ l) → W.grownBy w1 v.ownBlock → (v1.ownBlock = v.ownBlock ∨ ∃ b, v1.ownBlock = some b ∧ W.heap.size ≤ b) → wpList Tryz.prog ops Q rest (a.put o.dst v1) w1) :
    wpList Tryz.prog ops Q (o :: rest) a (W.alloc (.cells arr 5)) := by
  obtain ⟨i0, hi, hz0, hz1, hz2⟩ := info_parts info_u8
  subst hm
  refine wpList_append_own_at (W.alloc (.cells arr 5)) hgd s x 60 ho B 5 i0 (.int .u8 0) 1 1 Tryz.underlying60 hi hz0 hz1 hz2 rfl (by decide) v bs.length (Lib.byteCells bs) hs (HO.alloc _) ⟨W.heap.size, 0, none⟩ l.length l.length (Lib.byteCells l) hx (by rw [Lib.byteCells_length]; omega) ?_ (Lib.byteCells_one l) (by unfold maxLen; omega) (by omega) (by simp; omega) ?_
  · intro j u hu
    have hc := heap_alloc_new W (.cells arr 5)
    have ha : (⟨W.heap.size, 0, none⟩ : Addr).add j = ⟨W.heap.size, j, none⟩ := by unfold Addr.add; split <;> simp_all
    rw [ha]
    simp only [World.cell?, hc]
    rw [← Array.getElem?_toList, harr, hu]
    rfl
  · intro v1 w1 hown hg _ hat
    refine h v1 w1 ?_ (World.grownBy.trans (World.grownBy_alloc W _ _) hg) ?_
    · unfold OwnB; rw [List.length_append, Lib.byteCells_append]; exact hown
    · rcases hat with hat | hat
      · exact .inl hat
      · exact .inr ⟨_, hat, by simp⟩
/-- append(v, xs...): the bytes lie somewhere. -/
theorem app_old {W : World} (hgd : o.guard = none) (s x : Operand) (ho : o.op = .call { callee := .builtin .append, args := #[s, x], argTypes := #[60, 60] })
    (B : Nat) (v : Value) (bs : List UInt8) (l : List UInt8) (m c k off : Nat) (hm : m = l.length) (hs : a.eval s = v) (hx : a.eval x = .slice (some ⟨k, off, none⟩) m c) (hc : ∀ j (h : j < l.length), W.cell? ⟨k, off + j, none⟩ = some (.int .u8 (l[j].toNat : Int)))
    (HO : OwnB B W v bs) (hbase : B ≤ W.heap.size) (hl : bs.length + l.length ≤ 140737488355328)
    (h : ∀ v1 w1, OwnB B w1 v1 (bs ++ l) → W.grownBy w1 v.ownBlock → (v1.ownBlock = v.ownBlock ∨ ∃ b, v1.ownBlock = some b ∧ W.heap.size ≤ b) → wpList Tryz.prog ops Q rest (a.put o.dst v1) w1) :
    wpList Tryz.prog ops Q (o :: rest) a W := by
  obtain ⟨i0, hi, hz0, hz1, hz2⟩ := info_parts info_u8
  subst hm
  refine wpList_append_own_at W hgd s x 60 ho B 5 i0 (.int .u8 0) 1 1 Tryz.underlying60 hi hz0 hz1 hz2 rfl (by decide) v bs.length (Lib.byteCells bs) hs HO ⟨k, off, none⟩ l.length c (Lib.byteCells l) hx (by rw [Lib.byteCells_length]; omega) ?_ (Lib.byteCells_one l) (by unfold maxLen; omega) (by omega) hbase ?_
  · intro j u hu
    have ha : (⟨k, off, none⟩ : Addr).add j = ⟨k, off + j, none⟩ := by unfold Addr.add; split <;> simp_all
    rw [ha]
    have hj : j < l.length := by
      rcases Nat.lt_or_ge j l.length with h' | h'
      · exact h'
      · rw [List.getElem?_eq_none (by rw [Lib.byteCells_length]; exact h')] at hu; cases hu
    rw [hc j hj, ← hu]
    simp [Lib.byteCells, hj]
  · intro v1 w1 hown hg _ hat
    refine h v1 w1 ?_ hg ?_
    · unfold OwnB; rw [List.length_append, Lib.byteCells_append]; exact hown
    · rcases hat with hat | hat
      · exact .inl hat
      · exact .inr ⟨_, hat, Nat.le_refl _⟩
end
/-- Since the world w, when v held bs, the bytes l have been appended; now v1 holds all, and nothing else of w has changed. -/
structure App (B : Nat) (w : World) (v : Value) (bs : List UInt8) (w1 : World) (v1 : Value) (l : List UInt8) : Prop where
  own : OwnB B w1 v1 (bs ++ l)
  keep : Keep (fun k => some k = v.ownBlock) w w1
  at_ : v1.ownBlock = v.ownBlock ∨ ∃ b, v1.ownBlock = some b ∧ w.heap.size ≤ b
  base : B ≤ w1.heap.size
theorem App.start {B : Nat} {w : World} {v : Value} {bs : List UInt8} (h : OwnB B w v bs) (hB : B ≤ w.heap.size) : App B w v bs w v [] := ⟨by rw [List.append_nil]; exact h, Keep.refl _ _, .inl rfl, hB⟩
theorem App.next {B : Nat} {w : World} {v : Value} {bs : List UInt8} {w1 w2 : World} {v1 v2 : Value} {l l2 : List UInt8} (h : App B w v bs w1 v1 l) (ho : OwnB B w2 v2 ((bs ++ l) ++ l2)) (hg : w1.grownBy w2 v1.ownBlock) (hat : v2.ownBlock = v1.ownBlock ∨ ∃ b, v2.ownBlock = some b ∧ w1.heap.size ≤ b) : App B w v bs w2 v2 (l ++ l2) := by
  refine ⟨by rw [← List.append_assoc]; exact ho, h.keep.trans (Keep.of_grown hg) ?_, ?_, Nat.le_trans h.base hg.size⟩
  · intro i hi he
    rcases h.at_ with h1 | ⟨b, h1, h2⟩
    · exact he.trans h1
    · have : i = b := by rw [h1] at he; exact Option.some.inj he
      omega
  · rcases hat with h1 | ⟨b, h1, h2⟩
    · rw [h1]; exact h.at_
    · exact .inr ⟨b, h1, Nat.le_trans h.keep.size h2⟩
theorem App.below {B : Nat} {w : World} {v : Value} {bs : List UInt8} {w1 w2 : World} {v1 : Value} {l : List UInt8} (h : App B w v bs w1 v1 l) (hb : Below w1.heap.size w1 w2) : App B w v bs w2 v1 l :=
  ⟨h.own.below hb, h.keep.trans (S' := fun _ => False) (Keep.of_below hb) (fun _ _ h => h.elim), h.at_, Nat.le_trans h.base hb.size⟩
theorem App.join {B : Nat} {w : World} {v : Value} {bs : List UInt8} {w1 w2 : World} {v1 v2 : Value} {l l2 : List UInt8} (h : App B w v bs w1 v1 l) (k : App B w1 v1 (bs ++ l) w2 v2 l2) : App B w v bs w2 v2 (l ++ l2) := by
  refine ⟨by rw [← List.append_assoc]; exact k.own, h.keep.trans k.keep ?_, ?_, k.base⟩
  · intro i hi he
    rcases h.at_ with h1 | ⟨b, h1, h2⟩
    · exact he.trans h1
    · have : i = b := by rw [h1] at he; exact Option.some.inj he
      omega
  · rcases k.at_ with h1 | ⟨b, h1, h2⟩
    · rw [h1]; exact h.at_
    · exact .inr ⟨b, h1, Nat.le_trans h.keep.size h2⟩
section
variable {ops : Array Oper} {rest : List Oper} {o : Oper} {a : Act} {Q : Exit → Act → World → Prop}
theorem appN {B : Nat} {w : World} {v : Value} {bs l : List UInt8} {W : World} {v1 : Value} (hgd : o.guard = none) (s x : Operand) (ho : o.op = .call { callee := .builtin .append, args := #[s, x], argTypes := #[60, 60] })
    (l2 : List UInt8) (m : Nat) (arr : Array Value) (hm : m = l2.length) (hs : a.eval s = v1) (hx : a.eval x = .slice (some ⟨W.heap.size, 0, none⟩) m m) (harr : arr.toList = Lib.byteCells l2)
    (hA : App B w v bs W v1 l) (hl : bs.length + l.length + l2.length ≤ 140737488355328)
    (h : ∀ v2 w2, App B w v bs w2 v2 (l ++ l2) → wpList Tryz.prog ops Q rest (a.put o.dst v2) w2) :
    wpList Tryz.prog ops Q (o :: rest) a (W.alloc (.cells arr 5)) :=
  app_new hgd s x ho B v1 (bs ++ l) arr l2 m hm hs hx harr hA.own hA.base (by rw [List.length_append]; exact hl) fun v2 w2 ho hg hat => h v2 w2 (hA.next ho hg hat)
theorem appO {B : Nat} {w : World} {v : Value} {bs l : List UInt8} {W : World} {v1 : Value} (hgd : o.guard = none) (s x : Operand) (ho : o.op = .call { callee := .builtin .append, args := #[s, x], argTypes := #[60, 60] })
    (l2 : List UInt8) (m c k off : Nat) (hm : m = l2.length) (hs : a.eval s = v1) (hx : a.eval x = .slice (some ⟨k, off, none⟩) m c) (hc : ∀ j (h : j < l2.length), w.cell? ⟨k, off + j, none⟩ = some (.int .u8 (l2[j].toNat : Int))) (hk : some k ≠ v.ownBlock)
    (hA : App B w v bs W v1 l) (hl : bs.length + l.length + l2.length ≤ 140737488355328)
    (h : ∀ v2 w2, App B w v bs w2 v2 (l ++ l2) → wpList Tryz.prog ops Q rest (a.put o.dst v2) w2) :
    wpList Tryz.prog ops Q (o :: rest) a W :=
  app_old hgd s x ho B v1 (bs ++ l) l2 m c k off hm hs hx (fun j hj => hA.keep.cell (hc j hj) hk) hA.own hA.base (by rw [List.length_append]; exact hl) fun v2 w2 ho hg hat => h v2 w2 (hA.next ho hg hat)
end
end Go.Proofs.YtpfamfkdfbcooaaGreatDoor
