/- The document's answer: Sorted: texts by their bytes. -/
import Derived.Test.YtopecjnmeeejhaaGreatDoorRes
set_option linter.unusedVariables false
set_option linter.unusedSimpArgs false
namespace Go.Proofs.YtopecjnmeeejhaaGreatDoor
open Go Go.RowKit Go.Proofs
abbrev Txt := List UInt8
/-- Go's <= of two texts. -/
def leS (a b : Txt) : Bool := Op.bytesLess a b || (a == b)
def mergeT : Nat → List Txt → List Txt → List Txt
  | 0, _, _ => []
  | f + 1, a, b =>
    match a, b with
    | [], [] => []
    | x :: a, [] => x :: mergeT f a []
    | [], y :: b => y :: mergeT f [] b
    | x :: a, y :: b => if leS x y = true then x :: mergeT f a (y :: b) else y :: mergeT f (x :: a) b
def sortT : Nat → List Txt → List Txt
  | 0, l => l
  | f + 1, l => if l.length < 2 then l else mergeT l.length (sortT f (l.take (l.length / 2))) (sortT f (l.drop (l.length / 2)))
theorem mergeT_len : ∀ (f : Nat) (a b : List Txt), a.length + b.length ≤ f → (mergeT f a b).length = a.length + b.length
  | 0, a, b, h => by rw [mergeT, List.length_nil]; omega
  | f + 1, [], [], _ => rfl
  | f + 1, x :: a, [], h => by
    simp only [List.length_cons, List.length_nil] at h
    have := mergeT_len f a [] (by simp only [List.length_nil]; omega)
    simp only [mergeT, List.length_cons, List.length_nil] at this ⊢
    omega
  | f + 1, [], y :: b, h => by
    simp only [List.length_cons, List.length_nil] at h
    have := mergeT_len f [] b (by simp only [List.length_nil]; omega)
    simp only [mergeT, List.length_cons, List.length_nil] at this ⊢
    omega
  | f + 1, x :: a, y :: b, h => by
    simp only [List.length_cons] at h
    rw [mergeT]
    split
    · rw [List.length_cons, mergeT_len f a (y :: b) (by simp only [List.length_cons]; omega)]; simp only [List.length_cons]; omega
    · rw [List.length_cons, mergeT_len f (x :: a) b (by simp only [List.length_cons]; omega)]; simp only [List.length_cons]; omega
theorem sortT_len : ∀ (f : Nat) (l : List Txt), (sortT f l).length = l.length
  | 0, _ => rfl
  | f + 1, l => by
    rw [sortT]
    split
    · rfl
    · rw [mergeT_len _ _ _ (by rw [sortT_len f, sortT_len f, List.length_take, List.length_drop]; omega), sortT_len f, sortT_len f, List.length_take, List.length_drop]; omega
theorem sortT_short (f : Nat) (l : List Txt) (h : l.length < 2) : sortT f l = l := by
  cases f with
  | zero => rfl
  | succ f => rw [sortT, if_pos h]
/-- A slice of texts, wherever it lies. -/
def StrSl (w : World) (v : Value) (l : List Txt) : Prop := ∃ A c, v = .slice A l.length c ∧ l.length ≤ c ∧ At w A l.length c (strCs l)
theorem At.keep {S : Nat → Prop} {w w' : World} {A : Option Addr} {m c : Nat} {l : List Value} (h : At w A m c l) (hk : Keep S w w') (hn : ∀ ad, A = some ad → ¬ S ad.block) : At w' A m c l := by
  refine ⟨h.1, fun ad ha j u hu => ?_⟩
  have h1 := h.2 ad ha j u hu
  have hb : (ad.add j).block = ad.block := by unfold Addr.add; split <;> rfl
  have hlt := World.block_lt_of_cell? w _ h1
  rw [hb] at hlt
  exact (World.cell?_of_block (w := w) (a := ad.add j) (by rw [hb]; exact hk.block ad.block hlt (hn ad ha))).trans h1
theorem At.below {w w' : World} {A : Option Addr} {m c : Nat} {l : List Value} (h : At w A m c l) (hb : Below w.heap.size w w') : At w' A m c l := by
  refine ⟨h.1, fun ad ha j u hu => ?_⟩
  have h1 := h.2 ad ha j u hu
  exact (World.cell?_of_block (w := w) (a := ad.add j) (hb.block _ (World.block_lt_of_cell? w _ h1))).trans h1
theorem StrSl.below {w w' : World} {v : Value} {l : List Txt} (h : StrSl w v l) (hb : Below w.heap.size w w') : StrSl w' v l := by
  obtain ⟨A, c, h1, h2, h3⟩ := h
  exact ⟨A, c, h1, h2, h3.below hb⟩
theorem OwnG.strSl {B : Nat} {w : World} {v : Value} {l : List Txt} (h : OwnG 9 1 B w v l.length (strCs l)) : StrSl w v l := by
  rcases h.2 with ⟨rfl, h0⟩ | ⟨g, cap, cur, rfl, hb, hgg, hnc, hcm, hcs, htake⟩
  · have : l = [] := List.eq_nil_of_length_eq_zero h0
    subst this
    exact ⟨none, 0, rfl, Nat.le_refl _, fun _ => ⟨rfl, rfl, rfl⟩, fun ad h => by cases h⟩
  · refine ⟨some ⟨g, 0, none⟩, cap, rfl, hnc, fun h => by (cases h), fun ad had j u hu => ?_⟩
    injection had with had
    subst had
    obtain ⟨_, _, hx⟩ := OwnG.cells h rfl
    have hj : j < (strCs l).length := by
      rcases Nat.lt_or_ge j (strCs l).length with h' | h'
      · exact h'
      · rw [List.getElem?_eq_none h'] at hu; cases hu
    obtain ⟨g', hg', _, hx2⟩ := hx (by omega)
    injection hg' with hg'
    injection hg' with hg' _ _
    subst hg'
    rw [add_mk, Nat.zero_add]
    exact hx2 j u hu
theorem AppG.below_of {E : TypeId} {size B n m B0 : Nat} {w w0 w1 : World} {v v1 : Value} {xs l : List Value} (h : AppG E size B w0 v n xs w1 v1 m l) (hb : Below B0 w w0) (hB : B0 ≤ w.heap.size) (hv : ∀ k, v.ownBlock = some k → B0 ≤ k) : Below B0 w w1 :=
  hb.trans (h.keep.below (Nat.le_trans hB hb.size) (fun k hk e => by have := hv k e.symm; omega))
theorem elemStr : Tryz.prog.elem 25 = 9 := by kernel_rfl
theorem undStr : Tryz.prog.underlying 25 = some (.slice (Tryz.prog.elem 25)) := by rw [elemStr]; exact Tryz.underlying25
theorem sizeStr (W : World) : (sizeOf (Tryz.prog.elem 25)).run Tryz.prog W = .ok 1 W := by kernel_rfl
theorem slice_hi (W : World) (ad : Addr) (n c h : Nat) (hc : h ≤ c) : (Instr.slice 25 (.slice (some ad) n c) none (some (.int .i64 (h : Int))) none).run Tryz.prog W = .ok (.slice (some ad) h c) W := by
  rw [run_slice_h W 25 _ _ _ undStr .i64 _ (by omega) (by omega), sizeStr]
  simp [Result.andThen, sliced, Addr.add]
theorem slice_lo (W : World) (ad : Addr) (n c h : Nat) (hn : h ≤ n) (hc : h < c) : (Instr.slice 25 (.slice (some ad) n c) (some (.int .i64 (h : Int))) none none).run Tryz.prog W = .ok (.slice (some (ad.add h)) (n - h) (c - h)) W := by
  rw [run_slice_l W 25 _ _ _ undStr .i64 _ (by omega) (by omega), sizeStr]
  have : ¬ c = h := by omega
  simp [Result.andThen, sliced, this]
theorem add_add (a : Addr) (i j : Nat) : (a.add i).add j = a.add (i + j) := by
  unfold Addr.add
  by_cases hi : i = 0
  · subst hi; simp
  · by_cases hj : j = 0
    · subst hj; simp [hi]
    · have : ¬ i + j = 0 := by omega
      simp [hi, hj, this, Nat.add_assoc]
theorem At.take {w : World} {ad : Addr} {m c h : Nat} {l : List Txt} (hA : At w (some ad) m c (strCs l)) (h1 : h ≤ l.length) : At w (some ad) (l.take h).length c (strCs (l.take h)) := by
  refine ⟨fun e => (by cases e), fun ad' e j u hu => ?_⟩
  refine hA.2 ad' e j u ?_
  unfold strCs at hu ⊢
  rw [List.getElem?_map, List.getElem?_take] at hu
  split at hu
  · rw [List.getElem?_map]; exact hu
  · cases hu
theorem At.drop {w : World} {ad : Addr} {m c c' h : Nat} {l : List Txt} (hA : At w (some ad) m c (strCs l)) (h1 : h ≤ l.length) : At w (some (ad.add h)) (l.drop h).length c' (strCs (l.drop h)) := by
  refine ⟨fun e => (by cases e), fun ad' e j u hu => ?_⟩
  injection e with e
  subst e
  rw [add_add]
  refine hA.2 ad rfl (h + j) u ?_
  unfold strCs at hu ⊢
  rw [List.getElem?_map, List.getElem?_drop] at hu
  rw [List.getElem?_map]; exact hu
set_option maxHeartbeats 1000000 in
set_option maxRecDepth 100000 in
theorem sorted_short (l : List Txt) (h : l.length < 2) (v : Value) (w : World) (hS : StrSl w v l) :
    Calls Tryz.prog 161 #[v] w fun e w' => ∃ v', e = .returned v' ∧ OwnG 9 1 w.heap.size w' v' l.length (strCs l) ∧ Below w.heap.size w w' := by
  obtain ⟨A, c, rfl, hc, hAt⟩ := hS
  have t1 : decide ((l.length : Int) < 2) = true := decide_eq_true (by omega)
  have hb0 : Below w.heap.size w (w.alloc (.cells #[] 9)) := (Below.refl _ _).alloc (Nat.le_refl _) _
  have hO : OwnG 9 1 w.heap.size (w.alloc (.cells #[] 9)) (.slice (some ⟨w.heap.size, 0, none⟩) 0 0) 0 [] := World.ownsRow_made w #[] 0 (Nat.le_refl _) (by decide) (by simp)
  have hA0 := AppG.start hO (by simp)
  have hAt1 := hAt.below hb0
  have hfin : ∀ w2 v2, AppG 9 1 w.heap.size (w.alloc (.cells #[] 9)) (.slice (some ⟨w.heap.size, 0, none⟩) 0 0) 0 [] w2 v2 (0 + l.length) ([] ++ strCs l) → OwnG 9 1 w.heap.size w2 v2 l.length (strCs l) ∧ Below w.heap.size w w2 := by
    intro w2 v2 hA
    refine ⟨by have := hA.own; simpa using this, hA.below_of hb0 (Nat.le_refl _) (fun k hk => ?_)⟩
    simp [Value.ownBlock] at hk
    omega
  have hlen : (strCs l).length = l.length * 1 := by simp [strCs]
  have h1 := strCs_one l
  obtain ⟨n, hn⟩ : ∃ n, n = l.length := ⟨_, rfl⟩
  rw [← hn] at t1 hAt1 hfin hlen h ⊢
  clear hn hAt hb0 hO hc
  go_enter Tryz.func161, Tryz.ntmps161
  go_wp2_with (at_builtin; refine appGs eltStrs rfl _ _ rfl (strCs l) n c A hlen rfl rfl hAt1 h1 hA0 (by unfold maxLen; omega) (by omega) ?_; intro v2 w2 hA2; have hF := hfin _ _ hA2; clear hA2)
  go_ret
  exact ⟨_, rfl, hF⟩
end Go.Proofs.YtopecjnmeeejhaaGreatDoor
