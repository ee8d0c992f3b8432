/- In one text: A replacer of bytes by texts, plain: what it makes of a text, and how long that is.; strings.Replacer: the table of replacements as it stands in memory.; strings.Replacer: what build makes of pairs. -/
import Derived.Test.YtpfamfkdfbcooaaGreatDoorHds
import Derived.Test.YtpfamfkdfbcooaaGreatDoorOpr
import Derived.Test.YtpfamfkdfbcooaaGreatDoorOnc
import Derived.ProofKit
import Derived.Lib.ConvBytes
import Derived.Lib.AtoiErrMem
import Derived.Deep.WholeRow
import Derived.Laws.MakeOwn
set_option linter.unusedVariables false
set_option linter.unusedSimpArgs false
/- A replacer of bytes by texts, plain: what it makes of a text, and how long that is. -/
namespace Go.Proofs.YtpfamfkdfbcooaaGreatDoor
open Go
abbrev Prs := List (UInt8 × List UInt8)
def repE (ps : Prs) (c : UInt8) : List UInt8 := (ps.lookup c).getD [c]
def repT (ps : Prs) (s : List UInt8) : List UInt8 := s.flatMap (repE ps)
/-- How much longer a text becomes by one pair. -/
def gain (ps : Prs) (s : List UInt8) : Nat := (ps.map fun p => s.count p.1 * (p.2.length - 1)).sum
theorem gain_cons_s : ∀ (ps : Prs) (x : UInt8) (s : List UInt8), gain ps (x :: s) = gain ps s + (ps.map fun p => if x = p.1 then p.2.length - 1 else 0).sum
  | [], _, _ => rfl
  | p :: ps, x, s => by
    have ih := gain_cons_s ps x s
    simp only [gain, List.map_cons, List.sum_cons] at ih ⊢
    rw [ih, List.count_cons]
    by_cases h : x = p.1
    · rw [if_pos (by simp [h]), if_pos h, Nat.add_mul, Nat.one_mul]; omega
    · rw [if_neg (by simp [h]), if_neg h]; simp; omega
theorem lookup_sum : ∀ (ps : Prs) (x : UInt8), (ps.map Prod.fst).Nodup → (∀ p ∈ ps, 1 ≤ p.2.length) → (repE ps x).length = 1 + (ps.map fun p => if x = p.1 then p.2.length - 1 else 0).sum
  | [], x, _, _ => rfl
  | p :: ps, x, h, hl => by
    rw [List.map_cons, List.nodup_cons] at h
    have ih := lookup_sum ps x h.2 (fun q hq => hl q (List.mem_cons_of_mem _ hq))
    obtain ⟨c, n⟩ := p
    simp only [repE, List.lookup_cons, List.map_cons, List.sum_cons] at ih ⊢
    by_cases e : x = c
    · subst e
      have hz : (ps.map fun p => if x = p.1 then p.2.length - 1 else 0).sum = 0 := by
        have gen : ∀ qs : Prs, (∀ q ∈ qs, x ≠ q.1) → (qs.map fun p => if x = p.1 then p.2.length - 1 else 0).sum = 0 := fun qs => by
          induction qs with
          | nil => intro _; rfl
          | cons q qs ih =>
            intro hq
            rw [List.map_cons, List.sum_cons, if_neg (hq q (List.mem_cons_self ..)), ih (fun r hr => hq r (List.mem_cons_of_mem _ hr))]
        exact gen ps (fun q hq e => h.1 (List.mem_map.2 ⟨q, hq, e.symm⟩))
      have h1 : 1 ≤ n.length := hl (x, n) (List.mem_cons_self ..)
      simp only [beq_self_eq_true, if_true, Option.getD_some, hz]
      omega
    · have : (x == c) = false := by rw [beq_eq_false_iff_ne]; exact e
      simp only [this, if_neg e]
      rw [ih]; omega
theorem repT_length : ∀ (ps : Prs) (s : List UInt8), (ps.map Prod.fst).Nodup → (∀ p ∈ ps, 1 ≤ p.2.length) → (repT ps s).length = s.length + gain ps s
  | ps, [], _, _ => by
    have : ∀ qs : Prs, gain qs [] = 0 := fun qs => by
      induction qs with
      | nil => rfl
      | cons q qs ih => simp only [gain, List.map_cons, List.sum_cons, List.count_nil, Nat.zero_mul, Nat.zero_add] at ih ⊢; exact ih
    rw [this]; rfl
  | ps, x :: s, h, hl => by
    have ih := repT_length ps s h hl
    have h2 := lookup_sum ps x h hl
    unfold repT at ih ⊢
    rw [List.flatMap_cons, List.length_append, ih, h2, gain_cons_s, List.length_cons]
    omega
theorem repT_same (ps : Prs) (s : List UInt8) (h : ∀ c ∈ s, ps.lookup c = none) : repT ps s = s := by
  induction s with
  | nil => rfl
  | cons c s ih =>
    unfold repT at ih ⊢
    rw [List.flatMap_cons, ih (fun x hx => h x (List.mem_cons_of_mem _ hx))]
    have : repE ps c = [c] := by unfold repE; rw [h c (List.mem_cons_self ..)]; rfl
    rw [this]; rfl
end Go.Proofs.YtpfamfkdfbcooaaGreatDoor
/- strings.Replacer: the table of replacements as it stands in memory. -/
namespace Go.Proofs.YtpfamfkdfbcooaaGreatDoor
open Go Go.RowKit Go.Proofs
/-- An entry of the table: nothing, or bytes of their own. -/
def Ent (W : World) (T : Nat) (own : Option Nat) (u : Value) : Option (List UInt8) → Prop
  | none => u = .slice none 0 0
  | some nl => ∃ g cap, u = .slice (some ⟨g, 0, none⟩) nl.length cap ∧ nl.length ≤ cap ∧ g < W.heap.size ∧ g ≠ T ∧ own ≠ some g ∧ ∀ q (h : q < nl.length), W.cell? ⟨g, q, none⟩ = some (.int .u8 (nl[q].toNat : Int))
def firsts (ps : Prs) : List (List UInt8) := ps.map fun p => [p.1]
/-- The table where the pairs from number m on have been laid. -/
structure TabI (w : World) (T B : Nat) (ps : Prs) (m : Nat) (W : World) (sv : Value) (cs : Array Value) : Prop where
  heap : W.heap[T]? = some (.cells cs 170 (0, 0))
  size : cs.size = 257
  sl : cs[256]? = some sv
  own : OwnG 9 1 B W sv (ps.length - m) (strCs (firsts (ps.drop m).reverse))
  ent : ∀ j, j < 256 → ∃ u, cs[j]? = some u ∧ Ent W T sv.ownBlock u ((ps.drop m).lookup (UInt8.ofNat j))
  below : Below w.heap.size w W
  tge : w.heap.size ≤ T
  bge : w.heap.size ≤ B
  ble : B ≤ W.heap.size
theorem Ent.keep {S : Nat → Prop} {W W' : World} {T : Nat} {own own' : Option Nat} {u : Value} {o : Option (List UInt8)} (h : Ent W T own u o) (hk : Keep S W W') (hS : ∀ g, g < W.heap.size → g ≠ T → own ≠ some g → ¬ S g ∧ own' ≠ some g) : Ent W' T own' u o := by
  cases o with
  | none => exact h
  | some nl =>
    obtain ⟨g, cap, h1, h2, h3, h4, h5, h6⟩ := h
    obtain ⟨n1, n2⟩ := hS g h3 h4 h5
    exact ⟨g, cap, h1, h2, Nat.lt_of_lt_of_le h3 hk.size, h4, n2, fun q hq => hk.cell (h6 q hq) n1⟩
theorem TabI.ne {w : World} {T B : Nat} {ps : Prs} {m : Nat} {W : World} {sv : Value} {cs : Array Value} (h : TabI w T B ps m W sv cs) : sv.ownBlock ≠ some T := fun e => by
  obtain ⟨cur, hc⟩ := h.own.type_of T e
  have h2 := h.heap.symm.trans hc
  injection h2 with h2
  injection h2 with _ h2 _
  revert h2; decide
theorem TabI.next {w : World} {T B : Nat} {ps : Prs} {k : Nat} {W w4 : World} {sv sv' : Value} {cs : Array Value} (h : TabI w T B ps (k + 1) W sv cs) (hk : k < ps.length)
    (hA : AppG 9 1 B W sv (ps.length - (k + 1)) (strCs (firsts (ps.drop (k + 1)).reverse)) w4 sv' 1 [.string ⟨#[ps[k].1]⟩]) (cap : Nat) (hcap : ps[k].2.length ≤ cap) :
    TabI w T B ps k ((Lib.bytesWorld (w4.setCell ⟨T, 256, none⟩ sv') 5 ⟨ps[k].2.toArray⟩).setCell ⟨T, ps[k].1.toNat, none⟩ (.slice (some ⟨w4.heap.size, 0, none⟩) ps[k].2.length cap)) sv'
      ((cs.setIfInBounds 256 sv').setIfInBounds ps[k].1.toNat (.slice (some ⟨w4.heap.size, 0, none⟩) ps[k].2.length cap)) := by
  obtain ⟨c, hc⟩ : ∃ c, c = ps[k].1 := ⟨_, rfl⟩
  obtain ⟨nl, hnl⟩ : ∃ nl, nl = ps[k].2 := ⟨_, rfl⟩
  have hdrop : ps.drop k = (c, nl) :: ps.drop (k + 1) := by rw [List.drop_eq_getElem_cons hk, hc, hnl]
  rw [← hc] at hA ⊢
  rw [← hnl] at hcap ⊢
  have hclt : c.toNat < 256 := c.toNat_lt
  have hne := h.ne
  have hT4 : w4.heap[T]? = some (.cells cs 170 (0, 0)) := hA.keep.heap h.heap (fun e => hne e.symm)
  obtain ⟨w5, hw5⟩ : ∃ w5, w5 = w4.setCell ⟨T, 256, none⟩ sv' := ⟨_, rfl⟩
  have hT5 : w5.heap[T]? = some (.cells (cs.setIfInBounds 256 sv') 170 (0, 0)) := by rw [hw5]; exact Go.heap_setCell_same _ _ 256 _ _ sv' hT4
  have hs5 : w5.heap.size = w4.heap.size := by rw [hw5]; simp
  obtain ⟨w6, hw6⟩ : ∃ w6, w6 = Lib.bytesWorld w5 5 ⟨nl.toArray⟩ := ⟨_, rfl⟩
  have hb56 : Below w5.heap.size w5 w6 := by rw [hw6]; exact Lib.bytesWorld_below _ _ _
  have hs6 : w6.heap.size = w4.heap.size + 1 := by rw [hw6, Lib.bytesWorld_size, hs5]
  have hT6 := hlBelow hb56 hT5
  rw [← hw5, ← hw6]
  obtain ⟨nv, hnv⟩ : ∃ nv, nv = Value.slice (some ⟨w4.heap.size, 0, none⟩) nl.length cap := ⟨_, rfl⟩
  rw [← hnv]
  obtain ⟨w7, hw7⟩ : ∃ w7, w7 = w6.setCell ⟨T, c.toNat, none⟩ nv := ⟨_, rfl⟩
  have hT7 : w7.heap[T]? = some (.cells ((cs.setIfInBounds 256 sv').setIfInBounds c.toNat nv) 170 (0, 0)) := by rw [hw7]; exact Go.heap_setCell_same _ _ _ _ _ nv hT6
  have hs7 : w7.heap.size = w4.heap.size + 1 := by rw [hw7]; simp [hs6]
  rw [← hw7]
  have hTlt : T < w4.heap.size := lt_of_heap hT4
  -- all between W and w7 but for T and the row's own block
  have hK : Keep (fun b => b = T ∨ some b = sv.ownBlock) W w7 := by
    rw [hw7]
    refine Keep.set ?_ (.inl (.inl rfl)) _
    refine Keep.trans (S := fun b => b = T ∨ some b = sv.ownBlock) (S' := fun _ => False) ?_ (Keep.of_below hb56) (fun _ _ e => e.elim)
    rw [hw5]
    exact (hA.keep.mono (fun _ _ e => .inr e)).set (.inl (.inl rfl)) _
  have hown' : ∀ g, g < W.heap.size → sv.ownBlock ≠ some g → sv'.ownBlock ≠ some g := fun g hg hn e => by
    rcases hA.at_ with h1 | ⟨b, h1, h2⟩
    · exact hn (h1.symm.trans e)
    · rw [h1] at e; injection e with e; omega
  have hT'own : sv'.ownBlock ≠ some T := hown' T (lt_of_heap h.heap) hne
  refine ⟨hT7, by simp [h.size], ?_, ?_, fun j hj => ?_, ?_, h.tge, h.bge, ?_⟩
  · rw [Array.getElem?_setIfInBounds_ne (by omega), Array.getElem?_setIfInBounds_self_of_lt (by rw [h.size]; omega)]
  · have e1 : ps.length - (k + 1) + 1 = ps.length - k := by omega
    have e2 : strCs (firsts (ps.drop (k + 1)).reverse) ++ [Value.string ⟨#[c]⟩] = strCs (firsts (ps.drop k).reverse) := by
      rw [hdrop, List.reverse_cons]
      simp [firsts, strCs]
    have hO := hA.own
    rw [e1, e2] at hO
    have hO5 : OwnG 9 1 B w5 sv' (ps.length - k) (strCs (firsts (ps.drop k).reverse)) := by
      rw [hw5]
      exact hO.keep (S := fun b => b = T) ((Keep.refl (fun b => b = T) w4).set (p := ⟨T, 256, none⟩) (.inl rfl) _) (fun g hg e => by subst e; exact hT'own hg)
    have hO6 := hO5.below hb56
    rw [hw7]
    exact hO6.keep (S := fun b => b = T) ((Keep.refl (fun b => b = T) w6).set (p := ⟨T, c.toNat, none⟩) (.inl rfl) _) (fun g hg e => by subst e; exact hT'own hg)
  · rw [hdrop, List.lookup_cons]
    by_cases hjc : j = c.toNat
    · subst hjc
      have hcc : (UInt8.ofNat c.toNat == c) = true := by simp
      rw [hcc]
      refine ⟨nv, by rw [Array.getElem?_setIfInBounds_self_of_lt (by simp [h.size]; omega)], ?_⟩
      refine ⟨w4.heap.size, cap, hnv, hcap, by omega, by omega, fun e => ?_, fun q hq => ?_⟩
      · have := (hA.own.lt _ e).2; omega
      · have hcell := Lib.bytesWorld_cell w5 5 ⟨nl.toArray⟩ q hq
        rw [hs5, ← hw6] at hcell
        have h7 : w7.cell? ⟨w4.heap.size, q, none⟩ = w6.cell? ⟨w4.heap.size, q, none⟩ := by
          rw [hw7]; exact World.cell?_of_block (Below.heap_setCell w6 ⟨T, c.toNat, none⟩ nv w4.heap.size (by show w4.heap.size ≠ T; omega))
        rw [h7, hcell]
        simp [hq]
    · have hcc : (UInt8.ofNat j == c) = false := by
        rw [beq_eq_false_iff_ne]
        rintro rfl
        apply hjc
        rw [UInt8.toNat_ofNat', Nat.mod_eq_of_lt (by omega)]
      rw [hcc]
      obtain ⟨u, hu, he⟩ := h.ent j hj
      refine ⟨u, by rw [Array.getElem?_setIfInBounds_ne (by omega), Array.getElem?_setIfInBounds_ne (by omega)]; exact hu, ?_⟩
      refine he.keep hK (fun g hg hgT hgo => ⟨?_, hown' g hg hgo⟩)
      rintro (e | e)
      · exact hgT e
      · exact hgo e.symm
  · refine h.below.trans (hK.below h.below.size (fun b hb e => ?_))
    rcases e with e | e
    · have := h.tge; omega
    · have := (h.own.lt b e.symm).1; have := h.bge; omega
  · exact Nat.le_trans h.ble hK.size
end Go.Proofs.YtpfamfkdfbcooaaGreatDoor
/- strings.Replacer: what build makes of pairs. -/
namespace Go.Proofs.YtpfamfkdfbcooaaGreatDoor
open Go Go.RowKit Go.Proofs
/-- The pairs as texts in a row. -/
def flatP : Prs → List (List UInt8)
  | [] => []
  | (c, n) :: ps => [c] :: n :: flatP ps
theorem zeroTab : Tryz.zeroCells170 = Array.replicate 257 (.slice none 0 0) := by kernel_rfl
theorem zeroTab_store (W : World) (v : Value) (hv : v.oneCell' = true) :
    (storeCells ⟨W.heap.size, 0, none⟩ (Tryz.zeroCells170.toList.set 256 v) 0).run Tryz.prog (W.alloc (.cells Tryz.zeroCells170 170)) = .ok () (W.alloc (.cells ((Array.replicate 257 (.slice none 0 0)).setIfInBounds 256 v) 170)) := by
  have := run_storeCells_new (P := Tryz.prog) W 170 (Array.replicate 257 (.slice none 0 0)) ((Array.replicate 257 (.slice none 0 0)).setIfInBounds 256 v) (by rw [Array.size_setIfInBounds, Array.size_replicate]; kernel_rfl) (by rw [Array.size_setIfInBounds]) (by
    rw [Array.all_eq_true]
    intro i hi
    by_cases h : i = 256
    · subst h; simp [hv]
    · rw [Array.getElem_setIfInBounds_ne (by simpa using hi) (by omega)]; simp [Value.oneCell'])
  rw [zeroTab]
  rw [Array.toList_setIfInBounds] at this
  exact this
theorem nil_eql (W : World) : (binOp BinOp.eql 60 (.slice none 0 0) (.slice none 0 0)).run Tryz.prog W = .ok (.bool true) W := by
  kernel_rfl
theorem lookup_no {ps : Prs} (h : (ps.map Prod.fst).Nodup) (q : Nat) (hq : q < ps.length) : (ps.drop (q + 1)).lookup ps[q].1 = none := by
  have hd : ps.drop q = ps[q] :: ps.drop (q + 1) := List.drop_eq_getElem_cons hq
  have h2 : ((ps.drop q).map Prod.fst).Nodup := by rw [List.map_drop]; exact h.sublist (List.drop_sublist _ _)
  rw [hd, List.map_cons, List.nodup_cons] at h2
  have gen : ∀ (l : Prs) (x : UInt8), x ∉ l.map Prod.fst → l.lookup x = none := fun l x => by
    induction l with
    | nil => intro _; rfl
    | cons p l ih =>
      intro hx
      rw [List.map_cons, List.mem_cons, not_or] at hx
      rw [List.lookup_cons, show (x == p.1) = false from by rw [beq_eq_false_iff_ne]; exact hx.1]
      exact ih hx.2
  exact gen _ _ h2.1
set_option maxHeartbeats 4000000 in
set_option maxRecDepth 100000 in
theorem build_any (b : Nat) (w : World) (ps : Prs) (g c : Nat) (h4 : w.cell? ⟨b, 4, none⟩ = some (.slice (some ⟨g, 0, none⟩) (2 * ps.length) c))
    (hps : ∀ i (h : i < ps.length), w.cell? ⟨g, 2 * i, none⟩ = some (.string ⟨#[ps[i].1]⟩) ∧ w.cell? ⟨g, 2 * i + 1, none⟩ = some (.string ⟨ps[i].2.toArray⟩)) (hnd : (ps.map Prod.fst).Nodup) (hl : 1 ≤ ps.length) (hl5 : ps.length ≤ 100) (hn : ∀ p ∈ ps, 2 ≤ p.2.length ∧ p.2.length ≤ 100) :
    Calls Tryz.prog 117 #[.pointer (some ⟨b, 0, none⟩)] w fun e w' => ∃ T sv cs, e = .returned (.iface 171 (.pointer (some ⟨T, 0, none⟩))) ∧ TabI w T w.heap.size ps 0 w' sv cs := by
  obtain ⟨n, hnn⟩ : ∃ n, n = ps.length := ⟨_, rfl⟩
  rw [← hnn] at hl hl5 h4
  have HPS := Lib.hid hps
  have HN := Lib.hid hnn
  have HNL := Lib.hid hn
  have HND := Lib.hid hnd
  clear hnd
  obtain ⟨p0, q0⟩ := hps 0 (by omega)
  obtain ⟨x0, hx0⟩ : ∃ x, x = ps[0].1 := ⟨_, rfl⟩
  obtain ⟨y0, hy0⟩ : ∃ x, x = ps[0].2 := ⟨_, rfl⟩
  rw [← hx0] at p0
  rw [← hy0] at q0
  have hwr : IntKind.i64.wrap (2 * (n : Int)) = 2 * (n : Int) := by rw [IntKind.wrap_i64]; omega
  clear hps hnn hn hx0 hy0
  go_enter Tryz.func117, Tryz.ntmps117
  have hq : Int.tdiv (2 * (n : Int)) 2 = (n : Int) := by rw [Int.tdiv_eq_ediv_of_nonneg (by omega)]; omega
  obtain ⟨i0, hi, hz0, hz1, hz2⟩ := info_parts eltStrs.info
  have hmk : ∀ W, (Instr.makeSlice 25 (.int .i64 0) (.int .i64 (n : Int))).run Tryz.prog W = .ok (.slice (some ⟨W.heap.size, 0, none⟩) 0 n) (W.alloc (.cells (madeCells #[.string ⟨#[]⟩] n) 9)) := fun W => by
    have h := run_make (P := Tryz.prog) W 25 9 i0 (.string ⟨#[]⟩) Tryz.underlying25 hi hz0 .i64 .i64 0 (n : Int) (by omega) (by omega) (by rw [hz2]; omega) (by omega)
    rw [hz1, Int.toNat_natCast, Nat.mul_one] at h
    exact h
  obtain ⟨MC, hMC⟩ : ∃ MC, MC = madeCells #[Value.string ⟨#[]⟩] n := ⟨_, rfl⟩
  have hMs : MC.size = n := by rw [hMC, size_madeCells]
  rw [← hMC] at hmk
  clear hMC hi hz0 hz1 hz2
  have hsc : (storeCells ⟨w.heap.size + 1, 0, none⟩ (Tryz.zeroCells170.toList.set 256 (.slice (some ⟨w.heap.size, 0, none⟩) 0 n)) 0).run Tryz.prog ((w.alloc (.cells MC 9)).alloc (.cells Tryz.zeroCells170 170)) = .ok () ((w.alloc (.cells MC 9)).alloc (.cells ((Array.replicate 257 (.slice none 0 0)).setIfInBounds 256 (.slice (some ⟨w.heap.size, 0, none⟩) 0 n)) 170)) := by
    have := zeroTab_store (w.alloc (.cells MC 9)) (.slice (some ⟨w.heap.size, 0, none⟩) 0 n) rfl
    simpa using this
  have hI0 : TabI w (w.heap.size + 1) w.heap.size ps n ((w.alloc (.cells MC 9)).alloc (.cells ((Array.replicate 257 (.slice none 0 0)).setIfInBounds 256 (.slice (some ⟨w.heap.size, 0, none⟩) 0 n)) 170)) (.slice (some ⟨w.heap.size, 0, none⟩) 0 n) ((Array.replicate 257 (.slice none 0 0)).setIfInBounds 256 (.slice (some ⟨w.heap.size, 0, none⟩) 0 n)) := by
    have hd : ps.drop n = [] := List.drop_eq_nil_of_le (by rw [HN.out]; exact Nat.le_refl _)
    refine ⟨?_, by rw [Array.size_setIfInBounds, Array.size_replicate], by rw [Array.getElem?_setIfInBounds_self_of_lt (by rw [Array.size_replicate]; omega)], ?_, fun j hj => ⟨.slice none 0 0, ?_, ?_⟩, (Below.alloc (Below.alloc (Below.refl _ _) (Nat.le_refl _) _) (by simp) _), by omega, Nat.le_refl _, by simp; omega⟩
    · have := heap_alloc_new (w.alloc (.cells MC 9)) (.cells ((Array.replicate 257 (.slice none 0 0)).setIfInBounds 256 (.slice (some ⟨w.heap.size, 0, none⟩) 0 n)) 170)
      rw [show (w.alloc (.cells MC 9)).heap.size = w.heap.size + 1 from by simp] at this
      exact this
    · rw [hd]
      have e : ps.length - n = 0 := by rw [HN.out]; omega
      rw [e]
      have hO := World.ownsRow_made (size := 1) (e := 9) (base := w.heap.size) w MC n (Nat.le_refl _) (by unfold maxLen; omega) (by rw [hMs]; omega)
      exact OwnG.alloc hO _
    · rw [Array.getElem?_setIfInBounds_ne (by omega), Array.getElem?_replicate, if_pos (by omega)]
    · rw [hd]; exact rfl
  obtain ⟨W0, hW0⟩ : ∃ W0, W0 = (w.alloc (.cells MC 9)).alloc (.cells ((Array.replicate 257 (.slice none 0 0)).setIfInBounds 256 (.slice (some ⟨w.heap.size, 0, none⟩) 0 n)) 170) := ⟨_, rfl⟩
  rw [← hW0] at hI0 hsc
  have HI0 := Lib.hid hI0
  clear hI0 hW0
  obtain ⟨bq, hbq⟩ : ∃ x, x = ((2 * (n : Int)) == 2) := ⟨_, rfl⟩
  have tb := hbq.symm
  clear hbq
  go_wp2_with fail
  all_goals
    clear p0 q0
    go_loop [4, 5] (fun x i => ∃ k : Nat, k ≤ n ∧ i = .int .i64 (2 * k : Nat) ∧ x = .bool (decide (k = 0))) (fun _ i => 2 * n - (intOf i).toNat)
    case atStart => exact ⟨0, Nat.zero_le _, rfl, rfl⟩
    case round =>
      obtain ⟨k, hk, rfl, rfl⟩ := hrel
      rcases Nat.lt_or_ge k n with hlt | hge
      · have hlt' : k < ps.length := by have := HN.out; omega
        obtain ⟨p1, q1⟩ := HPS.out k hlt'
        obtain ⟨x1, hx1⟩ : ∃ x, x = ps[k].1 := ⟨_, rfl⟩
        obtain ⟨y1, hy1⟩ : ∃ x, x = ps[k].2 := ⟨_, rfl⟩
        have hyl := HNL.out ps[k] (List.getElem_mem _)
        rw [← hx1] at p1
        rw [← hy1] at q1 hyl
        have t1 : ((y1.length : Int) != 1) = true := by rw [bne_iff_ne]; omega
        clear hx1 hy1
        go_wp2_with fail
        all_goals go_round
        case rel => exact ⟨k + 1, by omega, by go_num, by rw [decide_eq_false (by omega)]⟩
        case measure => simp [intOf]; omega
      · obtain rfl : k = n := by omega
        have t2 : decide (k = 0) = false := decide_eq_false (by omega)
        go_wp2_with fail
        clear hsc hmk tb hq t2
        go_loopw [12] (fun i wr => ∃ (m : Nat) (sv : Value) (cs : Array Value), m ≤ k ∧ i = .int .i64 (2 * (m : Int) - 2) ∧ Hid (TabI w (w.heap.size + 1) w.heap.size ps m wr sv cs)) (fun i _ => (intOf i + 2).toNat)
        case atStart => exact ⟨k, _, _, Nat.le_refl _, by congr 1, HI0⟩
        case round =>
          clear HI0
          obtain ⟨m, sv, cs, hm, rfl, HI⟩ := hrel
          cases m with
          | zero =>
            have t3 : decide ((0 : Int) ≤ 2 * ((0 : Nat) : Int) - 2) = false := by decide
            have t4 : decide ((0 : Int) ≤ -2) = false := by decide
            go_wp2_with fail
            go_ret
            exact ⟨_, _, _, rfl, HI.out⟩
          | succ q =>
            have hi2 : (2 * ((q + 1 : Nat) : Int) - 2) = ((2 * q : Nat) : Int) := by omega
            rw [hi2]
            clear hi2
            have hlt' : q < ps.length := by have := HN.out; omega
            obtain ⟨p1, q1⟩ := HPS.out q hlt'
            have hno := lookup_no HND.out q hlt'
            have HNX := Lib.hid (fun w4 sv' (hA : AppG 9 1 w.heap.size wr sv (ps.length - (q + 1)) (strCs (firsts (ps.drop (q + 1)).reverse)) w4 sv' 1 [.string ⟨#[ps[q].1]⟩]) cap hcap => HI.out.next hlt' hA cap hcap)
            have hyl := HNL.out ps[q] (List.getElem_mem _)
            obtain ⟨x1, hx1⟩ : ∃ x, x = ps[q].1 := ⟨_, rfl⟩
            obtain ⟨y1, hy1⟩ : ∃ x, x = ps[q].2 := ⟨_, rfl⟩
            rw [← hx1] at p1 hno HNX
            rw [← hy1] at q1 hyl HNX
            have hbl := HI.out.below
            have p1 := (hbl.cell (World.block_lt_of_cell? w _ p1)).trans p1
            have q1 := (hbl.cell (World.block_lt_of_cell? w _ q1)).trans q1
            have hxl : x1.toNat < 256 := x1.toNat_lt
            have htab : wr.cell? ⟨w.heap.size + 1, x1.toNat, none⟩ = some (.slice none 0 0) := by
              obtain ⟨u, hu, he⟩ := HI.out.ent x1.toNat hxl
              rw [show UInt8.ofNat x1.toNat = x1 from by simp, hno] at he
              rw [show u = .slice none 0 0 from he] at hu
              exact cell_of_heap HI.out.heap hu
            have h256 := cell_of_heap HI.out.heap HI.out.sl
            have HT := Lib.hid HI.out.heap
            have HNe := Lib.hid HI.out.ne
            have HOwn := Lib.hid (AppG.start HI.out.own HI.out.ble)
            obtain ⟨A, c2, rfl⟩ := HI.out.own.shape
            clear hx1 hy1 hbl hno
            have HCs := Lib.hid HI.out.sl
            have HCu : Hid (cs[x1.toNat]? = some (.slice none 0 0)) := Lib.hid (by
              have := htab
              simp only [World.cell?, HT.out] at this
              exact this)
            clear HI
            have hcv : (convert 60 9 (.slice (some ⟨wr.heap.size, 0, none⟩) 1 1)).run Tryz.prog (wr.alloc (.cells #[.int .u8 x1.toNat] 5)) = .ok (.string ⟨#[x1]⟩) (wr.alloc (.cells #[.int .u8 x1.toNat] 5)) := by
              refine Lib.run_convert_whole (wr.alloc (.cells #[.int .u8 x1.toNat] 5)) _ _ _ Tryz.underlying60 Tryz.underlying5 Tryz.underlying9 wr.heap.size 0 ⟨#[x1]⟩ ?_ 1
              intro i hi
              have h0 : i = 0 := by have : i < 1 := hi; omega
              subst h0
              rw [World.cell?_alloc_new]
              rfl
            have kc : ∀ W : World, (convert 9 60 (.string ⟨y1.toArray⟩)).run Tryz.prog W = .ok (.slice (some ⟨W.heap.size, 0, none⟩) y1.length (grownCap W y1.length 0 5)) (Lib.bytesWorld W 5 ⟨y1.toArray⟩) := fun W => Lib.run_convert_string_bytes (P := Tryz.prog) W 9 60 5 ⟨y1.toArray⟩ Tryz.underlying9 Tryz.underlying60 Tryz.underlying5
            have hnil := nil_eql
            have hby : ∀ h, ((⟨#[x1]⟩ : ByteArray)[0]'h).toNat = x1.toNat := fun _ => rfl
            have HCl : Hid (∀ j u, ([.string ⟨#[x1]⟩] : List Value)[j]? = some u → ((wr.alloc (.cells #[.int .u8 x1.toNat] 5)).alloc (.cells #[.string ⟨#[x1]⟩] 9)).cell? ((⟨wr.heap.size + 1, 0, none⟩ : Addr).add j) = some u) := Lib.hid (fun j u hu => by
              have h0 : j = 0 := by
                rcases j with _ | j
                · rfl
                · simp at hu
              subst h0
              have hc := heap_alloc_new (wr.alloc (.cells #[.int .u8 x1.toNat] 5)) (.cells #[.string ⟨#[x1]⟩] 9)
              rw [show (wr.alloc (.cells #[.int .u8 x1.toNat] 5)).heap.size = wr.heap.size + 1 from by simp] at hc
              rw [add_mk]
              exact (cell_of_heap hc rfl).trans hu)
            have hpl : ps.length ≤ 100 := by have := HN.out; omega
            go_wp2_with (at_builtin; refine appGx (n := ps.length - (q + 1)) (k := 0) (B := w.heap.size) eltStrs rfl _ _ rfl [.string ⟨#[x1]⟩] 1 1 ⟨wr.heap.size + 1, 0, none⟩ rfl rfl rfl HCl.out (by simp [Value.oneCell']) (HOwn.out.below (((Below.refl _ _).alloc (Nat.le_refl _) _).alloc (by simp) _)) (by unfold maxLen; omega) (by omega) ?_; intro v2 w4 hA2; obtain ⟨A3, c3, rfl⟩ := hA2.own.shape; have hT4 := hA2.keep.heap HT.out (fun e => HNe.out e.symm); have y3 := cell_of_heap hT4 HCs.out; have z3 := frozen_of_heap 256 hT4; have hT5 := Go.heap_setCell_same w4 _ 256 _ _ (.slice A3 (ps.length - (q + 1) + (0 + 1)) c3) hT4; have hT6 := hlBelow (Lib.bytesWorld_below _ 5 ⟨y1.toArray⟩) hT5; have y4 := cell_of_heap (j := x1.toNat) hT6 (by rw [Array.getElem?_setIfInBounds_ne (by omega)]; exact HCu.out); have z4 := frozen_of_heap x1.toNat hT6; have hNx := Lib.hid (HNX.out w4 _ hA2 (grownCap (w4.setCell ⟨w.heap.size + 1, 256, none⟩ (.slice A3 (ps.length - (q + 1) + (0 + 1)) c3)) y1.length 0 5) (grownCap_ge _ _ _ _)); clear hT4 hT5 hT6 hA2 HNX)
            all_goals go_roundw
            case rel => exact ⟨q, _, _, by omega, by congr 1, hNx⟩
            case measure => simp [intOf]; omega
end Go.Proofs.YtpfamfkdfbcooaaGreatDoor
