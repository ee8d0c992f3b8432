/- In one text: The document's answer: Copy: a value of its own memory.; The document's answer: Copy, walked. -/
import Derived.Test.YticaihfcnbehpaaGreatDoorVap
import Derived.Test.YticaihfcnbehpaaGreatDoorKer
import Derived.Test.YticaihfcnbehpaaGreatDoorHds
import Derived.Test.YticaihfcnbehpaaGreatDoorSam
import Derived.Deep.RegionLaw
import Derived.Deep.RegionHeld3
set_option linter.unusedVariables false
set_option linter.unusedSimpArgs false
/- The document's answer: Copy: a value of its own memory. -/
namespace Go.Proofs.YticaihfcnbehpaaGreatDoor
open Go Go.RowKit Go.Proofs
/-- A tree whose blocks all are such. -/
def RepP (P : Nat → Prop) : Nat → World → Tr → Value → Value → Value → Value → Value → Prop
  | 0, _, _, _, _, _, _, _ => False
  | d + 1, w, .mk k num str keys list, x0, x1, x2, x3, x4 =>
    x0 = .int .i64 k ∧ x1 = .float .f64 num ∧ x2 = .string ⟨str.toArray⟩ ∧ num < 18446744073709551616 ∧ str.length ≤ 1048576 ∧ list.length ≤ 1048576 ∧ keys.length ≤ 1048576 ∧
    ∃ A c A2 c2, x3 = .slice A list.length c ∧ x4 = .slice A2 keys.length c2 ∧
      (∀ i (h : i < list.length), ∃ ad, A = some ad ∧ P ad.block ∧ ∃ y0 y1 y2 y3 y4, Cells5 w (ad.add (i * 5)) y0 y1 y2 y3 y4 ∧ RepP P d w list[i] y0 y1 y2 y3 y4) ∧
      (∀ i (h : i < keys.length), keys[i].length ≤ 1048576 ∧ ∃ ad, A2 = some ad ∧ P ad.block ∧ w.cell? (ad.add i) = some (.string ⟨keys[i].toArray⟩)) ∧ keys.length ≤ c2 ∧ list.length ≤ c ∧ (A2 = none → c2 = 0) ∧ (A = none → c = 0)
theorem RepP.rep {P : Nat → Prop} : ∀ {d : Nat} {w : World} {t : Tr} {x0 x1 x2 x3 x4 : Value}, RepP P d w t x0 x1 x2 x3 x4 → Rep d w t x0 x1 x2 x3 x4
  | 0, _, _, _, _, _, _, _, h => h.elim
  | d + 1, w, .mk k num str keys list, x0, x1, x2, x3, x4, h => by
    obtain ⟨h1, h2, h3, h4, h5, h6, h7, A, c, A2, c2, e3, e4, hL, hK, hr⟩ := h
    refine ⟨h1, h2, h3, h4, h5, h6, h7, A, c, A2, c2, e3, e4, fun i hi => ?_, fun i hi => ?_, hr⟩
    · obtain ⟨ad, e, _, y0, y1, y2, y3, y4, h5, hRi⟩ := hL i hi
      exact ⟨ad, e, y0, y1, y2, y3, y4, h5, hRi.rep⟩
    · obtain ⟨hk, ad, e, _, hc⟩ := hK i hi
      exact ⟨hk, ad, e, hc⟩
theorem Cells5.keep {S : Nat → Prop} {w w' : World} {a : Addr} {x0 x1 x2 x3 x4 : Value} (h : Cells5 w a x0 x1 x2 x3 x4) (hk : Keep S w w') (hn : ¬ S a.block) : Cells5 w' a x0 x1 x2 x3 x4 := by
  have hl : a.block < w.heap.size := World.block_lt_of_cell? w a h.1
  have hb := hk.block a.block hl hn
  have go : ∀ {q : Addr} {u : Value}, q.block = a.block → w.cell? q = some u → w'.cell? q = some u := fun hq hc => (World.cell?_of_block (by rw [hq]; exact hb)).trans hc
  exact ⟨go rfl h.1, go rfl h.2.1, go rfl h.2.2.1, go rfl h.2.2.2.1, go rfl h.2.2.2.2⟩
/-- What does not write there does not turn it. -/
theorem RepP.keep {P P' S : Nat → Prop} : ∀ {d : Nat} {w w' : World} {t : Tr} {x0 x1 x2 x3 x4 : Value}, RepP P d w t x0 x1 x2 x3 x4 → Keep S w w' → (∀ k, k < w.heap.size → P k → ¬ S k ∧ P' k) → RepP P' d w' t x0 x1 x2 x3 x4
  | 0, _, _, _, _, _, _, _, _, h, _, _ => h.elim
  | d + 1, w, w', .mk k num str keys list, x0, x1, x2, x3, x4, h, hk, hp => by
    obtain ⟨h1, h2, h3, h4, h5, h6, h7, A, c, A2, c2, e3, e4, hL, hK, hr⟩ := h
    refine ⟨h1, h2, h3, h4, h5, h6, h7, A, c, A2, c2, e3, e4, fun i hi => ?_, fun i hi => ?_, hr⟩
    · obtain ⟨ad, e, hP, y0, y1, y2, y3, y4, h5, hRi⟩ := hL i hi
      have hl : ad.block < w.heap.size := by
        have := World.block_lt_of_cell? w _ h5.1
        rwa [show (ad.add (i * 5)).block = ad.block by unfold Addr.add; split <;> rfl] at this
      obtain ⟨q1, q2⟩ := hp _ hl hP
      exact ⟨ad, e, q2, y0, y1, y2, y3, y4, h5.keep hk (by rw [show (ad.add (i * 5)).block = ad.block by unfold Addr.add; split <;> rfl]; exact q1), hRi.keep hk hp⟩
    · obtain ⟨hkk, ad, e, hP, hc⟩ := hK i hi
      have hl : ad.block < w.heap.size := by
        have := World.block_lt_of_cell? w _ hc
        rwa [show (ad.add i).block = ad.block by unfold Addr.add; split <;> rfl] at this
      obtain ⟨q1, q2⟩ := hp _ hl hP
      refine ⟨hkk, ad, e, q2, ?_⟩
      have hb := hk.block _ hl q1
      exact (World.cell?_of_block (by rw [show (ad.add i).block = ad.block by unfold Addr.add; split <;> rfl]; exact hb)).trans hc
theorem RepP.shape {P : Nat → Prop} {d : Nat} {w : World} {t : Tr} {y0 y1 y2 y3 y4 : Value} (h : RepP P d w t y0 y1 y2 y3 y4) : ∃ (kk : Int) (nn : Nat) (ss : ByteArray) (A3 : Option Addr) (n3 e3 : Nat) (A4 : Option Addr) (n4 e4 : Nat), y0 = .int .i64 kk ∧ y1 = .float .f64 nn ∧ y2 = .string ss ∧ y3 = .slice A3 n3 e3 ∧ y4 = .slice A4 n4 e4 := rep_shape h.rep
theorem eltVals : Elt 24 27 5 80 (.agg #[.int .i64 0, .float .f64 0, .string ⟨#[]⟩, .slice none 0 0, .slice none 0 0]) := ⟨Tryz.underlying24, by kernel_rfl, rfl, by decide⟩
section
variable {ops : Array Oper} {o : Oper} {a : Act} {K : Act → World → Prop} {Q : Exit → Act → World → Prop} {X : Prop} {S E : TypeId} {size bytes : Nat} {z : Value}
/-- append(v, x), x in a new block, at a step of a region that draws its order. -/
theorem stepG {B n : Nat} {w : World} {v : Value} {xs l : List Value} {k : Nat} {W : World} {v1 : Value} (HE : Elt S E size bytes z) (hgd : o.guard = none) (s x : Operand) (ho : o.op = .call { callee := .builtin .append, args := #[s, x], argTypes := #[S, S] })
    (l2 : List Value) (m c : Nat) (arr : Array Value) (T : TypeId) (hm : l2.length = m * size) (hs : a.eval s = v1) (hx : a.eval x = .slice (some ⟨W.heap.size, 0, none⟩) m c) (harr : arr.toList = l2) (h1 : ∀ u ∈ l2, u.oneCell' = true)
    (hA : AppG E size B w v n xs W v1 k l) (hl : n + k + m ≤ maxLen) (hb : (n + k + m) * bytes ≤ 140737488355328)
    (h : ∀ v2 w2, AppG E size B w v n xs w2 v2 (k + m) (l ++ l2) → K (a.put o.dst v2) w2) :
    if Region.wanted o (yielded ops a.tmps) = true then Oper.wp Tryz.prog o a (W.alloc (.cells arr T)) K Q else X := by
  have hw : Region.wanted o (yielded ops a.tmps) = true := by simp [Region.wanted, hgd]
  rw [if_pos hw]
  obtain ⟨i0, hi, hz0, hz1, hz2⟩ := info_parts HE.info
  have hA2 := hA.below ((Below.refl _ _).alloc (Nat.le_refl _) (.cells arr T))
  have hnews : ∀ j u, l2[j]? = some u → (W.alloc (.cells arr T)).cell? ((⟨W.heap.size, 0, none⟩ : Addr).add j) = some u := by
    intro j u hu
    have hc := heap_alloc_new W (.cells arr T)
    rw [add_mk, Nat.zero_add]
    simp only [World.cell?, hc]
    rw [← Array.getElem?_toList, harr, hu]
    rfl
  obtain ⟨v', w', hr, h2, h3, _, h5⟩ := run_append_own_at (P := Tryz.prog) (W.alloc (.cells arr T)) B S o.type E i0 z size bytes HE.under hi hz0 hz1 hz2 HE.cells HE.pos v1 (n + k) (xs ++ l) hA2.own ⟨W.heap.size, 0, none⟩ m c l2 hm hnews h1 hl hb hA2.base
  have hnx : AppG E size B w v n xs w' v' (k + m) (l ++ l2) := by
    refine hA2.next h2 h3 ?_
    rcases h5 with hat | hat
    · exact .inl hat
    · exact .inr ⟨_, hat, Nat.le_refl _⟩
  unfold Oper.wp execOp
  simp only [ho, resolve, invoke, builtin, Sem.run_bind, Sem.run_pure, Result.andThen_ok, List.map_toArray, List.map_cons, List.map_nil, hs, hx, hr]
  exact h v' w' hnx
/-- append(v, x...), x any slice, at a step of a region that draws its order. -/
theorem stepGs {B n : Nat} {w : World} {v : Value} {xs l : List Value} {k : Nat} {W : World} {v1 : Value} (HE : Elt S E size bytes z) (hgd : o.guard = none) (s x : Operand) (ho : o.op = .call { callee := .builtin .append, args := #[s, x], argTypes := #[S, S] })
    (l2 : List Value) (m c : Nat) (A : Option Addr) (hm : l2.length = m * size) (hs : a.eval s = v1) (hx : a.eval x = .slice A m c) (hc : At W A m c l2) (h1 : ∀ u ∈ l2, u.oneCell' = true)
    (hA : AppG E size B w v n xs W v1 k l) (hl : n + k + m ≤ maxLen) (hb : (n + k + m) * bytes ≤ 140737488355328)
    (h : ∀ v2 w2, AppG E size B w v n xs w2 v2 (k + m) (l ++ l2) → K (a.put o.dst v2) w2) :
    if Region.wanted o (yielded ops a.tmps) = true then Oper.wp Tryz.prog o a W K Q else X := by
  have hw : Region.wanted o (yielded ops a.tmps) = true := by simp [Region.wanted, hgd]
  rw [if_pos hw]
  obtain ⟨i0, hi, hz0, hz1, hz2⟩ := info_parts HE.info
  cases A with
  | none =>
    obtain ⟨rfl, rfl, rfl⟩ := hc.1 rfl
    have hr := run_append_owned_none (P := Tryz.prog) (w := W) B S o.type E i0 size HE.under hi v1 (n + k) (xs ++ l) hA.own
    unfold Oper.wp execOp
    simp only [ho, resolve, invoke, builtin, Sem.run_bind, Sem.run_pure, Result.andThen_ok, List.map_toArray, List.map_cons, List.map_nil, hs, hx, hr]
    exact h v1 W (by simpa using hA)
  | some ad =>
    obtain ⟨v', w', hr, h2, h3, _, h5⟩ := run_append_own_at (P := Tryz.prog) W B S o.type E i0 z size bytes HE.under hi hz0 hz1 hz2 HE.cells HE.pos v1 (n + k) (xs ++ l) hA.own ad m c l2 hm (hc.2 ad rfl) h1 hl hb hA.base
    have hnx : AppG E size B w v n xs w' v' (k + m) (l ++ l2) := by
      refine hA.next h2 h3 ?_
      rcases h5 with hat | hat
      · exact .inl hat
      · exact .inr ⟨_, hat, Nat.le_refl _⟩
    unfold Oper.wp execOp
    simp only [ho, resolve, invoke, builtin, Sem.run_bind, Sem.run_pure, Result.andThen_ok, List.map_toArray, List.map_cons, List.map_nil, hs, hx, hr]
    exact h v' w' hnx
end
theorem five_one (kz : Int) (nz : Nat) (sz : ByteArray) (C3 : Option Addr) (l3 h3 : Nat) (C4 : Option Addr) (l4 h4 : Nat) : ∀ u ∈ [Value.int .i64 kz, .float .f64 nz, .string sz, .slice C3 l3 h3, .slice C4 l4 h4], u.oneCell' = true := by
  intro u hu
  simp only [List.mem_cons, List.not_mem_nil, or_false] at hu
  rcases hu with rfl | rfl | rfl | rfl | rfl <;> rfl
theorem keep_setRow (w : World) (g : Nat) (cs : Array Value) : Keep (fun b => b = g) w (w.setRow g cs) :=
  ⟨rfl, rfl, rfl, by simp [World.setRow], fun k _ hn => setRow_other w g k cs hn⟩
/-- What a copy is: a tree in new blocks. -/
def CopyP (d : Nat) (t : Tr) (w : World) (e : Ending) (w' : World) : Prop :=
  ∃ (kk : Int) (nn : Nat) (ss : ByteArray) (A3 : Option Addr) (n3 e3 : Nat) (A4 : Option Addr) (n4 e4 : Nat), RepP (fun b => w.heap.size ≤ b) d w' t (.int .i64 kk) (.float .f64 nn) (.string ss) (.slice A3 n3 e3) (.slice A4 n4 e4) ∧
    e = .returned (.agg #[.int .i64 kk, .float .f64 nn, .string ss, .slice A3 n3 e3, .slice A4 n4 e4]) ∧ Below w.heap.size w w'
/-- The values copied so far: k of them, in the cells xs. -/
def Got (B0 : Nat) (d : Nat) (w : World) (v : Value) (list : List Tr) (k : Nat) (xs : List Value) : Prop :=
  ∀ i (h : i < list.length), i < k → ∃ z0 z1 z2 z3 z4, (xs.drop (i * 5)).take 5 = [z0, z1, z2, z3, z4] ∧ RepP (fun b => B0 ≤ b ∧ v.ownBlock ≠ some b) d w list[i] z0 z1 z2 z3 z4
theorem Got.next {B0 d : Nat} {w w1 : World} {v v1 : Value} {list : List Tr} {k : Nat} {xs : List Value} {z0 z1 z2 z3 z4 : Value} (h : Got B0 d w v list k xs) (hx : xs.length = k * 5) (hk : k < list.length) {S : Nat → Prop} (hkeep : Keep S w w1)
    (hS : ∀ b, b < w.heap.size → B0 ≤ b → v.ownBlock ≠ some b → ¬ S b ∧ v1.ownBlock ≠ some b) (hz : RepP (fun b => B0 ≤ b ∧ v1.ownBlock ≠ some b) d w1 list[k] z0 z1 z2 z3 z4) : Got B0 d w1 v1 list (k + 1) (xs ++ [z0, z1, z2, z3, z4]) := by
  intro i hi hik
  by_cases e : i = k
  · subst e
    refine ⟨z0, z1, z2, z3, z4, ?_, hz⟩
    rw [← hx, List.drop_left]
    rfl
  · obtain ⟨y0, y1, y2, y3, y4, h1, h2⟩ := h i hi (by omega)
    refine ⟨y0, y1, y2, y3, y4, ?_, h2.keep hkeep (fun b hb hP => ?_)⟩
    · rw [← h1, List.drop_append_of_le_length (by omega), List.take_append_of_le_length (by rw [List.length_drop]; omega)]
    · obtain ⟨q1, q2⟩ := hS b hb hP.1 hP.2
      exact ⟨q1, hP.1, q2⟩
theorem OwnG.nil_cap {E : TypeId} {size B n : Nat} {w : World} {xs : List Value} {m c : Nat} (h : OwnG E size B w (.slice none m c) n xs) : c = 0 := by
  rcases h.2 with ⟨e, _⟩ | ⟨g, cap, cur, e, _⟩
  · injection e
  · injection e with e; cases e
/-- How things stand in a round of Copy: the copy's box, the keys' copy, the values copied so far. -/
structure CpI (w : World) (d : Nat) (kk : Int) (num : Nat) (str : Txt) (keys : List Txt) (list : List Tr) (n c m : Nat) (A : Option Addr) (wr : World) (v vK : Value) (k : Nat) (xs : List Value) : Prop where
  row2 : wr.heap[w.heap.size + 1 + 1]? = some (.cells #[.int .i64 kk, .float .f64 num, .string ⟨str.toArray⟩, v, vK] 27 (0, 0))
  row1 : wr.heap[w.heap.size + 1]? = some (.cells #[.int .i64 0, .float .f64 0, .string ⟨#[]⟩, .slice none 0 0, .slice none 0 0] 27 (0, 0))
  in3 : wr.cell? ⟨w.heap.size, 3, none⟩ = some (.slice A n c)
  below : Below w.heap.size w wr
  size : w.heap.size + 3 ≤ wr.heap.size
  ownK : OwnG 9 1 (w.heap.size + 3) wr vK m (strCs keys)
  own : OwnG 27 5 (w.heap.size + 3) wr v k xs
  ne : ∀ b, v.ownBlock = some b → vK.ownBlock ≠ some b
  got : Got (w.heap.size + 3) d wr v list k xs
theorem CpI.next {w : World} {d : Nat} {kk : Int} {num : Nat} {str : Txt} {keys : List Txt} {list : List Tr} {n c m : Nat} {A : Option Addr} {wr w2 w4 : World} {v v2 vK : Value} {k : Nat} {xs : List Value} {z0 z1 z2 z3 z4 : Value} (h : CpI w d kk num str keys list n c m A wr v vK k xs)
    (hb : Below wr.heap.size wr w2) (hk : k < list.length) (hz : RepP (fun b => wr.heap.size ≤ b) d w2 list[k] z0 z1 z2 z3 z4) (hA : AppG 27 5 (w.heap.size + 3) w2 v k xs w4 v2 (0 + 1) ([] ++ [z0, z1, z2, z3, z4])) :
    CpI w d kk num str keys list n c m A (w4.setCell ⟨w.heap.size + 1 + 1, 3, none⟩ v2) v2 vK (k + 1) (xs ++ [z0, z1, z2, z3, z4]) := by
  have hs := h.size
  have hs2 := hb.size
  have hs4 := hA.keep.size
  have hlt := h.own.lt
  have hltK := h.ownK.lt
  have hnew : ∀ b, v2.ownBlock = some b → v.ownBlock = some b ∨ w2.heap.size ≤ b := by
    intro b hb2
    rcases hA.at_ with e | ⟨b', e, e2⟩
    · exact .inl (e ▸ hb2)
    · rw [e] at hb2
      obtain rfl := Option.some.inj hb2
      exact .inr e2
  have hk24 : Keep (fun b => some b = v.ownBlock) wr w4 := (Keep.of_below (S := fun b => some b = v.ownBlock) hb).trans hA.keep (fun _ _ h => h)
  have hk25 : Keep (fun b => some b = v.ownBlock ∨ b = w.heap.size + 1 + 1) w2 (w4.setCell ⟨w.heap.size + 1 + 1, 3, none⟩ v2) := (hA.keep.mono (fun _ _ h => .inl h)).set (.inl (.inr rfl)) v2
  have hk5 : Keep (fun b => some b = v.ownBlock ∨ b = w.heap.size + 1 + 1) wr (w4.setCell ⟨w.heap.size + 1 + 1, 3, none⟩ v2) := (Keep.of_below (S := fun b => some b = v.ownBlock ∨ b = w.heap.size + 1 + 1) hb).trans hk25 (fun _ _ h => h)
  have hno : ∀ b, b < w.heap.size + 1 + 1 → ¬ (some b = v.ownBlock ∨ b = w.heap.size + 1 + 1) := by
    rintro b hb2 (e | e)
    · have := hlt b e.symm; omega
    · omega
  refine ⟨?_, hk5.heap h.row1 (hno _ (by omega)), hk5.cell h.in3 (hno _ (by omega)), h.below.trans (hk5.below h.below.size (fun b hb2 => hno b (by omega))), Nat.le_trans hs hk5.size, ?_, ?_, ?_, ?_⟩
  · have q := hk24.heap h.row2 (fun e => by have := hlt _ e.symm; omega)
    simpa using Go.heap_setCell_same _ _ 3 _ _ v2 q
  · exact h.ownK.keep hk5 (fun b hb2 => by
      rintro (e | e)
      · exact h.ne b e.symm hb2
      · have := hltK b hb2; omega)
  · have q := hA.own
    simp only [List.nil_append, Nat.zero_add] at q
    exact q.keep ((Keep.refl (fun b => b = w.heap.size + 1 + 1) w4).set (.inl rfl) v2) (fun b hb2 e => by
      rcases hnew b hb2 with e2 | e2
      · have := hlt b e2; omega
      · omega)
  · intro b hb2 hbK
    have := hltK b hbK
    rcases hnew b hb2 with e2 | e2
    · exact h.ne b e2 hbK
    · omega
  · refine h.got.next h.own.1 hk hk5 (fun b hb1 hb2 hb3 => ⟨?_, fun e => ?_⟩) (hz.keep hk25 (fun b hb1 hb2 => ⟨?_, by omega, fun e => ?_⟩))
    · rintro (e | e)
      · exact hb3 e.symm
      · omega
    · rcases hnew b e with e2 | e2
      · exact hb3 e2
      · omega
    · rintro (e | e)
      · have := hlt b e.symm; omega
      · omega
    · rcases hnew b e with e2 | e2
      · have := hlt b e2; omega
      · omega
theorem CpI.mid {w : World} {d : Nat} {kk : Int} {num : Nat} {str : Txt} {keys : List Txt} {list : List Tr} {n c m : Nat} {A : Option Addr} {wr w2 w4 : World} {v v2 vK : Value} {k : Nat} {xs l : List Value} (h : CpI w d kk num str keys list n c m A wr v vK k xs)
    (hb : Below wr.heap.size wr w2) (hA : AppG 27 5 (w.heap.size + 3) w2 v k xs w4 v2 (0 + 1) l) : w4.heap[w.heap.size + 1 + 1]? = some (.cells #[.int .i64 kk, .float .f64 num, .string ⟨str.toArray⟩, v, vK] 27 (0, 0)) :=
  ((Keep.of_below (S := fun b => some b = v.ownBlock) hb).trans hA.keep (fun _ _ h => h)).heap h.row2 (fun e => by have := h.own.lt _ e.symm; omega)
/-- The copy, when all is copied. -/
theorem CpI.done {w : World} {d : Nat} {kk : Int} {num : Nat} {str : Txt} {keys : List Txt} {list : List Tr} {n c m : Nat} {A : Option Addr} {wr w5 : World} {xs : List Value} {A3 A4 : Option Addr} {m3 e3 m4 e4 : Nat} (h : CpI w d kk num str keys list n c m A wr (.slice A3 m3 e3) (.slice A4 m4 e4) n xs)
    (hn : n = list.length) (hm : m = keys.length) (hnum : num < 18446744073709551616) (hstr : str.length ≤ 1048576) (hll : n ≤ 1048576) (hkl : m ≤ 1048576) (hKl : ∀ i (h : i < keys.length), keys[i].length ≤ 1048576) (hk : Keep (fun b => b = w.heap.size + 1) wr w5) :
    RepP (fun b => w.heap.size ≤ b) (d + 1) w5 (.mk kk num str keys list) (.int .i64 kk) (.float .f64 num) (.string ⟨str.toArray⟩) (.slice A3 m3 e3) (.slice A4 m4 e4) := by
  subst hn hm
  obtain ⟨l1, l2, l3⟩ := h.own.cells rfl
  obtain ⟨k1, k2, k3⟩ := h.ownK.cells rfl
  subst l1 k1
  refine ⟨rfl, rfl, rfl, hnum, hstr, hll, hkl, A3, e3, A4, e4, rfl, rfl, fun i hi => ?_, fun i hi => ?_, k2, l2, fun e => ?_, fun e => ?_⟩
  · obtain ⟨z0, z1, z2, z3, z4, hx, hz⟩ := h.got i hi hi
    have hxl : xs.length = list.length * 5 := h.own.1
    obtain ⟨g, rfl, hg, hc⟩ := l3 (by omega)
    have hb := (h.own.lt g hg).1
    have hat : ∀ j u, [z0, z1, z2, z3, z4][j]? = some u → w5.cell? ⟨g, i * 5 + j, none⟩ = some u := fun j u hu => by
      have hj : j < 5 := (List.getElem?_eq_some_iff.1 hu).1
      rw [← hx, List.getElem?_take, if_pos hj, List.getElem?_drop] at hu
      exact hk.cell (hc _ _ hu) (fun e => by omega)
    refine ⟨_, rfl, by show w.heap.size ≤ g; omega, z0, z1, z2, z3, z4, ?_, hz.keep hk (fun b hb1 hb2 => ⟨fun e => by omega, by omega⟩)⟩
    rw [add_mk, Nat.zero_add]
    exact ⟨hat 0 _ rfl, hat 1 _ rfl, hat 2 _ rfl, hat 3 _ rfl, hat 4 _ rfl⟩
  · have hxl : (strCs keys).length = keys.length := by simp [strCs]
    obtain ⟨g, rfl, hg, hc⟩ := k3 (by omega)
    have hb := (h.ownK.lt g hg).1
    refine ⟨hKl i hi, _, rfl, by show w.heap.size ≤ g; omega, ?_⟩
    rw [add_mk, Nat.zero_add]
    exact hk.cell (hc i _ (by unfold strCs; rw [List.getElem?_map, List.getElem?_eq_getElem hi]; rfl)) (fun e => by omega)
  · subst e; exact h.ownK.nil_cap
  · subst e; exact h.own.nil_cap
end Go.Proofs.YticaihfcnbehpaaGreatDoor
/- The document's answer: Copy, walked. -/
namespace Go.Proofs.YticaihfcnbehpaaGreatDoor
open Go Go.RowKit Go.Proofs
set_option maxHeartbeats 20000000 in
set_option maxRecDepth 100000 in
theorem copy_any : ∀ (d : Nat) (t : Tr) (w : World) (y0 y1 y2 y3 y4 : Value), Rep d w t y0 y1 y2 y3 y4 → Calls Tryz.prog 6 #[.agg #[y0, y1, y2, y3, y4]] w fun e w' => CopyP d t w e w' := by
  intro d
  induction d with
  | zero => intro t w _ _ _ _ _ h; exact h.elim
  | succ d ih =>
    intro t w y0 y1 y2 y3 y4 hR
    cases t with
    | mk kk num str keys list =>
    obtain ⟨rfl, rfl, rfl, hnum, hstr, hll, hkl, A, c, A2, c2, rfl, rfl, hL, hK, hc2, hc, hn2, hn⟩ := hR
    have hT := trees_at hL
    have hAt : At w A2 keys.length c2 (strCs keys) := by
      refine ⟨fun h => ?_, fun ad had j u hu => ?_⟩
      · have := hn2 h
        exact ⟨by omega, this, by rw [List.eq_nil_of_length_eq_zero (by omega : keys.length = 0)]; rfl⟩
      · simp only [strCs, List.getElem?_map] at hu
        obtain ⟨x, hx, rfl⟩ := Option.map_eq_some_iff.1 hu
        obtain ⟨hj, rfl⟩ := List.getElem?_eq_some_iff.1 hx
        obtain ⟨-, ad', h1, h2⟩ := hK j hj
        rw [had] at h1
        obtain rfl := Option.some.inj h1
        exact h2
    have hKl : ∀ i (h : i < keys.length), keys[i].length ≤ 1048576 := fun i h => (hK i h).1
    obtain ⟨n, hnn⟩ : ∃ n, n = list.length := ⟨_, rfl⟩
    obtain ⟨m, hmm⟩ : ∃ n, n = keys.length := ⟨_, rfl⟩
    rw [← hnn] at hll hc ⊢
    rw [← hmm] at hkl hc2 hAt ⊢
    have HN := Lib.hid hnn
    have HM := Lib.hid hmm
    have HT := Lib.hid hT
    have HKl := Lib.hid hKl
    have HI := Lib.hid ih
    clear hL hK hT hnn hmm hKl ih hn2 hn hc hc2
    -- the boxes
    obtain ⟨W2, hW2⟩ : ∃ W2, W2 = ((w.alloc (.cells #[.int .i64 kk, .float .f64 num, .string ⟨str.toArray⟩, .slice A n c, .slice A2 m c2] 27)).alloc (.cells #[.int .i64 0, .float .f64 0, .string ⟨#[]⟩, .slice none 0 0, .slice none 0 0] 27)).alloc (.cells #[.int .i64 kk, .float .f64 num, .string ⟨str.toArray⟩, .slice A n c, .slice A2 m c2] 27) := ⟨_, rfl⟩
    have hb2 : Below w.heap.size w W2 := by rw [hW2]; exact below_boxes _ _ _ _
    have hs2 : W2.heap.size = w.heap.size + 1 + 1 + 1 := by rw [hW2]; simp
    have v3 : W2.cell? ⟨w.heap.size, 3, none⟩ = some (.slice A n c) := by rw [hW2]; exact (boxes3 w _ _ _ _ _ _ 3).1
    have v4 : W2.cell? ⟨w.heap.size, 4, none⟩ = some (.slice A2 m c2) := by rw [hW2]; exact (boxes3 w _ _ _ _ _ _ 4).1
    have r1 : W2.heap[w.heap.size + 1]? = some (.cells #[.int .i64 0, .float .f64 0, .string ⟨#[]⟩, .slice none 0 0, .slice none 0 0] 27 (0, 0)) := by
      rw [hW2, Below.heap_alloc _ _ _ (by simp)]
      exact hlNew1 w _ _
    have r2 : W2.heap[w.heap.size + 1 + 1]? = some (.cells #[.int .i64 kk, .float .f64 num, .string ⟨str.toArray⟩, .slice A n c, .slice A2 m c2] 27 (0, 0)) := by
      have := heap_alloc_new ((w.alloc (.cells #[.int .i64 kk, .float .f64 num, .string ⟨str.toArray⟩, .slice A n c, .slice A2 m c2] 27)).alloc (.cells #[.int .i64 0, .float .f64 0, .string ⟨#[]⟩, .slice none 0 0, .slice none 0 0] 27)) (.cells #[.int .i64 kk, .float .f64 num, .string ⟨str.toArray⟩, .slice A n c, .slice A2 m c2] 27)
      rw [hW2]
      simpa using this
    have HW2 := Lib.hid hW2
    clear hW2
    have hlenK : (strCs keys).length = m * 1 := by have := HM.out; simp [strCs]; omega
    have hO : OwnG 9 1 W2.heap.size (W2.alloc (.cells #[] 9)) (.slice (some ⟨W2.heap.size, 0, none⟩) 0 0) 0 [] := World.ownsRow_made W2 #[] 0 (Nat.le_refl _) (by decide) (by simp)
    have hA0 := AppG.start hO (by simp)
    have hAt2 := (hAt.below hb2).below ((Below.refl _ _).alloc (Nat.le_refl _) (.cells #[] 9))
    have h1K := strCs_one keys
    -- what stands behind the keys' copy
    have after3 : ∀ vK w3, AppG 9 1 W2.heap.size (W2.alloc (.cells #[] 9)) (.slice (some ⟨W2.heap.size, 0, none⟩) 0 0) 0 [] w3 vK (0 + m) ([] ++ strCs keys) → Hid (w3.heap[w.heap.size + 1 + 1]? = some (.cells #[.int .i64 kk, .float .f64 num, .string ⟨str.toArray⟩, .slice A n c, .slice A2 m c2] 27 (0, 0)) ∧ w3.heap[w.heap.size + 1]? = some (.cells #[.int .i64 0, .float .f64 0, .string ⟨#[]⟩, .slice none 0 0, .slice none 0 0] 27 (0, 0)) ∧ w3.cell? ⟨w.heap.size, 3, none⟩ = some (.slice A n c) ∧ Below w.heap.size w w3 ∧ W2.heap.size ≤ w3.heap.size ∧ OwnG 9 1 W2.heap.size w3 vK m (strCs keys)) := by
      intro vK w3 hA
      have hk := hA.keep
      have hb : Below W2.heap.size W2 w3 := hA.below_of ((Below.refl _ _).alloc (Nat.le_refl _) _) (Nat.le_refl _) (fun k hk => by simp [Value.ownBlock] at hk; omega)
      refine Lib.hid ⟨(hb.block _ (by omega)).trans r2, (hb.block _ (by omega)).trans r1, (hb.cell (World.block_lt_of_cell? W2 _ v3)).trans v3, hb2.trans (hb.mono (by omega)), hb.size, ?_⟩
      have := hA.own
      simpa using this
    have HAf := Lib.hid after3
    have Hs2 := Lib.hid hs2
    have u4 : (W2.alloc (.cells #[] 9)).cell? ⟨w.heap.size, 4, none⟩ = some (.slice A2 m c2) := (((Below.refl _ W2).alloc (Nat.le_refl _) (.cells #[] 9)).cell (p := ⟨w.heap.size, 4, none⟩) (World.block_lt_of_cell? W2 _ v4)).trans v4
    clear after3 hO hAt hs2
    go_enter Tryz.func6, Tryz.ntmps6
    go_upto_region 2 with (refine wpList_store_row rfl 27 (.tmp 3) (.tmp 5) rfl _ #[.int .i64 kk, .float .f64 num, .string ⟨str.toArray⟩, .slice A n c, .slice A2 m c2] rfl rfl 27 #[.int .i64 0, .float .f64 0, .string ⟨#[]⟩, .slice none 0 0, .slice none 0 0] (by have := heap_alloc_new ((w.alloc (.cells #[.int .i64 kk, .float .f64 num, .string ⟨str.toArray⟩, .slice A n c, .slice A2 m c2] 27)).alloc (.cells #[.int .i64 0, .float .f64 0, .string ⟨#[]⟩, .slice none 0 0, .slice none 0 0] 27)) (.cells #[.int .i64 0, .float .f64 0, .string ⟨#[]⟩, .slice none 0 0, .slice none 0 0] 27); simpa using this) (by kernel_rfl) rfl (one5 kk num ⟨str.toArray⟩ A A2 n c m c2) ?_; rw [show w.heap.size + 1 + 1 = ((w.alloc (.cells #[.int .i64 kk, .float .f64 num, .string ⟨str.toArray⟩, .slice A n c, .slice A2 m c2] 27)).alloc (.cells #[.int .i64 0, .float .f64 0, .string ⟨#[]⟩, .slice none 0 0, .slice none 0 0] 27)).heap.size from (by simp), setRow_new])
    rw [← HW2.out]
    go_upto_region 3 with (at_builtin; refine appGs (n := 0) (k := 0) (xs := []) (l := []) eltStrs rfl _ _ rfl (strCs keys) m c2 A2 hlenK rfl rfl hAt2 h1K hA0 (by unfold maxLen; omega) (by omega) ?_; intro vK w3 hA3; have F3 := HAf.out vK w3 hA3; clear hA3 hA0 hAt2 v3 v4 u4 r1 r2; obtain ⟨r2, r1, v3, hb3, hs3, hOK⟩ := F3.out; obtain ⟨Ak, ck, rfl⟩ := hOK.shape; have z4 := Go.Proofs.YticaihfcnbehpaaGreatDoor.frozen_of_heap 4 r2; have y4 := Go.Proofs.YticaihfcnbehpaaGreatDoor.cell_of_heap (j := 4) r2 rfl)
    clear HAf h1K hlenK
    have hS := Hs2.out
    have r4 := Go.heap_setCell_same _ _ 4 _ _ (Value.slice Ak m ck) r2
    simp only [List.setIfInBounds_toArray, List.set_cons_succ, List.set_cons_zero] at r4
    have k4 := keep_set w3 (w.heap.size + 1 + 1) 4 (.slice Ak m ck) (.slice none 0 0)
    obtain ⟨W3, hW3⟩ : ∃ W3, W3 = w3.setCell ⟨w.heap.size + 1 + 1, 4, none⟩ (.slice Ak m ck) := ⟨_, rfl⟩
    rw [← hW3] at r4 k4 ⊢
    clear hW3
    have r5 := Go.heap_setCell_same _ _ 3 _ _ (Value.slice none 0 0) r4
    simp only [List.setIfInBounds_toArray, List.set_cons_succ, List.set_cons_zero] at r5
    have k5 := keep_set W3 (w.heap.size + 1 + 1) 3 (.slice none 0 0) (.slice none 0 0)
    have kk5 := k4.trans k5 (fun _ _ h => h)
    have hno : ∀ b, b ≠ w.heap.size + 1 + 1 → ¬ (b = w.heap.size + 1 + 1 ∨ some b = (Value.slice none 0 0).ownBlock) := fun b hb e => by
      rcases e with e | e
      · exact hb e
      · cases e
    have HI0 : Hid (CpI w d kk num str keys list n c m A (W3.setCell ⟨w.heap.size + 1 + 1, 3, none⟩ (.slice none 0 0)) (.slice none 0 0) (.slice Ak m ck) 0 []) := Lib.hid
      ⟨r5, kk5.heap r1 (hno _ (by omega)), kk5.cell v3 (hno _ (by omega)), hb3.trans (kk5.below hb3.size (fun b hb => hno b (by omega))), Nat.le_trans (by omega) kk5.size,
        (hOK.mono (by omega)).keep kk5 (fun b hb => hno b (by have := hOK.lt b hb; omega)), OwnG.nil _ _ _ _, fun b hb => by simp [Value.ownBlock] at hb, fun i _ hi => by omega⟩
    have z3 := Go.Proofs.YticaihfcnbehpaaGreatDoor.frozen_of_heap 3 r4
    have y3 := Go.Proofs.YticaihfcnbehpaaGreatDoor.cell_of_heap (j := 3) r4 rfl
    clear r2 r1 v3 hb3 hs3 hOK z4 y4 k4 k5 kk5 r5 hno hS hb2
    have R4 := Lib.hid r4
    clear r4
    go_upto_region 4 with fail
    clear z3 y3
    obtain ⟨W4, hW4⟩ : ∃ W4, W4 = W3.setCell ⟨w.heap.size + 1 + 1, 3, none⟩ (.slice none 0 0) := ⟨_, rfl⟩
    rw [← hW4] at HI0 ⊢
    clear hW4 R4
    go_wp2_with fail
    go_loopw [4] (fun i wr => ∃ (k : Nat) (xs : List Value) (A3 : Option Addr) (e3 : Nat), k ≤ n ∧ i = .int .i64 k ∧ Hid (CpI w d kk num str keys list n c m A wr (.slice A3 k e3) (.slice Ak m ck) k xs)) (fun i _ => n - (intOf i).toNat)
    case atStart => exact ⟨0, [], none, 0, Nat.zero_le _, rfl, HI0⟩
    case round =>
      clear HI0
      obtain ⟨k, xs, A3, e3, hk, rfl, HC⟩ := hrel
      rcases Nat.lt_or_ge k n with hlt | hge
      · have hkl2 : k < list.length := by have := HN.out; omega
        obtain ⟨ad, rfl, kk', nn', ss', B3, n3, f3, B4, n4, f4, hx5, hx⟩ := HT.out k hkl2
        have in3 := HC.out.in3
        have hx5' := hx5.below HC.out.below
        obtain ⟨g0, g1, g2, g3, g4⟩ := hx5'
        have q3 := Go.Proofs.YticaihfcnbehpaaGreatDoor.cell_of_heap (j := 3) HC.out.row2 rfl
        have HCall : Hid (∀ W, Below wr.heap.size wr W → Calls Tryz.prog 6 #[.agg #[.int .i64 kk', .float .f64 nn', .string ss', .slice B3 n3 f3, .slice B4 n4 f4]] W fun e w' => ∃ (kz : Int) (nz : Nat) (sz : ByteArray) (C3 : Option Addr) (l3 h3 : Nat) (C4 : Option Addr) (l4 h4 : Nat), RepP (fun b => wr.heap.size ≤ b) d w' list[k] (.int .i64 kz) (.float .f64 nz) (.string sz) (.slice C3 l3 h3) (.slice C4 l4 h4) ∧
            e = .returned (.agg #[.int .i64 kz, .float .f64 nz, .string sz, .slice C3 l3 h3, .slice C4 l4 h4]) ∧ Below wr.heap.size wr w') := Lib.hid (fun W hW => (HI.out list[k] W _ _ _ _ _ ((hx.below HC.out.below).below hW)).mono (fun e w' ⟨kz, nz, sz, C3, l3, h3, C4, l4, h4, hz, he, hb⟩ =>
            ⟨kz, nz, sz, C3, l3, h3, C4, l4, h4, hz.keep (Keep.refl (fun _ => False) _) (fun b _ hP => ⟨fun h => h, Nat.le_trans hW.size hP⟩), he, Below.also hW hb⟩))
        have K : Hid (∀ W, Keep (fun b => some b = (Value.slice A3 k e3).ownBlock ∨ b = w.heap.size + 1 + 1) wr W → W.cell? ⟨w.heap.size, 3, none⟩ = some (.slice (some ad) n c) ∧ Cells5 W (ad.add (k * 5)) (.int .i64 kk') (.float .f64 nn') (.string ss') (.slice B3 n3 f3) (.slice B4 n4 f4)) := Lib.hid (fun W hW => by
          have hlt3 := HC.out.own.lt
          have hbk := World.block_lt_of_cell? w _ hx5.1
          have hno : ∀ b, b < w.heap.size + 1 → ¬ (some b = (Value.slice A3 k e3).ownBlock ∨ b = w.heap.size + 1 + 1) := by
            rintro b hb (e | e)
            · have := hlt3 b e.symm; omega
            · omega
          exact ⟨hW.cell in3 (hno _ (by omega)), (hx5.below HC.out.below).keep hW (hno _ (by omega))⟩)
        have K2 : Hid (∀ W, Below wr.heap.size wr W → W.cell? ⟨w.heap.size + 1 + 1, 3, none⟩ = some (.slice A3 k e3)) := Lib.hid (fun W hW => (hW.cell (World.block_lt_of_cell? wr _ q3)).trans q3)
        have q3' := K2.out _ (Below.refl _ wr).drew
        clear hx hx5
        go_wp2_with fail
        obtain ⟨i3, i0, i1, i2, i4, i5⟩ := K.out _ (Keep.of_below (Below.refl _ wr).drew)
        go_region_law
          (first
          | (refine stepG (n := k) (k := 0) (xs := xs) (l := []) (w := w2) (v := .slice A3 k e3) (v1 := .slice A3 k e3) (B := w.heap.size + 3) eltVals rfl (.tmp 20) (.tmp 27) rfl [.int .i64 kz, .float .f64 nz, .string sz, .slice C3 l3 h3, .slice C4 l4 h4] 1 1 #[.int .i64 kz, .float .f64 nz, .string sz, .slice C3 l3 h3, .slice C4 l4 h4] 27 rfl (by simp [Act.eval, Act.put]) (by simp [Act.eval, Act.put]) rfl (five_one _ _ _ _ _ _ _ _ _) ((AppG.start (HC.out.own.below hbx) (Nat.le_trans HC.out.size hbx.size)).below (by first | exact Below.refl _ _ | exact (Below.refl _ _).drew | exact (Below.refl _ _).drew.drew)) (by unfold maxLen; omega) (by omega) ?_; intro v2 w4 hA2; have hN := Lib.hid (HC.out.next hbx hkl2 hz hA2); have r2' := HC.out.mid hbx hA2; have hk4 := (Keep.of_below (S := fun b => some b = (Value.slice A3 k e3).ownBlock ∨ b = w.heap.size + 1 + 1) hbx).trans hA2.keep (fun _ _ h => .inl h); have y := Go.Proofs.YticaihfcnbehpaaGreatDoor.cell_of_heap (j := 3) r2' rfl; have zf := Go.Proofs.YticaihfcnbehpaaGreatDoor.frozen_of_heap 3 r2'; obtain ⟨A3', e3', rfl⟩ := hA2.own.shape; clear r2' hA2)
          | (go_simp; go_wp2_with (go_at_call 6; refine (HCall.out _ (by first | exact Below.refl _ _ | exact (Below.refl _ _).drew | exact (Below.refl _ _).drew.drew | exact (Below.refl _ _).drew.drew.drew)).mono ?_; rintro e' w2 ⟨kz, nz, sz, C3, l3, h3, C4, l4, h4, hz, rfl, hbx⟩); have s3 := K2.out w2 hbx; have s4 := K2.out _ (Below.more hbx (.cells #[.int .i64 kz, .float .f64 nz, .string sz, .slice C3 l3 h3, .slice C4 l4 h4] 27)); have s5 := K2.out _ (Below.more hbx.drew (.cells #[.int .i64 kz, .float .f64 nz, .string sz, .slice C3 l3 h3, .slice C4 l4 h4] 27))))
        all_goals
          clear y zf hk4 hbx s3 s4 s5 g0 g1 g2 g3 g4 in3 q3 q3' i0 i1 i2 i3 i4 i5
          go_wp2_with fail
          go_roundw
          case rel => exact ⟨k + 1, _, A3', e3', by omega, by go_num, hN⟩
          case measure => simp [intOf]; omega
      · obtain rfl : k = n := by omega
        have in3 := HC.out.in3
        have h1 := HC.out.row1
        have h2 := HC.out.row2
        have c0 := Go.Proofs.YticaihfcnbehpaaGreatDoor.cell_of_heap (j := 0) h2 rfl
        have c1 := Go.Proofs.YticaihfcnbehpaaGreatDoor.cell_of_heap (j := 1) h2 rfl
        have c2' := Go.Proofs.YticaihfcnbehpaaGreatDoor.cell_of_heap (j := 2) h2 rfl
        have c3 := Go.Proofs.YticaihfcnbehpaaGreatDoor.cell_of_heap (j := 3) h2 rfl
        have c4 := Go.Proofs.YticaihfcnbehpaaGreatDoor.cell_of_heap (j := 4) h2 rfl
        have H1 := Lib.hid h1
        clear h1 h2
        go_wp2_with (refine wpList_store_row rfl 27 (.tmp 2) (.tmp 30) rfl (w.heap.size + 1) #[.int .i64 kk, .float .f64 num, .string ⟨str.toArray⟩, .slice A3 k e3, .slice Ak m ck] rfl rfl 27 #[.int .i64 0, .float .f64 0, .string ⟨#[]⟩, .slice none 0 0, .slice none 0 0] H1.out (by kernel_rfl) rfl (one5 kk num ⟨str.toArray⟩ A3 Ak k e3 m ck) ?_)
        refine bodyPost_ret (results_cell_row rfl _ _ (w.heap.size + 1) 27 _ (0, 0) _ rfl (setRow_heap _ _ _ _ _ _ H1.out) Tryz.underlying27 rfl (by kernel_rfl)) rfl ?_
        exact ⟨kk, num, ⟨str.toArray⟩, A3, k, e3, Ak, m, ck, HC.out.done HN.out HM.out hnum hstr hll hkl HKl.out (keep_setRow _ _ _), rfl, Go.Proofs.YticaihfcnbehpaaGreatDoor.below_setRow HC.out.below (by omega) _⟩
end Go.Proofs.YticaihfcnbehpaaGreatDoor
