/- In one text: The document's answer: Copy: a value of its own memory.; A row of strings as values. -/
import Derived.Test.YtpfamfkdfbcooaaGreatDoorVap
import Derived.Test.YtpfamfkdfbcooaaGreatDoorKer
import Derived.Test.YtpfamfkdfbcooaaGreatDoorHds
import Derived.Test.YtpfamfkdfbcooaaGreatDoorFhq
import Derived.Test.YtpfamfkdfbcooaaGreatDoorLxx
import Derived.Test.YtpfamfkdfbcooaaGreatDoorFbd
import Derived.Deep.RegionLaw
set_option linter.unusedVariables false
set_option linter.unusedSimpArgs false
/- The document's answer: Copy: a value of its own memory. -/
namespace Go.Proofs.YtpfamfkdfbcooaaGreatDoor
open Go Go.RowKit Go.Proofs
/-- A tree whose blocks all are such. -/
def RepP (P : Nat → Prop) : Nat → World → Tr → Value → Value → Value → Value → Value → Prop
  | 0, _, _, _, _, _, _, _ => False
  | d + 1, w, .mk k num str keys list, x0, x1, x2, x3, x4 =>
    x0 = .int .i64 k ∧ x1 = .float .f64 num ∧ x2 = .string ⟨str.toArray⟩ ∧ num < 18446744073709551616 ∧ str.length ≤ 1048576 ∧ list.length ≤ 1048576 ∧ keys.length ≤ 1048576 ∧
    ∃ A c A2 c2, x3 = .slice A list.length c ∧ x4 = .slice A2 keys.length c2 ∧
      (∀ i (h : i < list.length), ∃ ad, A = some ad ∧ P ad.block ∧ ∃ y0 y1 y2 y3 y4, Cells5 w (ad.add (i * 5)) y0 y1 y2 y3 y4 ∧ RepP P d w list[i] y0 y1 y2 y3 y4) ∧
      (∀ i (h : i < keys.length), keys[i].length ≤ 1048576 ∧ ∃ ad, A2 = some ad ∧ P ad.block ∧ w.cell? (ad.add i) = some (.string ⟨keys[i].toArray⟩)) ∧ keys.length ≤ c2 ∧ list.length ≤ c ∧ (A2 = none → c2 = 0) ∧ (A = none → c = 0)
theorem RepP.rep {P : Nat → Prop} : ∀ {d : Nat} {w : World} {t : Tr} {x0 x1 x2 x3 x4 : Value}, RepP P d w t x0 x1 x2 x3 x4 → Rep d w t x0 x1 x2 x3 x4
  | 0, _, _, _, _, _, _, _, h => h.elim
  | d + 1, w, .mk k num str keys list, x0, x1, x2, x3, x4, h => by
    obtain ⟨h1, h2, h3, h4, h5, h6, h7, A, c, A2, c2, e3, e4, hL, hK, hr⟩ := h
    refine ⟨h1, h2, h3, h4, h5, h6, h7, A, c, A2, c2, e3, e4, fun i hi => ?_, fun i hi => ?_, hr⟩
    · obtain ⟨ad, e, _, y0, y1, y2, y3, y4, h5, hRi⟩ := hL i hi
      exact ⟨ad, e, y0, y1, y2, y3, y4, h5, hRi.rep⟩
    · obtain ⟨hk, ad, e, _, hc⟩ := hK i hi
      exact ⟨hk, ad, e, hc⟩
theorem Cells5.keep {S : Nat → Prop} {w w' : World} {a : Addr} {x0 x1 x2 x3 x4 : Value} (h : Cells5 w a x0 x1 x2 x3 x4) (hk : Keep S w w') (hn : ¬ S a.block) : Cells5 w' a x0 x1 x2 x3 x4 := by
  have hl : a.block < w.heap.size := World.block_lt_of_cell? w a h.1
  have hb := hk.block a.block hl hn
  have go : ∀ {q : Addr} {u : Value}, q.block = a.block → w.cell? q = some u → w'.cell? q = some u := fun hq hc => (World.cell?_of_block (by rw [hq]; exact hb)).trans hc
  exact ⟨go rfl h.1, go rfl h.2.1, go rfl h.2.2.1, go rfl h.2.2.2.1, go rfl h.2.2.2.2⟩
/-- What does not write there does not turn it. -/
theorem RepP.keep {P P' S : Nat → Prop} : ∀ {d : Nat} {w w' : World} {t : Tr} {x0 x1 x2 x3 x4 : Value}, RepP P d w t x0 x1 x2 x3 x4 → Keep S w w' → (∀ k, k < w.heap.size → P k → ¬ S k ∧ P' k) → RepP P' d w' t x0 x1 x2 x3 x4
  | 0, _, _, _, _, _, _, _, _, h, _, _ => h.elim
  | d + 1, w, w', .mk k num str keys list, x0, x1, x2, x3, x4, h, hk, hp => by
    obtain ⟨h1, h2, h3, h4, h5, h6, h7, A, c, A2, c2, e3, e4, hL, hK, hr⟩ := h
    refine ⟨h1, h2, h3, h4, h5, h6, h7, A, c, A2, c2, e3, e4, fun i hi => ?_, fun i hi => ?_, hr⟩
    · obtain ⟨ad, e, hP, y0, y1, y2, y3, y4, h5, hRi⟩ := hL i hi
      have hl : ad.block < w.heap.size := by
        have := World.block_lt_of_cell? w _ h5.1
        rwa [show (ad.add (i * 5)).block = ad.block by unfold Addr.add; split <;> rfl] at this
      obtain ⟨q1, q2⟩ := hp _ hl hP
      exact ⟨ad, e, q2, y0, y1, y2, y3, y4, h5.keep hk (by rw [show (ad.add (i * 5)).block = ad.block by unfold Addr.add; split <;> rfl]; exact q1), hRi.keep hk hp⟩
    · obtain ⟨hkk, ad, e, hP, hc⟩ := hK i hi
      have hl : ad.block < w.heap.size := by
        have := World.block_lt_of_cell? w _ hc
        rwa [show (ad.add i).block = ad.block by unfold Addr.add; split <;> rfl] at this
      obtain ⟨q1, q2⟩ := hp _ hl hP
      refine ⟨hkk, ad, e, q2, ?_⟩
      have hb := hk.block _ hl q1
      exact (World.cell?_of_block (by rw [show (ad.add i).block = ad.block by unfold Addr.add; split <;> rfl]; exact hb)).trans hc
theorem RepP.shape {P : Nat → Prop} {d : Nat} {w : World} {t : Tr} {y0 y1 y2 y3 y4 : Value} (h : RepP P d w t y0 y1 y2 y3 y4) : ∃ (kk : Int) (nn : Nat) (ss : ByteArray) (A3 : Option Addr) (n3 e3 : Nat) (A4 : Option Addr) (n4 e4 : Nat), y0 = .int .i64 kk ∧ y1 = .float .f64 nn ∧ y2 = .string ss ∧ y3 = .slice A3 n3 e3 ∧ y4 = .slice A4 n4 e4 := rep_shape h.rep
theorem eltVals : Elt 24 27 5 80 (.agg #[.int .i64 0, .float .f64 0, .string ⟨#[]⟩, .slice none 0 0, .slice none 0 0]) := ⟨Tryz.underlying24, by kernel_rfl, rfl, by decide⟩
section
variable {ops : Array Oper} {o : Oper} {a : Act} {K : Act → World → Prop} {Q : Exit → Act → World → Prop} {X : Prop} {S E : TypeId} {size bytes : Nat} {z : Value}
/-- append(v, x), x in a new block, at a step of a region that draws its order. -/
theorem stepG {B n : Nat} {w : World} {v : Value} {xs l : List Value} {k : Nat} {W : World} {v1 : Value} (HE : Elt S E size bytes z) (hgd : o.guard = none) (s x : Operand) (ho : o.op = .call { callee := .builtin .append, args := #[s, x], argTypes := #[S, S] })
    (l2 : List Value) (m c : Nat) (arr : Array Value) (T : TypeId) (hm : l2.length = m * size) (hs : a.eval s = v1) (hx : a.eval x = .slice (some ⟨W.heap.size, 0, none⟩) m c) (harr : arr.toList = l2) (h1 : ∀ u ∈ l2, u.oneCell' = true)
    (hA : AppG E size B w v n xs W v1 k l) (hl : n + k + m ≤ maxLen) (hb : (n + k + m) * bytes ≤ 140737488355328)
    (h : ∀ v2 w2, AppG E size B w v n xs w2 v2 (k + m) (l ++ l2) → K (a.put o.dst v2) w2) :
    if Region.wanted o (yielded ops a.tmps) = true then Oper.wp Tryz.prog o a (W.alloc (.cells arr T)) K Q else X := by
  have hw : Region.wanted o (yielded ops a.tmps) = true := by simp [Region.wanted, hgd]
  rw [if_pos hw]
  obtain ⟨i0, hi, hz0, hz1, hz2⟩ := info_parts HE.info
  have hA2 := hA.below ((Below.refl _ _).alloc (Nat.le_refl _) (.cells arr T))
  have hnews : ∀ j u, l2[j]? = some u → (W.alloc (.cells arr T)).cell? ((⟨W.heap.size, 0, none⟩ : Addr).add j) = some u := by
    intro j u hu
    have hc := heap_alloc_new W (.cells arr T)
    rw [add_mk, Nat.zero_add]
    simp only [World.cell?, hc]
    rw [← Array.getElem?_toList, harr, hu]
    rfl
  obtain ⟨v', w', hr, h2, h3, _, h5⟩ := run_append_own_at (P := Tryz.prog) (W.alloc (.cells arr T)) B S o.type E i0 z size bytes HE.under hi hz0 hz1 hz2 HE.cells HE.pos v1 (n + k) (xs ++ l) hA2.own ⟨W.heap.size, 0, none⟩ m c l2 hm hnews h1 hl hb hA2.base
  have hnx : AppG E size B w v n xs w' v' (k + m) (l ++ l2) := by
    refine hA2.next h2 h3 ?_
    rcases h5 with hat | hat
    · exact .inl hat
    · exact .inr ⟨_, hat, Nat.le_refl _⟩
  unfold Oper.wp execOp
  simp only [ho, resolve, invoke, builtin, Sem.run_bind, Sem.run_pure, Result.andThen_ok, List.map_toArray, List.map_cons, List.map_nil, hs, hx, hr]
  exact h v' w' hnx
/-- append(v, x...), x any slice, at a step of a region that draws its order. -/
theorem stepGs {B n : Nat} {w : World} {v : Value} {xs l : List Value} {k : Nat} {W : World} {v1 : Value} (HE : Elt S E size bytes z) (hgd : o.guard = none) (s x : Operand) (ho : o.op = .call { callee := .builtin .append, args := #[s, x], argTypes := #[S, S] })
    (l2 : List Value) (m c : Nat) (A : Option Addr) (hm : l2.length = m * size) (hs : a.eval s = v1) (hx : a.eval x = .slice A m c) (hc : At W A m c l2) (h1 : ∀ u ∈ l2, u.oneCell' = true)
    (hA : AppG E size B w v n xs W v1 k l) (hl : n + k + m ≤ maxLen) (hb : (n + k + m) * bytes ≤ 140737488355328)
    (h : ∀ v2 w2, AppG E size B w v n xs w2 v2 (k + m) (l ++ l2) → K (a.put o.dst v2) w2) :
    if Region.wanted o (yielded ops a.tmps) = true then Oper.wp Tryz.prog o a W K Q else X := by
  have hw : Region.wanted o (yielded ops a.tmps) = true := by simp [Region.wanted, hgd]
  rw [if_pos hw]
  obtain ⟨i0, hi, hz0, hz1, hz2⟩ := info_parts HE.info
  cases A with
  | none =>
    obtain ⟨rfl, rfl, rfl⟩ := hc.1 rfl
    have hr := run_append_owned_none (P := Tryz.prog) (w := W) B S o.type E i0 size HE.under hi v1 (n + k) (xs ++ l) hA.own
    unfold Oper.wp execOp
    simp only [ho, resolve, invoke, builtin, Sem.run_bind, Sem.run_pure, Result.andThen_ok, List.map_toArray, List.map_cons, List.map_nil, hs, hx, hr]
    exact h v1 W (by simpa using hA)
  | some ad =>
    obtain ⟨v', w', hr, h2, h3, _, h5⟩ := run_append_own_at (P := Tryz.prog) W B S o.type E i0 z size bytes HE.under hi hz0 hz1 hz2 HE.cells HE.pos v1 (n + k) (xs ++ l) hA.own ad m c l2 hm (hc.2 ad rfl) h1 hl hb hA.base
    have hnx : AppG E size B w v n xs w' v' (k + m) (l ++ l2) := by
      refine hA.next h2 h3 ?_
      rcases h5 with hat | hat
      · exact .inl hat
      · exact .inr ⟨_, hat, Nat.le_refl _⟩
    unfold Oper.wp execOp
    simp only [ho, resolve, invoke, builtin, Sem.run_bind, Sem.run_pure, Result.andThen_ok, List.map_toArray, List.map_cons, List.map_nil, hs, hx, hr]
    exact h v' w' hnx
end
theorem five_one (kz : Int) (nz : Nat) (sz : ByteArray) (C3 : Option Addr) (l3 h3 : Nat) (C4 : Option Addr) (l4 h4 : Nat) : ∀ u ∈ [Value.int .i64 kz, .float .f64 nz, .string sz, .slice C3 l3 h3, .slice C4 l4 h4], u.oneCell' = true := by
  intro u hu
  simp only [List.mem_cons, List.not_mem_nil, or_false] at hu
  rcases hu with rfl | rfl | rfl | rfl | rfl <;> rfl
theorem keep_setRow (w : World) (g : Nat) (cs : Array Value) : Keep (fun b => b = g) w (w.setRow g cs) :=
  ⟨rfl, rfl, rfl, by simp [World.setRow], fun k _ hn => setRow_other w g k cs hn⟩
/-- What a copy is: a tree in new blocks. -/
def CopyP (d : Nat) (t : Tr) (w : World) (e : Ending) (w' : World) : Prop :=
  ∃ (kk : Int) (nn : Nat) (ss : ByteArray) (A3 : Option Addr) (n3 e3 : Nat) (A4 : Option Addr) (n4 e4 : Nat), RepP (fun b => w.heap.size ≤ b) d w' t (.int .i64 kk) (.float .f64 nn) (.string ss) (.slice A3 n3 e3) (.slice A4 n4 e4) ∧
    e = .returned (.agg #[.int .i64 kk, .float .f64 nn, .string ss, .slice A3 n3 e3, .slice A4 n4 e4]) ∧ Below w.heap.size w w'
/-- The values copied so far: k of them, in the cells xs. -/
def Got (B0 : Nat) (d : Nat) (w : World) (v : Value) (list : List Tr) (k : Nat) (xs : List Value) : Prop :=
  ∀ i (h : i < list.length), i < k → ∃ z0 z1 z2 z3 z4, (xs.drop (i * 5)).take 5 = [z0, z1, z2, z3, z4] ∧ RepP (fun b => B0 ≤ b ∧ v.ownBlock ≠ some b) d w list[i] z0 z1 z2 z3 z4
theorem Got.next {B0 d : Nat} {w w1 : World} {v v1 : Value} {list : List Tr} {k : Nat} {xs : List Value} {z0 z1 z2 z3 z4 : Value} (h : Got B0 d w v list k xs) (hx : xs.length = k * 5) (hk : k < list.length) {S : Nat → Prop} (hkeep : Keep S w w1)
    (hS : ∀ b, b < w.heap.size → B0 ≤ b → v.ownBlock ≠ some b → ¬ S b ∧ v1.ownBlock ≠ some b) (hz : RepP (fun b => B0 ≤ b ∧ v1.ownBlock ≠ some b) d w1 list[k] z0 z1 z2 z3 z4) : Got B0 d w1 v1 list (k + 1) (xs ++ [z0, z1, z2, z3, z4]) := by
  intro i hi hik
  by_cases e : i = k
  · subst e
    refine ⟨z0, z1, z2, z3, z4, ?_, hz⟩
    rw [← hx, List.drop_left]
    rfl
  · obtain ⟨y0, y1, y2, y3, y4, h1, h2⟩ := h i hi (by omega)
    refine ⟨y0, y1, y2, y3, y4, ?_, h2.keep hkeep (fun b hb hP => ?_)⟩
    · rw [← h1, List.drop_append_of_le_length (by omega), List.take_append_of_le_length (by rw [List.length_drop]; omega)]
    · obtain ⟨q1, q2⟩ := hS b hb hP.1 hP.2
      exact ⟨q1, hP.1, q2⟩
theorem OwnG.nil_cap {E : TypeId} {size B n : Nat} {w : World} {xs : List Value} {m c : Nat} (h : OwnG E size B w (.slice none m c) n xs) : c = 0 := by
  rcases h.2 with ⟨e, _⟩ | ⟨g, cap, cur, e, _⟩
  · injection e
  · injection e with e; cases e
/-- How things stand in a round of Copy: the copy's box, the keys' copy, the values copied so far. -/
structure CpI (w : World) (d : Nat) (kk : Int) (num : Nat) (str : Txt) (keys : List Txt) (list : List Tr) (n c m : Nat) (A : Option Addr) (wr : World) (v vK : Value) (k : Nat) (xs : List Value) : Prop where
  row2 : wr.heap[w.heap.size + 1 + 1]? = some (.cells #[.int .i64 kk, .float .f64 num, .string ⟨str.toArray⟩, v, vK] 27 (0, 0))
  row1 : wr.heap[w.heap.size + 1]? = some (.cells #[.int .i64 0, .float .f64 0, .string ⟨#[]⟩, .slice none 0 0, .slice none 0 0] 27 (0, 0))
  in3 : wr.cell? ⟨w.heap.size, 3, none⟩ = some (.slice A n c)
  below : Below w.heap.size w wr
  size : w.heap.size + 3 ≤ wr.heap.size
  ownK : OwnG 9 1 (w.heap.size + 3) wr vK m (strCs keys)
  own : OwnG 27 5 (w.heap.size + 3) wr v k xs
  ne : ∀ b, v.ownBlock = some b → vK.ownBlock ≠ some b
  got : Got (w.heap.size + 3) d wr v list k xs
theorem CpI.next {w : World} {d : Nat} {kk : Int} {num : Nat} {str : Txt} {keys : List Txt} {list : List Tr} {n c m : Nat} {A : Option Addr} {wr w2 w4 : World} {v v2 vK : Value} {k : Nat} {xs : List Value} {z0 z1 z2 z3 z4 : Value} (h : CpI w d kk num str keys list n c m A wr v vK k xs)
    (hb : Below wr.heap.size wr w2) (hk : k < list.length) (hz : RepP (fun b => wr.heap.size ≤ b) d w2 list[k] z0 z1 z2 z3 z4) (hA : AppG 27 5 (w.heap.size + 3) w2 v k xs w4 v2 (0 + 1) ([] ++ [z0, z1, z2, z3, z4])) :
    CpI w d kk num str keys list n c m A (w4.setCell ⟨w.heap.size + 1 + 1, 3, none⟩ v2) v2 vK (k + 1) (xs ++ [z0, z1, z2, z3, z4]) := by
  have hs := h.size
  have hs2 := hb.size
  have hs4 := hA.keep.size
  have hlt := h.own.lt
  have hltK := h.ownK.lt
  have hnew : ∀ b, v2.ownBlock = some b → v.ownBlock = some b ∨ w2.heap.size ≤ b := by
    intro b hb2
    rcases hA.at_ with e | ⟨b', e, e2⟩
    · exact .inl (e ▸ hb2)
    · rw [e] at hb2
      obtain rfl := Option.some.inj hb2
      exact .inr e2
  have hk24 : Keep (fun b => some b = v.ownBlock) wr w4 := (Keep.of_below (S := fun b => some b = v.ownBlock) hb).trans hA.keep (fun _ _ h => h)
  have hk25 : Keep (fun b => some b = v.ownBlock ∨ b = w.heap.size + 1 + 1) w2 (w4.setCell ⟨w.heap.size + 1 + 1, 3, none⟩ v2) := (hA.keep.mono (fun _ _ h => .inl h)).set (.inl (.inr rfl)) v2
  have hk5 : Keep (fun b => some b = v.ownBlock ∨ b = w.heap.size + 1 + 1) wr (w4.setCell ⟨w.heap.size + 1 + 1, 3, none⟩ v2) := (Keep.of_below (S := fun b => some b = v.ownBlock ∨ b = w.heap.size + 1 + 1) hb).trans hk25 (fun _ _ h => h)
  have hno : ∀ b, b < w.heap.size + 1 + 1 → ¬ (some b = v.ownBlock ∨ b = w.heap.size + 1 + 1) := by
    rintro b hb2 (e | e)
    · have := hlt b e.symm; omega
    · omega
  refine ⟨?_, hk5.heap h.row1 (hno _ (by omega)), hk5.cell h.in3 (hno _ (by omega)), h.below.trans (hk5.below h.below.size (fun b hb2 => hno b (by omega))), Nat.le_trans hs hk5.size, ?_, ?_, ?_, ?_⟩
  · have q := hk24.heap h.row2 (fun e => by have := hlt _ e.symm; omega)
    simpa using Go.heap_setCell_same _ _ 3 _ _ v2 q
  · exact h.ownK.keep hk5 (fun b hb2 => by
      rintro (e | e)
      · exact h.ne b e.symm hb2
      · have := hltK b hb2; omega)
  · have q := hA.own
    simp only [List.nil_append, Nat.zero_add] at q
    exact q.keep ((Keep.refl (fun b => b = w.heap.size + 1 + 1) w4).set (.inl rfl) v2) (fun b hb2 e => by
      rcases hnew b hb2 with e2 | e2
      · have := hlt b e2; omega
      · omega)
  · intro b hb2 hbK
    have := hltK b hbK
    rcases hnew b hb2 with e2 | e2
    · exact h.ne b e2 hbK
    · omega
  · refine h.got.next h.own.1 hk hk5 (fun b hb1 hb2 hb3 => ⟨?_, fun e => ?_⟩) (hz.keep hk25 (fun b hb1 hb2 => ⟨?_, by omega, fun e => ?_⟩))
    · rintro (e | e)
      · exact hb3 e.symm
      · omega
    · rcases hnew b e with e2 | e2
      · exact hb3 e2
      · omega
    · rintro (e | e)
      · have := hlt b e.symm; omega
      · omega
    · rcases hnew b e with e2 | e2
      · have := hlt b e2; omega
      · omega
theorem CpI.mid {w : World} {d : Nat} {kk : Int} {num : Nat} {str : Txt} {keys : List Txt} {list : List Tr} {n c m : Nat} {A : Option Addr} {wr w2 w4 : World} {v v2 vK : Value} {k : Nat} {xs l : List Value} (h : CpI w d kk num str keys list n c m A wr v vK k xs)
    (hb : Below wr.heap.size wr w2) (hA : AppG 27 5 (w.heap.size + 3) w2 v k xs w4 v2 (0 + 1) l) : w4.heap[w.heap.size + 1 + 1]? = some (.cells #[.int .i64 kk, .float .f64 num, .string ⟨str.toArray⟩, v, vK] 27 (0, 0)) :=
  ((Keep.of_below (S := fun b => some b = v.ownBlock) hb).trans hA.keep (fun _ _ h => h)).heap h.row2 (fun e => by have := h.own.lt _ e.symm; omega)
/-- The copy, when all is copied. -/
theorem CpI.done {w : World} {d : Nat} {kk : Int} {num : Nat} {str : Txt} {keys : List Txt} {list : List Tr} {n c m : Nat} {A : Option Addr} {wr w5 : World} {xs : List Value} {A3 A4 : Option Addr} {m3 e3 m4 e4 : Nat} (h : CpI w d kk num str keys list n c m A wr (.slice A3 m3 e3) (.slice A4 m4 e4) n xs)
    (hn : n = list.length) (hm : m = keys.length) (hnum : num < 18446744073709551616) (hstr : str.length ≤ 1048576) (hll : n ≤ 1048576) (hkl : m ≤ 1048576) (hKl : ∀ i (h : i < keys.length), keys[i].length ≤ 1048576) (hk : Keep (fun b => b = w.heap.size + 1) wr w5) :
    RepP (fun b => w.heap.size ≤ b) (d + 1) w5 (.mk kk num str keys list) (.int .i64 kk) (.float .f64 num) (.string ⟨str.toArray⟩) (.slice A3 m3 e3) (.slice A4 m4 e4) := by
  subst hn hm
  obtain ⟨l1, l2, l3⟩ := h.own.cells rfl
  obtain ⟨k1, k2, k3⟩ := h.ownK.cells rfl
  subst l1 k1
  refine ⟨rfl, rfl, rfl, hnum, hstr, hll, hkl, A3, e3, A4, e4, rfl, rfl, fun i hi => ?_, fun i hi => ?_, k2, l2, fun e => ?_, fun e => ?_⟩
  · obtain ⟨z0, z1, z2, z3, z4, hx, hz⟩ := h.got i hi hi
    have hxl : xs.length = list.length * 5 := h.own.1
    obtain ⟨g, rfl, hg, hc⟩ := l3 (by omega)
    have hb := (h.own.lt g hg).1
    have hat : ∀ j u, [z0, z1, z2, z3, z4][j]? = some u → w5.cell? ⟨g, i * 5 + j, none⟩ = some u := fun j u hu => by
      have hj : j < 5 := (List.getElem?_eq_some_iff.1 hu).1
      rw [← hx, List.getElem?_take, if_pos hj, List.getElem?_drop] at hu
      exact hk.cell (hc _ _ hu) (fun e => by omega)
    refine ⟨_, rfl, by show w.heap.size ≤ g; omega, z0, z1, z2, z3, z4, ?_, hz.keep hk (fun b hb1 hb2 => ⟨fun e => by omega, by omega⟩)⟩
    rw [add_mk, Nat.zero_add]
    exact ⟨hat 0 _ rfl, hat 1 _ rfl, hat 2 _ rfl, hat 3 _ rfl, hat 4 _ rfl⟩
  · have hxl : (strCs keys).length = keys.length := by simp [strCs]
    obtain ⟨g, rfl, hg, hc⟩ := k3 (by omega)
    have hb := (h.ownK.lt g hg).1
    refine ⟨hKl i hi, _, rfl, by show w.heap.size ≤ g; omega, ?_⟩
    rw [add_mk, Nat.zero_add]
    exact hk.cell (hc i _ (by unfold strCs; rw [List.getElem?_map, List.getElem?_eq_getElem hi]; rfl)) (fun e => by omega)
  · subst e; exact h.ownK.nil_cap
  · subst e; exact h.own.nil_cap
end Go.Proofs.YtpfamfkdfbcooaaGreatDoor
/- A row of strings as values. -/
namespace Go.Proofs.YtpfamfkdfbcooaaGreatDoor
open Go Go.RowKit Go.Proofs
def vS5 (s : List UInt8) : List Value := [.int .i64 4, .float .f64 0, .string ⟨s.toArray⟩, .slice none 0 0, .slice none 0 0]
def vSs (l : List (List UInt8)) : List Value := l.flatMap vS5
theorem vSs_snoc (l : List (List UInt8)) (s : List UInt8) : vSs (l ++ [s]) = vSs l ++ vS5 s := by simp [vSs]
theorem vS5_one (s : List UInt8) : ∀ u ∈ vS5 s, u.oneCell' = true := by
  intro u hu
  simp only [vS5, List.mem_cons, List.not_mem_nil, or_false] at hu
  rcases hu with rfl | rfl | rfl | rfl | rfl <;> rfl
theorem vSs_at : ∀ (l : List (List UInt8)) (i : Nat) (h : i < l.length) (j : Nat) (hj : j < 5), (vSs l)[i * 5 + j]? = (vS5 l[i])[j]?
  | a :: l, 0, _, j, hj => by
    show (vS5 a ++ vSs l)[0 * 5 + j]? = (vS5 a)[j]?
    rw [Nat.zero_mul, Nat.zero_add, List.getElem?_append_left (by show j < 5; exact hj)]
  | a :: l, i + 1, h, j, hj => by
    show (vS5 a ++ vSs l)[(i + 1) * 5 + j]? = (vS5 (l[i]'(by simpa using h)))[j]?
    rw [List.getElem?_append_right (by show 5 ≤ _; omega), ← vSs_at l i (by simpa using h) j hj]
    congr 1
    show (i + 1) * 5 + j - 5 = _
    omega
theorem vSs_len : ∀ l : List (List UInt8), (vSs l).length = 5 * l.length
  | [] => rfl
  | a :: l => by
    show (vS5 a ++ vSs l).length = _
    rw [List.length_append, vSs_len l, List.length_cons]
    show 5 + _ = _
    omega
def strT (s : List UInt8) : Tr := .mk 4 0 s [] []
def rowT5 (l : List (List UInt8)) : Tr := .mk 5 0 [] [] (l.map strT)
theorem row_own {W : World} {B n : Nat} {A : Option Addr} {c : Nat} {l : List (List UInt8)} (h : OwnG 27 5 B W (.slice A n c) n (vSs l)) (hn : n = l.length) (hl : n ≤ 1048576) (hs : ∀ s ∈ l, s.length ≤ 1048576) :
    RowAt W A (l.map strT) ∧ Rep 2 W (rowT5 l) (.int .i64 5) (.float .f64 0) (.string ⟨#[]⟩) (.slice A n c) (.slice none 0 0) := by
  subst hn
  obtain ⟨_, hc, hcs⟩ := h.cells rfl
  have hAc : A = none → c = 0 := by
    rcases h.2 with ⟨hv, _⟩ | ⟨g, cap, cur, hv, _⟩
    · injection hv with _ _ h3; exact fun _ => h3
    · injection hv with h1 _ _; intro e; rw [e] at h1; cases h1
  have key : ∀ i (hi : i < l.length), ∃ ad, A = some ad ∧ Cells5 W (ad.add (i * 5)) (.int .i64 4) (.float .f64 0) (.string ⟨l[i].toArray⟩) (.slice none 0 0) (.slice none 0 0) := fun i hi => by
    have hlen := vSs_len l
    obtain ⟨g, hg, _, hx⟩ := hcs (by rw [hlen]; omega)
    refine ⟨_, hg, ?_⟩
    rw [add_mk, Nat.zero_add]
    exact ⟨hx _ _ (by have := vSs_at l i hi 0 (by omega); rw [Nat.add_zero] at this; rw [this]; rfl), hx _ _ (by rw [vSs_at l i hi 1 (by omega)]; rfl), hx _ _ (by rw [vSs_at l i hi 2 (by omega)]; rfl), hx _ _ (by rw [vSs_at l i hi 3 (by omega)]; rfl), hx _ _ (by rw [vSs_at l i hi 4 (by omega)]; rfl)⟩
  have hlm : (l.map strT).length = l.length := by simp
  refine ⟨⟨by omega, fun i hi => ?_⟩, rfl, rfl, rfl, by decide, by decide, by omega, by decide, A, c, none, 0, by rw [hlm], rfl, fun i hi => ?_, fun i hi => absurd hi (Nat.not_lt_zero _), by decide, by omega, fun _ => rfl, hAc⟩
  · obtain ⟨ad, e, h5⟩ := key i (by omega)
    refine ⟨ad, e, ?_⟩
    rw [List.getElem_map]
    exact ⟨by decide, by decide, by decide, hs _ (List.getElem_mem _), _, _, _, _, _, _, h5⟩
  · obtain ⟨ad, e, h5⟩ := key i (by omega)
    refine ⟨ad, e, _, _, _, _, _, h5, ?_⟩
    rw [List.getElem_map]
    exact str_rep 0 W 4 0 _ (by decide) (hs _ (List.getElem_mem _))
theorem row_ok (l : List (List UInt8)) : Okp 2 (rowT5 l) := by
  refine ⟨by decide, by decide, fun h => (by cases h), fun i h => ?_⟩
  rw [List.getElem_map]
  exact ⟨by decide, by decide, fun _ => rfl, fun i h => absurd h (Nat.not_lt_zero _)⟩
theorem row_wt (l : List (List UInt8)) (h : (l.map fun s => s.length + 1).sum ≤ 1048576) : (textT 2 (rowT5 l)).length ≤ 130000000000 := by
  have h1 := textT_len 2 (rowT5 l)
  have h2 : wtT 2 (rowT5 l) ≤ 5 + 6 * (l.map fun s => s.length + 1).sum := by
    show 5 + 0 + 0 + ((l.map strT).map fun t => wtT 1 t + 1).sum ≤ _
    have : ∀ l : List (List UInt8), ((l.map strT).map fun t => wtT 1 t + 1).sum ≤ 6 * (l.map fun s => s.length + 1).sum := by
      intro l
      induction l with
      | nil => simp
      | cons s l ih =>
        rw [List.map_cons, List.map_cons, List.sum_cons, List.map_cons, List.sum_cons]
        have e : wtT 1 (strT s) = 5 + s.length := by simp [strT, wtT]
        omega
    have := this l
    omega
  omega
theorem row_text (w : World) (T : Tabs w) {A : Option Addr} {n c : Nat} {l : List (List UInt8)} (h : Rep 2 w (rowT5 l) (.int .i64 5) (.float .f64 0) (.string ⟨#[]⟩) (.slice A n c) (.slice none 0 0)) (hs : (l.map fun s => s.length + 1).sum ≤ 1048576) :
    ∀ W, Below w.heap.size w W → Calls Tryz.prog 35 #[.agg #[.int .i64 5, .float .f64 0, .string ⟨#[]⟩, .slice A n c, .slice none 0 0]] W fun e w' => e = .returned (.string ⟨(textT 2 (rowT5 l)).toArray⟩) ∧ Below W.heap.size W w' :=
  fun W hW => valueTextT_any W (T.next hW) 1 (rowT5 l) _ _ _ _ _ (h.below hW) (row_ok l) (by have h9 : (textT (1 + 1) (rowT5 l)).length ≤ 130000000000 := row_wt l hs; omega)
theorem row_cells (null : List UInt8) (Q : List UInt8 → List UInt8) (l : List (List UInt8)) : (l.map strT).map (cellT null Q) = l.map Q := by
  rw [List.map_map]
  refine List.map_congr_left fun s _ => ?_
  show cellT null Q (strT s) = Q s
  have e : cellT null Q (strT s) = if (4 : Int) = 0 then null else if (4 : Int) = 4 then Q s else plainT (4 : Int).toNat 0 s := rfl
  rw [e, if_neg (by decide), if_pos rfl]
/-- What the three formats make of the row. -/
structure RowF (W1 : World) (A : Option Addr) (n c : Nat) (l : List (List UInt8)) : Prop where
  csv : ∀ W, Below W1.heap.size W1 W → Calls Tryz.prog 11 #[.string ⟨#[99, 115, 118]⟩, .agg #[.int .i64 5, .float .f64 0, .string ⟨#[]⟩, .slice A n c, .slice none 0 0]] W fun e w' => e = .returned (outV (joinB 44 (l.map csvQ))) ∧ Below W.heap.size W w'
  tsv : ∀ W, Below W1.heap.size W1 W → Calls Tryz.prog 11 #[.string ⟨#[116, 115, 118]⟩, .agg #[.int .i64 5, .float .f64 0, .string ⟨#[]⟩, .slice A n c, .slice none 0 0]] W fun e w' => e = .returned (outV (joinB 9 (l.map tsvQ))) ∧ Below W.heap.size W w'
  sh : ∀ W, Below W1.heap.size W1 W → Calls Tryz.prog 11 #[.string ⟨#[115, 104]⟩, .agg #[.int .i64 5, .float .f64 0, .string ⟨#[]⟩, .slice A n c, .slice none 0 0]] W fun e w' => e = .returned (outV (joinB 32 (l.map shQ))) ∧ Below W.heap.size W w'
theorem row_formats {W1 : World} {B n : Nat} {A : Option Addr} {c : Nat} {l : List (List UInt8)} (T : Tabs W1) (h : OwnG 27 5 B W1 (.slice A n c) n (vSs l)) (hn : n = l.length) (hl : n ≤ 1048576) (hsum : (l.map fun s => s.length + 1).sum ≤ 1048576) (hs : ∀ s ∈ l, s.length ≤ 1048576) : RowF W1 A n c l := by
  obtain ⟨hR, hP⟩ := row_own h hn hl hs
  have hlm : (l.map strT).length = n := by simp [hn]
  have hz := row_wt l hsum
  have hx := row_text W1 T hP hsum
  refine ⟨fun W hW => ?_, fun W hW => ?_, fun W hW => ?_⟩
  · have := format_csv W (T.next hW) 0 ⟨#[]⟩ A c (l.map strT) (hR.below hW) none 0 0 (textT 2 (rowT5 l)) (by omega) (fun W2 h2 => by rw [hlm]; exact hx W2 (hW.trans (h2.mono hW.size)))
    rw [hlm, row_cells] at this
    exact this
  · have := format_tsv W (T.next hW) 0 ⟨#[]⟩ A c (l.map strT) (hR.below hW) none 0 0 (textT 2 (rowT5 l)) (by omega) (fun W2 h2 => by rw [hlm]; exact hx W2 (hW.trans (h2.mono hW.size)))
    rw [hlm, row_cells] at this
    exact this
  · have := format_sh W (T.next hW) 0 ⟨#[]⟩ A c (l.map strT) (hR.below hW) none 0 0 (textT 2 (rowT5 l)) (by omega) (fun W2 h2 => by rw [hlm]; exact hx W2 (hW.trans (h2.mono hW.size)))
    rw [hlm, row_cells] at this
    exact this
end Go.Proofs.YtpfamfkdfbcooaaGreatDoor
