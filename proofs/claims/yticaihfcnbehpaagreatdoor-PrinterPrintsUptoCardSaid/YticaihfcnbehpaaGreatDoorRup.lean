/- In one text: The document's printer: bytes on their way: put, token, sign, margin.; The document's printer: token, sign, margin. -/
import Derived.Test.YticaihfcnbehpaaGreatDoorFrp
import Derived.Test.YticaihfcnbehpaaGreatDoorOpr
import Derived.Lib.ConvBytes
import Derived.Lib.AtoiErrMem
import Derived.Lib.SlBytesConst
set_option linter.unusedVariables false
set_option linter.unusedSimpArgs false
/- The document's printer: bytes on their way: put, token, sign, margin. -/
namespace Go.Proofs.YticaihfcnbehpaaGreatDoor
open Go Go.RowKit Go.Proofs
theorem eltBytes : Elt 47 5 1 1 (.int .u8 0) := ⟨Tryz.underlying47, by kernel_rfl, rfl, by decide⟩
/-- The run at block b. -/
structure Rn (b : Nat) (S : Sty) (w : World) (v : Value) (st : St) : Prop where
  heap : w.heap[b]? = some (.cells #[.int .i64 S.ind, .bool S.tab, .bool S.srt, .bool S.asc, .bool S.col, v, .bool st.2] 56 (0, 0))
  own : OwnB b w v st.1
  len : st.1.length ≤ 16777216
structure RStep (b : Nat) (S : Sty) (w : World) (v : Value) (w' : World) (v' : Value) (st' : St) : Prop where
  now : Rn b S w' v' st'
  keep : Keep (fun k => k = b ∨ some k = v.ownBlock) w w'
  moved : v'.ownBlock = v.ownBlock ∨ ∃ k, v'.ownBlock = some k ∧ w.heap.size ≤ k
/-- A slice that holds bytes, away from the run. -/
def Byt (b : Nat) (w : World) (v x : Value) (l : List UInt8) : Prop :=
  ∃ A c, x = .slice A l.length c ∧ At w A l.length c (Lib.byteCells l) ∧ ∀ ad, A = some ad → ad.block < w.heap.size ∧ ad.block ≠ b ∧ v.ownBlock ≠ some ad.block
theorem cell_of_heap0 {W : World} {g j : Nat} {cs : Array Value} {t : TypeId} {fr : Nat × Nat} {u : Value} (h : W.heap[g]? = some (.cells cs t fr)) (hu : cs[j]? = some u) : W.cell? ⟨g, j, none⟩ = some u := by
  simp only [World.cell?, h]; exact hu
section
variable {b : Nat} {S : Sty} {w : World} {v : Value} {st : St}
theorem Rn.lt (h : Rn b S w v st) : b < w.heap.size := lt_of_heap h.heap
theorem Rn.ne (h : Rn b S w v st) : v.ownBlock ≠ some b := h.own.ne_of_type h.heap (by decide)
theorem Rn.below {w' : World} (h : Rn b S w v st) (hb : Below w.heap.size w w') : Rn b S w' v st := ⟨(hb.block b h.lt).trans h.heap, h.own.below hb, h.len⟩
theorem RStep.start (h : Rn b S w v st) : RStep b S w v w v st := ⟨h, Keep.refl _ _, .inl rfl⟩
theorem RStep.below {w1 w2 : World} {v1 : Value} {st1 : St} (h : RStep b S w v w1 v1 st1) (hb : Below w1.heap.size w1 w2) : RStep b S w v w2 v1 st1 :=
  ⟨h.now.below hb, h.keep.trans (S' := fun _ => False) (Keep.of_below hb) (fun _ _ h => h.elim), h.moved⟩
theorem RStep.join {w1 w2 : World} {v1 v2 : Value} {s1 s2 : St} (h : RStep b S w v w1 v1 s1) (k : RStep b S w1 v1 w2 v2 s2) : RStep b S w v w2 v2 s2 := by
  refine ⟨k.now, h.keep.trans k.keep ?_, ?_⟩
  · intro i hi he
    rcases he with he | he
    · exact .inl he
    rcases h.moved with h1 | ⟨c, h1, h2⟩
    · exact .inr (he.trans h1)
    · have : i = c := by rw [h1] at he; exact Option.some.inj he
      omega
  · rcases k.moved with h1 | ⟨c, h1, h2⟩
    · rw [h1]; exact h.moved
    · exact .inr ⟨c, h1, Nat.le_trans h.keep.size h2⟩
theorem RStep.below0 {w0 w1 : World} {v1 : Value} {s1 : St} (h : RStep b S w v w1 v1 s1) (hs : Rn b S w v st) (hb : w0.heap.size ≤ b) (h0 : Below w0.heap.size w0 w) : Below w0.heap.size w0 w1 :=
  h0.trans (h.keep.below h0.size (fun k hk e => by
    rcases e with e | e
    · omega
    · have := (hs.own.lt k e.symm).1; omega))
theorem RStep.far {w1 : World} {v1 : Value} {s1 : St} (h : RStep b S w v w1 v1 s1) {a : Addr} {u : Value} (hc : w.cell? a = some u) (hn : a.block ≠ b ∧ v.ownBlock ≠ some a.block) : w1.cell? a = some u := by
  have hbl := h.keep.block a.block (World.block_lt_of_cell? w _ hc) (fun e => by
    rcases e with e | e
    · exact hn.1 e
    · exact hn.2 e.symm)
  exact (World.cell?_of_block hbl).trans hc
theorem RStep.off {w1 : World} {v1 : Value} {s1 : St} (h : RStep b S w v w1 v1 s1) {k : Nat} (hn : k ≠ b ∧ v.ownBlock ≠ some k) (hk : k < w.heap.size) : k ≠ b ∧ v1.ownBlock ≠ some k := by
  refine ⟨hn.1, fun e => ?_⟩
  rcases h.moved with h1 | ⟨c, h1, h2⟩
  · exact hn.2 (by rw [← h1, e])
  · rw [h1] at e; have := Option.some.inj e; omega
theorem addr_add_block (ad : Addr) (j : Nat) : (ad.add j).block = ad.block := by unfold Addr.add; split <;> rfl
theorem Byt.step {w1 : World} {v1 x : Value} {s1 : St} {l : List UInt8} (h : Byt b w v x l) (k : RStep b S w v w1 v1 s1) : Byt b w1 v1 x l := by
  obtain ⟨A, c, hx, hA, hn⟩ := h
  refine ⟨A, c, hx, ⟨hA.1, fun ad had j u hu => ?_⟩, fun ad had => ?_⟩
  · exact k.far (hA.2 ad had j u hu) (by rw [addr_add_block]; exact (hn ad had).2)
  · obtain ⟨h1, h2⟩ := hn ad had
    exact ⟨Nat.lt_of_lt_of_le h1 k.keep.size, k.off h2 h1⟩
theorem Byt.of_cells {x : Value} {l : List UInt8} {g c : Nat} (hx : x = .slice (some ⟨g, 0, none⟩) l.length c) (hg : g < w.heap.size) (hn : g ≠ b ∧ v.ownBlock ≠ some g) (hc : ∀ j (h : j < l.length), w.cell? ⟨g, j, none⟩ = some (.int .u8 (l[j].toNat : Int))) : Byt b w v x l := by
  refine ⟨_, c, hx, ⟨fun h => (by cases h), fun ad had j u hu => ?_⟩, fun ad had => ?_⟩
  · obtain rfl := Option.some.inj had
    have hj : j < l.length := by
      rcases Nat.lt_or_ge j l.length with h' | h'
      · exact h'
      · rw [List.getElem?_eq_none (by rw [Lib.byteCells_length]; exact h')] at hu; cases hu
    rw [add_mk, Nat.zero_add, hc j hj, ← hu]
    simp [Lib.byteCells, hj]
  · obtain rfl := Option.some.inj had
    exact ⟨hg, hn⟩
/-- New blocks are away from the run. -/
theorem Rn.away (h : Rn b S w v st) {k : Nat} (hk : w.heap.size ≤ k) : k ≠ b ∧ v.ownBlock ≠ some k := ⟨by have := h.lt; omega, fun e => by have := (h.own.lt k e).2; omega⟩
/-- Bytes in a block that has just been made. -/
theorem Byt.new (h : Rn b S w v st) (arr : Array Value) (l : List UInt8) (m c : Nat) (hm : m = l.length) (harr : arr.toList = Lib.byteCells l) : Byt b (w.alloc (.cells arr 5)) v (.slice (some ⟨w.heap.size, 0, none⟩) m c) l := by
  subst hm
  refine Byt.of_cells rfl (by simp) (h.away (Nat.le_refl _)) (fun j hj => ?_)
  rw [World.cell?_alloc_new, ← Array.getElem?_toList, harr]
  simp [Lib.byteCells, hj]
theorem Byt.newF (h : Rn b S w v st) (arr : Array Value) (l : List UInt8) (m c : Nat) (fr : Nat × Nat) (hm : m = l.length) (harr : arr.toList = Lib.byteCells l) : Byt b (w.alloc (.cells arr 5 fr)) v (.slice (some ⟨w.heap.size, 0, none⟩) m c) l := by
  subst hm
  refine Byt.of_cells rfl (by simp) (h.away (Nat.le_refl _)) (fun j hj => ?_)
  have hc := heap_alloc_new w (.cells arr 5 fr)
  simp only [World.cell?, hc]
  rw [← Array.getElem?_toList, harr]
  simp [Lib.byteCells, hj]
theorem Byt.conv (h : Rn b S w v st) (l : List UInt8) (c : Nat) : Byt b (Lib.bytesWorld w 5 ⟨l.toArray⟩) v (.slice (some ⟨w.heap.size, 0, none⟩) l.length c) l := by
  refine Byt.of_cells rfl (by rw [Lib.bytesWorld_size]; omega) (h.away (Nat.le_refl _)) (fun j hj => ?_)
  have := Lib.bytesWorld_cell w 5 ⟨l.toArray⟩ j hj
  rw [this]
  simp [hj]
theorem Byt.own (h : Rn b S w v st) {w1 : World} {x : Value} {l : List UInt8} (hA : App w.heap.size w (.slice none 0 0) [] w1 x l) : Byt b w1 v x l := by
  have hO := hA.own
  rw [List.nil_append] at hO
  rcases hO.2 with ⟨rfl, h0⟩ | ⟨g, cap, cur, rfl, hb, hgg, hnc, hcm, hcs, htake⟩
  · have : l = [] := List.eq_nil_of_length_eq_zero h0
    subst this
    exact ⟨none, 0, rfl, ⟨fun _ => ⟨rfl, rfl, rfl⟩, fun ad h => by cases h⟩, fun ad h => by cases h⟩
  · refine Byt.of_cells rfl (lt_of_heap hgg) (h.away hb) (fun j hj => ?_)
    have hh : cur.toList[j]? = some (.int .u8 (l[j].toNat : Int)) := by
      have e : (cur.toList.take (l.length * 1))[j]? = cur.toList[j]? := by rw [List.getElem?_take, if_pos (by omega)]
      rw [← e, htake]
      simp [Lib.byteCells, hj]
    simp only [World.cell?, hgg]
    rw [← Array.getElem?_toList, hh]
    rfl
theorem Rn.cellAt (h : Rn b S w v st) (j : Nat) (u : Value) (hu : (#[.int .i64 S.ind, .bool S.tab, .bool S.srt, .bool S.asc, .bool S.col, v, .bool st.2] : Array Value)[j]? = some u) : w.cell? ⟨b, j, none⟩ = some u := cell_of_heap0 h.heap hu
theorem Rn.frz (h : Rn b S w v st) (j : Nat) : w.frozen? ⟨b, j, none⟩ = false := Lib.frozen_of_heap h.heap j
theorem Rn.setBad (h : Rn b S w v st) (f : Bool) : RStep b S w v (w.setCell ⟨b, 6, none⟩ (.bool f)) v (st.1, f) := by
  refine ⟨⟨?_, ?_, h.len⟩, (Keep.refl _ _).set (.inl (.inl rfl)) _, .inl rfl⟩
  · have := Go.heap_setCell_same _ _ 6 _ _ (.bool f) h.heap
    simpa using this
  · refine h.own.keep (S := fun k => k = b) ((Keep.refl (fun k => k = b) w).set (p := ⟨b, 6, none⟩) (.inl rfl) _) ?_
    rintro k hk rfl
    exact h.ne hk
/-- A new buffer laid into the run. -/
theorem Rn.wrote {bs : List UInt8} {w1 : World} {v1 : Value} {l : List UInt8} {f : Bool} (h : Rn b S w v (bs, f)) (hl : bs.length + l.length ≤ 16777216) (hA : AppG 5 1 b w v bs.length (Lib.byteCells bs) w1 v1 l.length (Lib.byteCells l)) :
    RStep b S w v (w1.setCell ⟨b, 5, none⟩ v1) v1 (bs ++ l, f) := by
  have hown : OwnB b w1 v1 (bs ++ l) := by
    have := hA.own
    unfold OwnB
    rw [List.length_append, Lib.byteCells_append]
    exact this
  have hp1 : w1.heap[b]? = some (.cells #[.int .i64 S.ind, .bool S.tab, .bool S.srt, .bool S.asc, .bool S.col, v, .bool f] 56 (0, 0)) := hA.keep.heap h.heap (fun e => h.ne e.symm)
  have hne : v1.ownBlock ≠ some b := hown.ne_of_type hp1 (by decide)
  refine ⟨⟨?_, ?_, by rw [List.length_append]; exact hl⟩, ?_, hA.at_⟩
  · have := Go.heap_setCell_same _ _ 5 _ _ v1 hp1
    simpa using this
  · refine hown.keep (S := fun k => k = b) ((Keep.refl (fun k => k = b) w1).set (p := ⟨b, 5, none⟩) (.inl rfl) v1) ?_
    rintro k hk rfl
    exact hne hk
  · exact (hA.keep.mono (fun _ _ h => .inr h)).set (.inl (.inl rfl)) v1
set_option maxHeartbeats 2000000 in
set_option maxRecDepth 100000 in
theorem rput_any (h : Rn b S w v st) (x : Value) (l : List UInt8) (hx : Byt b w v x l) (hl : l.length ≤ 1000000000) :
    Calls Tryz.prog 56 #[.pointer (some ⟨b, 0, none⟩), x] w fun e w' => e = .returned (.tuple #[]) ∧ ∃ v', RStep b S w v w' v' (putS st l) := by
  have hlen := h.len
  obtain ⟨bs, full⟩ := st
  simp only at hlen
  have hc6 := h.cellAt 6 (.bool full) rfl
  have hz6 := h.frz 6
  obtain ⟨A, c, hxe, hxA, hxn⟩ := hx
  subst hxe
  cases full with
  | true =>
    have hp : putS (bs, true) l = (bs, true) := by unfold putS; rw [if_pos (.inl rfl)]
    rw [hp]
    have hR := h.setBad true
    have hc2 := hR.now.cellAt 6 (.bool true) rfl
    clear h hp hxA hxn
    go_enter Tryz.func56, Tryz.ntmps56
    go_wp2_with fail
    go_end0
    exact ⟨rfl, v, hR⟩
  | false =>
    obtain ⟨Av, cv, rfl⟩ := h.own.shape
    have hc5 := h.cellAt 5 (.slice Av bs.length cv) rfl
    rcases Nat.lt_or_ge 16777216 (bs.length + l.length) with ho | ho
    · have hp : putS (bs, false) l = (bs, true) := by unfold putS; rw [if_pos (.inr ho)]
      rw [hp]
      have ht : decide ((16777216 : Int) < (bs.length : Int) + (l.length : Int)) = true := decide_eq_true (by omega)
      have hR := h.setBad true
      have hc2 := hR.now.cellAt 6 (.bool true) rfl
      clear h hp hxA hxn
      go_enter Tryz.func56, Tryz.ntmps56
      go_wp2_with fail
      go_end0
      exact ⟨rfl, _, hR⟩
    · have hp : putS (bs, false) l = (bs ++ l, false) := by unfold putS; rw [if_neg (by simp; omega)]
      rw [hp]
      have ht : decide ((16777216 : Int) < (bs.length : Int) + (l.length : Int)) = false := decide_eq_false (by omega)
      have hR : RStep b S w (.slice Av bs.length cv) (w.setCell ⟨b, 6, none⟩ (.bool false)) (.slice Av bs.length cv) (bs, false) := h.setBad false
      have hc2 := hR.now.cellAt 6 (.bool false) rfl
      have hc25 := hR.now.cellAt 5 (.slice Av bs.length cv) rfl
      obtain ⟨W1, hW1⟩ : ∃ W1, W1 = w.setCell ⟨b, 6, none⟩ (.bool false) := ⟨_, rfl⟩
      have hxA1 : At W1 A l.length c (Lib.byteCells l) := ⟨hxA.1, fun ad had j u hu => by
        rw [hW1]
        exact hR.far (hxA.2 ad had j u hu) (by rw [addr_add_block]; exact (hxn ad had).2)⟩
      rw [← hW1] at hR hc2 hc25
      have hA0 : AppG 5 1 b W1 (.slice Av bs.length cv) bs.length (Lib.byteCells bs) W1 (.slice Av bs.length cv) 0 [] := AppG.start hR.now.own (Nat.le_of_lt hR.now.lt)
      have HW1 := Lib.hid hW1
      clear h hp hxA hxn hW1
      go_enter Tryz.func56, Tryz.ntmps56
      go_upto_region 1 with fail
      rw [← HW1.out]
      clear hc6 hz6 hc5
      have hz5 := hR.now.frz 5
      go_wp2_with (at_builtin; refine appGs eltBytes rfl _ _ rfl (Lib.byteCells l) l.length c A (by rw [Lib.byteCells_length]; omega) rfl rfl hxA1 (Lib.byteCells_one l) hA0 (by unfold maxLen; omega) (by omega) ?_; intro v2 w2 hA2; rw [Nat.zero_add, List.nil_append] at hA2; obtain ⟨A2', c2', rfl⟩ := hA2.own.shape; have hF := hR.join (hR.now.wrote ho hA2); have y5 := hA2.keep.cell hc25 (fun e => hR.now.ne e.symm); have y6 : w2.frozen? ⟨b, 5, none⟩ = false := Lib.frozen_of_heap (hA2.keep.heap hR.now.heap (fun e => hR.now.ne e.symm)) 5; clear hA2 hA0)
      go_end0
      exact ⟨rfl, _, hF⟩
end
end Go.Proofs.YticaihfcnbehpaaGreatDoor
/- The document's printer: token, sign, margin. -/
namespace Go.Proofs.YticaihfcnbehpaaGreatDoor
open Go Go.RowKit Go.Proofs
/-- o has been put onto the run. -/
def RP (b : Nat) (S : Sty) (w : World) (v : Value) (st : St) (o : List UInt8) (e : Ending) (w' : World) : Prop := e = .returned (.tuple #[]) ∧ ∃ v' st', RStep b S w v w' v' st' ∧ Fr st st' o
section
variable {b : Nat} {S : Sty} {w : World} {v : Value} {st : St}
theorem rput_rp (h : Rn b S w v st) (x : Value) (l : List UInt8) (hx : Byt b w v x l) (hl : l.length ≤ 1000000000) :
    Calls Tryz.prog 56 #[.pointer (some ⟨b, 0, none⟩), x] w fun e w' => e = .returned (.tuple #[]) ∧ ∃ v' st', RStep b S w v w' v' st' ∧ Fr st st' l :=
  (rput_any h x l hx hl).mono fun e w' ⟨he, v', hA⟩ => ⟨he, v', _, hA, fr_put st l⟩
set_option maxHeartbeats 2000000 in
set_option maxRecDepth 100000 in
theorem rtoken_any (h : Rn b S w v st) (x : Value) (l c : List UInt8) (hx : Byt b w v x l) (hl : l.length ≤ 900000000) (hc : c.length ≤ 1000) :
    Calls Tryz.prog 37 #[.pointer (some ⟨b, 0, none⟩), x, .string ⟨c.toArray⟩] w (RP b S w v st (tokT S l c)) := by
  have hcol := h.cellAt 4 (.bool S.col) rfl
  cases hC : S.col with
  | false =>
    rw [hC] at hcol
    have ht : tokT S l c = l := by unfold tokT; rw [if_neg (by rw [hC]; decide)]
    rw [ht]
    clear hC ht
    obtain ⟨A, cc, rfl, hxA, hxn⟩ := hx
    have hx : Byt b w v (.slice A l.length cc) l := ⟨A, cc, rfl, hxA, hxn⟩
    clear hxA hxn
    go_enter Tryz.func37, Tryz.ntmps37
    go_wp2_with fail
    refine (rput_rp h _ l hx (by omega)).mono ?_
    rintro e' w1 ⟨rfl, v1, st1, hA, hF⟩
    have hcol1 := hA.now.cellAt 4 (.bool S.col) rfl
    have hcc : S.col = false := by
      have h0 := h.cellAt 4 (.bool S.col) rfl
      rw [hcol] at h0
      injection h0 with h0
      injection h0 with h0
      exact h0.symm
    rw [hcc] at hcol1
    clear hcc
    have HA := Lib.hid hA
    clear hA hcol h
    go_wp2_with fail
    go_end0
    exact ⟨rfl, v1, st1, HA.out, hF⟩
  | true =>
    rw [hC] at hcol
    have ht : tokT S l c = (([27, 91] ++ c ++ [109]) ++ l) ++ [27, 91, 48, 109] := by unfold tokT; rw [if_pos hC]
    rw [ht]
    clear ht
    obtain ⟨A, cc, rfl, hxA, hxn⟩ := hx
    have hx : Byt b w v (.slice A l.length cc) l := ⟨A, cc, rfl, hxA, hxn⟩
    clear hxA hxn
    obtain ⟨P, hP⟩ : ∃ P, P = [27, 91] ++ c ++ [109] := ⟨_, rfl⟩
    have hPl : P.length ≤ 1003 := by rw [hP]; simp; omega
    have hpre : (({ data := #[27, 91] } : ByteArray) ++ { data := c.toArray } ++ { data := #[109] }) = ⟨P.toArray⟩ := by
      rw [hP]
      simp only [show (⟨#[27, 91]⟩ : ByteArray) = ⟨[27, 91].toArray⟩ from rfl, show (⟨#[109]⟩ : ByteArray) = ⟨[109].toArray⟩ from rfl, ba_append]
    rw [← hP]
    have kc : ∀ W : World, (convert 9 47 (.string ⟨P.toArray⟩)).run Tryz.prog W = .ok (.slice (some ⟨W.heap.size, 0, none⟩) P.length (grownCap W P.length 0 5)) (Lib.bytesWorld W 5 ⟨P.toArray⟩) := fun W => Lib.run_convert_string_bytes (P := Tryz.prog) W 9 47 5 ⟨P.toArray⟩ Tryz.underlying9 Tryz.underlying47 Tryz.underlying5
    have hbW : Below w.heap.size w (Lib.bytesWorld w 5 ⟨P.toArray⟩) := Lib.bytesWorld_below w _ _
    have hR1 := (RStep.start h).below hbW
    have hP1 := rput_rp hR1.now (.slice (some ⟨w.heap.size, 0, none⟩) P.length (grownCap w P.length 0 5)) P (Byt.conv h P _) (by omega)
    have hx1 := hx.step hR1
    have HR1 := Lib.hid hR1
    have HP1 := Lib.hid hP1
    have HX1 := Lib.hid hx1
    clear hP hR1 hP1 hx1 hx hbW
    go_enter Tryz.func37, Tryz.ntmps37
    go_wp2_with fail
    refine HP1.out.mono ?_
    rintro e' w1 ⟨rfl, v1, st1, hA, hF1⟩
    have hx2 := HX1.out.step hA
    have hB := HR1.out.join hA
    have HB := Lib.hid hB
    clear hA hB hpre kc
    go_wp2_with fail
    refine (rput_rp HB.out.now _ l hx2 (by omega)).mono ?_
    rintro e' w2 ⟨rfl, v2, st2, hA, hF2⟩
    have hB := HB.out.join hA
    have hcol2 := hB.now.cellAt 4 (.bool S.col) rfl
    rw [hC] at hcol2
    have hF := hF1.trans hF2
    have hR3 := (RStep.start hB.now).below ((Below.refl _ _).alloc (Nat.le_refl _) (.cells #[.int .u8 27, .int .u8 91, .int .u8 48, .int .u8 109] 5 (4, 5)))
    have hP3 := rput_rp hR3.now (.slice (some ⟨w2.heap.size, 0, none⟩) 4 4) [27, 91, 48, 109] (Byt.newF hB.now #[.int .u8 27, .int .u8 91, .int .u8 48, .int .u8 109] [27, 91, 48, 109] 4 4 (4, 5) rfl rfl) (by decide)
    have HR3 := Lib.hid (hB.join hR3)
    have HP3 := Lib.hid hP3
    have kid := fun (W : World) (C : Array Value) (n c : Nat) => Lib.run_convert_bytes_const (P := Tryz.prog) W 47 5 C n c Tryz.underlying47 Tryz.underlying5
    clear hA hB hF1 hF2 hR3 hP3 hx2 HB hcol
    go_wp2_with fail
    refine HP3.out.mono ?_
    rintro e' w3 ⟨rfl, v3, st3, hA, hF3⟩
    have hE := HR3.out.join hA
    have hFF := hF.trans hF3
    go_wp2_with fail
    go_end0
    exact ⟨rfl, v3, st3, hE, hFF⟩
set_option maxRecDepth 100000 in
theorem rsign_any (h : Rn b S w v st) (x : UInt8) (c : Int) (hc : c = (x.toNat : Int)) :
    Calls Tryz.prog 53 #[.pointer (some ⟨b, 0, none⟩), .int .u8 c] w (RP b S w v st (tokT S [x] sgn)) := by
  subst hc
  have hR := (RStep.start h).below ((Below.refl _ _).alloc (Nat.le_refl _) (.cells #[.int .u8 (x.toNat : Int)] 5))
  have hT := rtoken_any hR.now (.slice (some ⟨w.heap.size, 0, none⟩) 1 1) [x] sgn (Byt.new h #[.int .u8 (x.toNat : Int)] [x] 1 1 rfl rfl) (by simp) (by decide)
  have HR := Lib.hid hR
  have HT := Lib.hid hT
  clear hR hT
  go_enter Tryz.func53, Tryz.ntmps53
  go_wp2_with fail
  refine HT.out.mono ?_
  rintro e' w1 ⟨rfl, v1, st1, hA, hF⟩
  have hJ := HR.out.join hA
  go_wp2_with fail
  go_end0
  exact ⟨rfl, v1, st1, hJ, hF⟩
theorem rep_succ (x : UInt8) (k : Nat) (pre : List UInt8) : (pre ++ List.replicate k x) ++ [x] = pre ++ List.replicate (k + 1) x := by
  rw [List.append_assoc, List.replicate_succ']
set_option maxHeartbeats 8000000 in
set_option maxRecDepth 100000 in
theorem rmargin_any (h : Rn b S w v st) (hi : S.ind ≤ 7) (n : Nat) (hn : n ≤ 10000000) :
    Calls Tryz.prog 54 #[.pointer (some ⟨b, 0, none⟩), .int .i64 n] w (RP b S w v st (ltx S n)) := by
  have hind := h.cellAt 0 (.int .i64 S.ind) rfl
  have htab := h.cellAt 1 (.bool S.tab) rfl
  obtain ⟨d, hd⟩ : ∃ d, d = S.ind := ⟨_, rfl⟩
  cases hL : S.loose with
  | false =>
    have hl : ltx S n = [] := by unfold ltx; rw [if_neg (by rw [hL]; decide)]
    rw [hl]
    have hLL := hL
    unfold Sty.loose at hLL
    have ht : S.tab = false := by cases e : S.tab with | false => rfl | true => rw [e] at hLL; cases hLL
    have hz : S.ind = 0 := by rw [ht] at hLL; simpa using hLL
    rw [ht] at htab
    rw [hz] at hind
    have hF := Fr.refl st (.inr h.len)
    have hR := RStep.start h
    clear hL hLL ht hl hd h hz
    go_enter Tryz.func54, Tryz.ntmps54
    go_wp2_with fail
    refine bodyPost_ret (results_none rfl _ _ _) rfl ?_
    exact ⟨rfl, v, st, hR, hF⟩
  | true =>
    have hR0 := (RStep.start h).below ((Below.refl _ _).alloc (Nat.le_refl _) (.cells #[.int .u8 10] 5))
    have hP0 := rput_rp hR0.now (.slice (some ⟨w.heap.size, 0, none⟩) 1 1) [10] (Byt.new h #[.int .u8 10] [10] 1 1 rfl rfl) (by decide)
    have HR0 := Lib.hid hR0
    have HP0 := Lib.hid hP0
    have one : ∀ (w' : World) (v' : Value) (st' : St) (x : UInt8), RStep b S w v w' v' st' → Calls Tryz.prog 56 #[.pointer (some ⟨b, 0, none⟩), .slice (some ⟨w'.heap.size, 0, none⟩) 1 1] (w'.alloc (.cells #[.int .u8 (x.toNat : Int)] 5)) fun e w'' => e = .returned (.tuple #[]) ∧ ∃ v'' st'', RStep b S w v w'' v'' st'' ∧ Fr st' st'' [x] := fun w' v' st' x hA => by
      have hR := (RStep.start hA.now).below ((Below.refl _ _).alloc (Nat.le_refl _) (.cells #[.int .u8 (x.toNat : Int)] 5))
      exact (rput_rp hR.now (.slice (some ⟨w'.heap.size, 0, none⟩) 1 1) [x] (Byt.new hA.now #[.int .u8 (x.toNat : Int)] [x] 1 1 rfl rfl) (by simp)).mono fun e w'' ⟨he, v'', st'', hB, hF⟩ => ⟨he, v'', st'', (hA.join hR).join hB, hF⟩
    have HOne := Lib.hid one
    clear hR0 hP0 one
    cases ht : S.tab with
    | true =>
      have hl : ltx S n = [10] ++ List.replicate n 9 := by unfold ltx; rw [if_pos hL, if_pos ht]; rfl
      rw [hl]
      rw [ht] at htab
      have HTab : Hid (S.tab = true) := Lib.hid ht
      have hge : 0 ≤ S.ind := Nat.zero_le _
      clear hl ht hL
      by_cases hz : S.ind = 0
      all_goals
        first
          | (have t1 : ((S.ind : Int) == 0) = true := by rw [beq_iff_eq]; omega)
          | (have t1 : ((S.ind : Int) == 0) = false := by rw [beq_eq_false_iff_ne]; omega)
        rw [← hd] at hind t1 hi hge
        clear hz hd
        go_enter Tryz.func54, Tryz.ntmps54
        go_wp2_with fail
        refine HP0.out.mono ?_
        rintro e' w1 ⟨rfl, v1, st1, hA, hF⟩
        have hB := HR0.out.join hA
        clear hA hind htab t1
        go_wp2_with fail
        go_loopw [4] (fun i wr => ∃ (k : Nat) (vk : Value) (sk : St), k ≤ n ∧ i = .int .i64 k ∧ RStep b S w v wr vk sk ∧ Fr st sk ([10] ++ List.replicate k 9)) (fun i _ => n - (intOf i).toNat)
        case atStart => exact ⟨0, v1, st1, Nat.zero_le _, rfl, hB, by rw [List.replicate_zero, List.append_nil]; exact hF⟩
        case round =>
          clear hB hF
          obtain ⟨k, vk, sk, hk, rfl, hA, hF⟩ := hrel
          have hbad := hA.now.cellAt 6 (.bool sk.2) rfl
          have htab := hA.now.cellAt 1 (.bool S.tab) rfl
          rw [HTab.out] at htab
          rcases Nat.lt_or_ge k n with hlt | hge'
          · cases hs : sk.2 with
            | true =>
              rw [hs] at hbad
              have hE : Fr st sk ([10] ++ List.replicate n 9) := by
                have := hF.more hs (List.replicate (n - k) 9)
                rw [List.append_assoc, List.replicate_append_replicate, show k + (n - k) = n by omega] at this
                exact this
              have HA := Lib.hid hA
              clear hs hA hF htab
              go_wp2_with fail
              go_end0
              exact ⟨rfl, vk, sk, HA.out, hE⟩
            | false =>
              rw [hs] at hbad
              have hC := HOne.out wr vk sk 9 hA
              have HC := Lib.hid hC
              have HF := Lib.hid hF
              clear hs hA hF hC
              go_wp2_with fail
              refine HC.out.mono ?_
              rintro e' w2 ⟨rfl, v2, st2, hD, hG⟩
              have hH := HF.out.trans hG
              rw [rep_succ] at hH
              clear hG hbad htab
              go_wp2_with fail
              all_goals go_roundw
              case rel => exact ⟨k + 1, v2, st2, by omega, by go_num, hD, hH⟩
              case measure => simp [intOf]; omega
          · obtain rfl : k = n := by omega
            have HA := Lib.hid hA
            clear hA hbad htab
            go_wp2_with fail
            go_end0
            exact ⟨rfl, vk, sk, HA.out, hF⟩
    | false =>
      have hl : ltx S n = [10] ++ List.replicate (d * n) 32 := by unfold ltx; rw [if_pos hL, if_neg (by rw [ht]; decide), hd]; rfl
      have hdpos : 0 < d := by
        have := hL
        unfold Sty.loose at this
        rw [ht] at this
        rw [hd]
        simpa using this
      rw [hl]
      rw [ht] at htab
      rw [← hd] at hind hi
      have HTab : Hid (S.tab = false) := Lib.hid ht
      have HD := Lib.hid hd
      have t1 : ((d : Int) == 0) = false := by rw [beq_eq_false_iff_ne]; omega
      clear hl ht hL hd
      go_enter Tryz.func54, Tryz.ntmps54
      go_wp2_with fail
      refine HP0.out.mono ?_
      rintro e' w1 ⟨rfl, v1, st1, hA, hF⟩
      have hB := HR0.out.join hA
      clear hA hind htab t1
      go_wp2_with fail
      go_loopw [4] (fun i wr => ∃ (k : Nat) (vk : Value) (sk : St), k ≤ n ∧ i = .int .i64 k ∧ RStep b S w v wr vk sk ∧ Fr st sk ([10] ++ List.replicate (d * k) 32)) (fun i _ => n - (intOf i).toNat)
      case atStart => exact ⟨0, v1, st1, Nat.zero_le _, rfl, hB, by rw [Nat.mul_zero, List.replicate_zero, List.append_nil]; exact hF⟩
      case round =>
        clear hB hF
        obtain ⟨k, vk, sk, hk, rfl, hA, hF⟩ := hrel
        have hbad := hA.now.cellAt 6 (.bool sk.2) rfl
        have htab := hA.now.cellAt 1 (.bool S.tab) rfl
        rw [HTab.out] at htab
        rcases Nat.lt_or_ge k n with hlt | hge'
        · cases hs : sk.2 with
          | true =>
            rw [hs] at hbad
            have hE : Fr st sk ([10] ++ List.replicate (d * n) 32) := by
              have := hF.more hs (List.replicate (d * n - d * k) 32)
              rw [List.append_assoc, List.replicate_append_replicate, show d * k + (d * n - d * k) = d * n by have := Nat.mul_le_mul_left d (Nat.le_of_lt hlt); omega] at this
              exact this
            have HA := Lib.hid hA
            clear hs hA hF htab
            go_wp2_with fail
            go_end0
            exact ⟨rfl, vk, sk, HA.out, hE⟩
          | false =>
            rw [hs] at hbad
            have HA := Lib.hid hA
            have HF : Hid (Fr st sk (([10] ++ List.replicate (d * k) 32) ++ List.replicate 0 32)) := Lib.hid (by rw [List.replicate_zero, List.append_nil]; exact hF)
            clear hs hA hF
            obtain ⟨wo, rfl⟩ : ∃ wo : World, wo = wr := ⟨_, rfl⟩
            obtain ⟨P, hP⟩ : ∃ P, P = [10] ++ List.replicate (d * k) (32 : UInt8) := ⟨_, rfl⟩
            rw [← hP] at HF
            have HPP := Lib.hid hP
            clear hP
            go_wp2_with fail
            clear hbad htab
            go_loopw [5] (fun q wi => ∃ (j : Nat) (vj : Value) (sj : St), j ≤ d ∧ q = .int .i64 j ∧ Hid (RStep b S w v wi vj sj) ∧ Hid (Fr st sj (P ++ List.replicate j 32))) (fun q _ => d - (intOf q).toNat)
            case atStart => exact ⟨0, vk, sk, Nat.zero_le _, rfl, HA, HF⟩
            case round =>
              clear HA HF
              obtain ⟨j, vj, sj, hj, rfl, HA, HF⟩ := hrel
              have hind := HA.out.now.cellAt 0 (.int .i64 S.ind) rfl
              rw [← HD.out] at hind
              rcases Nat.lt_or_ge j d with hjl | hjg
              · have HC := Lib.hid (HOne.out _ vj sj 32 HA.out)
                go_wp2_with fail
                refine HC.out.mono ?_
                rintro e' w2 ⟨rfl, v2, st2, hD, hG⟩
                have hH := HF.out.trans hG
                rw [rep_succ] at hH
                have HD2 := Lib.hid hD
                have HH := Lib.hid hH
                clear hG hind hD hH
                go_wp2_with fail
                all_goals go_roundw
                case rel => exact ⟨j + 1, v2, st2, by omega, by go_num, HD2, HH⟩
                case measure => simp [intOf]; omega
              · obtain rfl : j = d := by omega
                have hE : Fr st sj ([10] ++ List.replicate (j * (k + 1)) 32) := by
                  have := HF.out
                  rw [HPP.out, List.append_assoc, List.replicate_append_replicate] at this
                  rw [Nat.mul_succ]
                  exact this
                have HE := Lib.hid hE
                clear hE
                go_wp2_with fail
                clear hind
                all_goals go_roundw
                case rel => exact ⟨k + 1, vj, sj, by omega, by go_num, HA.out, HE.out⟩
                case measure => simp [intOf]; omega
        · obtain rfl : k = n := by omega
          have HA := Lib.hid hA
          clear hA hbad htab
          go_wp2_with fail
          go_end0
          exact ⟨rfl, vk, sk, HA.out, hF⟩
end
end Go.Proofs.YticaihfcnbehpaaGreatDoor
