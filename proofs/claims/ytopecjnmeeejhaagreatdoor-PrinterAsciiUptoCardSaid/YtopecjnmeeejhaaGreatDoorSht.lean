/- printer.sheet: put, token, loose, line. -/
import Derived.Test.YtopecjnmeeejhaaGreatDoorVal
set_option linter.unusedVariables false
set_option linter.unusedSimpArgs false
namespace Go.Proofs.YtopecjnmeeejhaaGreatDoor
open Go Go.RowKit Go.Proofs

/-- A style. -/
structure Sty where
  ind : Nat
  tab : Bool
  srt : Bool
  asc : Bool
  col : Bool
def Sty.cells (S : Sty) (full : Bool) : List Value := [.int .i64 S.ind, .bool S.tab, .bool S.srt, .bool S.asc, .bool S.col, .bool full]
/-- What stands on a sheet, and whether it is full. -/
abbrev St := List UInt8 × Bool
def putS (st : St) (s : List UInt8) : St := if st.2 = true ∨ 16777216 < st.1.length + s.length then (st.1, true) else (st.1 ++ s, false)
theorem putS_length (st : St) (s : List UInt8) (h : st.1.length ≤ 16777216) : (putS st s).1.length ≤ 16777216 := by
  unfold putS
  split
  · exact h
  · simp only [List.length_append]; omega
/-- The sheet at block b. -/
structure Sh (b : Nat) (S : Sty) (w : World) (v : Value) (st : St) : Prop where
  bw : Bw b 77 (S.cells st.2) w v st.1
  len : st.1.length ≤ 16777216
structure SStep (b : Nat) (S : Sty) (w : World) (v : Value) (w' : World) (v' : Value) (st' : St) : Prop where
  now : Sh b S w' v' st'
  keep : Keep (fun k => k = b ∨ some k = v.ownBlock) w w'
  moved : v'.ownBlock = v.ownBlock ∨ ∃ k, v'.ownBlock = some k ∧ w.heap.size ≤ k
section
variable {b : Nat} {S : Sty} {w : World} {v : Value} {st : St}
theorem Sh.lt (h : Sh b S w v st) : b < w.heap.size := h.bw.lt
theorem Sh.below {w' : World} (h : Sh b S w v st) (hb : Below w.heap.size w w') : Sh b S w' v st := ⟨h.bw.below hb, h.len⟩
theorem SStep.start (h : Sh b S w v st) : SStep b S w v w v st := ⟨h, Keep.refl _ _, .inl rfl⟩
theorem SStep.below {w1 w2 : World} {v1 : Value} {st1 : St} (h : SStep b S w v w1 v1 st1) (hb : Below w1.heap.size w1 w2) : SStep b S w v w2 v1 st1 :=
  ⟨h.now.below hb, h.keep.trans (S' := fun _ => False) (Keep.of_below hb) (fun _ _ h => h.elim), h.moved⟩
theorem SStep.join {w1 w2 : World} {v1 v2 : Value} {s1 s2 : St} (h : SStep b S w v w1 v1 s1) (k : SStep b S w1 v1 w2 v2 s2) : SStep b S w v w2 v2 s2 := by
  refine ⟨k.now, h.keep.trans k.keep ?_, ?_⟩
  · intro i hi he
    rcases he with he | he
    · exact .inl he
    rcases h.moved with h1 | ⟨c, h1, h2⟩
    · exact .inr (he.trans h1)
    · have : i = c := by rw [h1] at he; exact Option.some.inj he
      omega
  · rcases k.moved with h1 | ⟨c, h1, h2⟩
    · rw [h1]; exact h.moved
    · exact .inr ⟨c, h1, Nat.le_trans h.keep.size h2⟩
theorem Bw.cellAt {T : TypeId} {rest : List Value} {bs : List UInt8} (h : Bw b T rest w v bs) (i : Nat) : w.cell? ⟨b, i + 2, none⟩ = rest[i]? := by
  obtain ⟨p, hp, _⟩ := h.heap
  rw [Lib.cell_of_heap hp]
  simp
theorem Bw.frozenAt {T : TypeId} {rest : List Value} {bs : List UInt8} (h : Bw b T rest w v bs) (i : Nat) : w.frozen? ⟨b, i, none⟩ = false := by
  obtain ⟨p, hp, _⟩ := h.heap
  exact Lib.frozen_of_heap hp i
theorem Sh.cInd (h : Sh b S w v st) : w.cell? ⟨b, 2, none⟩ = some (.int .i64 S.ind) := h.bw.cellAt 0
theorem Sh.cTab (h : Sh b S w v st) : w.cell? ⟨b, 3, none⟩ = some (.bool S.tab) := h.bw.cellAt 1
theorem Sh.cSrt (h : Sh b S w v st) : w.cell? ⟨b, 4, none⟩ = some (.bool S.srt) := h.bw.cellAt 2
theorem Sh.cAsc (h : Sh b S w v st) : w.cell? ⟨b, 5, none⟩ = some (.bool S.asc) := h.bw.cellAt 3
theorem Sh.cCol (h : Sh b S w v st) : w.cell? ⟨b, 6, none⟩ = some (.bool S.col) := h.bw.cellAt 4
theorem Sh.cFull (h : Sh b S w v st) : w.cell? ⟨b, 7, none⟩ = some (.bool st.2) := h.bw.cellAt 5
theorem Sh.setFull (h : Sh b S w v st) (f : Bool) : SStep b S w v (w.setCell ⟨b, 7, none⟩ (.bool f)) v (st.1, f) := by
  obtain ⟨p, hp, hq⟩ := h.bw.heap
  refine ⟨⟨⟨⟨p, ?_, hq⟩, ?_, h.bw.ty⟩, h.len⟩, (Keep.refl _ _).set (.inl (.inl rfl)) _, .inl rfl⟩
  · simp [World.setCell, Array.getElem?_modify, hp, Sty.cells]
  · refine h.bw.own.keep (S := fun k => k = b) ((Keep.refl (fun k => k = b) w).set (p := ⟨b, 7, none⟩) (.inl rfl) _) ?_
    rintro k hk rfl
    exact h.bw.ne hk
theorem SStep.wrote {w1 : World} {v1 : Value} {l : List UInt8} {f : Bool} (h : Sh b S w v st) (hs : st.1.length + l.length ≤ 16777216) (hA : BApp b 77 w v st.1 w1 v1 l (S.cells f)) : SStep b S w v w1 v1 (st.1 ++ l, f) :=
  ⟨⟨hA.now, by rw [List.length_append]; exact hs⟩, hA.keep, hA.moved⟩
set_option maxRecDepth 100000 in
theorem put_any (h : Sh b S w v st) (s : List UInt8) (hs : s.length ≤ 1000000000) :
    Calls Tryz.prog 115 #[.pointer (some ⟨b, 0, none⟩), .string ⟨s.toArray⟩] w fun e w' => e = .returned (.tuple #[]) ∧ ∃ v', SStep b S w v w' v' (putS st s) := by
  have hlen := h.len
  obtain ⟨bs, full⟩ := st
  simp only at hlen
  have hc := h.cFull
  have hz := h.bw.frozenAt 7
  simp only at hc
  cases full with
  | true =>
    have hp : putS (bs, true) s = (bs, true) := by unfold putS; rw [if_pos (.inl rfl)]
    rw [hp]
    have hR := h.setFull true
    have hc2 := hR.now.cFull
    simp only at hc2
    clear h hp
    go_enter Tryz.func115, Tryz.ntmps115
    go_wp2_with fail
    go_end0
    exact ⟨rfl, v, hR⟩
  | false =>
    rcases Nat.lt_or_ge 16777216 (bs.length + s.length) with ho | ho
    · have hp : putS (bs, false) s = (bs, true) := by unfold putS; rw [if_pos (.inr ho)]
      rw [hp]
      have ht : decide ((16777216 : Int) < (bs.length : Int) + (s.length : Int)) = true := decide_eq_true (by omega)
      have hR := h.setFull true
      have hc2 := hR.now.cFull
      simp only at hc2
      clear hp
      go_enter Tryz.func115, Tryz.ntmps115
      go_wp2_with fail
      refine (len_any h.bw).mono ?_
      rintro e' _ ⟨rfl, rfl⟩
      clear h
      go_wp2_with fail
      go_end0
      exact ⟨rfl, v, hR⟩
    · have hp : putS (bs, false) s = (bs ++ s, false) := by unfold putS; rw [if_neg (by simp; omega)]
      rw [hp]
      have ht : decide ((16777216 : Int) < (bs.length : Int) + (s.length : Int)) = false := decide_eq_false (by omega)
      have hR := h.setFull false
      have hc2 := hR.now.cFull
      simp only at hc2
      clear hp
      go_enter Tryz.func115, Tryz.ntmps115
      go_wp2_with fail
      refine (len_any h.bw).mono ?_
      rintro e' _ ⟨rfl, rfl⟩
      clear h
      go_wp2_with fail
      refine (writeString_any fits_sheet hR.now.bw s (by simp only; omega)).mono ?_
      rintro e' w1 ⟨rfl, v1, hA⟩
      have hF := hR.join (SStep.wrote hR.now (by simp only; omega) hA)
      go_wp2_with fail
      go_end0
      exact ⟨rfl, v1, hF⟩
end
end Go.Proofs.YtopecjnmeeejhaaGreatDoor
