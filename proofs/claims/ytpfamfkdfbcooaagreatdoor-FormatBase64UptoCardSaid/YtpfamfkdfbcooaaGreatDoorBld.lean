/- strings.Builder: its checks and writes, wherever it stands at the head of a row of cells. -/
import Derived.Test.YtpfamfkdfbcooaaGreatDoorBytes
import Derived.Lib.Builder
set_option linter.unusedVariables false
set_option linter.unusedSimpArgs false
namespace Go.Proofs.YtpfamfkdfbcooaaGreatDoor
open Go Go.RowKit Go.Proofs

section
variable {ops : Array Oper} {rest : List Oper} {o : Oper} {a : Act} {Q : Exit → Act → World → Prop}
/-- append(v, s...), s a string: where the bytes lie, too. -/
theorem appS {B : Nat} {w : World} {v : Value} {bs l : List UInt8} {W : World} {v1 : Value} (hgd : o.guard = none) (sl x : Operand) (ho : o.op = .call { callee := .builtin .append, args := #[sl, x], argTypes := #[60, 9] })
    (s : List UInt8) (hs : a.eval sl = v1) (hx : a.eval x = .string ⟨s.toArray⟩)
    (hA : App B w v bs W v1 l) (hl : bs.length + l.length + s.length ≤ 140737488355328)
    (h : ∀ v2 w2, App B w v bs w2 v2 (l ++ s) → wpList Tryz.prog ops Q rest (a.put o.dst v2) w2) :
    wpList Tryz.prog ops Q (o :: rest) a W := by
  obtain ⟨i0, hi, hz0, hz1, hz2⟩ := info_parts info_u8
  have hsz : (⟨s.toArray⟩ : ByteArray).size = s.length := rfl
  have hcells : Lib.strCells ⟨s.toArray⟩ = Lib.byteCells s := rfl
  have hown := hA.own
  have hlen : (bs ++ l).length + s.length ≤ 140737488355328 := by rw [List.length_append]; exact hl
  refine wpList_plain hgd fun K hK => ?_
  obtain ⟨v', w', hr, h2, h3, h4⟩ := Lib.run_append_own_string (P := Tryz.prog) W B 60 9 o.type 5 i0 Tryz.underlying60 Tryz.underlying9 hi hz0 hz1 hz2 v1 _ _ hown ⟨s.toArray⟩ (by unfold maxLen; omega) (by omega) hA.base
  have hat : v'.ownBlock = v1.ownBlock ∨ v'.ownBlock = some W.heap.size := by
    rcases hown.2 with ⟨rfl, h0⟩ | ⟨g, cap, cur, rfl, hbg, hg, hnc, hcm, hcs, htake⟩
    · by_cases hm : s.length = 0
      · exact .inl (by rw [h4.2 ⟨rfl, hm⟩])
      · have hr2 := run_append_nil_string (P := Tryz.prog) W 60 9 o.type 5 i0 (.int .u8 0) Tryz.underlying60 Tryz.underlying9 hi hz0 ⟨s.toArray⟩ (by omega) (by omega) (by rw [hz2]; omega)
        rw [hr] at hr2
        injection hr2 with e1 e2
        exact .inr (by rw [e1]; rfl)
    · by_cases hroom : (bs ++ l).length + s.length ≤ cap
      · have hr2 := Lib.run_append_room_string (P := Tryz.prog) W 60 9 o.type 5 i0 Tryz.underlying60 Tryz.underlying9 hi hz1 g _ cap cur hg ⟨s.toArray⟩ hroom (by omega)
        rw [hr] at hr2
        injection hr2 with e1 e2
        exact .inl (by rw [e1]; rfl)
      · have hr2 := Lib.run_append_grow_string (P := Tryz.prog) W 60 9 o.type 5 i0 (.int .u8 0) Tryz.underlying60 Tryz.underlying9 hi hz0 ⟨g, 0, none⟩ (bs ++ l).length cap (Lib.byteCells (bs ++ l)) (by rw [hz1, Lib.byteCells_length]; omega) (hown.cells (g := g) rfl) ⟨s.toArray⟩ (by omega) (by omega) (by rw [hz2]; exact growslice_fits (by omega) (by omega))
        rw [hr] at hr2
        injection hr2 with e1 e2
        exact .inr (by rw [e1]; rfl)
  have hnx : App B w v bs w' v' (l ++ s) := by
    refine hA.next (l2 := s) ?_ h3 ?_
    · unfold OwnB; rw [List.length_append, Lib.byteCells_append]; exact h2
    · rcases hat with hat | hat
      · exact .inl hat
      · exact .inr ⟨_, hat, Nat.le_refl _⟩
  unfold Oper.wp execOp
  simp only [ho, resolve, invoke, builtin, Sem.run_bind, Sem.run_pure, Result.andThen_ok, List.map_toArray, List.map_cons, List.map_nil, hs, hx, hr]
  exact hK _ _ (h v' w' hnx)
end
/-- A builder in the first two cells of the block b (of type T, 'rest' behind), that holds the bytes bs in the slice v. -/
structure Bw (b : Nat) (T : TypeId) (rest : List Value) (w : World) (v : Value) (bs : List UInt8) : Prop where
  heap : ∃ p, w.heap[b]? = some (.cells (p :: v :: rest).toArray T (0, 0)) ∧ (p = .pointer none ∨ p = .pointer (some ⟨b, 0, none⟩))
  own : OwnB b w v bs
  ty : T ≠ 5
/-- The bytes l have been written; of all blocks that were, only the builder's may have changed. -/
structure BApp (b : Nat) (T : TypeId) (w : World) (v : Value) (bs : List UInt8) (w' : World) (v' : Value) (l : List UInt8) (rest' : List Value) : Prop where
  now : Bw b T rest' w' v' (bs ++ l)
  keep : Keep (fun k => k = b ∨ some k = v.ownBlock) w w'
  moved : v'.ownBlock = v.ownBlock ∨ ∃ k, v'.ownBlock = some k ∧ w.heap.size ≤ k

section
variable {b : Nat} {T : TypeId} {rest : List Value} {w : World} {v : Value} {bs : List UInt8}
theorem Bw.lt (h : Bw b T rest w v bs) : b < w.heap.size := by
  obtain ⟨p, hp, _⟩ := h.heap
  exact lt_of_heap hp
theorem Bw.ne (h : Bw b T rest w v bs) : v.ownBlock ≠ some b := by
  obtain ⟨p, hp, _⟩ := h.heap
  exact h.own.ne_of_type hp h.ty
theorem Bw.cell (h : Bw b T rest w v bs) : w.cell? ⟨b, 1, none⟩ = some v := by
  obtain ⟨p, hp, _⟩ := h.heap
  rw [Lib.cell_of_heap hp]; rfl
theorem Bw.below {w' : World} (h : Bw b T rest w v bs) (hb : Below w.heap.size w w') : Bw b T rest w' v bs := by
  obtain ⟨p, hp, hq⟩ := h.heap
  exact ⟨⟨p, (hb.block b h.lt).trans hp, hq⟩, h.own.below hb, h.ty⟩
theorem Bw.keep {S : Nat → Prop} {w' : World} (h : Bw b T rest w v bs) (hk : Keep S w w') (h0 : ¬ S b) (h1 : ∀ k, v.ownBlock = some k → ¬ S k) : Bw b T rest w' v bs := by
  obtain ⟨p, hp, hq⟩ := h.heap
  exact ⟨⟨p, hk.heap hp h0, hq⟩, h.own.keep hk h1, h.ty⟩
theorem BApp.start (h : Bw b T rest w v bs) : BApp b T w v bs w v [] rest := ⟨by rw [List.append_nil]; exact h, Keep.refl _ _, .inl rfl⟩
theorem BApp.below {w1 w2 : World} {v1 : Value} {l : List UInt8} {rest1 : List Value} (h : BApp b T w v bs w1 v1 l rest1) (hb : Below w1.heap.size w1 w2) : BApp b T w v bs w2 v1 l rest1 :=
  ⟨h.now.below hb, h.keep.trans (S' := fun _ => False) (Keep.of_below hb) (fun _ _ h => h.elim), h.moved⟩
theorem BApp.join {w1 w2 : World} {v1 v2 : Value} {l l2 : List UInt8} {r1 r2 : List Value} (h : BApp b T w v bs w1 v1 l r1) (k : BApp b T w1 v1 (bs ++ l) w2 v2 l2 r2) : BApp b T w v bs w2 v2 (l ++ l2) r2 := by
  refine ⟨by rw [← List.append_assoc]; exact k.now, h.keep.trans k.keep ?_, ?_⟩
  · intro i hi he
    rcases he with he | he
    · exact .inl he
    rcases h.moved with h1 | ⟨c, h1, h2⟩
    · exact .inr (he.trans h1)
    · have : i = c := by rw [h1] at he; exact Option.some.inj he
      omega
  · rcases k.moved with h1 | ⟨c, h1, h2⟩
    · rw [h1]; exact h.moved
    · exact .inr ⟨c, h1, Nat.le_trans h.keep.size h2⟩
/-- A write of the builder's own cells. -/
theorem keep_set (w : World) (b o : Nat) (u v : Value) : Keep (fun k => k = b ∨ some k = v.ownBlock) w (w.setCell ⟨b, o, none⟩ u) := (Keep.refl _ _).set (.inl (.inl rfl)) u
/-- A new buffer laid into the builder. -/
theorem BApp.put {w1 : World} {v1 : Value} {l : List UInt8} (h : Bw b T rest w v bs) (hA : App b w v bs w1 v1 l) : BApp b T w v bs (w1.setCell ⟨b, 1, none⟩ v1) v1 l rest := by
  obtain ⟨p, hp, hq⟩ := h.heap
  have hp1 : w1.heap[b]? = some (.cells (p :: v :: rest).toArray T (0, 0)) := hA.keep.heap hp (fun e => h.ne e.symm)
  have hne : v1.ownBlock ≠ some b := hA.own.ne_of_type hp1 h.ty
  refine ⟨⟨⟨p, ?_, hq⟩, ?_, h.ty⟩, ?_, hA.at_⟩
  · simp [World.setCell, Array.getElem?_modify, hp1]
  · refine hA.own.keep (S := fun k => k = b) ((Keep.refl (fun k => k = b) w1).set (p := ⟨b, 1, none⟩) (.inl rfl) v1) ?_
    rintro k hk rfl
    exact hne hk
  · exact (hA.keep.mono (fun _ _ h => .inr h)).set (.inl (.inl rfl)) v1
/-- The builder's own address laid into it. -/
theorem Bw.used (h : Bw b T rest w v bs) : Bw b T rest (w.setCell ⟨b, 0, none⟩ (.pointer (some ⟨b, 0, none⟩))) v bs := by
  obtain ⟨p, hp, hq⟩ := h.heap
  refine ⟨⟨_, ?_, .inr rfl⟩, ?_, h.ty⟩
  · simp [World.setCell, Array.getElem?_modify, hp]
  · refine h.own.keep (S := fun k => k = b) ((Keep.refl (fun k => k = b) w).set (p := ⟨b, 0, none⟩) (.inl rfl) _) ?_
    rintro k hk rfl
    exact h.ne hk
end

/-- What the two conversions of a pointer ask of the block's type. -/
def Fits (T : TypeId) (n : Nat) : Prop := liesAt Tryz.prog Tryz.prog.depth T ((n + 2) / Tryz.prog.cellsOf T) 0 80 1 = true
theorem fits_builder : Fits 80 0 := by unfold Fits; kernel_rfl
section
variable {b : Nat} {T : TypeId} {rest : List Value} {w : World} {v : Value} {bs : List UInt8}
theorem Bw.shape (h : Bw b T rest w v bs) : w.shape? b = some (T, rest.length + 2) := by
  obtain ⟨p, hp, _⟩ := h.heap
  simp [World.shape?, hp]
theorem Bw.to_unsafe (h : Bw b T rest w v bs) : (convert 78 141 (.pointer (some ⟨b, 0, none⟩))).run Tryz.prog w = .ok (.pointer (some ⟨b, 0, none⟩)) w := by
  obtain ⟨i0, hi, hz⟩ : ∃ i0, Tryz.prog.info? 80 = some i0 ∧ i0.size ≠ 0 := ⟨Tryz.t80, by kernel_rfl, by decide⟩
  exact Lib.run_to_unsafe w ⟨b, 0, none⟩ Tryz.underlying78 Tryz.underlying141 hi hz h.shape (by simp)
theorem Bw.from_unsafe (hF : Fits T rest.length) (h : Bw b T rest w v bs) : (convert 141 78 (.pointer (some ⟨b, 0, none⟩))).run Tryz.prog w = .ok (.pointer (some ⟨b, 0, none⟩)) w := by
  obtain ⟨i0, hi, hz⟩ : ∃ i0, Tryz.prog.info? 80 = some i0 ∧ i0.size ≠ 0 := ⟨Tryz.t80, by kernel_rfl, by decide⟩
  exact Lib.run_from_unsafe w ⟨b, 0, none⟩ Tryz.underlying141 Tryz.underlying78 hi h.shape hF
set_option maxRecDepth 100000 in
theorem copyCheck_any (hF : Fits T rest.length) (h : Bw b T rest w v bs) :
    Calls Tryz.prog 96 #[.pointer (some ⟨b, 0, none⟩)] w fun e w' => e = .returned (.tuple #[]) ∧ BApp b T w v bs w' v [] rest := by
  have hne : ∀ (W : World) (x : Value), (callFunc 119 #[x]).run Tryz.prog W = .ok (.value x) W := fun W x => by
    rw [run_callFunc_extern Tryz.func119 (by kernel_rfl) (by kernel_rfl) (by kernel_rfl) (e := Extern.AbiNoEscape.same) (by kernel_rfl)]
    rfl
  have hnp : ∀ W : World, (binOp .neq 78 (.pointer (some ⟨b, 0, none⟩)) (.pointer (some ⟨b, 0, none⟩))).run Tryz.prog W = .ok (.bool false) W := fun W => Lib.run_neq_ptr_same (j := Tryz.t80) W _ Tryz.underlying78 (by kernel_rfl)
  have ht := h.to_unsafe
  have hf := h.from_unsafe hF
  obtain ⟨p, hp, hq⟩ := h.heap
  have hc : w.cell? ⟨b, 0, none⟩ = some p := by rw [Lib.cell_of_heap hp]; rfl
  have hz : w.frozen? ⟨b, 0, none⟩ = false := Lib.frozen_of_heap hp 0
  have hB : BApp b T w v bs w v [] rest := BApp.start h
  have hB' : BApp b T w v bs (w.setCell ⟨b, 0, none⟩ (.pointer (some ⟨b, 0, none⟩))) v [] rest := ⟨by rw [List.append_nil]; exact h.used, keep_set _ _ _ _ _, .inl rfl⟩
  clear h hp
  rcases hq with rfl | rfl
  · go_enter Tryz.func96, Tryz.ntmps96
    go_wp2_with fail
    go_end0
    exact ⟨rfl, hB'⟩
  · go_enter Tryz.func96, Tryz.ntmps96
    go_wp2_with fail
    go_end0
    exact ⟨rfl, hB⟩

theorem frozen_after {w1 : World} {v1 : Value} {l : List UInt8} (h : Bw b T rest w v bs) (hA : App b w v bs w1 v1 l) : w1.frozen? ⟨b, 1, none⟩ = false := by
  obtain ⟨p, hp, _⟩ := h.heap
  exact Lib.frozen_of_heap (hA.keep.heap hp (fun e => h.ne e.symm)) 1
theorem cell_after {w1 : World} {v1 : Value} {l : List UInt8} (h : Bw b T rest w v bs) (hA : App b w v bs w1 v1 l) : w1.cell? ⟨b, 1, none⟩ = some v := hA.keep.cell h.cell (fun e => h.ne e.symm)
theorem BApp.put' {w0 w1 : World} {v1 : Value} {l : List UInt8} (hB : BApp b T w v bs w0 v [] rest) (h : Bw b T rest w0 v bs) (hA : App b w0 v bs w1 v1 l) : BApp b T w v bs (w1.setCell ⟨b, 1, none⟩ v1) v1 l rest :=
  hB.join (l2 := l) (by rw [List.append_nil]; exact BApp.put h hA)
set_option maxRecDepth 100000 in
theorem writeByte_any (hF : Fits T rest.length) (h : Bw b T rest w v bs) (c : Int) (x : UInt8) (hx : c = (x.toNat : Int)) (hl : bs.length + 1 ≤ 140737488355328) :
    Calls Tryz.prog 71 #[.pointer (some ⟨b, 0, none⟩), .int .u8 c] w fun e w' => e = .returned .nilIface ∧ ∃ v', BApp b T w v bs w' v' [x] rest := by
  subst hx
  go_enter Tryz.func71, Tryz.ntmps71
  go_wp2_with fail
  refine (copyCheck_any hF h).mono ?_
  rintro e w1 ⟨rfl, hB⟩
  have h1 := hB.now
  rw [List.append_nil] at h1
  obtain ⟨A, c0, rfl⟩ := h1.own.shape
  have hc := h1.cell
  have hA := App.start h1.own (Nat.le_of_lt h1.lt)
  go_wp2_with (at_builtin; refine appN rfl _ _ rfl [x] 1 _ rfl rfl rfl rfl hA (by simp; omega) ?_; intro v2 w2 hA2; obtain ⟨A2, c2, rfl⟩ := hA2.own.shape; have hz := frozen_after h1 hA2; have hsz := cell_after h1 hA2; have hR := BApp.put' hB h1 hA2; clear hA2 hA h h1 hB)
  go_ret
  simp only [List.nil_append, List.length_append, List.length_singleton] at hR
  exact ⟨rfl, _, hR⟩
set_option maxRecDepth 100000 in
theorem writeString_any (hF : Fits T rest.length) (h : Bw b T rest w v bs) (s : List UInt8) (hl : bs.length + s.length ≤ 140737488355328) :
    Calls Tryz.prog 89 #[.pointer (some ⟨b, 0, none⟩), .string ⟨s.toArray⟩] w fun e w' => e = .returned (.tuple #[.int .i64 s.length, .nilIface]) ∧ ∃ v', BApp b T w v bs w' v' s rest := by
  go_enter Tryz.func89, Tryz.ntmps89
  go_wp2_with fail
  refine (copyCheck_any hF h).mono ?_
  rintro e w1 ⟨rfl, hB⟩
  have h1 := hB.now
  rw [List.append_nil] at h1
  obtain ⟨A, c0, rfl⟩ := h1.own.shape
  have hc := h1.cell
  have hA := App.start h1.own (Nat.le_of_lt h1.lt)
  go_wp2_with (at_builtin; refine appS rfl _ _ rfl s rfl rfl hA (by simp; omega) ?_; intro v2 w2 hA2; obtain ⟨A2, c2, rfl⟩ := hA2.own.shape; have hz := frozen_after h1 hA2; have hsz := cell_after h1 hA2; have hR := BApp.put' hB h1 hA2; clear hA2 hA h h1 hB)
  go_ret2
  simp only [List.nil_append, List.length_append, List.length_singleton] at hR
  exact ⟨rfl, _, hR⟩
end
end Go.Proofs.YtpfamfkdfbcooaaGreatDoor
