/- value.many, value.write, value.Text of every tree. -/
import Derived.Test.YtpfamfkdfbcooaaGreatDoorVap
set_option linter.unusedVariables false
set_option linter.unusedSimpArgs false
namespace Go.Proofs.YtpfamfkdfbcooaaGreatDoor
open Go Go.RowKit Go.Proofs
/-- Parts with commas between. -/
def tjoin (f : Nat → List UInt8) : Nat → Nat → List UInt8
  | 0, _ => []
  | m + 1, i => (if 0 < i then [44] else []) ++ f i ++ tjoin f m (i + 1)
theorem tjoin_snoc (f : Nat → List UInt8) : ∀ (m i : Nat), tjoin f (m + 1) i = tjoin f m i ++ ((if 0 < i + m then [44] else []) ++ f (i + m))
  | 0, i => by simp [tjoin]
  | m + 1, i => by
    rw [tjoin, tjoin_snoc f m (i + 1), tjoin, show i + 1 + m = i + (m + 1) by omega]
    simp only [List.append_assoc]
theorem tjoin_split (f : Nat → List UInt8) : ∀ (k r i : Nat), tjoin f (k + r) i = tjoin f k i ++ tjoin f r (i + k)
  | 0, r, i => by rw [Nat.zero_add, Nat.add_zero]; rfl
  | k + 1, r, i => by
    rw [show k + 1 + r = (k + r) + 1 by omega, tjoin, tjoin_split f k r (i + 1), tjoin, show i + 1 + k = i + (k + 1) by omega]
    simp only [List.append_assoc]
theorem tjoin_le (f : Nat → List UInt8) (n k : Nat) (hk : k < n) : (tjoin f k 0).length + ((if 0 < k then [(44 : UInt8)] else []).length + (f k).length) ≤ (tjoin f n 0).length := by
  have h := tjoin_split f (k + 1) (n - (k + 1)) 0
  rw [show k + 1 + (n - (k + 1)) = n by omega, tjoin_snoc, Nat.zero_add] at h
  rw [h]
  simp only [List.length_append]
  omega
/-- A tree's text. -/
def textT : Nat → Tr → List UInt8
  | 0, _ => []
  | d + 1, .mk k num str keys list =>
    if k = 5 then 91 :: (tjoin (fun i => textT d (list.getD i default)) list.length 0 ++ [93])
    else if k = 6 then 123 :: (tjoin (fun i => (quoteT (keys.getD i []) ++ [58]) ++ textT d (list.getD i default)) list.length 0 ++ [125])
    else plainT k.toNat num str
/-- What value.write is claimed to do of a tree. -/
def WVals (w0 : World) (d : Nat) (t : Tr) (y0 y1 y2 y3 y4 : Value) : Prop :=
  ∀ (b : Nat) (T : TypeId) (rest : List Value) (w : World) (v : Value) (bs : List UInt8), Fits T rest.length → w0.heap.size ≤ b → Below w0.heap.size w0 w → Bw b T rest w v bs → bs.length + (textT d t).length ≤ 140000000000000 →
    Calls Tryz.prog 64 #[.pointer (some ⟨b, 0, none⟩), .agg #[y0, y1, y2, y3, y4]] w fun e w' => e = .returned (.tuple #[]) ∧ ∃ v', BApp b T w v bs w' v' (textT d t) rest
section
variable {b : Nat} {T : TypeId} {rest : List Value} {w : World} {v : Value} {bs : List UInt8}
theorem Bw.away (h : Bw b T rest w v bs) {k : Nat} (hk : w.heap.size ≤ k) : k ≠ b ∧ v.ownBlock ≠ some k := ⟨by have := h.lt; omega, fun e => by have := (h.own.lt k e).2; omega⟩
theorem BApp.below0 {w0 w1 : World} {v1 : Value} {l : List UInt8} {r1 : List Value} (h : BApp b T w v bs w1 v1 l r1) (hs : Bw b T rest w v bs) (hb : w0.heap.size ≤ b) (h0 : Below w0.heap.size w0 w) : Below w0.heap.size w0 w1 :=
  h0.trans (h.keep.below h0.size (fun k hk e => by
    rcases e with e | e
    · omega
    · have := (hs.own.lt k e.symm).1; omega))
theorem BApp.far {w1 : World} {v1 : Value} {l : List UInt8} {r1 : List Value} (h : BApp b T w v bs w1 v1 l r1) {a : Addr} {u : Value} (hc : w.cell? a = some u) (hn : a.block ≠ b ∧ v.ownBlock ≠ some a.block) : w1.cell? a = some u := by
  have hbl := h.keep.block a.block (World.block_lt_of_cell? w _ hc) (fun e => by
    rcases e with e | e
    · exact hn.1 e
    · exact hn.2 e.symm)
  exact (World.cell?_of_block hbl).trans hc
set_option maxHeartbeats 8000000 in
set_option maxRecDepth 100000 in
theorem vmany_arr (hF : Fits T rest.length) (h : Bw b T rest w v bs) (w0 : World) (hb : w0.heap.size ≤ b) (h0 : Below w0.heap.size w0 w) (num : Nat) (str : ByteArray) (A A2 : Option Addr) (n c m c2 : Nat) (hn : n ≤ 1048576) (f : Nat → List UInt8)
    (hlen : bs.length + (2 + (tjoin f n 0).length) ≤ 140000000000000)
    (hpart : ∀ i, i < n → ∃ ad, A = some ad ∧ ∃ (kk : Int) (nn : Nat) (ss : ByteArray) (A3 : Option Addr) (n3 e3 : Nat) (A4 : Option Addr) (n4 e4 : Nat), Cells5 w0 (ad.add (i * 5)) (.int .i64 kk) (.float .f64 nn) (.string ss) (.slice A3 n3 e3) (.slice A4 n4 e4) ∧
      ∀ (w' : World) (v' : Value) (bs' : List UInt8), Below w0.heap.size w0 w' → Bw b T rest w' v' bs' → bs'.length + (f i).length ≤ 140000000000000 → Calls Tryz.prog 64 #[.pointer (some ⟨b, 0, none⟩), .agg #[.int .i64 kk, .float .f64 nn, .string ss, .slice A3 n3 e3, .slice A4 n4 e4]] w' fun e w'' => e = .returned (.tuple #[]) ∧ ∃ v'', BApp b T w' v' bs' w'' v'' (f i) rest) :
    Calls Tryz.prog 92 #[.pointer (some ⟨b, 0, none⟩), .agg #[.int .i64 5, .float .f64 num, .string str, .slice A n c, .slice A2 m c2]] w fun e w' => e = .returned (.tuple #[]) ∧ ∃ v', BApp b T w v bs w' v' (91 :: (tjoin f n 0 ++ [93])) rest := by
  obtain ⟨W1, hW1⟩ : ∃ W1, W1 = w.alloc (.cells #[.int .i64 5, .float .f64 num, .string str, .slice A n c, .slice A2 m c2] 27) := ⟨_, rfl⟩
  obtain ⟨hbw, e0, e1, e2, e3, e4⟩ := after_new _ _ _ _ _ _ _ _ hW1
  have hS1 : BApp b T w v bs W1 v [] rest := (BApp.start h).below hbw
  have hN1 : Bw b T rest W1 v bs := h.below hbw
  have hfar : w.heap.size ≠ b ∧ v.ownBlock ≠ some w.heap.size := h.away (Nat.le_refl _)
  have K : Hid (∀ W V l, BApp b T W1 v bs W V l rest → W.cell? ⟨w.heap.size, 0, none⟩ = some (.int .i64 5) ∧ W.cell? ⟨w.heap.size, 3, none⟩ = some (.slice A n c)) := Lib.hid (fun W V l hA => by
    have go : ∀ {o : Nat} {u : Value}, W1.cell? ⟨w.heap.size, o, none⟩ = some u → W.cell? ⟨w.heap.size, o, none⟩ = some u := fun hc => hA.far (a := ⟨w.heap.size, _, none⟩) hc hfar
    exact ⟨go e0, go e3⟩)
  have HP := Lib.hid hpart
  have hB01 : Below w0.heap.size w0 W1 := h0.trans (hbw.mono h0.size)
  have B0 : Hid (∀ W V l, BApp b T W1 v bs W V l rest → Below w0.heap.size w0 W) := Lib.hid (fun W V l hA => hA.below0 hN1 hb hB01)
  have HW1 := Lib.hid hW1
  have HSt := Lib.hid hS1
  have HN1 := Lib.hid hN1
  have HLen := Lib.hid hlen
  have hll : bs.length ≤ 140000000000000 := by omega
  clear hW1 hpart hS1 hN1 hb h0 hfar e1 e2 e4 hbw hB01 h hlen
  go_enter Tryz.func92, Tryz.ntmps92
  go_upto_region 1 with fail
  rw [← HW1.out]
  go_wp2_with fail
  clear e0 e3
  refine (writeByte_any hF HN1.out 91 91 rfl (by omega)).mono ?_
  rintro e' w2 ⟨rfl, v2, hA⟩
  have HJ : Hid (BApp b T W1 v bs w2 v2 ([91] ++ tjoin f 0 0) rest) := Lib.hid hA
  clear hA
  obtain ⟨q0, q3⟩ := K.out w2 v2 _ HJ.out
  go_wp2_with fail
  clear q0 q3
  go_loopw [17] (fun i wr => ∃ (k : Nat) (vk : Value), k ≤ n ∧ i = .int .i64 k ∧ Hid (BApp b T W1 v bs wr vk ([91] ++ tjoin f k 0) rest)) (fun i _ => n - (intOf i).toNat)
  case atStart => exact ⟨0, v2, Nat.zero_le _, rfl, HJ⟩
  case round =>
    clear HJ
    obtain ⟨k, vk, hk, rfl, HJ⟩ := hrel
    rcases Nat.lt_or_ge k n with hlt | hge
    · obtain ⟨ad, rfl, kk, nn, ss, A3, n3, e3, A4, n4, e4, hc5, hC⟩ := HP.out k hlt
      have HC := Lib.hid hC
      have HL : Hid (bs.length + (2 + ((tjoin f k 0).length + ((if 0 < k then [(44 : UInt8)] else []).length + (f k).length))) ≤ 140000000000000) := Lib.hid (by have := HLen.out; have := tjoin_le f n k hlt; omega)
      have hb0 := B0.out wr vk _ HJ.out
      obtain ⟨g0, g1, g2, g3, g4⟩ := hc5.below hb0
      have HB0 := Lib.hid hb0
      have HSn : Hid (tjoin f (k + 1) 0 = tjoin f k 0 ++ ((if 0 < k then [44] else []) ++ f k)) := Lib.hid (by rw [tjoin_snoc, Nat.zero_add])
      clear hC hc5 hb0
      by_cases hk0 : 0 < k
      · have tz : decide ((0 : Int) < (k : Int)) = true := decide_eq_true (by omega)
        have tz2 : decide (0 < k) = true := decide_eq_true (by omega)
        have HSn2 : Hid (tjoin f (k + 1) 0 = tjoin f k 0 ++ ([44] ++ f k)) := Lib.hid (by rw [HSn.out, if_pos hk0])
        go_wp2_with (refine wpList_store_row rfl 27 (.tmp 6) (.tmp 21) rfl _ #[.int .i64 kk, .float .f64 nn, .string ss, .slice A3 n3 e3, .slice A4 n4 e4] rfl rfl 27 #[.int .i64 0, .float .f64 0, .string ⟨#[]⟩, .slice none 0 0, .slice none 0 0] (heap_alloc_new _ _) (by kernel_rfl) rfl (one5 kk nn ss A3 A4 n3 e3 n4 e4) ?_; rw [setRow_new]; obtain ⟨W5, hW5⟩ : ∃ W5, W5 = World.alloc wr (.cells #[.int .i64 kk, .float .f64 nn, .string ss, .slice A3 n3 e3, .slice A4 n4 e4] 27) := ⟨_, rfl⟩; rw [← hW5]; have A5 := after_new _ _ _ _ _ _ _ _ hW5; clear hW5; obtain ⟨hb5, x0, x1, x2, x3, x4⟩ := A5; clear g0 g1 g2 g3 g4; have HJ5 := Lib.hid (HJ.out.below hb5); have HN5 := Lib.hid (HJ.out.now.below hb5); have X5 : Hid (∀ W V l, BApp b T W5 vk (bs ++ ([91] ++ tjoin f k 0)) W V l rest → W.cell? ⟨wr.heap.size, 0, none⟩ = some (.int .i64 kk) ∧ W.cell? ⟨wr.heap.size, 1, none⟩ = some (.float .f64 nn) ∧ W.cell? ⟨wr.heap.size, 2, none⟩ = some (.string ss) ∧ W.cell? ⟨wr.heap.size, 3, none⟩ = some (.slice A3 n3 e3) ∧ W.cell? ⟨wr.heap.size, 4, none⟩ = some (.slice A4 n4 e4)) := (Lib.hid (fun W V l hA => by have hf := HJ.out.now.away (Nat.le_refl _); exact ⟨hA.far (a := ⟨wr.heap.size, 0, none⟩) x0 hf, hA.far (a := ⟨wr.heap.size, 1, none⟩) x1 hf, hA.far (a := ⟨wr.heap.size, 2, none⟩) x2 hf, hA.far (a := ⟨wr.heap.size, 3, none⟩) x3 hf, hA.far (a := ⟨wr.heap.size, 4, none⟩) x4 hf⟩)); clear x0 x1 x2 x3 x4 hb5)
        refine (writeByte_any hF HN5.out 44 44 rfl (by have := HL.out; simp; omega)).mono ?_
        rintro e' w6 ⟨rfl, v6, hA⟩
        obtain ⟨x0, x1, x2, x3, x4⟩ := X5.out w6 v6 _ hA
        have HJ6 := Lib.hid (HJ5.out.join hA)
        clear hA tz tz2
        obtain ⟨q0, q3⟩ := K.out w6 v6 _ HJ6.out
        go_wp2_with fail
        refine (HC.out w6 v6 _ (B0.out w6 v6 _ HJ6.out) HJ6.out.now (by have := HL.out; rw [if_pos hk0] at this; simp at this ⊢; omega)).mono ?_
        rintro e' w7 ⟨rfl, v7, hA⟩
        have HJ7 : Hid (BApp b T W1 v bs w7 v7 ([91] ++ tjoin f (k + 1) 0) rest) := Lib.hid (by
          have := HJ6.out.join hA
          rw [HSn2.out]
          simpa only [List.append_assoc] using this)
        clear hA x0 x1 x2 x3 x4 q0 q3
        go_wp2_with fail
        all_goals go_roundw
        case rel => exact ⟨k + 1, v7, by omega, by go_num, HJ7⟩
        case measure => simp [intOf]; omega
      · have tz : decide ((0 : Int) < (k : Int)) = false := decide_eq_false (by omega)
        have tz2 : decide (0 < k) = false := decide_eq_false (by omega)
        have HSn2 : Hid (tjoin f (k + 1) 0 = tjoin f k 0 ++ f k) := Lib.hid (by rw [HSn.out, if_neg hk0]; rfl)
        go_wp2_with (refine wpList_store_row rfl 27 (.tmp 6) (.tmp 21) rfl _ #[.int .i64 kk, .float .f64 nn, .string ss, .slice A3 n3 e3, .slice A4 n4 e4] rfl rfl 27 #[.int .i64 0, .float .f64 0, .string ⟨#[]⟩, .slice none 0 0, .slice none 0 0] (heap_alloc_new _ _) (by kernel_rfl) rfl (one5 kk nn ss A3 A4 n3 e3 n4 e4) ?_; rw [setRow_new]; obtain ⟨W5, hW5⟩ : ∃ W5, W5 = World.alloc wr (.cells #[.int .i64 kk, .float .f64 nn, .string ss, .slice A3 n3 e3, .slice A4 n4 e4] 27) := ⟨_, rfl⟩; rw [← hW5]; have A5 := after_new _ _ _ _ _ _ _ _ hW5; clear hW5; obtain ⟨hb5, x0, x1, x2, x3, x4⟩ := A5; clear g0 g1 g2 g3 g4; have HJ5 := Lib.hid (HJ.out.below hb5); have HN5 := Lib.hid (HJ.out.now.below hb5); have q5 := K.out W5 vk _ HJ5.out; obtain ⟨q0, q3⟩ := q5; have X5 : Hid (∀ W V l, BApp b T W5 vk (bs ++ ([91] ++ tjoin f k 0)) W V l rest → W.cell? ⟨wr.heap.size, 0, none⟩ = some (.int .i64 kk) ∧ W.cell? ⟨wr.heap.size, 1, none⟩ = some (.float .f64 nn) ∧ W.cell? ⟨wr.heap.size, 2, none⟩ = some (.string ss) ∧ W.cell? ⟨wr.heap.size, 3, none⟩ = some (.slice A3 n3 e3) ∧ W.cell? ⟨wr.heap.size, 4, none⟩ = some (.slice A4 n4 e4)) := (Lib.hid (fun W V l hA => by have hf := HJ.out.now.away (Nat.le_refl _); exact ⟨hA.far (a := ⟨wr.heap.size, 0, none⟩) x0 hf, hA.far (a := ⟨wr.heap.size, 1, none⟩) x1 hf, hA.far (a := ⟨wr.heap.size, 2, none⟩) x2 hf, hA.far (a := ⟨wr.heap.size, 3, none⟩) x3 hf, hA.far (a := ⟨wr.heap.size, 4, none⟩) x4 hf⟩)); clear hb5)
        refine (HC.out W5 vk _ (B0.out W5 vk _ HJ5.out) HJ5.out.now (by have := HL.out; simp at this ⊢; omega)).mono ?_
        rintro e' w7 ⟨rfl, v7, hA⟩
        have HJ7 : Hid (BApp b T W1 v bs w7 v7 ([91] ++ tjoin f (k + 1) 0) rest) := Lib.hid (by
          have := HJ5.out.join hA
          rw [HSn2.out]
          simpa only [List.append_assoc] using this)
        clear hA x0 x1 x2 x3 x4 q0 q3
        go_wp2_with fail
        all_goals go_roundw
        case rel => exact ⟨k + 1, v7, by omega, by go_num, HJ7⟩
        case measure => simp [intOf]; omega
    · obtain rfl : k = n := by omega
      go_wp2_with fail
      refine (writeByte_any hF HJ.out.now 93 93 rfl (by have := HLen.out; simp; omega)).mono ?_
      rintro e' w6 ⟨rfl, v6, hA⟩
      have hE : BApp b T w v bs w6 v6 (91 :: (tjoin f k 0 ++ [93])) rest := by
        have := HSt.out.join (l2 := ([91] ++ tjoin f k 0) ++ [93]) (by rw [List.append_nil]; exact HJ.out.join hA)
        simpa only [List.append_assoc, List.nil_append, List.singleton_append, List.cons_append] using this
      go_wp2_with fail
      go_end0
      exact ⟨rfl, v6, hE⟩
set_option maxHeartbeats 8000000 in
set_option maxRecDepth 100000 in
theorem vmany_obj (hF : Fits T rest.length) (h : Bw b T rest w v bs) (w0 : World) (hb : w0.heap.size ≤ b) (h0 : Below w0.heap.size w0 w) (num : Nat) (str : ByteArray) (A A2 : Option Addr) (n c c2 : Nat) (hn : n ≤ 1048576) (f : Nat → List UInt8)
    (ys : Nat → List UInt8) (g : Nat → List UInt8) (hf : ∀ i, f i = (quoteT (ys i) ++ [58]) ++ g i) (hkey : ∀ i, i < n → ∃ ad2, A2 = some ad2 ∧ (ys i).length ≤ 1048576 ∧ w0.cell? (ad2.add i) = some (.string ⟨(ys i).toArray⟩))
    (hlen : bs.length + (2 + (tjoin f n 0).length) ≤ 140000000000000)
    (hpart : ∀ i, i < n → ∃ ad, A = some ad ∧ ∃ (kk : Int) (nn : Nat) (ss : ByteArray) (A3 : Option Addr) (n3 e3 : Nat) (A4 : Option Addr) (n4 e4 : Nat), Cells5 w0 (ad.add (i * 5)) (.int .i64 kk) (.float .f64 nn) (.string ss) (.slice A3 n3 e3) (.slice A4 n4 e4) ∧
      ∀ (w' : World) (v' : Value) (bs' : List UInt8), Below w0.heap.size w0 w' → Bw b T rest w' v' bs' → bs'.length + (g i).length ≤ 140000000000000 → Calls Tryz.prog 64 #[.pointer (some ⟨b, 0, none⟩), .agg #[.int .i64 kk, .float .f64 nn, .string ss, .slice A3 n3 e3, .slice A4 n4 e4]] w' fun e w'' => e = .returned (.tuple #[]) ∧ ∃ v'', BApp b T w' v' bs' w'' v'' (g i) rest) :
    Calls Tryz.prog 92 #[.pointer (some ⟨b, 0, none⟩), .agg #[.int .i64 6, .float .f64 num, .string str, .slice A n c, .slice A2 n c2]] w fun e w' => e = .returned (.tuple #[]) ∧ ∃ v', BApp b T w v bs w' v' (123 :: (tjoin f n 0 ++ [125])) rest := by
  obtain ⟨W1, hW1⟩ : ∃ W1, W1 = w.alloc (.cells #[.int .i64 6, .float .f64 num, .string str, .slice A n c, .slice A2 n c2] 27) := ⟨_, rfl⟩
  obtain ⟨hbw, e0, e1, e2, e3, e4⟩ := after_new _ _ _ _ _ _ _ _ hW1
  have hS1 : BApp b T w v bs W1 v [] rest := (BApp.start h).below hbw
  have hN1 : Bw b T rest W1 v bs := h.below hbw
  have hfar : w.heap.size ≠ b ∧ v.ownBlock ≠ some w.heap.size := h.away (Nat.le_refl _)
  have K : Hid (∀ W V l, BApp b T W1 v bs W V l rest → W.cell? ⟨w.heap.size, 0, none⟩ = some (.int .i64 6) ∧ W.cell? ⟨w.heap.size, 3, none⟩ = some (.slice A n c) ∧ W.cell? ⟨w.heap.size, 4, none⟩ = some (.slice A2 n c2)) := Lib.hid (fun W V l hA => by
    have go : ∀ {o : Nat} {u : Value}, W1.cell? ⟨w.heap.size, o, none⟩ = some u → W.cell? ⟨w.heap.size, o, none⟩ = some u := fun hc => hA.far (a := ⟨w.heap.size, _, none⟩) hc hfar
    exact ⟨go e0, go e3, go e4⟩)
  have HP := Lib.hid hpart
  have HY := Lib.hid hkey
  have HF := Lib.hid hf
  have hB01 : Below w0.heap.size w0 W1 := h0.trans (hbw.mono h0.size)
  have B0 : Hid (∀ W V l, BApp b T W1 v bs W V l rest → Below w0.heap.size w0 W) := Lib.hid (fun W V l hA => hA.below0 hN1 hb hB01)
  have HW1 := Lib.hid hW1
  have HSt := Lib.hid hS1
  have HN1 := Lib.hid hN1
  have HLen := Lib.hid hlen
  have hll : bs.length ≤ 140000000000000 := by omega
  clear hW1 hkey hf hpart hS1 hN1 hb h0 hfar e1 e2 hbw hB01 h hlen
  go_enter Tryz.func92, Tryz.ntmps92
  go_upto_region 1 with fail
  rw [← HW1.out]
  go_wp2_with fail
  clear e0 e3 e4
  refine (writeByte_any hF HN1.out 123 123 rfl (by omega)).mono ?_
  rintro e' w2 ⟨rfl, v2, hA⟩
  have HJ : Hid (BApp b T W1 v bs w2 v2 ([123] ++ tjoin f 0 0) rest) := Lib.hid hA
  clear hA
  obtain ⟨q0, q3, q4⟩ := K.out w2 v2 _ HJ.out
  go_wp2_with fail
  clear q0 q3 q4
  go_loopw [17] (fun i wr => ∃ (k : Nat) (vk : Value), k ≤ n ∧ i = .int .i64 k ∧ Hid (BApp b T W1 v bs wr vk ([123] ++ tjoin f k 0) rest)) (fun i _ => n - (intOf i).toNat)
  case atStart => exact ⟨0, v2, Nat.zero_le _, rfl, HJ⟩
  case round =>
    clear HJ
    obtain ⟨k, vk, hk, rfl, HJ⟩ := hrel
    rcases Nat.lt_or_ge k n with hlt | hge
    · obtain ⟨ad, rfl, kk, nn, ss, A3, n3, e3, A4, n4, e4, hc5, hC⟩ := HP.out k hlt
      have HC := Lib.hid hC
      obtain ⟨ad2, rfl, hyl, hky⟩ := HY.out k hlt
      have hfk := HF.out k
      obtain ⟨y, hy⟩ : ∃ y, y = ys k := ⟨_, rfl⟩
      obtain ⟨gk, hgk⟩ : ∃ z, z = g k := ⟨_, rfl⟩
      rw [← hgk, ← hy] at hfk
      rw [← hgk] at HC
      rw [← hy] at hyl hky
      have HQ : Hid (∀ W, Below w0.heap.size w0 W → W.cell? (ad2.add k) = some (.string ⟨y.toArray⟩)) := Lib.hid (fun W hb => (hb.cell (World.block_lt_of_cell? w0 _ hky)).trans hky)
      have HFK := Lib.hid hfk
      have HQL : Hid ((quoteT y).length ≤ 6 * y.length + 2) := Lib.hid (by have h2 := flatMap_length y; unfold quoteT; rw [List.length_cons, List.length_append, List.length_singleton]; omega)
      have HL : Hid (bs.length + (2 + ((tjoin f k 0).length + ((if 0 < k then [(44 : UInt8)] else []).length + (f k).length))) ≤ 140000000000000) := Lib.hid (by have := HLen.out; have := tjoin_le f n k hlt; omega)
      have hb0 := B0.out wr vk _ HJ.out
      obtain ⟨g0, g1, g2, g3, g4⟩ := hc5.below hb0
      have HB0 := Lib.hid hb0
      have HSn : Hid (tjoin f (k + 1) 0 = tjoin f k 0 ++ ((if 0 < k then [44] else []) ++ f k)) := Lib.hid (by rw [tjoin_snoc, Nat.zero_add])
      clear hC hc5 hb0 hky hy hgk hfk
      by_cases hk0 : 0 < k
      · have tz : decide ((0 : Int) < (k : Int)) = true := decide_eq_true (by omega)
        have tz2 : decide (0 < k) = true := decide_eq_true (by omega)
        have HSn2 : Hid (tjoin f (k + 1) 0 = tjoin f k 0 ++ ([44] ++ f k)) := Lib.hid (by rw [HSn.out, if_pos hk0])
        go_wp2_with (refine wpList_store_row rfl 27 (.tmp 6) (.tmp 21) rfl _ #[.int .i64 kk, .float .f64 nn, .string ss, .slice A3 n3 e3, .slice A4 n4 e4] rfl rfl 27 #[.int .i64 0, .float .f64 0, .string ⟨#[]⟩, .slice none 0 0, .slice none 0 0] (heap_alloc_new _ _) (by kernel_rfl) rfl (one5 kk nn ss A3 A4 n3 e3 n4 e4) ?_; rw [setRow_new]; obtain ⟨W5, hW5⟩ : ∃ W5, W5 = World.alloc wr (.cells #[.int .i64 kk, .float .f64 nn, .string ss, .slice A3 n3 e3, .slice A4 n4 e4] 27) := ⟨_, rfl⟩; rw [← hW5]; have A5 := after_new _ _ _ _ _ _ _ _ hW5; clear hW5; obtain ⟨hb5, x0, x1, x2, x3, x4⟩ := A5; clear g0 g1 g2 g3 g4; have HJ5 := Lib.hid (HJ.out.below hb5); have HN5 := Lib.hid (HJ.out.now.below hb5); have X5 : Hid (∀ W V l, BApp b T W5 vk (bs ++ ([123] ++ tjoin f k 0)) W V l rest → W.cell? ⟨wr.heap.size, 0, none⟩ = some (.int .i64 kk) ∧ W.cell? ⟨wr.heap.size, 1, none⟩ = some (.float .f64 nn) ∧ W.cell? ⟨wr.heap.size, 2, none⟩ = some (.string ss) ∧ W.cell? ⟨wr.heap.size, 3, none⟩ = some (.slice A3 n3 e3) ∧ W.cell? ⟨wr.heap.size, 4, none⟩ = some (.slice A4 n4 e4)) := (Lib.hid (fun W V l hA => by have hf := HJ.out.now.away (Nat.le_refl _); exact ⟨hA.far (a := ⟨wr.heap.size, 0, none⟩) x0 hf, hA.far (a := ⟨wr.heap.size, 1, none⟩) x1 hf, hA.far (a := ⟨wr.heap.size, 2, none⟩) x2 hf, hA.far (a := ⟨wr.heap.size, 3, none⟩) x3 hf, hA.far (a := ⟨wr.heap.size, 4, none⟩) x4 hf⟩)); clear x0 x1 x2 x3 x4 hb5)
        refine (writeByte_any hF HN5.out 44 44 rfl (by have := HL.out; simp; omega)).mono ?_
        rintro e' w6 ⟨rfl, v6, hA⟩
        obtain ⟨x0, x1, x2, x3, x4⟩ := X5.out w6 v6 _ hA
        have HJ6 := Lib.hid (HJ5.out.join hA)
        have XH6 := Lib.hid hA
        clear hA tz tz2
        obtain ⟨q0, q3, q4⟩ := K.out w6 v6 _ HJ6.out
        clear x0 x1 x2 x3 x4
        have hkw := HQ.out w6 (B0.out w6 v6 _ HJ6.out)
        go_wp2_with fail
        refine (quote_any hF HJ6.out.now y (by have := HL.out; simp at this ⊢; omega)).mono ?_
        rintro e' wq ⟨rfl, vq, hQA⟩
        clear q0 q3 q4
        have HJq := Lib.hid (HJ6.out.join hQA)
        obtain ⟨x0, x1, x2, x3, x4⟩ := X5.out wq vq _ (XH6.out.join (by simpa only [List.append_assoc] using hQA))
        obtain ⟨q0, q3, q4⟩ := K.out wq vq _ HJq.out
        clear hkw
        go_wp2_with fail
        refine (writeByte_any hF HJq.out.now 58 58 rfl (by have := HL.out; rw [HFK.out] at this; simp at this ⊢; omega)).mono ?_
        clear x0 x1 x2 x3 x4 q0 q3 q4
        rintro e' wc ⟨rfl, vc, hCA⟩
        have HJc := Lib.hid (HJq.out.join hCA)
        obtain ⟨x0, x1, x2, x3, x4⟩ := X5.out wc vc _ (XH6.out.join (BApp.join (by simpa only [List.append_assoc] using hQA) (by simpa only [List.append_assoc] using hCA)))
        obtain ⟨q0, q3, q4⟩ := K.out wc vc _ HJc.out
        go_wp2_with fail
        refine (HC.out wc vc _ (B0.out wc vc _ HJc.out) HJc.out.now (by have := HL.out; rw [HFK.out] at this; simp at this ⊢; omega)).mono ?_
        rintro e' w7 ⟨rfl, v7, hA⟩
        have HJ7 : Hid (BApp b T W1 v bs w7 v7 ([123] ++ tjoin f (k + 1) 0) rest) := Lib.hid (by
          have := HJc.out.join hA
          rw [HSn2.out, HFK.out]
          simpa only [List.append_assoc] using this)
        clear hA x0 x1 x2 x3 x4 q0 q3 q4
        go_wp2_with fail
        all_goals go_roundw
        case rel => exact ⟨k + 1, v7, by omega, by go_num, HJ7⟩
        case measure => simp [intOf]; omega
      · have tz : decide ((0 : Int) < (k : Int)) = false := decide_eq_false (by omega)
        have tz2 : decide (0 < k) = false := decide_eq_false (by omega)
        have HSn2 : Hid (tjoin f (k + 1) 0 = tjoin f k 0 ++ f k) := Lib.hid (by rw [HSn.out, if_neg hk0]; rfl)
        go_wp2_with (refine wpList_store_row rfl 27 (.tmp 6) (.tmp 21) rfl _ #[.int .i64 kk, .float .f64 nn, .string ss, .slice A3 n3 e3, .slice A4 n4 e4] rfl rfl 27 #[.int .i64 0, .float .f64 0, .string ⟨#[]⟩, .slice none 0 0, .slice none 0 0] (heap_alloc_new _ _) (by kernel_rfl) rfl (one5 kk nn ss A3 A4 n3 e3 n4 e4) ?_; rw [setRow_new]; obtain ⟨W5, hW5⟩ : ∃ W5, W5 = World.alloc wr (.cells #[.int .i64 kk, .float .f64 nn, .string ss, .slice A3 n3 e3, .slice A4 n4 e4] 27) := ⟨_, rfl⟩; rw [← hW5]; have A5 := after_new _ _ _ _ _ _ _ _ hW5; clear hW5; obtain ⟨hb5, x0, x1, x2, x3, x4⟩ := A5; clear g0 g1 g2 g3 g4; have HJ5 := Lib.hid (HJ.out.below hb5); have HN5 := Lib.hid (HJ.out.now.below hb5); have q5 := K.out W5 vk _ HJ5.out; obtain ⟨q0, q3, q4⟩ := q5; have X5 : Hid (∀ W V l, BApp b T W5 vk (bs ++ ([123] ++ tjoin f k 0)) W V l rest → W.cell? ⟨wr.heap.size, 0, none⟩ = some (.int .i64 kk) ∧ W.cell? ⟨wr.heap.size, 1, none⟩ = some (.float .f64 nn) ∧ W.cell? ⟨wr.heap.size, 2, none⟩ = some (.string ss) ∧ W.cell? ⟨wr.heap.size, 3, none⟩ = some (.slice A3 n3 e3) ∧ W.cell? ⟨wr.heap.size, 4, none⟩ = some (.slice A4 n4 e4)) := (Lib.hid (fun W V l hA => by have hf := HJ.out.now.away (Nat.le_refl _); exact ⟨hA.far (a := ⟨wr.heap.size, 0, none⟩) x0 hf, hA.far (a := ⟨wr.heap.size, 1, none⟩) x1 hf, hA.far (a := ⟨wr.heap.size, 2, none⟩) x2 hf, hA.far (a := ⟨wr.heap.size, 3, none⟩) x3 hf, hA.far (a := ⟨wr.heap.size, 4, none⟩) x4 hf⟩)); have hkw := HQ.out W5 (B0.out W5 vk _ HJ5.out); clear x0 x1 x2 x3 x4 hb5)
        refine (quote_any hF HJ5.out.now y (by have := HL.out; simp at this ⊢; omega)).mono ?_
        rintro e' wq ⟨rfl, vq, hQA⟩
        clear q0 q3 q4
        have HJq := Lib.hid (HJ5.out.join hQA)
        obtain ⟨x0, x1, x2, x3, x4⟩ := X5.out wq vq _ hQA
        obtain ⟨q0, q3, q4⟩ := K.out wq vq _ HJq.out
        clear hkw
        go_wp2_with fail
        refine (writeByte_any hF HJq.out.now 58 58 rfl (by have := HL.out; rw [HFK.out] at this; simp at this ⊢; omega)).mono ?_
        clear x0 x1 x2 x3 x4 q0 q3 q4
        rintro e' wc ⟨rfl, vc, hCA⟩
        have HJc := Lib.hid (HJq.out.join hCA)
        obtain ⟨x0, x1, x2, x3, x4⟩ := X5.out wc vc _ (hQA.join (by simpa only [List.append_assoc] using hCA))
        obtain ⟨q0, q3, q4⟩ := K.out wc vc _ HJc.out
        go_wp2_with fail
        refine (HC.out wc vc _ (B0.out wc vc _ HJc.out) HJc.out.now (by have := HL.out; rw [HFK.out] at this; simp at this ⊢; omega)).mono ?_
        rintro e' w7 ⟨rfl, v7, hA⟩
        have HJ7 : Hid (BApp b T W1 v bs w7 v7 ([123] ++ tjoin f (k + 1) 0) rest) := Lib.hid (by
          have := HJc.out.join hA
          rw [HSn2.out, HFK.out]
          simpa only [List.append_assoc] using this)
        clear hA x0 x1 x2 x3 x4 q0 q3 q4
        go_wp2_with fail
        all_goals go_roundw
        case rel => exact ⟨k + 1, v7, by omega, by go_num, HJ7⟩
        case measure => simp [intOf]; omega
    · obtain rfl : k = n := by omega
      go_wp2_with fail
      refine (writeByte_any hF HJ.out.now 125 125 rfl (by have := HLen.out; simp; omega)).mono ?_
      rintro e' w6 ⟨rfl, v6, hA⟩
      have hE : BApp b T w v bs w6 v6 (123 :: (tjoin f k 0 ++ [125])) rest := by
        have := HSt.out.join (l2 := ([123] ++ tjoin f k 0) ++ [125]) (by rw [List.append_nil]; exact HJ.out.join hA)
        simpa only [List.append_assoc, List.nil_append, List.singleton_append, List.cons_append] using this
      go_wp2_with fail
      go_end0
      exact ⟨rfl, v6, hE⟩
end
/- TREES -/
theorem wvals_leaf (w0 : World) (T0 : Tabs w0) (d : Nat) (k : Int) (hk : 0 ≤ k ∧ k ≤ 4) (num : Nat) (str : List UInt8) (keys : List (List UInt8)) (list : List Tr) (x0 x1 x2 x3 x4 : Value)
    (hR : Rep (d + 1) w0 (.mk k num str keys list) x0 x1 x2 x3 x4) : WVals w0 (d + 1) (.mk k num str keys list) x0 x1 x2 x3 x4 := by
  obtain ⟨rfl, rfl, rfl, hnum, hstr, hll, hkl, A, c, A2, c2, rfl, rfl, _, _, _⟩ := hR
  intro b T rest w v bs hF hb h0 h hlen
  have T1 := T0.next h0
  have hs := T0.size
  obtain ⟨m, rfl⟩ : ∃ m : Nat, k = (m : Int) := ⟨k.toNat, by omega⟩
  have ht : textT (d + 1) (.mk (m : Int) num str keys list) = plainT m num str := by rw [textT, if_neg (by omega), if_neg (by omega)]; rfl
  rw [ht] at hlen ⊢
  exact write_any hF h T1 (by omega) m (by omega) num hnum str _ _ ⟨_, _, _, rfl⟩ ⟨_, _, _, rfl⟩ (by omega)
set_option maxHeartbeats 2000000 in
set_option maxRecDepth 100000 in
/-- value.write hands a value with parts to value.many. -/
theorem write_many (w : World) (b : Nat) (k : Int) (hk : k = 5 ∨ k = 6) (num : Nat) (str : ByteArray) (A A2 : Option Addr) (n c m c2 : Nat) (Q : Ending → World → Prop)
    (hQ : Calls Tryz.prog 92 #[.pointer (some ⟨b, 0, none⟩), .agg #[.int .i64 k, .float .f64 num, .string str, .slice A n c, .slice A2 m c2]] (w.alloc (.cells #[.int .i64 k, .float .f64 num, .string str, .slice A n c, .slice A2 m c2] 27)) fun e w' => e = .returned (.tuple #[]) ∧ Q e w') :
    Calls Tryz.prog 64 #[.pointer (some ⟨b, 0, none⟩), .agg #[.int .i64 k, .float .f64 num, .string str, .slice A n c, .slice A2 m c2]] w fun e w' => e = .returned (.tuple #[]) ∧ Q e w' := by
  have HQ := Lib.hid hQ
  clear hQ
  rcases hk with rfl | rfl
  all_goals
    go_enter Tryz.func64, Tryz.ntmps64
    go_wp2_with fail
    refine HQ.out.mono ?_
    rintro e' w2 ⟨rfl, hq⟩
    go_wp2_with fail
    go_end0
    exact ⟨rfl, hq⟩
set_option maxRecDepth 100000 in
theorem wvals_arr (w0 : World) (d : Nat) (num : Nat) (str : List UInt8) (keys : List (List UInt8)) (list : List Tr) (x0 x1 x2 x3 x4 : Value)
    (ih : ∀ (t : Tr) (y0 y1 y2 y3 y4 : Value), Rep d w0 t y0 y1 y2 y3 y4 → Okp d t → WVals w0 d t y0 y1 y2 y3 y4)
    (hR : Rep (d + 1) w0 (.mk 5 num str keys list) x0 x1 x2 x3 x4) (hO : Okp (d + 1) (.mk 5 num str keys list)) : WVals w0 (d + 1) (.mk 5 num str keys list) x0 x1 x2 x3 x4 := by
  obtain ⟨rfl, rfl, rfl, hnum, hstr, hll, hkl, A, c, A2, c2, rfl, rfl, hL, hK, _⟩ := hR
  obtain ⟨_, _, _, hOl⟩ := hO
  intro b T rest w v bs hF hb h0 h hlen
  have ht : textT (d + 1) (.mk 5 num str keys list) = 91 :: (tjoin (fun i => textT d (list.getD i default)) list.length 0 ++ [93]) := by rw [textT, if_pos rfl]
  rw [ht] at hlen ⊢
  have hbw : Below w.heap.size w (w.alloc (.cells #[.int .i64 5, .float .f64 num, .string ⟨str.toArray⟩, .slice A list.length c, .slice A2 keys.length c2] 27)) := (Below.refl _ _).alloc (Nat.le_refl _) _
  have hM := vmany_arr hF (h.below hbw) w0 hb (h0.trans (hbw.mono h0.size)) num ⟨str.toArray⟩ A A2 list.length c keys.length c2 hll (fun i => textT d (list.getD i default)) (by simp at hlen ⊢; omega) (fun i hin => by
    obtain ⟨ad, rfl, y0, y1, y2, y3, y4, hc5, hRi⟩ := hL i hin
    obtain ⟨kk, nn, ss, A3, n3, e3', A4, n4, e4', rfl, rfl, rfl, rfl, rfl⟩ := rep_shape hRi
    refine ⟨ad, rfl, kk, nn, ss, A3, n3, e3', A4, n4, e4', hc5, fun w' v' bs' hb' hr hl' => ?_⟩
    have hg : list.getD i default = list[i] := by simp [hin]
    show Calls _ _ _ _ (fun e w'' => e = .returned (.tuple #[]) ∧ ∃ v'', BApp b T w' v' bs' w'' v'' (textT d (list.getD i default)) rest)
    simp only [hg] at hl' ⊢
    exact ih list[i] _ _ _ _ _ hRi (hOl i hin) b T rest w' v' bs' hF hb hb' hr hl')
  refine (write_many w b 5 (.inl rfl) num ⟨str.toArray⟩ A A2 list.length c keys.length c2 _ hM).mono ?_
  rintro e w' ⟨rfl, v', hA⟩
  refine ⟨rfl, v', ?_⟩
  have := ((BApp.start h).below hbw).join (l2 := 91 :: (tjoin (fun i => textT d (list.getD i default)) list.length 0 ++ [93])) (by rw [List.append_nil]; exact hA)
  exact this
set_option maxRecDepth 100000 in
theorem wvals_obj (w0 : World) (d : Nat) (num : Nat) (str : List UInt8) (keys : List (List UInt8)) (list : List Tr) (x0 x1 x2 x3 x4 : Value)
    (ih : ∀ (t : Tr) (y0 y1 y2 y3 y4 : Value), Rep d w0 t y0 y1 y2 y3 y4 → Okp d t → WVals w0 d t y0 y1 y2 y3 y4)
    (hR : Rep (d + 1) w0 (.mk 6 num str keys list) x0 x1 x2 x3 x4) (hO : Okp (d + 1) (.mk 6 num str keys list)) : WVals w0 (d + 1) (.mk 6 num str keys list) x0 x1 x2 x3 x4 := by
  obtain ⟨rfl, rfl, rfl, hnum, hstr, hll, hkl, A, c, A2, c2, rfl, rfl, hL, hK, _⟩ := hR
  obtain ⟨_, _, hOk, hOl⟩ := hO
  have hkn := hOk rfl
  intro b T rest w v bs hF hb h0 h hlen
  have ht : textT (d + 1) (.mk 6 num str keys list) = 123 :: (tjoin (fun i => (quoteT (keys.getD i []) ++ [58]) ++ textT d (list.getD i default)) list.length 0 ++ [125]) := by rw [textT, if_neg (by decide), if_pos rfl]
  rw [ht] at hlen ⊢
  rw [hkn]
  have hbw : Below w.heap.size w (w.alloc (.cells #[.int .i64 6, .float .f64 num, .string ⟨str.toArray⟩, .slice A list.length c, .slice A2 list.length c2] 27)) := (Below.refl _ _).alloc (Nat.le_refl _) _
  have hM := vmany_obj hF (h.below hbw) w0 hb (h0.trans (hbw.mono h0.size)) num ⟨str.toArray⟩ A A2 list.length c c2 hll (fun i => (quoteT (keys.getD i []) ++ [58]) ++ textT d (list.getD i default)) (fun i => keys.getD i []) (fun i => textT d (list.getD i default)) (fun _ => rfl)
    (fun i hin => by
      obtain ⟨hkl2, ad2, e, hc⟩ := hK i (by omega)
      have hg : keys.getD i [] = keys[i]'(by omega) := by simp [show i < keys.length by omega]
      simp only [hg]
      exact ⟨ad2, e, hkl2, hc⟩)
    (by simp at hlen ⊢; omega) (fun i hin => by
    obtain ⟨ad, rfl, y0, y1, y2, y3, y4, hc5, hRi⟩ := hL i hin
    obtain ⟨kk, nn, ss, A3, n3, e3', A4, n4, e4', rfl, rfl, rfl, rfl, rfl⟩ := rep_shape hRi
    refine ⟨ad, rfl, kk, nn, ss, A3, n3, e3', A4, n4, e4', hc5, fun w' v' bs' hb' hr hl' => ?_⟩
    have hg : list.getD i default = list[i] := by simp [hin]
    show Calls _ _ _ _ (fun e w'' => e = .returned (.tuple #[]) ∧ ∃ v'', BApp b T w' v' bs' w'' v'' (textT d (list.getD i default)) rest)
    simp only [hg] at hl' ⊢
    exact ih list[i] _ _ _ _ _ hRi (hOl i hin) b T rest w' v' bs' hF hb hb' hr hl')
  refine (write_many w b 6 (.inr rfl) num ⟨str.toArray⟩ A A2 list.length c list.length c2 _ hM).mono ?_
  rintro e w' ⟨rfl, v', hA⟩
  refine ⟨rfl, v', ?_⟩
  have := ((BApp.start h).below hbw).join (l2 := 123 :: (tjoin (fun i => (quoteT (keys.getD i []) ++ [58]) ++ textT d (list.getD i default)) list.length 0 ++ [125])) (by rw [List.append_nil]; exact hA)
  exact this
theorem write_tree (w0 : World) (T0 : Tabs w0) : ∀ (d : Nat) (t : Tr) (y0 y1 y2 y3 y4 : Value), Rep d w0 t y0 y1 y2 y3 y4 → Okp d t → WVals w0 d t y0 y1 y2 y3 y4 := by
  intro d
  induction d with
  | zero => intro t _ _ _ _ _ h; exact h.elim
  | succ d ih =>
    intro t y0 y1 y2 y3 y4 hR hO
    cases t with
    | mk k num str keys list =>
      have hk : 0 ≤ k ∧ k ≤ 6 := ⟨hO.1, hO.2.1⟩
      by_cases h5 : k = 5
      · subst h5; exact wvals_arr w0 d num str keys list _ _ _ _ _ ih hR hO
      · by_cases h6 : k = 6
        · subst h6; exact wvals_obj w0 d num str keys list _ _ _ _ _ ih hR hO
        · exact wvals_leaf w0 T0 d k (by omega) num str keys list _ _ _ _ _ hR
theorem tjoin_pos (a : UInt8) (l : List UInt8) : (a :: l) ≠ [] := by simp
theorem textT_pos (d : Nat) (t : Tr) : textT (d + 1) t ≠ [] := by
  cases t with
  | mk k num str keys list =>
    rw [textT]
    split
    · simp
    · split
      · simp
      · exact plainT_pos _ _ _
set_option maxHeartbeats 2000000 in
set_option maxRecDepth 100000 in
theorem valueTextT_any (w : World) (TW : Tabs w) (d : Nat) (t : Tr) (y0 y1 y2 y3 y4 : Value) (hR : Rep (d + 1) w t y0 y1 y2 y3 y4) (hO : Okp (d + 1) t) (hl : (textT (d + 1) t).length ≤ 140000000000000) :
    Calls Tryz.prog 35 #[.agg #[y0, y1, y2, y3, y4]] w fun e w' => e = .returned (.string ⟨(textT (d + 1) t).toArray⟩) ∧ Below w.heap.size w w' := by
  have hV := write_tree w TW (d + 1) t _ _ _ _ _ hR hO
  have hpos := textT_pos d t
  obtain ⟨k, num, s, a1, n1, c1, a2, n2, c2, rfl, rfl, rfl, rfl, rfl⟩ := rep_shape hR
  obtain ⟨Z, hZ⟩ : ∃ Z, Z = textT (d + 1) t := ⟨_, rfl⟩
  have HV : Hid (∀ W1 W2, Below w.heap.size w W1 → Bw W1.heap.size 80 [] W2 (.slice none 0 0) [] → Below w.heap.size w W2 → Calls Tryz.prog 64 #[.pointer (some ⟨W1.heap.size, 0, none⟩), .agg #[.int .i64 k, .float .f64 num, .string s, .slice a1 n1 c1, .slice a2 n2 c2]] W2 fun e w' => e = .returned (.tuple #[]) ∧ ∃ v', BApp W1.heap.size 80 W2 (.slice none 0 0) [] w' v' Z []) := Lib.hid (fun W1 W2 hb1 hB hb2 => by
    rw [hZ]
    exact hV W1.heap.size 80 [] W2 (.slice none 0 0) [] fits_builder hb1.size hb2 hB (by simp; omega))
  rw [← hZ] at hpos ⊢
  have HP := Lib.hid hpos
  clear hV hR hO hl hZ hpos
  go_enter Tryz.func35, Tryz.ntmps35
  go_wp2_with fail
  obtain ⟨W1, hW1⟩ : ∃ W1, W1 = w.alloc (.cells #[.int .i64 k, .float .f64 num, .string s, .slice a1 n1 c1, .slice a2 n2 c2] 27) := ⟨_, rfl⟩
  have hb1 : Below w.heap.size w W1 := by rw [hW1]; exact (Below.refl _ _).alloc (Nat.le_refl _) _
  have hs1 : W1.heap.size = w.heap.size + 1 := by rw [hW1]; simp
  rw [← hW1, ← hs1]
  clear hW1
  have hB := bw_new W1
  have hb2 : Below W1.heap.size W1 (W1.alloc (.cells #[.pointer none, .slice none 0 0] 80)) := (Below.refl _ _).alloc (Nat.le_refl _) _
  have hbw := Below.also hb1 hb2
  obtain ⟨W2, hW2⟩ : ∃ W2, W2 = W1.alloc (.cells #[.pointer none, .slice none 0 0] 80) := ⟨_, rfl⟩
  rw [← hW2] at hB hb2 hbw ⊢
  clear hW2
  refine (HV.out W1 W2 hb1 hB hbw).mono ?_
  rintro e' w3 ⟨rfl, v3, hA⟩
  have hN := hA.now
  rw [List.nil_append] at hN
  have hbw3 : Below w.heap.size w w3 := hbw.trans (hA.keep.below hbw.size (fun j hj => by
    intro hh
    rcases hh with hh | hh
    · omega
    · cases hh))
  clear hA hb2 hB
  rw [hs1] at hN
  go_wp2_with fail
  refine (string_any hN HP.out).mono ?_
  rintro e' w4 ⟨rfl, hb4⟩
  have hbw4 : Below w.heap.size w w4 := hbw3.trans (hb4.mono (by omega))
  go_wp2_with fail
  go_ret
  exact ⟨rfl, hbw4⟩
end Go.Proofs.YtpfamfkdfbcooaaGreatDoor
