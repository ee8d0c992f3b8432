/- printer.Print, where keys are not sorted. -/
import Derived.Test.YtopecjnmeeejhaaGreatDoorVas
set_option linter.unusedVariables false
set_option linter.unusedSimpArgs false
namespace Go.Proofs.YtopecjnmeeejhaaGreatDoor
open Go Go.RowKit Go.Proofs

def printS (S : Sty) (d : Nat) (t : Tr) : St := pv S d t 0 ([], false)
/-- What Print answers. -/
def printV (r : St) : Value := if r.2 = true then .tuple #[.string ⟨#[]⟩, .int .i64 171] else .tuple #[.string ⟨r.1.toArray⟩, .int .i64 0]
theorem tokS_pos (S : Sty) (st : St) (s c : List UInt8) (hs : s ≠ []) (h : (tokS S st s c).2 = false) : (tokS S st s c).1 ≠ [] := by
  have ht : tokT S s c ≠ [] := by
    unfold tokT
    split
    · simp
    · exact hs
  unfold tokS putS at h ⊢
  split at h
  · cases h
  · rename_i hn
    rw [if_neg hn]
    intro e
    exact ht (List.append_eq_nil_iff.1 e).2
theorem escFrom_pos (q : List UInt8) (h : q ≠ []) : escA q ≠ [] := by
  have hp : 0 < (⟨q.toArray⟩ : ByteArray).size := by show 0 < q.length; exact List.length_pos_iff.2 h
  have hr := escR_pos (Utf8.decode ⟨q.toArray⟩ 0).1
  obtain ⟨m, hm⟩ : ∃ m, q.length = m + 1 := ⟨q.length - 1, by have := List.length_pos_iff.2 h; omega⟩
  unfold escA
  rw [hm, escFrom, if_pos hp]
  intro h
  exact hr (List.append_eq_nil_iff.1 h).1
theorem escT_pos (s : List UInt8) (asc : Bool) : escT s asc ≠ [] := by
  unfold escT
  split
  · exact escFrom_pos _ (quoteT_pos s)
  · exact quoteT_pos s
theorem printS_pos (S : Sty) (d : Nat) (t : Tr) (h : (printS S (d + 1) t).2 = false) : (printS S (d + 1) t).1 ≠ [] := by
  cases t with
  | mk k num str keys list =>
    unfold printS at h ⊢
    rw [pv] at h ⊢
    split at h
    · rename_i hk
      rw [if_pos hk]
      exact tokS_pos S _ _ _ (by simp) h
    · rename_i hk
      rw [if_neg hk]
      split at h
      · rename_i hk2
        rw [if_pos hk2]
        exact tokS_pos S _ _ _ (by simp) h
      · rename_i hk2
        rw [if_neg hk2]
        refine tokS_pos S _ _ _ ?_ h
        split
        · exact escT_pos _ _
        · exact plainT_pos _ _ _
theorem sh_new (S : Sty) (w : World) : Sh w.heap.size S (w.alloc (.cells #[.pointer none, .slice none 0 0, .int .i64 S.ind, .bool S.tab, .bool S.srt, .bool S.asc, .bool S.col, .bool false] 77)) (.slice none 0 0) ([], false) :=
  ⟨⟨⟨.pointer none, heap_alloc_new w _, .inl rfl⟩, OwnB.nil _ _, by decide⟩, by simp⟩
set_option maxHeartbeats 1000000 in
set_option maxRecDepth 100000 in
theorem print_any (S : Sty) (hi : S.ind ≤ 7) (hS : S.srt = false) (w : World) (T0 : Tabs w) (d : Nat) (hd : d ≤ 800000) (t : Tr) (y0 y1 y2 y3 y4 : Value) (hR : Rep (d + 1) w t y0 y1 y2 y3 y4) (hO : Okp (d + 1) t) :
    Calls Tryz.prog 16 #[.agg #[y0, y1, y2, y3, y4], .agg #[.int .i64 S.ind, .bool S.tab, .bool S.srt, .bool S.asc, .bool S.col]] w fun e w' =>
      e = .returned (printV (printS S (d + 1) t)) ∧ Below w.heap.size w w' := by
  have hV := value_tree S hi hS w T0 (d + 1) t y0 y1 y2 y3 y4 hR hO
  have hpos := printS_pos S d t
  obtain ⟨kk, nn, ss, A3, n3, e3, A4, n4, e4, rfl, rfl, rfl, rfl, rfl⟩ := rep_shape hR
  obtain ⟨r, hr⟩ : ∃ r, r = printS S (d + 1) t := ⟨_, rfl⟩
  rw [← hr] at hpos ⊢
  have HR := Lib.hid hr
  have HV := Lib.hid hV
  clear hV hR hO hr hS
  have t1 : decide ((S.ind : Int) < 0) = false := decide_eq_false (by omega)
  have t2 : decide ((7 : Int) < (S.ind : Int)) = false := decide_eq_false (by omega)
  go_enter Tryz.func16, Tryz.ntmps16
  go_wp2_with fail
  obtain ⟨W2, hW2⟩ : ∃ W2, W2 = (w.alloc (.cells #[.int .i64 kk, .float .f64 nn, .string ss, .slice A3 n3 e3, .slice A4 n4 e4] 27)).alloc (.cells #[.int .i64 S.ind, .bool S.tab, .bool S.srt, .bool S.asc, .bool S.col] 29) := ⟨_, rfl⟩
  have hsz : W2.heap.size = w.heap.size + 1 + 1 := by rw [hW2]; simp
  have hb2 : Below w.heap.size w W2 := by rw [hW2]; exact ((Below.refl _ _).alloc (Nat.le_refl _) _).alloc (by simp) _
  rw [← hW2]
  clear hW2
  have hsh := sh_new S W2
  obtain ⟨W3, hW3⟩ : ∃ W3, W3 = W2.alloc (.cells #[.pointer none, .slice none 0 0, .int .i64 S.ind, .bool S.tab, .bool S.srt, .bool S.asc, .bool S.col, .bool false] 77) := ⟨_, rfl⟩
  have hb3 : Below w.heap.size w W3 := by rw [hW3]; exact hb2.alloc hb2.size _
  rw [← hW3] at hsh ⊢
  clear hW3
  rw [hsz] at hsh
  clear hsz
  refine (HV.out (w.heap.size + 1 + 1) W3 _ _ 0 0 rfl (by omega) (by omega) hb3 hsh).mono ?_
  rintro e' w4 ⟨rfl, v4, hA⟩
  have hb4 := hA.below0 hsh (by omega) hb3
  have hN := hA.now
  rw [show pv S (d + 1) t 0 ([], false) = r from HR.out.symm] at hN
  clear hA hsh HV HR hb3 hb2
  have hfull := hN.cFull
  cases hf : r.2 with
  | true =>
    rw [hf] at hfull
    have HP : Hid (printV r = .tuple #[.string ⟨#[]⟩, .int .i64 171]) := Lib.hid (by unfold printV; rw [if_pos hf])
    clear hN hpos hf
    go_wp2_with fail
    go_ret2
    exact ⟨by rw [HP.out]; rfl, hb4⟩
  | false =>
    rw [hf] at hfull
    have hp := hpos hf
    have HP : Hid (printV r = .tuple #[.string ⟨r.1.toArray⟩, .int .i64 0]) := Lib.hid (by unfold printV; rw [if_neg (by rw [hf]; decide)])
    clear hpos hf
    go_wp2_with fail
    refine (string_any hN.bw hp).mono ?_
    rintro e' w5 ⟨rfl, hb5⟩
    have hb6 : Below w.heap.size w w5 := hb4.trans (hb5.mono (by omega))
    go_wp2_with fail
    go_ret2
    exact ⟨by rw [HP.out]; rfl, hb6⟩
set_option maxHeartbeats 1000000 in
set_option maxRecDepth 100000 in
theorem print_bad (w : World) (ind : Int) (h : ind < 0 ∨ 7 < ind) (b1 b2 b3 b4 : Bool) (kk : Int) (nn : Nat) (ss : ByteArray) (A3 A4 : Option Addr) (n3 e3 n4 e4 : Nat) :
    Calls Tryz.prog 16 #[.agg #[.int .i64 kk, .float .f64 nn, .string ss, .slice A3 n3 e3, .slice A4 n4 e4], .agg #[.int .i64 ind, .bool b1, .bool b2, .bool b3, .bool b4]] w fun e w' => e = .returned (.tuple #[.string ⟨#[]⟩, .int .i64 2]) ∧ Below w.heap.size w w' := by
  have hB : ∀ o1 o2, Below w.heap.size w ((w.alloc o1).alloc o2) := fun o1 o2 => ((Below.refl _ _).alloc (Nat.le_refl _) _).alloc (by simp) _
  rcases h with h | h
  · have t1 : decide (ind < 0) = true := decide_eq_true h
    go_enter Tryz.func16, Tryz.ntmps16
    go_wp2_with fail
    go_ret2
    exact ⟨rfl, hB _ _⟩
  · have t1 : decide (ind < 0) = false := decide_eq_false (by omega)
    have t2 : decide (7 < ind) = true := decide_eq_true h
    go_enter Tryz.func16, Tryz.ntmps16
    go_wp2_with fail
    go_ret2
    exact ⟨rfl, hB _ _⟩
end Go.Proofs.YtopecjnmeeejhaaGreatDoor
