/- value.write and value.Text of what is no array and no object. -/
import Derived.Test.YtopecjnmeeejhaaGreatDoorQuo
set_option linter.unusedVariables false
set_option linter.unusedSimpArgs false
namespace Go.Proofs.YtopecjnmeeejhaaGreatDoor
open Go Go.RowKit Go.Proofs

/-- The text of a value that has no parts. -/
def plainT (k : Nat) (num : Nat) (s : List UInt8) : List UInt8 :=
  if k = 0 then [110, 117, 108, 108] else if k = 1 then [102, 97, 108, 115, 101] else if k = 2 then [116, 114, 117, 101] else if k = 3 then numT num else quoteT s
theorem bodyT_length (d : List UInt8) (e : Int) (h0 : 1 ≤ d.length) (h1 : d.length ≤ 20) (h2 : -400 ≤ e) (h3 : e ≤ 400) : (bodyT d e).length ≤ 1000 := by
  unfold bodyT
  split
  · exact powT_length d e h1 h2 h3
  · split
    · simp; omega
    · split
      · simp; omega
      · simp; omega
theorem numT_length (b : Nat) : (numT b).length ≤ 1001 := by
  unfold numT
  split
  · simp
  · have h1 : (if 9223372036854775808 ≤ b then [45] else ([] : List UInt8)).length ≤ 1 := by split <;> simp
    rw [List.length_append]
    suffices h2 : (if b % 9223372036854775808 = 0 then [48] else bodyT (digT (if b % 9223372036854775808 = 9218868437227405312 then 9218868437227405311 else b % 9223372036854775808)).1 (digT (if b % 9223372036854775808 = 9218868437227405312 then 9218868437227405311 else b % 9223372036854775808)).2).length ≤ 1000 by omega
    split
    · simp
    · obtain ⟨a, ha⟩ : ∃ a, a = (if b % 9223372036854775808 = 9218868437227405312 then 9218868437227405311 else b % 9223372036854775808) := ⟨_, rfl⟩
      rw [← ha]
      obtain ⟨_, p1, p2, p3, p4⟩ := digT_bounds a (by rw [ha]; split <;> omega) (by rw [ha]; split <;> omega)
      exact bodyT_length _ _ p1 p2 (by omega) (by omega)
theorem plainT_length (k num : Nat) (s : List UInt8) : (plainT k num s).length ≤ 6 * s.length + 1001 := by
  have h1 := numT_length num
  have h2 := flatMap_length s
  have h3 : (quoteT s).length ≤ 6 * s.length + 2 := by
    unfold quoteT
    rw [List.length_cons, List.length_append, List.length_singleton]
    omega
  unfold plainT
  split
  · show 4 ≤ _; omega
  · split
    · show 5 ≤ _; omega
    · split
      · show 4 ≤ _; omega
      · split <;> omega
theorem quoteT_pos (s : List UInt8) : quoteT s ≠ [] := by simp [quoteT]
theorem numT_pos (b : Nat) : numT b ≠ [] := by
  unfold numT bodyT powT
  split
  · simp
  · split
    · simp
    · intro h
      have := (List.append_eq_nil_iff.1 h).2
      revert this
      split
      · simp
      · obtain ⟨a, ha⟩ : ∃ a, a = (if b % 9223372036854775808 = 9218868437227405312 then 9218868437227405311 else b % 9223372036854775808) := ⟨_, rfl⟩
        rw [← ha]
        obtain ⟨_, p1, p2, p3, p4⟩ := digT_bounds a (by rw [ha]; split <;> omega) (by rw [ha]; split <;> omega)
        split
        · simp
        · split
          · intro h; have := (List.append_eq_nil_iff.1 h).1; rw [this] at p1; simp at p1
          · split <;> simp
theorem plainT_pos (k num : Nat) (s : List UInt8) : plainT k num s ≠ [] := by
  unfold plainT
  repeat' split
  all_goals first | exact numT_pos num | exact quoteT_pos s | simp
section
variable {b : Nat} {T : TypeId} {rest : List Value} {w : World} {v : Value} {bs : List UInt8}
set_option maxRecDepth 100000 in
theorem write_any (hF : Fits T rest.length) (h : Bw b T rest w v bs) (TW : Tabs w) (hb : 12 ≤ b) (k : Nat) (hk : k ≤ 4) (num : Nat) (hn : num < 18446744073709551616) (s : List UInt8) (L K : Value) (hL : ∃ a n c, L = .slice a n c) (hK : ∃ a n c, K = .slice a n c) (hl : bs.length + 6 * s.length + 1002 ≤ 140737488355328) :
    Calls Tryz.prog 122 #[.pointer (some ⟨b, 0, none⟩), .agg #[.int .i64 k, .float .f64 num, .string ⟨s.toArray⟩, L, K]] w fun e w' => e = .returned (.tuple #[]) ∧ ∃ v', BApp b T w v bs w' v' (plainT k num s) rest := by
  obtain ⟨a1, n1, c1, rfl⟩ := hL
  obtain ⟨a2, n2, c2, rfl⟩ := hK
  have h5 : k = 0 ∨ k = 1 ∨ k = 2 ∨ k = 3 ∨ k = 4 := by omega
  have start : ∀ o : Obj, BApp b T w v bs (w.alloc o) v [] rest := fun o => (BApp.start h).below ((Below.refl _ _).alloc (Nat.le_refl _) o)
  have now : ∀ o : Obj, Bw b T rest (w.alloc o) v bs := fun o => by have := (start o).now; rwa [List.append_nil] at this
  have join : ∀ (o : Obj) (w1 : World) (v1 : Value) (l : List UInt8), BApp b T (w.alloc o) v bs w1 v1 l rest → BApp b T w v bs w1 v1 l rest := fun o w1 v1 l hh => by
    have := (start o).join (l2 := l) (by rw [List.append_nil]; exact hh)
    exact this
  have tabs : ∀ o : Obj, Tabs (w.alloc o) := fun o => TW.next ((Below.refl _ _).alloc (Nat.le_refl _) o)
  rcases h5 with rfl | rfl | rfl | rfl | rfl
  · go_enter Tryz.func122, Tryz.ntmps122
    go_wp2_with fail
    refine (writeString_any hF (now _) [110, 117, 108, 108] (by simp; omega)).mono ?_
    rintro e' w1 ⟨rfl, v1, hB⟩
    have hR := join _ _ _ _ hB
    go_wp2_with fail
    go_end0
    exact ⟨rfl, v1, hR⟩
  · go_enter Tryz.func122, Tryz.ntmps122
    go_wp2_with fail
    refine (writeString_any hF (now _) [102, 97, 108, 115, 101] (by simp; omega)).mono ?_
    rintro e' w1 ⟨rfl, v1, hB⟩
    have hR := join _ _ _ _ hB
    go_wp2_with fail
    go_end0
    exact ⟨rfl, v1, hR⟩
  · go_enter Tryz.func122, Tryz.ntmps122
    go_wp2_with fail
    refine (writeString_any hF (now _) [116, 114, 117, 101] (by simp; omega)).mono ?_
    rintro e' w1 ⟨rfl, v1, hB⟩
    have hR := join _ _ _ _ hB
    go_wp2_with fail
    go_end0
    exact ⟨rfl, v1, hR⟩
  · have hq : plainT 3 num s = numT num := rfl
    have hnl := numT_length num
    rw [hq]
    clear hq
    go_enter Tryz.func122, Tryz.ntmps122
    go_wp2_with fail
    refine (text_any num hn _ (tabs _)).mono ?_
    rintro e' w1 ⟨rfl, hb1⟩
    have hS := (start _).below hb1
    have hN := hS.now
    rw [List.append_nil] at hN
    go_wp2_with fail
    refine (writeString_any hF hN (numT num) (by omega)).mono ?_
    rintro e' w2 ⟨rfl, v1, hB⟩
    have hR := hS.join (l2 := numT num) (by rw [List.append_nil]; exact hB)
    go_wp2_with fail
    go_end0
    exact ⟨rfl, v1, hR⟩
  · go_enter Tryz.func122, Tryz.ntmps122
    go_wp2_with fail
    refine (quote_any hF (now _) s (by omega)).mono ?_
    rintro e' w1 ⟨rfl, v1, hB⟩
    have hR := join _ _ _ _ hB
    go_wp2_with fail
    go_end0
    exact ⟨rfl, v1, hR⟩
end
theorem bw_new (w : World) : Bw w.heap.size 75 [] (w.alloc (.cells #[.pointer none, .slice none 0 0] 75)) (.slice none 0 0) [] :=
  ⟨⟨.pointer none, heap_alloc_new w _, .inl rfl⟩, OwnB.nil _ _, by decide⟩
set_option maxHeartbeats 2000000 in
set_option maxRecDepth 100000 in
theorem valueText_any (w : World) (TW : Tabs w) (k : Nat) (hk : k ≤ 4) (num : Nat) (hn : num < 18446744073709551616) (s : List UInt8) (L K : Value) (hL : ∃ a n c, L = .slice a n c) (hK : ∃ a n c, K = .slice a n c) (hl : s.length ≤ 100000000) :
    Calls Tryz.prog 59 #[.agg #[.int .i64 k, .float .f64 num, .string ⟨s.toArray⟩, L, K]] w fun e w' => e = .returned (.string ⟨(plainT k num s).toArray⟩) ∧ Below w.heap.size w w' := by
  obtain ⟨a1, n1, c1, rfl⟩ := hL
  obtain ⟨a2, n2, c2, rfl⟩ := hK
  have hw12 := TW.size
  go_enter Tryz.func59, Tryz.ntmps59
  go_wp2_with fail
  obtain ⟨W1, hW1⟩ : ∃ W1, W1 = w.alloc (.cells #[.int .i64 k, .float .f64 num, .string ⟨s.toArray⟩, .slice a1 n1 c1, .slice a2 n2 c2] 27) := ⟨_, rfl⟩
  have hb1 : Below w.heap.size w W1 := by rw [hW1]; exact (Below.refl _ _).alloc (Nat.le_refl _) _
  have hs1 : W1.heap.size = w.heap.size + 1 := by rw [hW1]; simp
  rw [← hW1, ← hs1]
  clear hW1
  have hB := bw_new W1
  have hb2 : Below W1.heap.size W1 (W1.alloc (.cells #[.pointer none, .slice none 0 0] 75)) := (Below.refl _ _).alloc (Nat.le_refl _) _
  have T2 := (TW.next hb1).next hb2
  have hbw := Below.also hb1 hb2
  obtain ⟨W2, hW2⟩ : ∃ W2, W2 = W1.alloc (.cells #[.pointer none, .slice none 0 0] 75) := ⟨_, rfl⟩
  rw [← hW2] at hB hb2 T2 hbw ⊢
  clear hW2
  refine (write_any (rest := []) fits_builder hB T2 (by omega) k hk num hn s _ _ ⟨_, _, _, rfl⟩ ⟨_, _, _, rfl⟩ (by simp; omega)).mono ?_
  rintro e' w3 ⟨rfl, v3, hA⟩
  have hN := hA.now
  rw [List.nil_append] at hN
  have hbw3 : Below w.heap.size w w3 := hbw.trans (hA.keep.below hbw.size (fun j hj => by
    intro hh
    rcases hh with hh | hh
    · omega
    · cases hh))
  clear hA hb2 hB
  rw [hs1] at hN
  go_wp2_with fail
  refine (string_any hN (plainT_pos k num s)).mono ?_
  rintro e' w4 ⟨rfl, hb4⟩
  have hbw4 : Below w.heap.size w w4 := hbw3.trans (hb4.mono (by omega))
  go_wp2_with fail
  go_ret
  exact ⟨rfl, hbw4⟩
end Go.Proofs.YtopecjnmeeejhaaGreatDoor
