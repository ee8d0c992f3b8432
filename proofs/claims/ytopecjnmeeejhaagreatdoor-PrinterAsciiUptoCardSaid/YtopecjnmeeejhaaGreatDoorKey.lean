/- The document's answer: keys: an object's keys are valid and unlike each other. -/
import Derived.Test.YtopecjnmeeejhaaGreatDoorSos
set_option linter.unusedVariables false
set_option linter.unusedSimpArgs false
namespace Go.Proofs.YtopecjnmeeejhaaGreatDoor
open Go Go.RowKit Go.Proofs
theorem mergeT_perm : ∀ (f : Nat) (a b : List Txt), a.length + b.length ≤ f → (mergeT f a b).Perm (a ++ b)
  | 0, [], [], _ => List.Perm.refl _
  | 0, x :: a, b, h => by simp only [List.length_cons] at h; omega
  | 0, [], y :: b, h => by simp only [List.length_cons] at h; omega
  | f + 1, [], [], _ => List.Perm.refl _
  | f + 1, x :: a, [], h => by
    simp only [List.length_cons, List.length_nil] at h
    rw [mergeT_x]
    exact (mergeT_perm f a [] (by simp only [List.length_nil]; omega)).cons x
  | f + 1, [], y :: b, h => by
    simp only [List.length_cons, List.length_nil] at h
    rw [mergeT_y]
    exact (mergeT_perm f [] b (by simp only [List.length_nil]; omega)).cons y
  | f + 1, x :: a, y :: b, h => by
    simp only [List.length_cons] at h
    cases hl : leS x y with
    | true =>
      rw [mergeT_xy _ _ _ _ _ hl]
      exact (mergeT_perm f a (y :: b) (by simp only [List.length_cons]; omega)).cons x
    | false =>
      rw [mergeT_yx _ _ _ _ _ hl]
      exact ((mergeT_perm f (x :: a) b (by simp only [List.length_cons]; omega)).cons y).trans List.perm_middle.symm
theorem sortT_perm : ∀ (f : Nat) (l : List Txt), (sortT f l).Perm l
  | 0, l => List.Perm.refl _
  | f + 1, l => by
    rw [sortT]
    split
    · exact List.Perm.refl _
    · refine (mergeT_perm _ _ _ (by rw [sortT_len, sortT_len, List.length_take, List.length_drop]; omega)).trans ?_
      refine ((sortT_perm f _).append (sortT_perm f _)).trans ?_
      rw [List.take_append_drop]
/-- All valid, and none as the one ahead of it. -/
def keysFrom : Option Txt → List Txt → Bool
  | _, [] => true
  | p, x :: s => if validB ⟨x.toArray⟩ = true then (if p = some x then false else keysFrom (some x) s) else false
def keysT (l : List Txt) : Bool := keysFrom none (sortT l.length l)
def prevAt (s : List Txt) (i : Nat) : Option Txt := if i = 0 then none else s[i - 1]?
theorem eqStr (x y : Txt) : (x == y) = decide (x = y) := by rw [Bool.eq_iff_iff, beq_iff_eq, decide_eq_true_eq]
set_option maxHeartbeats 4000000 in
set_option maxRecDepth 100000 in
theorem keys_any (l : List Txt) (v : Value) (w : World) (hm : l.length ≤ 1048576) (hx : ∀ x ∈ l, x.length ≤ 1048576) (hS : StrSl w v l) :
    Calls Tryz.prog 108 #[v] w fun e w' => e = .returned (.bool (keysT l)) ∧ Below w.heap.size w w' := by
  have hSo := sorted_any l.length l v w (by omega) hm hS
  obtain ⟨s, hs⟩ : ∃ s, s = sortT l.length l := ⟨_, rfl⟩
  have hxs : ∀ x ∈ s, x.length ≤ 1048576 := fun x h => hx x ((sortT_perm l.length l).mem_iff.1 (by rw [← hs]; exact h))
  have hsl : s.length ≤ 1048576 := by rw [hs, sortT_len]; exact hm
  obtain ⟨r, hr⟩ : ∃ r, r = keysT l := ⟨_, rfl⟩
  have HR : Hid (keysFrom (prevAt s 0) (s.drop 0) = r) := Lib.hid (by rw [hr, keysT, ← hs]; rfl)
  rw [← hr]
  rw [← hs] at hSo
  have HX := Lib.hid hxs
  have HSo := Lib.hid hSo
  clear hr hs hSo hxs hS hx hm
  go_enter Tryz.func108, Tryz.ntmps108
  go_wp2_with fail
  refine HSo.out.mono ?_
  rintro e' w1 ⟨v1, rfl, hO, hb⟩
  clear HSo
  obtain ⟨A, c, rfl⟩ := hO.shape
  obtain ⟨-, -, hc⟩ := hO.cells rfl
  have HC := Lib.hid hc
  clear hc hO
  obtain ⟨n, hn⟩ : ∃ n, n = s.length := ⟨_, rfl⟩
  rw [← hn] at hsl ⊢
  have HN := Lib.hid hn
  clear hn
  go_wp2_with fail
  go_loopw [4] (fun i wr => ∃ (k : Nat), k ≤ n ∧ i = .int .i64 k ∧ Below w1.heap.size w1 wr ∧ Hid (keysFrom (prevAt s k) (s.drop k) = r)) (fun i _ => n - (intOf i).toNat)
  case atStart => exact ⟨0, Nat.zero_le _, rfl, Below.refl _ _, HR⟩
  case round =>
    clear HR
    obtain ⟨k, hk, rfl, hb1, HV⟩ := hrel
    rcases Nat.lt_or_ge k n with hlt | hge
    · have hkl : k < s.length := by have := HN.out; omega
      obtain ⟨x, hxk⟩ : ∃ x, x = s[k] := ⟨_, rfl⟩
      have hds := drop_cons s k hkl
      rw [← hxk] at hds
      obtain ⟨g, rfl, -, hcg⟩ := HC.out (by simp [strCs]; omega)
      have hcx := hcg k (.string ⟨x.toArray⟩) (by simp [strCs, hkl, hxk])
      have hcx2 := (hb1.cell (p := ⟨g, k, none⟩) (World.block_lt_of_cell? w1 _ hcx)).trans hcx
      have hxl : x.length ≤ 1048576 := HX.out x (by rw [hxk]; exact List.getElem_mem _)
      have hval := fun W => (valid_any ⟨x.toArray⟩ W (by show x.length < _; omega)).mono (fun e w' (h : e = .returned (.bool (validB ⟨x.toArray⟩)) ∧ W = w') => (⟨h.1, h.2.symm⟩ : e = .returned (.bool (validB ⟨x.toArray⟩)) ∧ w' = W))
      have hprev : prevAt s (k + 1) = some x := by unfold prevAt; rw [if_neg (by omega)]; simp [hxk, hkl]
      have hv := HV.out
      have HCG := Lib.hid hcg
      clear hcg
      rw [hds, keysFrom] at hv
      cases hvb : validB ⟨x.toArray⟩ with
      | false =>
        rw [hvb] at hval hv
        have HV2 : Hid (r = false) := Lib.hid (by rw [← hv]; rfl)
        have HVal := Lib.hid hval
        clear hval hv hvb hprev hds hxk HV hcx
        go_wp2_with fail
        go_quiet ((go_at_call 19; exact Calls.quiet_of_same (HVal.out _)))
        go_wp2_with fail
        go_ret
        exact ⟨by rw [HV2.out]; rfl, hb.trans ((below_drewN hb1 _).mono hb.size)⟩
      | true =>
        rw [hvb, if_pos rfl] at hv
        rw [hvb] at hval
        have HVal := Lib.hid hval
        rcases Nat.eq_zero_or_pos k with hk0 | hk0
        · have tz : decide ((0 : Int) < (k : Int)) = false := decide_eq_false (by omega)
          have tz2 : decide (0 < k) = false := decide_eq_false (by omega)
          have HV2 : Hid (keysFrom (prevAt s (k + 1)) (s.drop (k + 1)) = r) := Lib.hid (by rw [hprev, ← hv, if_neg (by unfold prevAt; rw [if_pos hk0]; intro h; cases h)])
          clear hval hv hvb hprev hds hxk HV hcx hk0
          go_wp2_with fail
          go_quiet ((go_at_call 19; exact Calls.quiet_of_same (HVal.out _)))
          go_wp2_with fail
          go_roundw
          case rel => exact ⟨k + 1, by omega, by go_num, below_drewN hb1 _, HV2⟩
          case measure => simp [intOf]; omega
        · obtain ⟨k', hk1⟩ : ∃ k', k' = k - 1 := ⟨_, rfl⟩
          have tz : decide ((0 : Int) < (k : Int)) = true := decide_eq_true (by omega)
          have tz2 : decide (0 < k) = true := decide_eq_true (by omega)
          have hkl' : k' < s.length := by omega
          obtain ⟨y, hyk⟩ : ∃ y, y = s[k'] := ⟨_, rfl⟩
          have hcy := HCG.out k' (.string ⟨y.toArray⟩) (by simp [strCs, hkl', hyk])
          have hcy2 := (hb1.cell (p := ⟨g, k', none⟩) (World.block_lt_of_cell? w1 _ hcy)).trans hcy
          have hpy : prevAt s k = some y := by unfold prevAt; rw [if_neg (by omega), ← hk1]; simp [hyk, hkl']
          have heq := eqStr x y
          have hi1 : (k : Int) - 1 = (k' : Int) := by omega
          have hk1l : k' < n := by omega
          by_cases he : x = y
          · have HV2 : Hid (r = false) := Lib.hid (by rw [← hv, if_pos (by rw [hpy, he])])
            rw [decide_eq_true he] at heq
            clear hval hv hvb hprev hds hxk HV hcx hcy hyk hpy hk1 he hk0
            go_wp2_with fail
            go_quiet ((go_at_call 19; exact Calls.quiet_of_same (HVal.out _)))
            go_wp2_with fail
            go_ret
            exact ⟨by rw [HV2.out]; rfl, hb.trans ((below_drewN hb1 _).mono hb.size)⟩
          · have HV2 : Hid (keysFrom (prevAt s (k + 1)) (s.drop (k + 1)) = r) := Lib.hid (by rw [hprev, ← hv, if_neg (by rw [hpy]; intro h; injection h with h; exact he h.symm)])
            rw [decide_eq_false he] at heq
            clear hval hv hvb hprev hds hxk HV hcx hcy hyk hpy hk1 he hk0
            go_wp2_with fail
            go_quiet ((go_at_call 19; exact Calls.quiet_of_same (HVal.out _)))
            go_wp2_with fail
            go_roundw
            case rel => exact ⟨k + 1, by omega, by go_num, below_drewN hb1 _, HV2⟩
            case measure => simp [intOf]; omega
    · have HV2 : Hid (r = true) := Lib.hid (by
        have hds : s.drop k = [] := List.drop_eq_nil_of_le (by have := HN.out; omega)
        rw [← HV.out, hds]; rfl)
      go_wp2_with fail
      go_ret
      exact ⟨by rw [HV2.out]; rfl, hb.trans (hb1.mono hb.size)⟩
end Go.Proofs.YtopecjnmeeejhaaGreatDoor
