/- In one text: The document's answer: keys: an object's keys are valid and unlike each other.; The document's answer: zero, right, Right. -/
import Derived.Test.YtpfamfkdfbcooaaGreatDoorSot
set_option linter.unusedVariables false
set_option linter.unusedSimpArgs false
/- The document's answer: keys: an object's keys are valid and unlike each other. -/
namespace Go.Proofs.YtpfamfkdfbcooaaGreatDoor
open Go Go.RowKit Go.Proofs
theorem mergeT_perm : ∀ (f : Nat) (a b : List Txt), a.length + b.length ≤ f → (mergeT f a b).Perm (a ++ b)
  | 0, [], [], _ => List.Perm.refl _
  | 0, x :: a, b, h => by simp only [List.length_cons] at h; omega
  | 0, [], y :: b, h => by simp only [List.length_cons] at h; omega
  | f + 1, [], [], _ => List.Perm.refl _
  | f + 1, x :: a, [], h => by
    simp only [List.length_cons, List.length_nil] at h
    rw [mergeT_x]
    exact (mergeT_perm f a [] (by simp only [List.length_nil]; omega)).cons x
  | f + 1, [], y :: b, h => by
    simp only [List.length_cons, List.length_nil] at h
    rw [mergeT_y]
    exact (mergeT_perm f [] b (by simp only [List.length_nil]; omega)).cons y
  | f + 1, x :: a, y :: b, h => by
    simp only [List.length_cons] at h
    cases hl : leS x y with
    | true =>
      rw [mergeT_xy _ _ _ _ _ hl]
      exact (mergeT_perm f a (y :: b) (by simp only [List.length_cons]; omega)).cons x
    | false =>
      rw [mergeT_yx _ _ _ _ _ hl]
      exact ((mergeT_perm f (x :: a) b (by simp only [List.length_cons]; omega)).cons y).trans List.perm_middle.symm
theorem sortT_perm : ∀ (f : Nat) (l : List Txt), (sortT f l).Perm l
  | 0, l => List.Perm.refl _
  | f + 1, l => by
    rw [sortT]
    split
    · exact List.Perm.refl _
    · refine (mergeT_perm _ _ _ (by rw [sortT_len, sortT_len, List.length_take, List.length_drop]; omega)).trans ?_
      refine ((sortT_perm f _).append (sortT_perm f _)).trans ?_
      rw [List.take_append_drop]
/-- All valid, and none as the one ahead of it. -/
def keysFrom : Option Txt → List Txt → Bool
  | _, [] => true
  | p, x :: s => if validB ⟨x.toArray⟩ = true then (if p = some x then false else keysFrom (some x) s) else false
def keysT (l : List Txt) : Bool := keysFrom none (sortT l.length l)
def prevAt (s : List Txt) (i : Nat) : Option Txt := if i = 0 then none else s[i - 1]?
theorem eqStr (x y : Txt) : (x == y) = decide (x = y) := by rw [Bool.eq_iff_iff, beq_iff_eq, decide_eq_true_eq]
set_option maxHeartbeats 4000000 in
set_option maxRecDepth 100000 in
theorem keys_any (l : List Txt) (v : Value) (w : World) (hm : l.length ≤ 1048576) (hx : ∀ x ∈ l, x.length ≤ 1048576) (hS : StrSl w v l) :
    Calls Tryz.prog 57 #[v] w fun e w' => e = .returned (.bool (keysT l)) ∧ Below w.heap.size w w' := by
  have hSo := sorted_any l.length l v w (by omega) hm hS
  obtain ⟨s, hs⟩ : ∃ s, s = sortT l.length l := ⟨_, rfl⟩
  have hxs : ∀ x ∈ s, x.length ≤ 1048576 := fun x h => hx x ((sortT_perm l.length l).mem_iff.1 (by rw [← hs]; exact h))
  have hsl : s.length ≤ 1048576 := by rw [hs, sortT_len]; exact hm
  obtain ⟨r, hr⟩ : ∃ r, r = keysT l := ⟨_, rfl⟩
  have HR : Hid (keysFrom (prevAt s 0) (s.drop 0) = r) := Lib.hid (by rw [hr, keysT, ← hs]; rfl)
  rw [← hr]
  rw [← hs] at hSo
  have HX := Lib.hid hxs
  have HSo := Lib.hid hSo
  clear hr hs hSo hxs hS hx hm
  go_enter Tryz.func57, Tryz.ntmps57
  go_wp2_with fail
  refine HSo.out.mono ?_
  rintro e' w1 ⟨v1, rfl, hO, hb⟩
  clear HSo
  obtain ⟨A, c, rfl⟩ := hO.shape
  obtain ⟨-, -, hc⟩ := hO.cells rfl
  have HC := Lib.hid hc
  clear hc hO
  obtain ⟨n, hn⟩ : ∃ n, n = s.length := ⟨_, rfl⟩
  rw [← hn] at hsl ⊢
  have HN := Lib.hid hn
  clear hn
  go_wp2_with fail
  go_loopw [4] (fun i wr => ∃ (k : Nat), k ≤ n ∧ i = .int .i64 k ∧ Below w1.heap.size w1 wr ∧ Hid (keysFrom (prevAt s k) (s.drop k) = r)) (fun i _ => n - (intOf i).toNat)
  case atStart => exact ⟨0, Nat.zero_le _, rfl, Below.refl _ _, HR⟩
  case round =>
    clear HR
    obtain ⟨k, hk, rfl, hb1, HV⟩ := hrel
    rcases Nat.lt_or_ge k n with hlt | hge
    · have hkl : k < s.length := by have := HN.out; omega
      obtain ⟨x, hxk⟩ : ∃ x, x = s[k] := ⟨_, rfl⟩
      have hds := drop_cons s k hkl
      rw [← hxk] at hds
      obtain ⟨g, rfl, -, hcg⟩ := HC.out (by simp [strCs]; omega)
      have hcx := hcg k (.string ⟨x.toArray⟩) (by simp [strCs, hkl, hxk])
      have hcx2 := (hb1.cell (p := ⟨g, k, none⟩) (World.block_lt_of_cell? w1 _ hcx)).trans hcx
      have hxl : x.length ≤ 1048576 := HX.out x (by rw [hxk]; exact List.getElem_mem _)
      have hval := fun W => (valid_any ⟨x.toArray⟩ W (by show x.length < _; omega)).mono (fun e w' (h : e = .returned (.bool (validB ⟨x.toArray⟩)) ∧ W = w') => (⟨h.1, h.2.symm⟩ : e = .returned (.bool (validB ⟨x.toArray⟩)) ∧ w' = W))
      have hprev : prevAt s (k + 1) = some x := by unfold prevAt; rw [if_neg (by omega)]; simp [hxk, hkl]
      have hv := HV.out
      have HCG := Lib.hid hcg
      clear hcg
      rw [hds, keysFrom] at hv
      cases hvb : validB ⟨x.toArray⟩ with
      | false =>
        rw [hvb] at hval hv
        have HV2 : Hid (r = false) := Lib.hid (by rw [← hv]; rfl)
        have HVal := Lib.hid hval
        clear hval hv hvb hprev hds hxk HV hcx
        go_wp2_with fail
        go_quiet ((go_at_call 20; exact Calls.quiet_of_same (HVal.out _)))
        go_wp2_with fail
        go_ret
        exact ⟨by rw [HV2.out]; rfl, hb.trans ((below_drewN hb1 _).mono hb.size)⟩
      | true =>
        rw [hvb, if_pos rfl] at hv
        rw [hvb] at hval
        have HVal := Lib.hid hval
        rcases Nat.eq_zero_or_pos k with hk0 | hk0
        · have tz : decide ((0 : Int) < (k : Int)) = false := decide_eq_false (by omega)
          have tz2 : decide (0 < k) = false := decide_eq_false (by omega)
          have HV2 : Hid (keysFrom (prevAt s (k + 1)) (s.drop (k + 1)) = r) := Lib.hid (by rw [hprev, ← hv, if_neg (by unfold prevAt; rw [if_pos hk0]; intro h; cases h)])
          clear hval hv hvb hprev hds hxk HV hcx hk0
          go_wp2_with fail
          go_quiet ((go_at_call 20; exact Calls.quiet_of_same (HVal.out _)))
          go_wp2_with fail
          go_roundw
          case rel => exact ⟨k + 1, by omega, by go_num, below_drewN hb1 _, HV2⟩
          case measure => simp [intOf]; omega
        · obtain ⟨k', hk1⟩ : ∃ k', k' = k - 1 := ⟨_, rfl⟩
          have tz : decide ((0 : Int) < (k : Int)) = true := decide_eq_true (by omega)
          have tz2 : decide (0 < k) = true := decide_eq_true (by omega)
          have hkl' : k' < s.length := by omega
          obtain ⟨y, hyk⟩ : ∃ y, y = s[k'] := ⟨_, rfl⟩
          have hcy := HCG.out k' (.string ⟨y.toArray⟩) (by simp [strCs, hkl', hyk])
          have hcy2 := (hb1.cell (p := ⟨g, k', none⟩) (World.block_lt_of_cell? w1 _ hcy)).trans hcy
          have hpy : prevAt s k = some y := by unfold prevAt; rw [if_neg (by omega), ← hk1]; simp [hyk, hkl']
          have heq := eqStr x y
          have hi1 : (k : Int) - 1 = (k' : Int) := by omega
          have hk1l : k' < n := by omega
          by_cases he : x = y
          · have HV2 : Hid (r = false) := Lib.hid (by rw [← hv, if_pos (by rw [hpy, he])])
            rw [decide_eq_true he] at heq
            clear hval hv hvb hprev hds hxk HV hcx hcy hyk hpy hk1 he hk0
            go_wp2_with fail
            go_quiet ((go_at_call 20; exact Calls.quiet_of_same (HVal.out _)))
            go_wp2_with fail
            go_ret
            exact ⟨by rw [HV2.out]; rfl, hb.trans ((below_drewN hb1 _).mono hb.size)⟩
          · have HV2 : Hid (keysFrom (prevAt s (k + 1)) (s.drop (k + 1)) = r) := Lib.hid (by rw [hprev, ← hv, if_neg (by rw [hpy]; intro h; injection h with h; exact he h.symm)])
            rw [decide_eq_false he] at heq
            clear hval hv hvb hprev hds hxk HV hcx hcy hyk hpy hk1 he hk0
            go_wp2_with fail
            go_quiet ((go_at_call 20; exact Calls.quiet_of_same (HVal.out _)))
            go_wp2_with fail
            go_roundw
            case rel => exact ⟨k + 1, by omega, by go_num, below_drewN hb1 _, HV2⟩
            case measure => simp [intOf]; omega
    · have HV2 : Hid (r = true) := Lib.hid (by
        have hds : s.drop k = [] := List.drop_eq_nil_of_le (by have := HN.out; omega)
        rw [← HV.out, hds]; rfl)
      go_wp2_with fail
      go_ret
      exact ⟨by rw [HV2.out]; rfl, hb.trans (hb1.mono hb.size)⟩
end Go.Proofs.YtpfamfkdfbcooaaGreatDoor
/- The document's answer: zero, right, Right. -/
namespace Go.Proofs.YtpfamfkdfbcooaaGreatDoor
open Go Go.RowKit Go.Proofs
theorem zeroB_any (b : Nat) (w : World) : Calls Tryz.prog 56 #[.float .f64 b] w fun e w' => e = .returned (.bool (decide (b = 0))) ∧ w = w' := by
  have h1 := bits64 b
  by_cases h : b = 0
  · subst h
    go_enter Tryz.func56, Tryz.ntmps56
    go_wp2_with fail
    go_ret
    exact ⟨rfl, rfl⟩
  · have h2 : ((b : Int) == 0) = false := by rw [beq_eq_false_iff_ne]; omega
    rw [decide_eq_false h]
    clear h
    go_enter Tryz.func56, Tryz.ntmps56
    go_wp2_with fail
    go_ret
    exact ⟨rfl, rfl⟩
/-- P3.1: may the value be? m: so many levels at most. -/
def rightT : Nat → Tr → Bool
  | 0, _ => false
  | m + 1, .mk k num str keys list =>
    if k < 0 ∨ 6 < k then false
    else if k ≠ 3 ∧ num ≠ 0 then false
    else if k ≠ 4 ∧ str ≠ [] then false
    else if k < 5 ∧ list ≠ [] then false
    else if k = 6 ∧ keys.length ≠ list.length then false
    else if k ≠ 6 ∧ keys ≠ [] then false
    else if validB ⟨str.toArray⟩ = false then false
    else if keysT keys = false then false
    else list.all (rightT m)
/-- What right is claimed to do of a tree. -/
def Rights (m : Nat) : Prop := ∀ (d : Nat) (w : World) (t : Tr) (y0 y1 y2 y3 y4 : Value) (x : Int), x = (m : Int) → Rep d w t y0 y1 y2 y3 y4 →
  Calls Tryz.prog 26 #[.agg #[y0, y1, y2, y3, y4], .int .i64 x] w fun e w' => e = .returned (.bool (rightT m t)) ∧ Below w.heap.size w w'
theorem toList_txt (l : Txt) : (⟨l.toArray⟩ : ByteArray).toList = l := by rw [Lib.toList_data]
theorem rep_strSl {w : World} {keys : List Txt} {A2 : Option Addr} {c2 : Nat} (hK : ∀ i (h : i < keys.length), keys[i].length ≤ 1048576 ∧ ∃ ad, A2 = some ad ∧ w.cell? (ad.add i) = some (.string ⟨keys[i].toArray⟩)) (h1 : keys.length ≤ c2) (h2 : A2 = none → c2 = 0) :
    StrSl w (.slice A2 keys.length c2) keys ∧ ∀ x ∈ keys, x.length ≤ 1048576 := by
  refine ⟨⟨A2, c2, rfl, h1, fun e => ?_, fun ad e j u hu => ?_⟩, fun x hx => ?_⟩
  · have := h2 e
    have h0 : keys.length = 0 := by omega
    exact ⟨h0, this, by rw [List.eq_nil_of_length_eq_zero h0]; rfl⟩
  · have hj : j < keys.length := by
      rcases Nat.lt_or_ge j keys.length with h' | h'
      · exact h'
      · rw [List.getElem?_eq_none (by simp [strCs]; exact h')] at hu; cases hu
    obtain ⟨_, ad', e', hc⟩ := hK j hj
    rw [e] at e'; injection e' with e'; subst e'
    rw [hc, ← hu]
    simp [strCs, hj]
  · obtain ⟨i, hi, rfl⟩ := List.getElem_of_mem hx
    exact (hK i hi).1
theorem Rep.below : ∀ {d : Nat} {w w' : World} {t : Tr} {x0 x1 x2 x3 x4 : Value}, Rep d w t x0 x1 x2 x3 x4 → Below w.heap.size w w' → Rep d w' t x0 x1 x2 x3 x4
  | 0, _, _, _, _, _, _, _, _, h, _ => h.elim
  | d + 1, w, w', .mk k num str keys list, x0, x1, x2, x3, x4, h, hb => by
    obtain ⟨h1, h2, h3, h4, h5, h6, h7, A, c, A2, c2, e3, e4, hL, hK, hr⟩ := h
    refine ⟨h1, h2, h3, h4, h5, h6, h7, A, c, A2, c2, e3, e4, fun i hi => ?_, fun i hi => ?_, hr⟩
    · obtain ⟨ad, e, y0, y1, y2, y3, y4, h5, hRi⟩ := hL i hi
      exact ⟨ad, e, y0, y1, y2, y3, y4, h5.below hb, hRi.below hb⟩
    · obtain ⟨hl, ad, e, hc⟩ := hK i hi
      exact ⟨hl, ad, e, (World.cell?_of_block (w := w) (a := ad.add i) (hb.block _ (World.block_lt_of_cell? w _ hc))).trans hc⟩
set_option maxRecDepth 100000 in
theorem right_out (m d : Nat) (w : World) (k : Int) (num : Nat) (str : List UInt8) (keys : List (List UInt8)) (list : List Tr) (x0 x1 x2 x3 x4 : Value) (x : Int) (hx : x = ((m + 1 : Nat) : Int)) (hk : k < 0 ∨ 6 < k) (hR : Rep (d + 1) w (.mk k num str keys list) x0 x1 x2 x3 x4) :
    Calls Tryz.prog 26 #[.agg #[x0, x1, x2, x3, x4], .int .i64 x] w fun e w' => e = .returned (.bool (rightT (m + 1) (.mk k num str keys list))) ∧ Below w.heap.size w w' := by
  have h0 : rightT (m + 1) (.mk k num str keys list) = false := by rw [rightT, if_pos hk]
  rw [h0]
  obtain ⟨rfl, rfl, rfl, hnum, hstr, hll, hkl, A, c, A2, c2, rfl, rfl, hL, hK, hc2, hc, hn2, hn⟩ := hR
  have hx1 : decide (x < 1) = false := decide_eq_false (by omega)
  obtain ⟨n, hnn⟩ : ∃ n, n = list.length := ⟨_, rfl⟩
  obtain ⟨nk, hnk⟩ : ∃ nk, nk = keys.length := ⟨_, rfl⟩
  rw [← hnn, ← hnk]
  clear hL hK hnn hnk h0 hx
  rcases hk with hk | hk
  · have t1 : decide (k < 0) = true := decide_eq_true hk
    go_enter Tryz.func26, Tryz.ntmps26
    go_wp2_with fail
    go_ret
    exact ⟨rfl, (Below.refl _ _).alloc (Nat.le_refl _) _⟩
  · have t1 : decide (k < 0) = false := decide_eq_false (by omega)
    have t2 : decide (6 < k) = true := decide_eq_true hk
    go_enter Tryz.func26, Tryz.ntmps26
    go_wp2_with fail
    go_ret
    exact ⟨rfl, (Below.refl _ _).alloc (Nat.le_refl _) _⟩
set_option maxRecDepth 100000 in
theorem right_zero : Rights 0 := by
  intro d w t y0 y1 y2 y3 y4 x hx hR
  have h0 : rightT 0 t = false := by cases t; rfl
  rw [h0]
  obtain ⟨kk, nn, ss, A3, n3, e3, A4, n4, e4, rfl, rfl, rfl, rfl, rfl⟩ := rep_shape hR
  subst hx
  clear hR h0
  go_enter Tryz.func26, Tryz.ntmps26
  go_wp2_with fail
  go_ret
  exact ⟨rfl, (Below.refl _ _).alloc (Nat.le_refl _) _⟩

set_option maxHeartbeats 4000000 in
set_option maxRecDepth 100000 in
theorem right_0 (m d : Nat) (hm : m < 1000000) (ih : Rights m) (w : World) (num : Nat) (str : List UInt8) (keys : List (List UInt8)) (list : List Tr) (x0 x1 x2 x3 x4 : Value) (x : Int) (hx : x = ((m + 1 : Nat) : Int)) (hR : Rep (d + 1) w (.mk 0 num str keys list) x0 x1 x2 x3 x4) :
    Calls Tryz.prog 26 #[.agg #[x0, x1, x2, x3, x4], .int .i64 x] w fun e w' => e = .returned (.bool (rightT (m + 1) (.mk 0 num str keys list))) ∧ Below w.heap.size w w' := by
  obtain ⟨rfl, rfl, rfl, hnum, hstr, hll, hkl, A, c, A2, c2, rfl, rfl, hL, hK, hc2, hc, hn2, hn⟩ := hR
  obtain ⟨hSl, hkx⟩ := rep_strSl hK hc2 hn2
  obtain ⟨r, hr⟩ : ∃ r, r = rightT (m + 1) (.mk 0 num str keys list) := ⟨_, rfl⟩
  rw [← hr]
  rw [rightT, if_neg (by decide)] at hr
  have hx1 : decide (x < 1) = false := decide_eq_false (by omega)
  obtain ⟨n, hnn⟩ : ∃ n, n = list.length := ⟨_, rfl⟩
  obtain ⟨nk, hnk⟩ : ∃ nk, nk = keys.length := ⟨_, rfl⟩
  rw [← hnn, ← hnk]
  rw [← hnn] at hc hll
  rw [← hnk] at hc2 hkl hSl
  by_cases hz : num = 0
  case neg =>
    rw [if_pos ⟨by decide, hz⟩] at hr
    have HR := Lib.hid hr
    have HZ : Hid (∀ W, Calls Tryz.prog 56 #[.float .f64 num] W fun e w' => e = .returned (.bool false) ∧ W = w') := Lib.hid (fun W => by have := zeroB_any num W; rwa [decide_eq_false hz] at this)
    clear hr hL hK hc2 hc hn2 hn hSl hkx hnum hstr hll hkl ih hnn hnk hx hz
    go_enter Tryz.func26, Tryz.ntmps26
    go_wp2_with (go_at_call 56; refine (HZ.out _).mono ?_; rintro e' _ ⟨rfl, rfl⟩)
    go_ret
    exact ⟨by rw [HR.out]; rfl, (Below.refl _ _).alloc (Nat.le_refl _) _⟩
  rw [if_neg (fun h => h.2 hz)] at hr
  subst hz
  have HZ : Hid (∀ W, Calls Tryz.prog 56 #[.float .f64 0] W fun e w' => e = .returned (.bool true) ∧ W = w') := Lib.hid (fun W => zeroB_any 0 W)
  by_cases hs : str = []
  case neg =>
    rw [if_pos ⟨by decide, hs⟩] at hr
    have HR := Lib.hid hr
    have hs1 : (⟨str.toArray⟩ : ByteArray).toList.isEmpty = false := by rw [toList_txt]; cases str <;> simp_all
    obtain ⟨S, hS⟩ : ∃ S : ByteArray, S = ⟨str.toArray⟩ := ⟨_, rfl⟩
    rw [← hS] at hs1 ⊢
    clear hr hL hK hc2 hc hn2 hn hSl hkx hnum hstr hll hkl ih hnn hnk hx hs hS
    go_enter Tryz.func26, Tryz.ntmps26
    go_wp2_with (go_at_call 56; refine (HZ.out _).mono ?_; rintro e' _ ⟨rfl, rfl⟩)
    go_ret
    exact ⟨by rw [HR.out]; rfl, (Below.refl _ _).alloc (Nat.le_refl _) _⟩
  rw [if_neg (fun h => h.2 hs)] at hr
  subst hs
  by_cases hl : list = []
  case neg =>
    rw [if_pos ⟨by decide, hl⟩] at hr
    have HR := Lib.hid hr
    have hl1 : 0 < n := by rw [hnn]; exact List.length_pos_iff.2 hl
    clear hr hL hK hc2 hc hn2 hn hSl hkx hnum hstr hll hkl ih hnn hnk hx hl
    go_enter Tryz.func26, Tryz.ntmps26
    go_wp2_with (go_at_call 56; refine (HZ.out _).mono ?_; rintro e' _ ⟨rfl, rfl⟩)
    go_ret
    exact ⟨by rw [HR.out]; rfl, (Below.refl _ _).alloc (Nat.le_refl _) _⟩
  rw [if_neg (fun h => h.2 hl)] at hr
  obtain rfl : n = 0 := by rw [hnn, hl]; rfl
  rw [if_neg (fun h => absurd h.1 (by decide))] at hr
  by_cases hkk : keys = []
  case neg =>
    rw [if_pos ⟨by decide, hkk⟩] at hr
    have HR := Lib.hid hr
    have hk1 : 0 < nk := by rw [hnk]; exact List.length_pos_iff.2 hkk
    clear hr hL hK hc2 hc hn2 hn hSl hkx hnum hstr hll hkl ih hnn hnk hx hkk
    go_enter Tryz.func26, Tryz.ntmps26
    go_wp2_with (go_at_call 56; refine (HZ.out _).mono ?_; rintro e' _ ⟨rfl, rfl⟩)
    go_ret
    exact ⟨by rw [HR.out]; rfl, (Below.refl _ _).alloc (Nat.le_refl _) _⟩
  rw [if_neg (fun h => h.2 hkk)] at hr
  obtain rfl : nk = 0 := by rw [hnk, hkk]; rfl
  have hval := fun W => valid_any ⟨([] : Txt).toArray⟩ W (by decide)
  have hkeys := fun W hS => keys_any keys (.slice A2 0 c2) W (by omega) hkx hS
  have hbn : 0 ≤ 1048576 := by omega
  have hb1 : Below w.heap.size w (w.alloc (.cells #[.int .i64 0, .float .f64 0, .string ⟨([] : Txt).toArray⟩, .slice A 0 c, .slice A2 0 c2] 27)) := (Below.refl _ _).alloc (Nat.le_refl _) _
  have hvb : validB ⟨([] : Txt).toArray⟩ = true := rfl
  rw [if_neg (by rw [hvb]; decide)] at hr
  rw [hvb] at hval
  have HVal := Lib.hid hval
  have hkb : keysT keys = true := by rw [hkk]; rfl
  rw [if_neg (by rw [hkb]; decide)] at hr
  rw [hkb] at hkeys
  have HKey : Hid (∀ W, Below w.heap.size w W → Calls Tryz.prog 57 #[.slice A2 0 c2] W fun e w' => e = .returned (.bool true) ∧ Below W.heap.size W w') := Lib.hid (fun W hW => hkeys W (hSl.below hW))
  have HR : Hid (r = true) := Lib.hid (by rw [hr, hl]; rfl)
  clear hr hkb hx hvb hL hK hc2 hc hn2 hn hkx hnum hstr hll hkl ih hnn hnk hval hkeys hSl hkk hl
  go_enter Tryz.func26, Tryz.ntmps26
  go_wp2_with (go_at_call 56; refine (HZ.out _).mono ?_; rintro e' _ ⟨rfl, rfl⟩)
  refine (HVal.out _).mono ?_
  rintro e' _ ⟨rfl, rfl⟩
  go_wp2_with fail
  refine (HKey.out _ hb1).mono ?_
  rintro e' w2 ⟨rfl, hb2⟩
  have hb3 := hb1.trans (hb2.mono hb1.size)
  have hc3 := fun o u hcu => (hb2.cell (p := ⟨w.heap.size, o, none⟩) (World.block_lt_of_cell? (w.alloc (.cells #[.int .i64 0, .float .f64 0, .string ⟨([] : Txt).toArray⟩, .slice A 0 c, .slice A2 0 c2] 27)) ⟨w.heap.size, o, none⟩ (u := u) hcu)).trans hcu
  have hc3 := hc3 3 (.slice A 0 c) (by rw [World.cell?_alloc_new]; rfl)
  go_wp2_with fail
  refine wp_loop_rounds 1 ?_
  rw [rounds_succ]
  go_wp2_with fail
  go_ret
  exact ⟨by rw [HR.out]; rfl, hb3⟩
set_option maxHeartbeats 4000000 in
set_option maxRecDepth 100000 in
theorem right_1 (m d : Nat) (hm : m < 1000000) (ih : Rights m) (w : World) (num : Nat) (str : List UInt8) (keys : List (List UInt8)) (list : List Tr) (x0 x1 x2 x3 x4 : Value) (x : Int) (hx : x = ((m + 1 : Nat) : Int)) (hR : Rep (d + 1) w (.mk 1 num str keys list) x0 x1 x2 x3 x4) :
    Calls Tryz.prog 26 #[.agg #[x0, x1, x2, x3, x4], .int .i64 x] w fun e w' => e = .returned (.bool (rightT (m + 1) (.mk 1 num str keys list))) ∧ Below w.heap.size w w' := by
  obtain ⟨rfl, rfl, rfl, hnum, hstr, hll, hkl, A, c, A2, c2, rfl, rfl, hL, hK, hc2, hc, hn2, hn⟩ := hR
  obtain ⟨hSl, hkx⟩ := rep_strSl hK hc2 hn2
  obtain ⟨r, hr⟩ : ∃ r, r = rightT (m + 1) (.mk 1 num str keys list) := ⟨_, rfl⟩
  rw [← hr]
  rw [rightT, if_neg (by decide)] at hr
  have hx1 : decide (x < 1) = false := decide_eq_false (by omega)
  obtain ⟨n, hnn⟩ : ∃ n, n = list.length := ⟨_, rfl⟩
  obtain ⟨nk, hnk⟩ : ∃ nk, nk = keys.length := ⟨_, rfl⟩
  rw [← hnn, ← hnk]
  rw [← hnn] at hc hll
  rw [← hnk] at hc2 hkl hSl
  by_cases hz : num = 0
  case neg =>
    rw [if_pos ⟨by decide, hz⟩] at hr
    have HR := Lib.hid hr
    have HZ : Hid (∀ W, Calls Tryz.prog 56 #[.float .f64 num] W fun e w' => e = .returned (.bool false) ∧ W = w') := Lib.hid (fun W => by have := zeroB_any num W; rwa [decide_eq_false hz] at this)
    clear hr hL hK hc2 hc hn2 hn hSl hkx hnum hstr hll hkl ih hnn hnk hx hz
    go_enter Tryz.func26, Tryz.ntmps26
    go_wp2_with (go_at_call 56; refine (HZ.out _).mono ?_; rintro e' _ ⟨rfl, rfl⟩)
    go_ret
    exact ⟨by rw [HR.out]; rfl, (Below.refl _ _).alloc (Nat.le_refl _) _⟩
  rw [if_neg (fun h => h.2 hz)] at hr
  subst hz
  have HZ : Hid (∀ W, Calls Tryz.prog 56 #[.float .f64 0] W fun e w' => e = .returned (.bool true) ∧ W = w') := Lib.hid (fun W => zeroB_any 0 W)
  by_cases hs : str = []
  case neg =>
    rw [if_pos ⟨by decide, hs⟩] at hr
    have HR := Lib.hid hr
    have hs1 : (⟨str.toArray⟩ : ByteArray).toList.isEmpty = false := by rw [toList_txt]; cases str <;> simp_all
    obtain ⟨S, hS⟩ : ∃ S : ByteArray, S = ⟨str.toArray⟩ := ⟨_, rfl⟩
    rw [← hS] at hs1 ⊢
    clear hr hL hK hc2 hc hn2 hn hSl hkx hnum hstr hll hkl ih hnn hnk hx hs hS
    go_enter Tryz.func26, Tryz.ntmps26
    go_wp2_with (go_at_call 56; refine (HZ.out _).mono ?_; rintro e' _ ⟨rfl, rfl⟩)
    go_ret
    exact ⟨by rw [HR.out]; rfl, (Below.refl _ _).alloc (Nat.le_refl _) _⟩
  rw [if_neg (fun h => h.2 hs)] at hr
  subst hs
  by_cases hl : list = []
  case neg =>
    rw [if_pos ⟨by decide, hl⟩] at hr
    have HR := Lib.hid hr
    have hl1 : 0 < n := by rw [hnn]; exact List.length_pos_iff.2 hl
    clear hr hL hK hc2 hc hn2 hn hSl hkx hnum hstr hll hkl ih hnn hnk hx hl
    go_enter Tryz.func26, Tryz.ntmps26
    go_wp2_with (go_at_call 56; refine (HZ.out _).mono ?_; rintro e' _ ⟨rfl, rfl⟩)
    go_ret
    exact ⟨by rw [HR.out]; rfl, (Below.refl _ _).alloc (Nat.le_refl _) _⟩
  rw [if_neg (fun h => h.2 hl)] at hr
  obtain rfl : n = 0 := by rw [hnn, hl]; rfl
  rw [if_neg (fun h => absurd h.1 (by decide))] at hr
  by_cases hkk : keys = []
  case neg =>
    rw [if_pos ⟨by decide, hkk⟩] at hr
    have HR := Lib.hid hr
    have hk1 : 0 < nk := by rw [hnk]; exact List.length_pos_iff.2 hkk
    clear hr hL hK hc2 hc hn2 hn hSl hkx hnum hstr hll hkl ih hnn hnk hx hkk
    go_enter Tryz.func26, Tryz.ntmps26
    go_wp2_with (go_at_call 56; refine (HZ.out _).mono ?_; rintro e' _ ⟨rfl, rfl⟩)
    go_ret
    exact ⟨by rw [HR.out]; rfl, (Below.refl _ _).alloc (Nat.le_refl _) _⟩
  rw [if_neg (fun h => h.2 hkk)] at hr
  obtain rfl : nk = 0 := by rw [hnk, hkk]; rfl
  have hval := fun W => valid_any ⟨([] : Txt).toArray⟩ W (by decide)
  have hkeys := fun W hS => keys_any keys (.slice A2 0 c2) W (by omega) hkx hS
  have hbn : 0 ≤ 1048576 := by omega
  have hb1 : Below w.heap.size w (w.alloc (.cells #[.int .i64 1, .float .f64 0, .string ⟨([] : Txt).toArray⟩, .slice A 0 c, .slice A2 0 c2] 27)) := (Below.refl _ _).alloc (Nat.le_refl _) _
  have hvb : validB ⟨([] : Txt).toArray⟩ = true := rfl
  rw [if_neg (by rw [hvb]; decide)] at hr
  rw [hvb] at hval
  have HVal := Lib.hid hval
  have hkb : keysT keys = true := by rw [hkk]; rfl
  rw [if_neg (by rw [hkb]; decide)] at hr
  rw [hkb] at hkeys
  have HKey : Hid (∀ W, Below w.heap.size w W → Calls Tryz.prog 57 #[.slice A2 0 c2] W fun e w' => e = .returned (.bool true) ∧ Below W.heap.size W w') := Lib.hid (fun W hW => hkeys W (hSl.below hW))
  have HR : Hid (r = true) := Lib.hid (by rw [hr, hl]; rfl)
  clear hr hkb hx hvb hL hK hc2 hc hn2 hn hkx hnum hstr hll hkl ih hnn hnk hval hkeys hSl hkk hl
  go_enter Tryz.func26, Tryz.ntmps26
  go_wp2_with (go_at_call 56; refine (HZ.out _).mono ?_; rintro e' _ ⟨rfl, rfl⟩)
  refine (HVal.out _).mono ?_
  rintro e' _ ⟨rfl, rfl⟩
  go_wp2_with fail
  refine (HKey.out _ hb1).mono ?_
  rintro e' w2 ⟨rfl, hb2⟩
  have hb3 := hb1.trans (hb2.mono hb1.size)
  have hc3 := fun o u hcu => (hb2.cell (p := ⟨w.heap.size, o, none⟩) (World.block_lt_of_cell? (w.alloc (.cells #[.int .i64 1, .float .f64 0, .string ⟨([] : Txt).toArray⟩, .slice A 0 c, .slice A2 0 c2] 27)) ⟨w.heap.size, o, none⟩ (u := u) hcu)).trans hcu
  have hc3 := hc3 3 (.slice A 0 c) (by rw [World.cell?_alloc_new]; rfl)
  go_wp2_with fail
  refine wp_loop_rounds 1 ?_
  rw [rounds_succ]
  go_wp2_with fail
  go_ret
  exact ⟨by rw [HR.out]; rfl, hb3⟩
set_option maxHeartbeats 4000000 in
set_option maxRecDepth 100000 in
theorem right_2 (m d : Nat) (hm : m < 1000000) (ih : Rights m) (w : World) (num : Nat) (str : List UInt8) (keys : List (List UInt8)) (list : List Tr) (x0 x1 x2 x3 x4 : Value) (x : Int) (hx : x = ((m + 1 : Nat) : Int)) (hR : Rep (d + 1) w (.mk 2 num str keys list) x0 x1 x2 x3 x4) :
    Calls Tryz.prog 26 #[.agg #[x0, x1, x2, x3, x4], .int .i64 x] w fun e w' => e = .returned (.bool (rightT (m + 1) (.mk 2 num str keys list))) ∧ Below w.heap.size w w' := by
  obtain ⟨rfl, rfl, rfl, hnum, hstr, hll, hkl, A, c, A2, c2, rfl, rfl, hL, hK, hc2, hc, hn2, hn⟩ := hR
  obtain ⟨hSl, hkx⟩ := rep_strSl hK hc2 hn2
  obtain ⟨r, hr⟩ : ∃ r, r = rightT (m + 1) (.mk 2 num str keys list) := ⟨_, rfl⟩
  rw [← hr]
  rw [rightT, if_neg (by decide)] at hr
  have hx1 : decide (x < 1) = false := decide_eq_false (by omega)
  obtain ⟨n, hnn⟩ : ∃ n, n = list.length := ⟨_, rfl⟩
  obtain ⟨nk, hnk⟩ : ∃ nk, nk = keys.length := ⟨_, rfl⟩
  rw [← hnn, ← hnk]
  rw [← hnn] at hc hll
  rw [← hnk] at hc2 hkl hSl
  by_cases hz : num = 0
  case neg =>
    rw [if_pos ⟨by decide, hz⟩] at hr
    have HR := Lib.hid hr
    have HZ : Hid (∀ W, Calls Tryz.prog 56 #[.float .f64 num] W fun e w' => e = .returned (.bool false) ∧ W = w') := Lib.hid (fun W => by have := zeroB_any num W; rwa [decide_eq_false hz] at this)
    clear hr hL hK hc2 hc hn2 hn hSl hkx hnum hstr hll hkl ih hnn hnk hx hz
    go_enter Tryz.func26, Tryz.ntmps26
    go_wp2_with (go_at_call 56; refine (HZ.out _).mono ?_; rintro e' _ ⟨rfl, rfl⟩)
    go_ret
    exact ⟨by rw [HR.out]; rfl, (Below.refl _ _).alloc (Nat.le_refl _) _⟩
  rw [if_neg (fun h => h.2 hz)] at hr
  subst hz
  have HZ : Hid (∀ W, Calls Tryz.prog 56 #[.float .f64 0] W fun e w' => e = .returned (.bool true) ∧ W = w') := Lib.hid (fun W => zeroB_any 0 W)
  by_cases hs : str = []
  case neg =>
    rw [if_pos ⟨by decide, hs⟩] at hr
    have HR := Lib.hid hr
    have hs1 : (⟨str.toArray⟩ : ByteArray).toList.isEmpty = false := by rw [toList_txt]; cases str <;> simp_all
    obtain ⟨S, hS⟩ : ∃ S : ByteArray, S = ⟨str.toArray⟩ := ⟨_, rfl⟩
    rw [← hS] at hs1 ⊢
    clear hr hL hK hc2 hc hn2 hn hSl hkx hnum hstr hll hkl ih hnn hnk hx hs hS
    go_enter Tryz.func26, Tryz.ntmps26
    go_wp2_with (go_at_call 56; refine (HZ.out _).mono ?_; rintro e' _ ⟨rfl, rfl⟩)
    go_ret
    exact ⟨by rw [HR.out]; rfl, (Below.refl _ _).alloc (Nat.le_refl _) _⟩
  rw [if_neg (fun h => h.2 hs)] at hr
  subst hs
  by_cases hl : list = []
  case neg =>
    rw [if_pos ⟨by decide, hl⟩] at hr
    have HR := Lib.hid hr
    have hl1 : 0 < n := by rw [hnn]; exact List.length_pos_iff.2 hl
    clear hr hL hK hc2 hc hn2 hn hSl hkx hnum hstr hll hkl ih hnn hnk hx hl
    go_enter Tryz.func26, Tryz.ntmps26
    go_wp2_with (go_at_call 56; refine (HZ.out _).mono ?_; rintro e' _ ⟨rfl, rfl⟩)
    go_ret
    exact ⟨by rw [HR.out]; rfl, (Below.refl _ _).alloc (Nat.le_refl _) _⟩
  rw [if_neg (fun h => h.2 hl)] at hr
  obtain rfl : n = 0 := by rw [hnn, hl]; rfl
  rw [if_neg (fun h => absurd h.1 (by decide))] at hr
  by_cases hkk : keys = []
  case neg =>
    rw [if_pos ⟨by decide, hkk⟩] at hr
    have HR := Lib.hid hr
    have hk1 : 0 < nk := by rw [hnk]; exact List.length_pos_iff.2 hkk
    clear hr hL hK hc2 hc hn2 hn hSl hkx hnum hstr hll hkl ih hnn hnk hx hkk
    go_enter Tryz.func26, Tryz.ntmps26
    go_wp2_with (go_at_call 56; refine (HZ.out _).mono ?_; rintro e' _ ⟨rfl, rfl⟩)
    go_ret
    exact ⟨by rw [HR.out]; rfl, (Below.refl _ _).alloc (Nat.le_refl _) _⟩
  rw [if_neg (fun h => h.2 hkk)] at hr
  obtain rfl : nk = 0 := by rw [hnk, hkk]; rfl
  have hval := fun W => valid_any ⟨([] : Txt).toArray⟩ W (by decide)
  have hkeys := fun W hS => keys_any keys (.slice A2 0 c2) W (by omega) hkx hS
  have hbn : 0 ≤ 1048576 := by omega
  have hb1 : Below w.heap.size w (w.alloc (.cells #[.int .i64 2, .float .f64 0, .string ⟨([] : Txt).toArray⟩, .slice A 0 c, .slice A2 0 c2] 27)) := (Below.refl _ _).alloc (Nat.le_refl _) _
  have hvb : validB ⟨([] : Txt).toArray⟩ = true := rfl
  rw [if_neg (by rw [hvb]; decide)] at hr
  rw [hvb] at hval
  have HVal := Lib.hid hval
  have hkb : keysT keys = true := by rw [hkk]; rfl
  rw [if_neg (by rw [hkb]; decide)] at hr
  rw [hkb] at hkeys
  have HKey : Hid (∀ W, Below w.heap.size w W → Calls Tryz.prog 57 #[.slice A2 0 c2] W fun e w' => e = .returned (.bool true) ∧ Below W.heap.size W w') := Lib.hid (fun W hW => hkeys W (hSl.below hW))
  have HR : Hid (r = true) := Lib.hid (by rw [hr, hl]; rfl)
  clear hr hkb hx hvb hL hK hc2 hc hn2 hn hkx hnum hstr hll hkl ih hnn hnk hval hkeys hSl hkk hl
  go_enter Tryz.func26, Tryz.ntmps26
  go_wp2_with (go_at_call 56; refine (HZ.out _).mono ?_; rintro e' _ ⟨rfl, rfl⟩)
  refine (HVal.out _).mono ?_
  rintro e' _ ⟨rfl, rfl⟩
  go_wp2_with fail
  refine (HKey.out _ hb1).mono ?_
  rintro e' w2 ⟨rfl, hb2⟩
  have hb3 := hb1.trans (hb2.mono hb1.size)
  have hc3 := fun o u hcu => (hb2.cell (p := ⟨w.heap.size, o, none⟩) (World.block_lt_of_cell? (w.alloc (.cells #[.int .i64 2, .float .f64 0, .string ⟨([] : Txt).toArray⟩, .slice A 0 c, .slice A2 0 c2] 27)) ⟨w.heap.size, o, none⟩ (u := u) hcu)).trans hcu
  have hc3 := hc3 3 (.slice A 0 c) (by rw [World.cell?_alloc_new]; rfl)
  go_wp2_with fail
  refine wp_loop_rounds 1 ?_
  rw [rounds_succ]
  go_wp2_with fail
  go_ret
  exact ⟨by rw [HR.out]; rfl, hb3⟩
set_option maxHeartbeats 4000000 in
set_option maxRecDepth 100000 in
theorem right_3 (m d : Nat) (hm : m < 1000000) (ih : Rights m) (w : World) (num : Nat) (str : List UInt8) (keys : List (List UInt8)) (list : List Tr) (x0 x1 x2 x3 x4 : Value) (x : Int) (hx : x = ((m + 1 : Nat) : Int)) (hR : Rep (d + 1) w (.mk 3 num str keys list) x0 x1 x2 x3 x4) :
    Calls Tryz.prog 26 #[.agg #[x0, x1, x2, x3, x4], .int .i64 x] w fun e w' => e = .returned (.bool (rightT (m + 1) (.mk 3 num str keys list))) ∧ Below w.heap.size w w' := by
  obtain ⟨rfl, rfl, rfl, hnum, hstr, hll, hkl, A, c, A2, c2, rfl, rfl, hL, hK, hc2, hc, hn2, hn⟩ := hR
  obtain ⟨hSl, hkx⟩ := rep_strSl hK hc2 hn2
  obtain ⟨r, hr⟩ : ∃ r, r = rightT (m + 1) (.mk 3 num str keys list) := ⟨_, rfl⟩
  rw [← hr]
  rw [rightT, if_neg (by decide)] at hr
  have hx1 : decide (x < 1) = false := decide_eq_false (by omega)
  obtain ⟨n, hnn⟩ : ∃ n, n = list.length := ⟨_, rfl⟩
  obtain ⟨nk, hnk⟩ : ∃ nk, nk = keys.length := ⟨_, rfl⟩
  rw [← hnn, ← hnk]
  rw [← hnn] at hc hll
  rw [← hnk] at hc2 hkl hSl
  rw [if_neg (fun h => h.1 rfl)] at hr
  have HZ : Hid (∀ W, Calls Tryz.prog 56 #[.float .f64 num] W fun e w' => e = .returned (.bool (decide (num = 0))) ∧ W = w') := Lib.hid (fun W => zeroB_any num W)
  by_cases hs : str = []
  case neg =>
    rw [if_pos ⟨by decide, hs⟩] at hr
    have HR := Lib.hid hr
    have hs1 : (⟨str.toArray⟩ : ByteArray).toList.isEmpty = false := by rw [toList_txt]; cases str <;> simp_all
    obtain ⟨S, hS⟩ : ∃ S : ByteArray, S = ⟨str.toArray⟩ := ⟨_, rfl⟩
    rw [← hS] at hs1 ⊢
    clear hr hL hK hc2 hc hn2 hn hSl hkx hnum hstr hll hkl ih hnn hnk hx hs hS
    go_enter Tryz.func26, Tryz.ntmps26
    go_wp2_with (go_at_call 56; refine (HZ.out _).mono ?_; rintro e' _ ⟨rfl, rfl⟩)
    go_ret
    exact ⟨by rw [HR.out]; rfl, (Below.refl _ _).alloc (Nat.le_refl _) _⟩
  rw [if_neg (fun h => h.2 hs)] at hr
  subst hs
  by_cases hl : list = []
  case neg =>
    rw [if_pos ⟨by decide, hl⟩] at hr
    have HR := Lib.hid hr
    have hl1 : 0 < n := by rw [hnn]; exact List.length_pos_iff.2 hl
    clear hr hL hK hc2 hc hn2 hn hSl hkx hnum hstr hll hkl ih hnn hnk hx hl
    go_enter Tryz.func26, Tryz.ntmps26
    go_wp2_with (go_at_call 56; refine (HZ.out _).mono ?_; rintro e' _ ⟨rfl, rfl⟩)
    go_ret
    exact ⟨by rw [HR.out]; rfl, (Below.refl _ _).alloc (Nat.le_refl _) _⟩
  rw [if_neg (fun h => h.2 hl)] at hr
  obtain rfl : n = 0 := by rw [hnn, hl]; rfl
  rw [if_neg (fun h => absurd h.1 (by decide))] at hr
  by_cases hkk : keys = []
  case neg =>
    rw [if_pos ⟨by decide, hkk⟩] at hr
    have HR := Lib.hid hr
    have hk1 : 0 < nk := by rw [hnk]; exact List.length_pos_iff.2 hkk
    clear hr hL hK hc2 hc hn2 hn hSl hkx hnum hstr hll hkl ih hnn hnk hx hkk
    go_enter Tryz.func26, Tryz.ntmps26
    go_wp2_with (go_at_call 56; refine (HZ.out _).mono ?_; rintro e' _ ⟨rfl, rfl⟩)
    go_ret
    exact ⟨by rw [HR.out]; rfl, (Below.refl _ _).alloc (Nat.le_refl _) _⟩
  rw [if_neg (fun h => h.2 hkk)] at hr
  obtain rfl : nk = 0 := by rw [hnk, hkk]; rfl
  have hval := fun W => valid_any ⟨([] : Txt).toArray⟩ W (by decide)
  have hkeys := fun W hS => keys_any keys (.slice A2 0 c2) W (by omega) hkx hS
  have hbn : 0 ≤ 1048576 := by omega
  have hb1 : Below w.heap.size w (w.alloc (.cells #[.int .i64 3, .float .f64 num, .string ⟨([] : Txt).toArray⟩, .slice A 0 c, .slice A2 0 c2] 27)) := (Below.refl _ _).alloc (Nat.le_refl _) _
  have hvb : validB ⟨([] : Txt).toArray⟩ = true := rfl
  rw [if_neg (by rw [hvb]; decide)] at hr
  rw [hvb] at hval
  have HVal := Lib.hid hval
  have hkb : keysT keys = true := by rw [hkk]; rfl
  rw [if_neg (by rw [hkb]; decide)] at hr
  rw [hkb] at hkeys
  have HKey : Hid (∀ W, Below w.heap.size w W → Calls Tryz.prog 57 #[.slice A2 0 c2] W fun e w' => e = .returned (.bool true) ∧ Below W.heap.size W w') := Lib.hid (fun W hW => hkeys W (hSl.below hW))
  have HR : Hid (r = true) := Lib.hid (by rw [hr, hl]; rfl)
  clear hr hkb hx hvb hL hK hc2 hc hn2 hn hkx hnum hstr hll hkl ih hnn hnk hval hkeys hSl hkk hl
  go_enter Tryz.func26, Tryz.ntmps26
  go_wp2_with (go_at_call 56; refine (HZ.out _).mono ?_; rintro e' _ ⟨rfl, rfl⟩)
  refine (HVal.out _).mono ?_
  rintro e' _ ⟨rfl, rfl⟩
  go_wp2_with fail
  refine (HKey.out _ hb1).mono ?_
  rintro e' w2 ⟨rfl, hb2⟩
  have hb3 := hb1.trans (hb2.mono hb1.size)
  have hc3 := fun o u hcu => (hb2.cell (p := ⟨w.heap.size, o, none⟩) (World.block_lt_of_cell? (w.alloc (.cells #[.int .i64 3, .float .f64 num, .string ⟨([] : Txt).toArray⟩, .slice A 0 c, .slice A2 0 c2] 27)) ⟨w.heap.size, o, none⟩ (u := u) hcu)).trans hcu
  have hc3 := hc3 3 (.slice A 0 c) (by rw [World.cell?_alloc_new]; rfl)
  go_wp2_with fail
  refine wp_loop_rounds 1 ?_
  rw [rounds_succ]
  go_wp2_with fail
  go_ret
  exact ⟨by rw [HR.out]; rfl, hb3⟩
set_option maxHeartbeats 4000000 in
set_option maxRecDepth 100000 in
theorem right_4 (m d : Nat) (hm : m < 1000000) (ih : Rights m) (w : World) (num : Nat) (str : List UInt8) (keys : List (List UInt8)) (list : List Tr) (x0 x1 x2 x3 x4 : Value) (x : Int) (hx : x = ((m + 1 : Nat) : Int)) (hR : Rep (d + 1) w (.mk 4 num str keys list) x0 x1 x2 x3 x4) :
    Calls Tryz.prog 26 #[.agg #[x0, x1, x2, x3, x4], .int .i64 x] w fun e w' => e = .returned (.bool (rightT (m + 1) (.mk 4 num str keys list))) ∧ Below w.heap.size w w' := by
  obtain ⟨rfl, rfl, rfl, hnum, hstr, hll, hkl, A, c, A2, c2, rfl, rfl, hL, hK, hc2, hc, hn2, hn⟩ := hR
  obtain ⟨hSl, hkx⟩ := rep_strSl hK hc2 hn2
  obtain ⟨r, hr⟩ : ∃ r, r = rightT (m + 1) (.mk 4 num str keys list) := ⟨_, rfl⟩
  rw [← hr]
  rw [rightT, if_neg (by decide)] at hr
  have hx1 : decide (x < 1) = false := decide_eq_false (by omega)
  obtain ⟨n, hnn⟩ : ∃ n, n = list.length := ⟨_, rfl⟩
  obtain ⟨nk, hnk⟩ : ∃ nk, nk = keys.length := ⟨_, rfl⟩
  rw [← hnn, ← hnk]
  rw [← hnn] at hc hll
  rw [← hnk] at hc2 hkl hSl
  by_cases hz : num = 0
  case neg =>
    rw [if_pos ⟨by decide, hz⟩] at hr
    have HR := Lib.hid hr
    have HZ : Hid (∀ W, Calls Tryz.prog 56 #[.float .f64 num] W fun e w' => e = .returned (.bool false) ∧ W = w') := Lib.hid (fun W => by have := zeroB_any num W; rwa [decide_eq_false hz] at this)
    clear hr hL hK hc2 hc hn2 hn hSl hkx hnum hstr hll hkl ih hnn hnk hx hz
    go_enter Tryz.func26, Tryz.ntmps26
    go_wp2_with (go_at_call 56; refine (HZ.out _).mono ?_; rintro e' _ ⟨rfl, rfl⟩)
    go_ret
    exact ⟨by rw [HR.out]; rfl, (Below.refl _ _).alloc (Nat.le_refl _) _⟩
  rw [if_neg (fun h => h.2 hz)] at hr
  subst hz
  have HZ : Hid (∀ W, Calls Tryz.prog 56 #[.float .f64 0] W fun e w' => e = .returned (.bool true) ∧ W = w') := Lib.hid (fun W => zeroB_any 0 W)
  rw [if_neg (fun h => h.1 rfl)] at hr
  by_cases hl : list = []
  case neg =>
    rw [if_pos ⟨by decide, hl⟩] at hr
    have HR := Lib.hid hr
    have hl1 : 0 < n := by rw [hnn]; exact List.length_pos_iff.2 hl
    clear hr hL hK hc2 hc hn2 hn hSl hkx hnum hstr hll hkl ih hnn hnk hx hl
    go_enter Tryz.func26, Tryz.ntmps26
    go_wp2_with (go_at_call 56; refine (HZ.out _).mono ?_; rintro e' _ ⟨rfl, rfl⟩)
    go_ret
    exact ⟨by rw [HR.out]; rfl, (Below.refl _ _).alloc (Nat.le_refl _) _⟩
  rw [if_neg (fun h => h.2 hl)] at hr
  obtain rfl : n = 0 := by rw [hnn, hl]; rfl
  rw [if_neg (fun h => absurd h.1 (by decide))] at hr
  by_cases hkk : keys = []
  case neg =>
    rw [if_pos ⟨by decide, hkk⟩] at hr
    have HR := Lib.hid hr
    have hk1 : 0 < nk := by rw [hnk]; exact List.length_pos_iff.2 hkk
    clear hr hL hK hc2 hc hn2 hn hSl hkx hnum hstr hll hkl ih hnn hnk hx hkk
    go_enter Tryz.func26, Tryz.ntmps26
    go_wp2_with (go_at_call 56; refine (HZ.out _).mono ?_; rintro e' _ ⟨rfl, rfl⟩)
    go_ret
    exact ⟨by rw [HR.out]; rfl, (Below.refl _ _).alloc (Nat.le_refl _) _⟩
  rw [if_neg (fun h => h.2 hkk)] at hr
  obtain rfl : nk = 0 := by rw [hnk, hkk]; rfl
  have hval := fun W => valid_any ⟨(str : Txt).toArray⟩ W (by show str.length < _; omega)
  have hkeys := fun W hS => keys_any keys (.slice A2 0 c2) W (by omega) hkx hS
  have hbn : 0 ≤ 1048576 := by omega
  have hb1 : Below w.heap.size w (w.alloc (.cells #[.int .i64 4, .float .f64 0, .string ⟨(str : Txt).toArray⟩, .slice A 0 c, .slice A2 0 c2] 27)) := (Below.refl _ _).alloc (Nat.le_refl _) _
  cases hvb : validB ⟨str.toArray⟩ with
  | false =>
    rw [if_pos hvb] at hr
    rw [hvb] at hval
    have HR := Lib.hid hr
    have HVal := Lib.hid hval
    clear hr hb1 hvb hx hL hK hc2 hc hn2 hn hkx hnum hstr hll hkl ih hnn hnk hval hkeys hSl hkk hl
    go_enter Tryz.func26, Tryz.ntmps26
    go_wp2_with (go_at_call 56; refine (HZ.out _).mono ?_; rintro e' _ ⟨rfl, rfl⟩)
    refine (HVal.out _).mono ?_
    rintro e' _ ⟨rfl, rfl⟩
    go_wp2_with fail
    go_ret
    exact ⟨by rw [HR.out]; rfl, (Below.refl _ _).alloc (Nat.le_refl _) _⟩
  | true =>
  rw [if_neg (by rw [hvb]; decide)] at hr
  rw [hvb] at hval
  have HVal := Lib.hid hval
  have hkb : keysT keys = true := by rw [hkk]; rfl
  rw [if_neg (by rw [hkb]; decide)] at hr
  rw [hkb] at hkeys
  have HKey : Hid (∀ W, Below w.heap.size w W → Calls Tryz.prog 57 #[.slice A2 0 c2] W fun e w' => e = .returned (.bool true) ∧ Below W.heap.size W w') := Lib.hid (fun W hW => hkeys W (hSl.below hW))
  have HR : Hid (r = true) := Lib.hid (by rw [hr, hl]; rfl)
  clear hr hkb hx hvb hL hK hc2 hc hn2 hn hkx hnum hstr hll hkl ih hnn hnk hval hkeys hSl hkk hl
  go_enter Tryz.func26, Tryz.ntmps26
  go_wp2_with (go_at_call 56; refine (HZ.out _).mono ?_; rintro e' _ ⟨rfl, rfl⟩)
  refine (HVal.out _).mono ?_
  rintro e' _ ⟨rfl, rfl⟩
  go_wp2_with fail
  refine (HKey.out _ hb1).mono ?_
  rintro e' w2 ⟨rfl, hb2⟩
  have hb3 := hb1.trans (hb2.mono hb1.size)
  have hc3 := fun o u hcu => (hb2.cell (p := ⟨w.heap.size, o, none⟩) (World.block_lt_of_cell? (w.alloc (.cells #[.int .i64 4, .float .f64 0, .string ⟨(str : Txt).toArray⟩, .slice A 0 c, .slice A2 0 c2] 27)) ⟨w.heap.size, o, none⟩ (u := u) hcu)).trans hcu
  have hc3 := hc3 3 (.slice A 0 c) (by rw [World.cell?_alloc_new]; rfl)
  go_wp2_with fail
  refine wp_loop_rounds 1 ?_
  rw [rounds_succ]
  go_wp2_with fail
  go_ret
  exact ⟨by rw [HR.out]; rfl, hb3⟩
set_option maxHeartbeats 4000000 in
set_option maxRecDepth 100000 in
theorem right_5 (m d : Nat) (hm : m < 1000000) (ih : Rights m) (w : World) (num : Nat) (str : List UInt8) (keys : List (List UInt8)) (list : List Tr) (x0 x1 x2 x3 x4 : Value) (x : Int) (hx : x = ((m + 1 : Nat) : Int)) (hR : Rep (d + 1) w (.mk 5 num str keys list) x0 x1 x2 x3 x4) :
    Calls Tryz.prog 26 #[.agg #[x0, x1, x2, x3, x4], .int .i64 x] w fun e w' => e = .returned (.bool (rightT (m + 1) (.mk 5 num str keys list))) ∧ Below w.heap.size w w' := by
  obtain ⟨rfl, rfl, rfl, hnum, hstr, hll, hkl, A, c, A2, c2, rfl, rfl, hL, hK, hc2, hc, hn2, hn⟩ := hR
  obtain ⟨hSl, hkx⟩ := rep_strSl hK hc2 hn2
  obtain ⟨r, hr⟩ : ∃ r, r = rightT (m + 1) (.mk 5 num str keys list) := ⟨_, rfl⟩
  rw [← hr]
  rw [rightT, if_neg (by decide)] at hr
  have hx1 : decide (x < 1) = false := decide_eq_false (by omega)
  obtain ⟨n, hnn⟩ : ∃ n, n = list.length := ⟨_, rfl⟩
  obtain ⟨nk, hnk⟩ : ∃ nk, nk = keys.length := ⟨_, rfl⟩
  rw [← hnn, ← hnk]
  rw [← hnn] at hc hll
  rw [← hnk] at hc2 hkl hSl
  by_cases hz : num = 0
  case neg =>
    rw [if_pos ⟨by decide, hz⟩] at hr
    have HR := Lib.hid hr
    have HZ : Hid (∀ W, Calls Tryz.prog 56 #[.float .f64 num] W fun e w' => e = .returned (.bool false) ∧ W = w') := Lib.hid (fun W => by have := zeroB_any num W; rwa [decide_eq_false hz] at this)
    clear hr hL hK hc2 hc hn2 hn hSl hkx hnum hstr hll hkl ih hnn hnk hx hz
    go_enter Tryz.func26, Tryz.ntmps26
    go_wp2_with (go_at_call 56; refine (HZ.out _).mono ?_; rintro e' _ ⟨rfl, rfl⟩)
    go_ret
    exact ⟨by rw [HR.out]; rfl, (Below.refl _ _).alloc (Nat.le_refl _) _⟩
  rw [if_neg (fun h => h.2 hz)] at hr
  subst hz
  have HZ : Hid (∀ W, Calls Tryz.prog 56 #[.float .f64 0] W fun e w' => e = .returned (.bool true) ∧ W = w') := Lib.hid (fun W => zeroB_any 0 W)
  by_cases hs : str = []
  case neg =>
    rw [if_pos ⟨by decide, hs⟩] at hr
    have HR := Lib.hid hr
    have hs1 : (⟨str.toArray⟩ : ByteArray).toList.isEmpty = false := by rw [toList_txt]; cases str <;> simp_all
    obtain ⟨S, hS⟩ : ∃ S : ByteArray, S = ⟨str.toArray⟩ := ⟨_, rfl⟩
    rw [← hS] at hs1 ⊢
    clear hr hL hK hc2 hc hn2 hn hSl hkx hnum hstr hll hkl ih hnn hnk hx hs hS
    go_enter Tryz.func26, Tryz.ntmps26
    go_wp2_with (go_at_call 56; refine (HZ.out _).mono ?_; rintro e' _ ⟨rfl, rfl⟩)
    go_ret
    exact ⟨by rw [HR.out]; rfl, (Below.refl _ _).alloc (Nat.le_refl _) _⟩
  rw [if_neg (fun h => h.2 hs)] at hr
  subst hs
  rw [if_neg (fun h => absurd h.1 (by decide))] at hr
  rw [if_neg (fun h => absurd h.1 (by decide))] at hr
  by_cases hkk : keys = []
  case neg =>
    rw [if_pos ⟨by decide, hkk⟩] at hr
    have HR := Lib.hid hr
    have hk1 : 0 < nk := by rw [hnk]; exact List.length_pos_iff.2 hkk
    clear hr hL hK hc2 hc hn2 hn hSl hkx hnum hstr hll hkl ih hnn hnk hx hkk
    go_enter Tryz.func26, Tryz.ntmps26
    go_wp2_with (go_at_call 56; refine (HZ.out _).mono ?_; rintro e' _ ⟨rfl, rfl⟩)
    go_ret
    exact ⟨by rw [HR.out]; rfl, (Below.refl _ _).alloc (Nat.le_refl _) _⟩
  rw [if_neg (fun h => h.2 hkk)] at hr
  obtain rfl : nk = 0 := by rw [hnk, hkk]; rfl
  have hval := fun W => valid_any ⟨([] : Txt).toArray⟩ W (by decide)
  have hkeys := fun W hS => keys_any keys (.slice A2 0 c2) W (by omega) hkx hS
  have hbn : n ≤ 1048576 := by omega
  have hb1 : Below w.heap.size w (w.alloc (.cells #[.int .i64 5, .float .f64 0, .string ⟨([] : Txt).toArray⟩, .slice A n c, .slice A2 0 c2] 27)) := (Below.refl _ _).alloc (Nat.le_refl _) _
  have hvb : validB ⟨([] : Txt).toArray⟩ = true := rfl
  rw [if_neg (by rw [hvb]; decide)] at hr
  rw [hvb] at hval
  have HVal := Lib.hid hval
  have hkb : keysT keys = true := by rw [hkk]; rfl
  rw [if_neg (by rw [hkb]; decide)] at hr
  rw [hkb] at hkeys
  have HKey : Hid (∀ W, Below w.heap.size w W → Calls Tryz.prog 57 #[.slice A2 0 c2] W fun e w' => e = .returned (.bool true) ∧ Below W.heap.size W w') := Lib.hid (fun W hW => hkeys W (hSl.below hW))
  have HR : Hid (r = (list.drop 0).all (rightT m)) := Lib.hid hr
  have HE : Hid (∀ (i : Nat) (h : i < list.length), ∃ ad, A = some ad ∧ ∃ y0 y1 y2 y3 y4, Cells5 w (ad.add (i * 5)) y0 y1 y2 y3 y4 ∧ ∀ W x', x' = (m : Int) → Below w.heap.size w W → Calls Tryz.prog 26 #[.agg #[y0, y1, y2, y3, y4], .int .i64 x'] W fun e w' => e = .returned (.bool (rightT m list[i])) ∧ Below W.heap.size W w') := Lib.hid (fun i h => by
    obtain ⟨ad, e, y0, y1, y2, y3, y4, h5, hRi⟩ := hL i h
    exact ⟨ad, e, y0, y1, y2, y3, y4, h5, fun W x' hx' hW => ih d W list[i] y0 y1 y2 y3 y4 x' hx' (hRi.below hW)⟩)
  have HN := Lib.hid hnn
  clear hr hkb hvb hL hK hc2 hc hn2 hn hkx hnum hstr hll hkl ih hnn hnk hval hkeys hSl hkk
  have hxb : x ≤ 1000000 := by omega
  have hxb2 : 1 ≤ x := by omega
  have hxm : x - 1 = (m : Int) := by omega
  have HXM := Lib.hid hxm
  clear hxm hx
  go_enter Tryz.func26, Tryz.ntmps26
  go_wp2_with (go_at_call 56; refine (HZ.out _).mono ?_; rintro e' _ ⟨rfl, rfl⟩)
  refine (HVal.out _).mono ?_
  rintro e' _ ⟨rfl, rfl⟩
  go_wp2_with fail
  refine (HKey.out _ hb1).mono ?_
  rintro e' w2 ⟨rfl, hb2⟩
  have hb3 := hb1.trans (hb2.mono hb1.size)
  have hc3 := fun o u hcu => (hb2.cell (p := ⟨w.heap.size, o, none⟩) (World.block_lt_of_cell? (w.alloc (.cells #[.int .i64 5, .float .f64 0, .string ⟨([] : Txt).toArray⟩, .slice A n c, .slice A2 0 c2] 27)) ⟨w.heap.size, o, none⟩ (u := u) hcu)).trans hcu
  have hc3 := hc3 3 (.slice A n c) (by rw [World.cell?_alloc_new]; rfl)
  have HC3 := Lib.hid hc3
  clear hb1 hb2 hc3
  go_wp2_with fail
  go_loopw [5] (fun i wr => ∃ (k : Nat), k ≤ n ∧ i = .int .i64 k ∧ Below w2.heap.size w2 wr ∧ Hid (r = (list.drop k).all (rightT m))) (fun i _ => n - (intOf i).toNat)
  case atStart => exact ⟨0, Nat.zero_le _, rfl, Below.refl _ _, HR⟩
  case round =>
    clear HR
    obtain ⟨k, hk, rfl, hbr, HV⟩ := hrel
    have hcr := (hbr.cell (p := ⟨w.heap.size, 3, none⟩) (World.block_lt_of_cell? w2 _ HC3.out)).trans HC3.out
    have hbw := hb3.trans (hbr.mono hb3.size)
    rcases Nat.lt_or_ge k n with hlt | hge
    · have hkl : k < list.length := by have := HN.out; omega
      obtain ⟨ad, hA, y0, y1, y2, y3, y4, h5, hCall⟩ := HE.out k hkl
      obtain ⟨g0, g1, g2, g3, g4⟩ := h5.below hbw
      have hv := HV.out
      rw [drop_cons list k hkl, List.all_cons] at hv
      have HCall := Lib.hid hCall
      clear hCall h5 HV
      subst hA
      cases hb : rightT m list[k] with
      | false =>
        rw [hb, Bool.false_and] at hv
        rw [hb] at HCall
        have HV := Lib.hid hv
        clear hb hv
        go_wp2_with fail
        refine (HCall.out _ _ HXM.out hbw).mono ?_
        rintro e' w3 ⟨rfl, hb4⟩
        have hb5 := hbw.trans (hb4.mono hbw.size)
        go_wp2_with fail
        go_ret
        exact ⟨by rw [HV.out]; rfl, hb5⟩
      | true =>
        rw [hb, Bool.true_and] at hv
        rw [hb] at HCall
        have HV := Lib.hid hv
        clear hb hv
        go_wp2_with fail
        refine (HCall.out _ _ HXM.out hbw).mono ?_
        rintro e' w3 ⟨rfl, hb4⟩
        have hb5 := hbr.trans (hb4.mono hbr.size)
        go_wp2_with fail
        go_roundw
        case rel => exact ⟨k + 1, by omega, by go_num, hb5, HV⟩
        case measure => simp [intOf]; omega
    · have HV2 : Hid (r = true) := Lib.hid (by
        have hds : list.drop k = [] := List.drop_eq_nil_of_le (by have := HN.out; omega)
        rw [HV.out, hds]; rfl)
      go_wp2_with fail
      go_ret
      exact ⟨by rw [HV2.out]; rfl, hbw⟩
set_option maxHeartbeats 4000000 in
set_option maxRecDepth 100000 in
theorem right_6 (m d : Nat) (hm : m < 1000000) (ih : Rights m) (w : World) (num : Nat) (str : List UInt8) (keys : List (List UInt8)) (list : List Tr) (x0 x1 x2 x3 x4 : Value) (x : Int) (hx : x = ((m + 1 : Nat) : Int)) (hR : Rep (d + 1) w (.mk 6 num str keys list) x0 x1 x2 x3 x4) :
    Calls Tryz.prog 26 #[.agg #[x0, x1, x2, x3, x4], .int .i64 x] w fun e w' => e = .returned (.bool (rightT (m + 1) (.mk 6 num str keys list))) ∧ Below w.heap.size w w' := by
  obtain ⟨rfl, rfl, rfl, hnum, hstr, hll, hkl, A, c, A2, c2, rfl, rfl, hL, hK, hc2, hc, hn2, hn⟩ := hR
  obtain ⟨hSl, hkx⟩ := rep_strSl hK hc2 hn2
  obtain ⟨r, hr⟩ : ∃ r, r = rightT (m + 1) (.mk 6 num str keys list) := ⟨_, rfl⟩
  rw [← hr]
  rw [rightT, if_neg (by decide)] at hr
  have hx1 : decide (x < 1) = false := decide_eq_false (by omega)
  obtain ⟨n, hnn⟩ : ∃ n, n = list.length := ⟨_, rfl⟩
  obtain ⟨nk, hnk⟩ : ∃ nk, nk = keys.length := ⟨_, rfl⟩
  rw [← hnn, ← hnk]
  rw [← hnn] at hc hll
  rw [← hnk] at hc2 hkl hSl
  by_cases hz : num = 0
  case neg =>
    rw [if_pos ⟨by decide, hz⟩] at hr
    have HR := Lib.hid hr
    have HZ : Hid (∀ W, Calls Tryz.prog 56 #[.float .f64 num] W fun e w' => e = .returned (.bool false) ∧ W = w') := Lib.hid (fun W => by have := zeroB_any num W; rwa [decide_eq_false hz] at this)
    clear hr hL hK hc2 hc hn2 hn hSl hkx hnum hstr hll hkl ih hnn hnk hx hz
    go_enter Tryz.func26, Tryz.ntmps26
    go_wp2_with (go_at_call 56; refine (HZ.out _).mono ?_; rintro e' _ ⟨rfl, rfl⟩)
    go_ret
    exact ⟨by rw [HR.out]; rfl, (Below.refl _ _).alloc (Nat.le_refl _) _⟩
  rw [if_neg (fun h => h.2 hz)] at hr
  subst hz
  have HZ : Hid (∀ W, Calls Tryz.prog 56 #[.float .f64 0] W fun e w' => e = .returned (.bool true) ∧ W = w') := Lib.hid (fun W => zeroB_any 0 W)
  by_cases hs : str = []
  case neg =>
    rw [if_pos ⟨by decide, hs⟩] at hr
    have HR := Lib.hid hr
    have hs1 : (⟨str.toArray⟩ : ByteArray).toList.isEmpty = false := by rw [toList_txt]; cases str <;> simp_all
    obtain ⟨S, hS⟩ : ∃ S : ByteArray, S = ⟨str.toArray⟩ := ⟨_, rfl⟩
    rw [← hS] at hs1 ⊢
    clear hr hL hK hc2 hc hn2 hn hSl hkx hnum hstr hll hkl ih hnn hnk hx hs hS
    go_enter Tryz.func26, Tryz.ntmps26
    go_wp2_with (go_at_call 56; refine (HZ.out _).mono ?_; rintro e' _ ⟨rfl, rfl⟩)
    go_ret
    exact ⟨by rw [HR.out]; rfl, (Below.refl _ _).alloc (Nat.le_refl _) _⟩
  rw [if_neg (fun h => h.2 hs)] at hr
  subst hs
  rw [if_neg (fun h => absurd h.1 (by decide))] at hr
  by_cases hkk : keys.length = list.length
  case neg =>
    rw [if_pos ⟨rfl, hkk⟩] at hr
    have HR := Lib.hid hr
    have hk1 : ((nk : Int) == (n : Int)) = false := by rw [beq_eq_false_iff_ne]; omega
    have hk2 : (nk == n) = false := by rw [beq_eq_false_iff_ne]; omega
    have hk3 : decide (nk = n) = false := decide_eq_false (by omega)
    have hk4 : ((nk : Int) != (n : Int)) = true := by rw [bne_iff_ne]; omega
    have hk5 : (nk != n) = true := by rw [bne_iff_ne]; omega
    clear hr hL hK hc2 hc hn2 hn hSl hkx hnum hstr hll hkl ih hnn hnk hx hkk
    go_enter Tryz.func26, Tryz.ntmps26
    go_wp2_with (go_at_call 56; refine (HZ.out _).mono ?_; rintro e' _ ⟨rfl, rfl⟩)
    go_ret
    exact ⟨by rw [HR.out]; rfl, (Below.refl _ _).alloc (Nat.le_refl _) _⟩
  rw [if_neg (fun h => h.2 hkk), if_neg (fun h => h.1 rfl)] at hr
  obtain rfl : nk = n := by rw [hnn, hnk]; exact hkk
  have hval := fun W => valid_any ⟨([] : Txt).toArray⟩ W (by decide)
  have hkeys := fun W hS => keys_any keys (.slice A2 nk c2) W (by omega) hkx hS
  have hbn : nk ≤ 1048576 := by omega
  have hb1 : Below w.heap.size w (w.alloc (.cells #[.int .i64 6, .float .f64 0, .string ⟨([] : Txt).toArray⟩, .slice A nk c, .slice A2 nk c2] 27)) := (Below.refl _ _).alloc (Nat.le_refl _) _
  have hvb : validB ⟨([] : Txt).toArray⟩ = true := rfl
  rw [if_neg (by rw [hvb]; decide)] at hr
  rw [hvb] at hval
  have HVal := Lib.hid hval
  cases hkb : keysT keys with
  | false =>
    rw [if_pos hkb] at hr
    rw [hkb] at hkeys
    have HR := Lib.hid hr
    have HKey : Hid (∀ W, Below w.heap.size w W → Calls Tryz.prog 57 #[.slice A2 nk c2] W fun e w' => e = .returned (.bool false) ∧ Below W.heap.size W w') := Lib.hid (fun W hW => hkeys W (hSl.below hW))
    clear hr hkb hx hvb hL hK hc2 hc hn2 hn hkx hnum hstr hll hkl ih hnn hnk hval hkeys hSl hkk
    go_enter Tryz.func26, Tryz.ntmps26
    go_wp2_with (go_at_call 56; refine (HZ.out _).mono ?_; rintro e' _ ⟨rfl, rfl⟩)
    refine (HVal.out _).mono ?_
    rintro e' _ ⟨rfl, rfl⟩
    go_wp2_with fail
    refine (HKey.out _ hb1).mono ?_
    rintro e' w2 ⟨rfl, hb2⟩
    have hb3 := hb1.trans (hb2.mono hb1.size)
    go_wp2_with fail
    go_ret
    exact ⟨by rw [HR.out]; rfl, hb3⟩
  | true =>
  rw [if_neg (by rw [hkb]; decide)] at hr
  rw [hkb] at hkeys
  have HKey : Hid (∀ W, Below w.heap.size w W → Calls Tryz.prog 57 #[.slice A2 nk c2] W fun e w' => e = .returned (.bool true) ∧ Below W.heap.size W w') := Lib.hid (fun W hW => hkeys W (hSl.below hW))
  have HR : Hid (r = (list.drop 0).all (rightT m)) := Lib.hid hr
  have HE : Hid (∀ (i : Nat) (h : i < list.length), ∃ ad, A = some ad ∧ ∃ y0 y1 y2 y3 y4, Cells5 w (ad.add (i * 5)) y0 y1 y2 y3 y4 ∧ ∀ W x', x' = (m : Int) → Below w.heap.size w W → Calls Tryz.prog 26 #[.agg #[y0, y1, y2, y3, y4], .int .i64 x'] W fun e w' => e = .returned (.bool (rightT m list[i])) ∧ Below W.heap.size W w') := Lib.hid (fun i h => by
    obtain ⟨ad, e, y0, y1, y2, y3, y4, h5, hRi⟩ := hL i h
    exact ⟨ad, e, y0, y1, y2, y3, y4, h5, fun W x' hx' hW => ih d W list[i] y0 y1 y2 y3 y4 x' hx' (hRi.below hW)⟩)
  have HN := Lib.hid hnn
  clear hr hkb hvb hL hK hc2 hc hn2 hn hkx hnum hstr hll hkl ih hnn hnk hval hkeys hSl hkk
  have hxb : x ≤ 1000000 := by omega
  have hxb2 : 1 ≤ x := by omega
  have hxm : x - 1 = (m : Int) := by omega
  have HXM := Lib.hid hxm
  clear hxm hx
  go_enter Tryz.func26, Tryz.ntmps26
  go_wp2_with (go_at_call 56; refine (HZ.out _).mono ?_; rintro e' _ ⟨rfl, rfl⟩)
  refine (HVal.out _).mono ?_
  rintro e' _ ⟨rfl, rfl⟩
  go_wp2_with fail
  refine (HKey.out _ hb1).mono ?_
  rintro e' w2 ⟨rfl, hb2⟩
  have hb3 := hb1.trans (hb2.mono hb1.size)
  have hc3 := fun o u hcu => (hb2.cell (p := ⟨w.heap.size, o, none⟩) (World.block_lt_of_cell? (w.alloc (.cells #[.int .i64 6, .float .f64 0, .string ⟨([] : Txt).toArray⟩, .slice A nk c, .slice A2 nk c2] 27)) ⟨w.heap.size, o, none⟩ (u := u) hcu)).trans hcu
  have hc3 := hc3 3 (.slice A nk c) (by rw [World.cell?_alloc_new]; rfl)
  have HC3 := Lib.hid hc3
  clear hb1 hb2 hc3
  go_wp2_with fail
  go_loopw [5] (fun i wr => ∃ (k : Nat), k ≤ nk ∧ i = .int .i64 k ∧ Below w2.heap.size w2 wr ∧ Hid (r = (list.drop k).all (rightT m))) (fun i _ => nk - (intOf i).toNat)
  case atStart => exact ⟨0, Nat.zero_le _, rfl, Below.refl _ _, HR⟩
  case round =>
    clear HR
    obtain ⟨k, hk, rfl, hbr, HV⟩ := hrel
    have hcr := (hbr.cell (p := ⟨w.heap.size, 3, none⟩) (World.block_lt_of_cell? w2 _ HC3.out)).trans HC3.out
    have hbw := hb3.trans (hbr.mono hb3.size)
    rcases Nat.lt_or_ge k nk with hlt | hge
    · have hkl : k < list.length := by have := HN.out; omega
      obtain ⟨ad, hA, y0, y1, y2, y3, y4, h5, hCall⟩ := HE.out k hkl
      obtain ⟨g0, g1, g2, g3, g4⟩ := h5.below hbw
      have hv := HV.out
      rw [drop_cons list k hkl, List.all_cons] at hv
      have HCall := Lib.hid hCall
      clear hCall h5 HV
      subst hA
      cases hb : rightT m list[k] with
      | false =>
        rw [hb, Bool.false_and] at hv
        rw [hb] at HCall
        have HV := Lib.hid hv
        clear hb hv
        go_wp2_with fail
        refine (HCall.out _ _ HXM.out hbw).mono ?_
        rintro e' w3 ⟨rfl, hb4⟩
        have hb5 := hbw.trans (hb4.mono hbw.size)
        go_wp2_with fail
        go_ret
        exact ⟨by rw [HV.out]; rfl, hb5⟩
      | true =>
        rw [hb, Bool.true_and] at hv
        rw [hb] at HCall
        have HV := Lib.hid hv
        clear hb hv
        go_wp2_with fail
        refine (HCall.out _ _ HXM.out hbw).mono ?_
        rintro e' w3 ⟨rfl, hb4⟩
        have hb5 := hbr.trans (hb4.mono hbr.size)
        go_wp2_with fail
        go_roundw
        case rel => exact ⟨k + 1, by omega, by go_num, hb5, HV⟩
        case measure => simp [intOf]; omega
    · have HV2 : Hid (r = true) := Lib.hid (by
        have hds : list.drop k = [] := List.drop_eq_nil_of_le (by have := HN.out; omega)
        rw [HV.out, hds]; rfl)
      go_wp2_with fail
      go_ret
      exact ⟨by rw [HV2.out]; rfl, hbw⟩
theorem right_tree : ∀ (m : Nat), m ≤ 1000000 → Rights m
  | 0, _ => right_zero
  | m + 1, hm => by
    have ih := right_tree m (by omega)
    intro d w t y0 y1 y2 y3 y4 x hx hR
    cases d with
    | zero => exact hR.elim
    | succ d =>
      cases t with
      | mk k num str keys list =>
        by_cases hk : k < 0 ∨ 6 < k
        · exact right_out m d w k num str keys list _ _ _ _ _ x hx hk hR
        · have h7 : k = 0 ∨ k = 1 ∨ k = 2 ∨ k = 3 ∨ k = 4 ∨ k = 5 ∨ k = 6 := by omega
          rcases h7 with rfl | rfl | rfl | rfl | rfl | rfl | rfl
          · exact right_0 m d (by omega) ih w num str keys list _ _ _ _ _ x hx hR
          · exact right_1 m d (by omega) ih w num str keys list _ _ _ _ _ x hx hR
          · exact right_2 m d (by omega) ih w num str keys list _ _ _ _ _ x hx hR
          · exact right_3 m d (by omega) ih w num str keys list _ _ _ _ _ x hx hR
          · exact right_4 m d (by omega) ih w num str keys list _ _ _ _ _ x hx hR
          · exact right_5 m d (by omega) ih w num str keys list _ _ _ _ _ x hx hR
          · exact right_6 m d (by omega) ih w num str keys list _ _ _ _ _ x hx hR
set_option maxRecDepth 100000 in
theorem right_any2 (d : Nat) (w : World) (t : Tr) (y0 y1 y2 y3 y4 : Value) (hR : Rep d w t y0 y1 y2 y3 y4) :
    Calls Tryz.prog 8 #[.agg #[y0, y1, y2, y3, y4]] w fun e w' => e = .returned (.bool (rightT 10000 t)) ∧ Below w.heap.size w w' := by
  obtain ⟨kk, nn, ss, A3, n3, e3, A4, n4, e4, rfl, rfl, rfl, rfl, rfl⟩ := rep_shape hR
  have hC := right_tree 10000 (by omega) d (w.alloc (.cells #[.int .i64 kk, .float .f64 nn, .string ss, .slice A3 n3 e3, .slice A4 n4 e4] 27)) t _ _ _ _ _ 10000 rfl (hR.below ((Below.refl _ _).alloc (Nat.le_refl _) _))
  obtain ⟨b, hb⟩ : ∃ b, b = rightT 10000 t := ⟨_, rfl⟩
  rw [← hb] at hC ⊢
  have HC := Lib.hid hC
  clear hb hC hR
  go_enter Tryz.func8, Tryz.ntmps8
  go_wp2_with fail
  refine HC.out.mono ?_
  rintro e' w2 ⟨rfl, hb2⟩
  have hb3 := ((Below.refl w.heap.size w).alloc (Nat.le_refl _) (.cells #[.int .i64 kk, .float .f64 nn, .string ss, .slice A3 n3 e3, .slice A4 n4 e4] 27)).trans (hb2.mono (by simp))
  go_wp2_with fail
  go_ret
  exact ⟨rfl, hb3⟩
end Go.Proofs.YtpfamfkdfbcooaaGreatDoor
