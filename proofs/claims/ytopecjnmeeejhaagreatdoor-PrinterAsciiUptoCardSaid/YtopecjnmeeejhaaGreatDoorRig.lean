/- The document's answer: zero, right, Right. -/
import Derived.Test.YtopecjnmeeejhaaGreatDoorKey
set_option linter.unusedVariables false
set_option linter.unusedSimpArgs false
namespace Go.Proofs.YtopecjnmeeejhaaGreatDoor
open Go Go.RowKit Go.Proofs
theorem zeroB_any (b : Nat) (w : World) : Calls Tryz.prog 107 #[.float .f64 b] w fun e w' => e = .returned (.bool (decide (b = 0))) ∧ w = w' := by
  have h1 := bits64 b
  by_cases h : b = 0
  · subst h
    go_enter Tryz.func107, Tryz.ntmps107
    go_wp2_with fail
    go_ret
    exact ⟨rfl, rfl⟩
  · have h2 : ((b : Int) == 0) = false := by rw [beq_eq_false_iff_ne]; omega
    rw [decide_eq_false h]
    clear h
    go_enter Tryz.func107, Tryz.ntmps107
    go_wp2_with fail
    go_ret
    exact ⟨rfl, rfl⟩
/-- P3.1: may the value be? m: so many levels at most. -/
def rightT : Nat → Tr → Bool
  | 0, _ => false
  | m + 1, .mk k num str keys list =>
    if k < 0 ∨ 6 < k then false
    else if k ≠ 3 ∧ num ≠ 0 then false
    else if k ≠ 4 ∧ str ≠ [] then false
    else if k < 5 ∧ list ≠ [] then false
    else if k = 6 ∧ keys.length ≠ list.length then false
    else if k ≠ 6 ∧ keys ≠ [] then false
    else if validB ⟨str.toArray⟩ = false then false
    else if keysT keys = false then false
    else list.all (rightT m)
/-- What right is claimed to do of a tree. -/
def Rights (m : Nat) : Prop := ∀ (d : Nat) (w : World) (t : Tr) (y0 y1 y2 y3 y4 : Value) (x : Int), x = (m : Int) → Rep d w t y0 y1 y2 y3 y4 →
  Calls Tryz.prog 51 #[.agg #[y0, y1, y2, y3, y4], .int .i64 x] w fun e w' => e = .returned (.bool (rightT m t)) ∧ Below w.heap.size w w'
theorem toList_txt (l : Txt) : (⟨l.toArray⟩ : ByteArray).toList = l := by rw [Lib.toList_data]
theorem rep_strSl {w : World} {keys : List Txt} {A2 : Option Addr} {c2 : Nat} (hK : ∀ i (h : i < keys.length), keys[i].length ≤ 1048576 ∧ ∃ ad, A2 = some ad ∧ w.cell? (ad.add i) = some (.string ⟨keys[i].toArray⟩)) (h1 : keys.length ≤ c2) (h2 : A2 = none → c2 = 0) :
    StrSl w (.slice A2 keys.length c2) keys ∧ ∀ x ∈ keys, x.length ≤ 1048576 := by
  refine ⟨⟨A2, c2, rfl, h1, fun e => ?_, fun ad e j u hu => ?_⟩, fun x hx => ?_⟩
  · have := h2 e
    have h0 : keys.length = 0 := by omega
    exact ⟨h0, this, by rw [List.eq_nil_of_length_eq_zero h0]; rfl⟩
  · have hj : j < keys.length := by
      rcases Nat.lt_or_ge j keys.length with h' | h'
      · exact h'
      · rw [List.getElem?_eq_none (by simp [strCs]; exact h')] at hu; cases hu
    obtain ⟨_, ad', e', hc⟩ := hK j hj
    rw [e] at e'; injection e' with e'; subst e'
    rw [hc, ← hu]
    simp [strCs, hj]
  · obtain ⟨i, hi, rfl⟩ := List.getElem_of_mem hx
    exact (hK i hi).1
theorem Rep.below : ∀ {d : Nat} {w w' : World} {t : Tr} {x0 x1 x2 x3 x4 : Value}, Rep d w t x0 x1 x2 x3 x4 → Below w.heap.size w w' → Rep d w' t x0 x1 x2 x3 x4
  | 0, _, _, _, _, _, _, _, _, h, _ => h.elim
  | d + 1, w, w', .mk k num str keys list, x0, x1, x2, x3, x4, h, hb => by
    obtain ⟨h1, h2, h3, h4, h5, h6, h7, A, c, A2, c2, e3, e4, hL, hK, hr⟩ := h
    refine ⟨h1, h2, h3, h4, h5, h6, h7, A, c, A2, c2, e3, e4, fun i hi => ?_, fun i hi => ?_, hr⟩
    · obtain ⟨ad, e, y0, y1, y2, y3, y4, h5, hRi⟩ := hL i hi
      exact ⟨ad, e, y0, y1, y2, y3, y4, h5.below hb, hRi.below hb⟩
    · obtain ⟨hl, ad, e, hc⟩ := hK i hi
      exact ⟨hl, ad, e, (World.cell?_of_block (w := w) (a := ad.add i) (hb.block _ (World.block_lt_of_cell? w _ hc))).trans hc⟩
set_option maxRecDepth 100000 in
theorem right_out (m d : Nat) (w : World) (k : Int) (num : Nat) (str : List UInt8) (keys : List (List UInt8)) (list : List Tr) (x0 x1 x2 x3 x4 : Value) (x : Int) (hx : x = ((m + 1 : Nat) : Int)) (hk : k < 0 ∨ 6 < k) (hR : Rep (d + 1) w (.mk k num str keys list) x0 x1 x2 x3 x4) :
    Calls Tryz.prog 51 #[.agg #[x0, x1, x2, x3, x4], .int .i64 x] w fun e w' => e = .returned (.bool (rightT (m + 1) (.mk k num str keys list))) ∧ Below w.heap.size w w' := by
  have h0 : rightT (m + 1) (.mk k num str keys list) = false := by rw [rightT, if_pos hk]
  rw [h0]
  obtain ⟨rfl, rfl, rfl, hnum, hstr, hll, hkl, A, c, A2, c2, rfl, rfl, hL, hK, hc2, hc, hn2, hn⟩ := hR
  have hx1 : decide (x < 1) = false := decide_eq_false (by omega)
  obtain ⟨n, hnn⟩ : ∃ n, n = list.length := ⟨_, rfl⟩
  obtain ⟨nk, hnk⟩ : ∃ nk, nk = keys.length := ⟨_, rfl⟩
  rw [← hnn, ← hnk]
  clear hL hK hnn hnk h0 hx
  rcases hk with hk | hk
  · have t1 : decide (k < 0) = true := decide_eq_true hk
    go_enter Tryz.func51, Tryz.ntmps51
    go_wp2_with fail
    go_ret
    exact ⟨rfl, (Below.refl _ _).alloc (Nat.le_refl _) _⟩
  · have t1 : decide (k < 0) = false := decide_eq_false (by omega)
    have t2 : decide (6 < k) = true := decide_eq_true hk
    go_enter Tryz.func51, Tryz.ntmps51
    go_wp2_with fail
    go_ret
    exact ⟨rfl, (Below.refl _ _).alloc (Nat.le_refl _) _⟩
set_option maxRecDepth 100000 in
theorem right_zero : Rights 0 := by
  intro d w t y0 y1 y2 y3 y4 x hx hR
  have h0 : rightT 0 t = false := by cases t; rfl
  rw [h0]
  obtain ⟨kk, nn, ss, A3, n3, e3, A4, n4, e4, rfl, rfl, rfl, rfl, rfl⟩ := rep_shape hR
  subst hx
  clear hR h0
  go_enter Tryz.func51, Tryz.ntmps51
  go_wp2_with fail
  go_ret
  exact ⟨rfl, (Below.refl _ _).alloc (Nat.le_refl _) _⟩

set_option maxHeartbeats 4000000 in
set_option maxRecDepth 100000 in
theorem right_0 (m d : Nat) (hm : m < 1000000) (ih : Rights m) (w : World) (num : Nat) (str : List UInt8) (keys : List (List UInt8)) (list : List Tr) (x0 x1 x2 x3 x4 : Value) (x : Int) (hx : x = ((m + 1 : Nat) : Int)) (hR : Rep (d + 1) w (.mk 0 num str keys list) x0 x1 x2 x3 x4) :
    Calls Tryz.prog 51 #[.agg #[x0, x1, x2, x3, x4], .int .i64 x] w fun e w' => e = .returned (.bool (rightT (m + 1) (.mk 0 num str keys list))) ∧ Below w.heap.size w w' := by
  obtain ⟨rfl, rfl, rfl, hnum, hstr, hll, hkl, A, c, A2, c2, rfl, rfl, hL, hK, hc2, hc, hn2, hn⟩ := hR
  obtain ⟨hSl, hkx⟩ := rep_strSl hK hc2 hn2
  obtain ⟨r, hr⟩ : ∃ r, r = rightT (m + 1) (.mk 0 num str keys list) := ⟨_, rfl⟩
  rw [← hr]
  rw [rightT, if_neg (by decide)] at hr
  have hx1 : decide (x < 1) = false := decide_eq_false (by omega)
  obtain ⟨n, hnn⟩ : ∃ n, n = list.length := ⟨_, rfl⟩
  obtain ⟨nk, hnk⟩ : ∃ nk, nk = keys.length := ⟨_, rfl⟩
  rw [← hnn, ← hnk]
  rw [← hnn] at hc hll
  rw [← hnk] at hc2 hkl hSl
  by_cases hz : num = 0
  case neg =>
    rw [if_pos ⟨by decide, hz⟩] at hr
    have HR := Lib.hid hr
    have HZ : Hid (∀ W, Calls Tryz.prog 107 #[.float .f64 num] W fun e w' => e = .returned (.bool false) ∧ W = w') := Lib.hid (fun W => by have := zeroB_any num W; rwa [decide_eq_false hz] at this)
    clear hr hL hK hc2 hc hn2 hn hSl hkx hnum hstr hll hkl ih hnn hnk hx hz
    go_enter Tryz.func51, Tryz.ntmps51
    go_wp2_with (go_at_call 107; refine (HZ.out _).mono ?_; rintro e' _ ⟨rfl, rfl⟩)
    go_ret
    exact ⟨by rw [HR.out]; rfl, (Below.refl _ _).alloc (Nat.le_refl _) _⟩
  rw [if_neg (fun h => h.2 hz)] at hr
  subst hz
  have HZ : Hid (∀ W, Calls Tryz.prog 107 #[.float .f64 0] W fun e w' => e = .returned (.bool true) ∧ W = w') := Lib.hid (fun W => zeroB_any 0 W)
  by_cases hs : str = []
  case neg =>
    rw [if_pos ⟨by decide, hs⟩] at hr
    have HR := Lib.hid hr
    have hs1 : (⟨str.toArray⟩ : ByteArray).toList.isEmpty = false := by rw [toList_txt]; cases str <;> simp_all
    obtain ⟨S, hS⟩ : ∃ S : ByteArray, S = ⟨str.toArray⟩ := ⟨_, rfl⟩
    rw [← hS] at hs1 ⊢
    clear hr hL hK hc2 hc hn2 hn hSl hkx hnum hstr hll hkl ih hnn hnk hx hs hS
    go_enter Tryz.func51, Tryz.ntmps51
    go_wp2_with (go_at_call 107; refine (HZ.out _).mono ?_; rintro e' _ ⟨rfl, rfl⟩)
    go_ret
    exact ⟨by rw [HR.out]; rfl, (Below.refl _ _).alloc (Nat.le_refl _) _⟩
  rw [if_neg (fun h => h.2 hs)] at hr
  subst hs
  by_cases hl : list = []
  case neg =>
    rw [if_pos ⟨by decide, hl⟩] at hr
    have HR := Lib.hid hr
    have hl1 : 0 < n := by rw [hnn]; exact List.length_pos_iff.2 hl
    clear hr hL hK hc2 hc hn2 hn hSl hkx hnum hstr hll hkl ih hnn hnk hx hl
    go_enter Tryz.func51, Tryz.ntmps51
    go_wp2_with (go_at_call 107; refine (HZ.out _).mono ?_; rintro e' _ ⟨rfl, rfl⟩)
    go_ret
    exact ⟨by rw [HR.out]; rfl, (Below.refl _ _).alloc (Nat.le_refl _) _⟩
  rw [if_neg (fun h => h.2 hl)] at hr
  obtain rfl : n = 0 := by rw [hnn, hl]; rfl
  rw [if_neg (fun h => absurd h.1 (by decide))] at hr
  by_cases hkk : keys = []
  case neg =>
    rw [if_pos ⟨by decide, hkk⟩] at hr
    have HR := Lib.hid hr
    have hk1 : 0 < nk := by rw [hnk]; exact List.length_pos_iff.2 hkk
    clear hr hL hK hc2 hc hn2 hn hSl hkx hnum hstr hll hkl ih hnn hnk hx hkk
    go_enter Tryz.func51, Tryz.ntmps51
    go_wp2_with (go_at_call 107; refine (HZ.out _).mono ?_; rintro e' _ ⟨rfl, rfl⟩)
    go_ret
    exact ⟨by rw [HR.out]; rfl, (Below.refl _ _).alloc (Nat.le_refl _) _⟩
  rw [if_neg (fun h => h.2 hkk)] at hr
  obtain rfl : nk = 0 := by rw [hnk, hkk]; rfl
  have hval := fun W => valid_any ⟨([] : Txt).toArray⟩ W (by decide)
  have hkeys := fun W hS => keys_any keys (.slice A2 0 c2) W (by omega) hkx hS
  have hbn : 0 ≤ 1048576 := by omega
  have hb1 : Below w.heap.size w (w.alloc (.cells #[.int .i64 0, .float .f64 0, .string ⟨([] : Txt).toArray⟩, .slice A 0 c, .slice A2 0 c2] 27)) := (Below.refl _ _).alloc (Nat.le_refl _) _
  have hvb : validB ⟨([] : Txt).toArray⟩ = true := rfl
  rw [if_neg (by rw [hvb]; decide)] at hr
  rw [hvb] at hval
  have HVal := Lib.hid hval
  have hkb : keysT keys = true := by rw [hkk]; rfl
  rw [if_neg (by rw [hkb]; decide)] at hr
  rw [hkb] at hkeys
  have HKey : Hid (∀ W, Below w.heap.size w W → Calls Tryz.prog 108 #[.slice A2 0 c2] W fun e w' => e = .returned (.bool true) ∧ Below W.heap.size W w') := Lib.hid (fun W hW => hkeys W (hSl.below hW))
  have HR : Hid (r = true) := Lib.hid (by rw [hr, hl]; rfl)
  clear hr hkb hx hvb hL hK hc2 hc hn2 hn hkx hnum hstr hll hkl ih hnn hnk hval hkeys hSl hkk hl
  go_enter Tryz.func51, Tryz.ntmps51
  go_wp2_with (go_at_call 107; refine (HZ.out _).mono ?_; rintro e' _ ⟨rfl, rfl⟩)
  refine (HVal.out _).mono ?_
  rintro e' _ ⟨rfl, rfl⟩
  go_wp2_with fail
  refine (HKey.out _ hb1).mono ?_
  rintro e' w2 ⟨rfl, hb2⟩
  have hb3 := hb1.trans (hb2.mono hb1.size)
  have hc3 := fun o u hcu => (hb2.cell (p := ⟨w.heap.size, o, none⟩) (World.block_lt_of_cell? (w.alloc (.cells #[.int .i64 0, .float .f64 0, .string ⟨([] : Txt).toArray⟩, .slice A 0 c, .slice A2 0 c2] 27)) ⟨w.heap.size, o, none⟩ (u := u) hcu)).trans hcu
  have hc3 := hc3 3 (.slice A 0 c) (by rw [World.cell?_alloc_new]; rfl)
  go_wp2_with fail
  refine wp_loop_rounds 1 ?_
  rw [rounds_succ]
  go_wp2_with fail
  go_ret
  exact ⟨by rw [HR.out]; rfl, hb3⟩
set_option maxHeartbeats 4000000 in
set_option maxRecDepth 100000 in
theorem right_1 (m d : Nat) (hm : m < 1000000) (ih : Rights m) (w : World) (num : Nat) (str : List UInt8) (keys : List (List UInt8)) (list : List Tr) (x0 x1 x2 x3 x4 : Value) (x : Int) (hx : x = ((m + 1 : Nat) : Int)) (hR : Rep (d + 1) w (.mk 1 num str keys list) x0 x1 x2 x3 x4) :
    Calls Tryz.prog 51 #[.agg #[x0, x1, x2, x3, x4], .int .i64 x] w fun e w' => e = .returned (.bool (rightT (m + 1) (.mk 1 num str keys list))) ∧ Below w.heap.size w w' := by
  obtain ⟨rfl, rfl, rfl, hnum, hstr, hll, hkl, A, c, A2, c2, rfl, rfl, hL, hK, hc2, hc, hn2, hn⟩ := hR
  obtain ⟨hSl, hkx⟩ := rep_strSl hK hc2 hn2
  obtain ⟨r, hr⟩ : ∃ r, r = rightT (m + 1) (.mk 1 num str keys list) := ⟨_, rfl⟩
  rw [← hr]
  rw [rightT, if_neg (by decide)] at hr
  have hx1 : decide (x < 1) = false := decide_eq_false (by omega)
  obtain ⟨n, hnn⟩ : ∃ n, n = list.length := ⟨_, rfl⟩
  obtain ⟨nk, hnk⟩ : ∃ nk, nk = keys.length := ⟨_, rfl⟩
  rw [← hnn, ← hnk]
  rw [← hnn] at hc hll
  rw [← hnk] at hc2 hkl hSl
  by_cases hz : num = 0
  case neg =>
    rw [if_pos ⟨by decide, hz⟩] at hr
    have HR := Lib.hid hr
    have HZ : Hid (∀ W, Calls Tryz.prog 107 #[.float .f64 num] W fun e w' => e = .returned (.bool false) ∧ W = w') := Lib.hid (fun W => by have := zeroB_any num W; rwa [decide_eq_false hz] at this)
    clear hr hL hK hc2 hc hn2 hn hSl hkx hnum hstr hll hkl ih hnn hnk hx hz
    go_enter Tryz.func51, Tryz.ntmps51
    go_wp2_with (go_at_call 107; refine (HZ.out _).mono ?_; rintro e' _ ⟨rfl, rfl⟩)
    go_ret
    exact ⟨by rw [HR.out]; rfl, (Below.refl _ _).alloc (Nat.le_refl _) _⟩
  rw [if_neg (fun h => h.2 hz)] at hr
  subst hz
  have HZ : Hid (∀ W, Calls Tryz.prog 107 #[.float .f64 0] W fun e w' => e = .returned (.bool true) ∧ W = w') := Lib.hid (fun W => zeroB_any 0 W)
  by_cases hs : str = []
  case neg =>
    rw [if_pos ⟨by decide, hs⟩] at hr
    have HR := Lib.hid hr
    have hs1 : (⟨str.toArray⟩ : ByteArray).toList.isEmpty = false := by rw [toList_txt]; cases str <;> simp_all
    obtain ⟨S, hS⟩ : ∃ S : ByteArray, S = ⟨str.toArray⟩ := ⟨_, rfl⟩
    rw [← hS] at hs1 ⊢
    clear hr hL hK hc2 hc hn2 hn hSl hkx hnum hstr hll hkl ih hnn hnk hx hs hS
    go_enter Tryz.func51, Tryz.ntmps51
    go_wp2_with (go_at_call 107; refine (HZ.out _).mono ?_; rintro e' _ ⟨rfl, rfl⟩)
    go_ret
    exact ⟨by rw [HR.out]; rfl, (Below.refl _ _).alloc (Nat.le_refl _) _⟩
  rw [if_neg (fun h => h.2 hs)] at hr
  subst hs
  by_cases hl : list = []
  case neg =>
    rw [if_pos ⟨by decide, hl⟩] at hr
    have HR := Lib.hid hr
    have hl1 : 0 < n := by rw [hnn]; exact List.length_pos_iff.2 hl
    clear hr hL hK hc2 hc hn2 hn hSl hkx hnum hstr hll hkl ih hnn hnk hx hl
    go_enter Tryz.func51, Tryz.ntmps51
    go_wp2_with (go_at_call 107; refine (HZ.out _).mono ?_; rintro e' _ ⟨rfl, rfl⟩)
    go_ret
    exact ⟨by rw [HR.out]; rfl, (Below.refl _ _).alloc (Nat.le_refl _) _⟩
  rw [if_neg (fun h => h.2 hl)] at hr
  obtain rfl : n = 0 := by rw [hnn, hl]; rfl
  rw [if_neg (fun h => absurd h.1 (by decide))] at hr
  by_cases hkk : keys = []
  case neg =>
    rw [if_pos ⟨by decide, hkk⟩] at hr
    have HR := Lib.hid hr
    have hk1 : 0 < nk := by rw [hnk]; exact List.length_pos_iff.2 hkk
    clear hr hL hK hc2 hc hn2 hn hSl hkx hnum hstr hll hkl ih hnn hnk hx hkk
    go_enter Tryz.func51, Tryz.ntmps51
    go_wp2_with (go_at_call 107; refine (HZ.out _).mono ?_; rintro e' _ ⟨rfl, rfl⟩)
    go_ret
    exact ⟨by rw [HR.out]; rfl, (Below.refl _ _).alloc (Nat.le_refl _) _⟩
  rw [if_neg (fun h => h.2 hkk)] at hr
  obtain rfl : nk = 0 := by rw [hnk, hkk]; rfl
  have hval := fun W => valid_any ⟨([] : Txt).toArray⟩ W (by decide)
  have hkeys := fun W hS => keys_any keys (.slice A2 0 c2) W (by omega) hkx hS
  have hbn : 0 ≤ 1048576 := by omega
  have hb1 : Below w.heap.size w (w.alloc (.cells #[.int .i64 1, .float .f64 0, .string ⟨([] : Txt).toArray⟩, .slice A 0 c, .slice A2 0 c2] 27)) := (Below.refl _ _).alloc (Nat.le_refl _) _
  have hvb : validB ⟨([] : Txt).toArray⟩ = true := rfl
  rw [if_neg (by rw [hvb]; decide)] at hr
  rw [hvb] at hval
  have HVal := Lib.hid hval
  have hkb : keysT keys = true := by rw [hkk]; rfl
  rw [if_neg (by rw [hkb]; decide)] at hr
  rw [hkb] at hkeys
  have HKey : Hid (∀ W, Below w.heap.size w W → Calls Tryz.prog 108 #[.slice A2 0 c2] W fun e w' => e = .returned (.bool true) ∧ Below W.heap.size W w') := Lib.hid (fun W hW => hkeys W (hSl.below hW))
  have HR : Hid (r = true) := Lib.hid (by rw [hr, hl]; rfl)
  clear hr hkb hx hvb hL hK hc2 hc hn2 hn hkx hnum hstr hll hkl ih hnn hnk hval hkeys hSl hkk hl
  go_enter Tryz.func51, Tryz.ntmps51
  go_wp2_with (go_at_call 107; refine (HZ.out _).mono ?_; rintro e' _ ⟨rfl, rfl⟩)
  refine (HVal.out _).mono ?_
  rintro e' _ ⟨rfl, rfl⟩
  go_wp2_with fail
  refine (HKey.out _ hb1).mono ?_
  rintro e' w2 ⟨rfl, hb2⟩
  have hb3 := hb1.trans (hb2.mono hb1.size)
  have hc3 := fun o u hcu => (hb2.cell (p := ⟨w.heap.size, o, none⟩) (World.block_lt_of_cell? (w.alloc (.cells #[.int .i64 1, .float .f64 0, .string ⟨([] : Txt).toArray⟩, .slice A 0 c, .slice A2 0 c2] 27)) ⟨w.heap.size, o, none⟩ (u := u) hcu)).trans hcu
  have hc3 := hc3 3 (.slice A 0 c) (by rw [World.cell?_alloc_new]; rfl)
  go_wp2_with fail
  refine wp_loop_rounds 1 ?_
  rw [rounds_succ]
  go_wp2_with fail
  go_ret
  exact ⟨by rw [HR.out]; rfl, hb3⟩
set_option maxHeartbeats 4000000 in
set_option maxRecDepth 100000 in
theorem right_2 (m d : Nat) (hm : m < 1000000) (ih : Rights m) (w : World) (num : Nat) (str : List UInt8) (keys : List (List UInt8)) (list : List Tr) (x0 x1 x2 x3 x4 : Value) (x : Int) (hx : x = ((m + 1 : Nat) : Int)) (hR : Rep (d + 1) w (.mk 2 num str keys list) x0 x1 x2 x3 x4) :
    Calls Tryz.prog 51 #[.agg #[x0, x1, x2, x3, x4], .int .i64 x] w fun e w' => e = .returned (.bool (rightT (m + 1) (.mk 2 num str keys list))) ∧ Below w.heap.size w w' := by
  obtain ⟨rfl, rfl, rfl, hnum, hstr, hll, hkl, A, c, A2, c2, rfl, rfl, hL, hK, hc2, hc, hn2, hn⟩ := hR
  obtain ⟨hSl, hkx⟩ := rep_strSl hK hc2 hn2
  obtain ⟨r, hr⟩ : ∃ r, r = rightT (m + 1) (.mk 2 num str keys list) := ⟨_, rfl⟩
  rw [← hr]
  rw [rightT, if_neg (by decide)] at hr
  have hx1 : decide (x < 1) = false := decide_eq_false (by omega)
  obtain ⟨n, hnn⟩ : ∃ n, n = list.length := ⟨_, rfl⟩
  obtain ⟨nk, hnk⟩ : ∃ nk, nk = keys.length := ⟨_, rfl⟩
  rw [← hnn, ← hnk]
  rw [← hnn] at hc hll
  rw [← hnk] at hc2 hkl hSl
  by_cases hz : num = 0
  case neg =>
    rw [if_pos ⟨by decide, hz⟩] at hr
    have HR := Lib.hid hr
    have HZ : Hid (∀ W, Calls Tryz.prog 107 #[.float .f64 num] W fun e w' => e = .returned (.bool false) ∧ W = w') := Lib.hid (fun W => by have := zeroB_any num W; rwa [decide_eq_false hz] at this)
    clear hr hL hK hc2 hc hn2 hn hSl hkx hnum hstr hll hkl ih hnn hnk hx hz
    go_enter Tryz.func51, Tryz.ntmps51
    go_wp2_with (go_at_call 107; refine (HZ.out _).mono ?_; rintro e' _ ⟨rfl, rfl⟩)
    go_ret
    exact ⟨by rw [HR.out]; rfl, (Below.refl _ _).alloc (Nat.le_refl _) _⟩
  rw [if_neg (fun h => h.2 hz)] at hr
  subst hz
  have HZ : Hid (∀ W, Calls Tryz.prog 107 #[.float .f64 0] W fun e w' => e = .returned (.bool true) ∧ W = w') := Lib.hid (fun W => zeroB_any 0 W)
  by_cases hs : str = []
  case neg =>
    rw [if_pos ⟨by decide, hs⟩] at hr
    have HR := Lib.hid hr
    have hs1 : (⟨str.toArray⟩ : ByteArray).toList.isEmpty = false := by rw [toList_txt]; cases str <;> simp_all
    obtain ⟨S, hS⟩ : ∃ S : ByteArray, S = ⟨str.toArray⟩ := ⟨_, rfl⟩
    rw [← hS] at hs1 ⊢
    clear hr hL hK hc2 hc hn2 hn hSl hkx hnum hstr hll hkl ih hnn hnk hx hs hS
    go_enter Tryz.func51, Tryz.ntmps51
    go_wp2_with (go_at_call 107; refine (HZ.out _).mono ?_; rintro e' _ ⟨rfl, rfl⟩)
    go_ret
    exact ⟨by rw [HR.out]; rfl, (Below.refl _ _).alloc (Nat.le_refl _) _⟩
  rw [if_neg (fun h => h.2 hs)] at hr
  subst hs
  by_cases hl : list = []
  case neg =>
    rw [if_pos ⟨by decide, hl⟩] at hr
    have HR := Lib.hid hr
    have hl1 : 0 < n := by rw [hnn]; exact List.length_pos_iff.2 hl
    clear hr hL hK hc2 hc hn2 hn hSl hkx hnum hstr hll hkl ih hnn hnk hx hl
    go_enter Tryz.func51, Tryz.ntmps51
    go_wp2_with (go_at_call 107; refine (HZ.out _).mono ?_; rintro e' _ ⟨rfl, rfl⟩)
    go_ret
    exact ⟨by rw [HR.out]; rfl, (Below.refl _ _).alloc (Nat.le_refl _) _⟩
  rw [if_neg (fun h => h.2 hl)] at hr
  obtain rfl : n = 0 := by rw [hnn, hl]; rfl
  rw [if_neg (fun h => absurd h.1 (by decide))] at hr
  by_cases hkk : keys = []
  case neg =>
    rw [if_pos ⟨by decide, hkk⟩] at hr
    have HR := Lib.hid hr
    have hk1 : 0 < nk := by rw [hnk]; exact List.length_pos_iff.2 hkk
    clear hr hL hK hc2 hc hn2 hn hSl hkx hnum hstr hll hkl ih hnn hnk hx hkk
    go_enter Tryz.func51, Tryz.ntmps51
    go_wp2_with (go_at_call 107; refine (HZ.out _).mono ?_; rintro e' _ ⟨rfl, rfl⟩)
    go_ret
    exact ⟨by rw [HR.out]; rfl, (Below.refl _ _).alloc (Nat.le_refl _) _⟩
  rw [if_neg (fun h => h.2 hkk)] at hr
  obtain rfl : nk = 0 := by rw [hnk, hkk]; rfl
  have hval := fun W => valid_any ⟨([] : Txt).toArray⟩ W (by decide)
  have hkeys := fun W hS => keys_any keys (.slice A2 0 c2) W (by omega) hkx hS
  have hbn : 0 ≤ 1048576 := by omega
  have hb1 : Below w.heap.size w (w.alloc (.cells #[.int .i64 2, .float .f64 0, .string ⟨([] : Txt).toArray⟩, .slice A 0 c, .slice A2 0 c2] 27)) := (Below.refl _ _).alloc (Nat.le_refl _) _
  have hvb : validB ⟨([] : Txt).toArray⟩ = true := rfl
  rw [if_neg (by rw [hvb]; decide)] at hr
  rw [hvb] at hval
  have HVal := Lib.hid hval
  have hkb : keysT keys = true := by rw [hkk]; rfl
  rw [if_neg (by rw [hkb]; decide)] at hr
  rw [hkb] at hkeys
  have HKey : Hid (∀ W, Below w.heap.size w W → Calls Tryz.prog 108 #[.slice A2 0 c2] W fun e w' => e = .returned (.bool true) ∧ Below W.heap.size W w') := Lib.hid (fun W hW => hkeys W (hSl.below hW))
  have HR : Hid (r = true) := Lib.hid (by rw [hr, hl]; rfl)
  clear hr hkb hx hvb hL hK hc2 hc hn2 hn hkx hnum hstr hll hkl ih hnn hnk hval hkeys hSl hkk hl
  go_enter Tryz.func51, Tryz.ntmps51
  go_wp2_with (go_at_call 107; refine (HZ.out _).mono ?_; rintro e' _ ⟨rfl, rfl⟩)
  refine (HVal.out _).mono ?_
  rintro e' _ ⟨rfl, rfl⟩
  go_wp2_with fail
  refine (HKey.out _ hb1).mono ?_
  rintro e' w2 ⟨rfl, hb2⟩
  have hb3 := hb1.trans (hb2.mono hb1.size)
  have hc3 := fun o u hcu => (hb2.cell (p := ⟨w.heap.size, o, none⟩) (World.block_lt_of_cell? (w.alloc (.cells #[.int .i64 2, .float .f64 0, .string ⟨([] : Txt).toArray⟩, .slice A 0 c, .slice A2 0 c2] 27)) ⟨w.heap.size, o, none⟩ (u := u) hcu)).trans hcu
  have hc3 := hc3 3 (.slice A 0 c) (by rw [World.cell?_alloc_new]; rfl)
  go_wp2_with fail
  refine wp_loop_rounds 1 ?_
  rw [rounds_succ]
  go_wp2_with fail
  go_ret
  exact ⟨by rw [HR.out]; rfl, hb3⟩
set_option maxHeartbeats 4000000 in
set_option maxRecDepth 100000 in
theorem right_3 (m d : Nat) (hm : m < 1000000) (ih : Rights m) (w : World) (num : Nat) (str : List UInt8) (keys : List (List UInt8)) (list : List Tr) (x0 x1 x2 x3 x4 : Value) (x : Int) (hx : x = ((m + 1 : Nat) : Int)) (hR : Rep (d + 1) w (.mk 3 num str keys list) x0 x1 x2 x3 x4) :
    Calls Tryz.prog 51 #[.agg #[x0, x1, x2, x3, x4], .int .i64 x] w fun e w' => e = .returned (.bool (rightT (m + 1) (.mk 3 num str keys list))) ∧ Below w.heap.size w w' := by
  obtain ⟨rfl, rfl, rfl, hnum, hstr, hll, hkl, A, c, A2, c2, rfl, rfl, hL, hK, hc2, hc, hn2, hn⟩ := hR
  obtain ⟨hSl, hkx⟩ := rep_strSl hK hc2 hn2
  obtain ⟨r, hr⟩ : ∃ r, r = rightT (m + 1) (.mk 3 num str keys list) := ⟨_, rfl⟩
  rw [← hr]
  rw [rightT, if_neg (by decide)] at hr
  have hx1 : decide (x < 1) = false := decide_eq_false (by omega)
  obtain ⟨n, hnn⟩ : ∃ n, n = list.length := ⟨_, rfl⟩
  obtain ⟨nk, hnk⟩ : ∃ nk, nk = keys.length := ⟨_, rfl⟩
  rw [← hnn, ← hnk]
  rw [← hnn] at hc hll
  rw [← hnk] at hc2 hkl hSl
  rw [if_neg (fun h => h.1 rfl)] at hr
  have HZ : Hid (∀ W, Calls Tryz.prog 107 #[.float .f64 num] W fun e w' => e = .returned (.bool (decide (num = 0))) ∧ W = w') := Lib.hid (fun W => zeroB_any num W)
  by_cases hs : str = []
  case neg =>
    rw [if_pos ⟨by decide, hs⟩] at hr
    have HR := Lib.hid hr
    have hs1 : (⟨str.toArray⟩ : ByteArray).toList.isEmpty = false := by rw [toList_txt]; cases str <;> simp_all
    obtain ⟨S, hS⟩ : ∃ S : ByteArray, S = ⟨str.toArray⟩ := ⟨_, rfl⟩
    rw [← hS] at hs1 ⊢
    clear hr hL hK hc2 hc hn2 hn hSl hkx hnum hstr hll hkl ih hnn hnk hx hs hS
    go_enter Tryz.func51, Tryz.ntmps51
    go_wp2_with (go_at_call 107; refine (HZ.out _).mono ?_; rintro e' _ ⟨rfl, rfl⟩)
    go_ret
    exact ⟨by rw [HR.out]; rfl, (Below.refl _ _).alloc (Nat.le_refl _) _⟩
  rw [if_neg (fun h => h.2 hs)] at hr
  subst hs
  by_cases hl : list = []
  case neg =>
    rw [if_pos ⟨by decide, hl⟩] at hr
    have HR := Lib.hid hr
    have hl1 : 0 < n := by rw [hnn]; exact List.length_pos_iff.2 hl
    clear hr hL hK hc2 hc hn2 hn hSl hkx hnum hstr hll hkl ih hnn hnk hx hl
    go_enter Tryz.func51, Tryz.ntmps51
    go_wp2_with (go_at_call 107; refine (HZ.out _).mono ?_; rintro e' _ ⟨rfl, rfl⟩)
    go_ret
    exact ⟨by rw [HR.out]; rfl, (Below.refl _ _).alloc (Nat.le_refl _) _⟩
  rw [if_neg (fun h => h.2 hl)] at hr
  obtain rfl : n = 0 := by rw [hnn, hl]; rfl
  rw [if_neg (fun h => absurd h.1 (by decide))] at hr
  by_cases hkk : keys = []
  case neg =>
    rw [if_pos ⟨by decide, hkk⟩] at hr
    have HR := Lib.hid hr
    have hk1 : 0 < nk := by rw [hnk]; exact List.length_pos_iff.2 hkk
    clear hr hL hK hc2 hc hn2 hn hSl hkx hnum hstr hll hkl ih hnn hnk hx hkk
    go_enter Tryz.func51, Tryz.ntmps51
    go_wp2_with (go_at_call 107; refine (HZ.out _).mono ?_; rintro e' _ ⟨rfl, rfl⟩)
    go_ret
    exact ⟨by rw [HR.out]; rfl, (Below.refl _ _).alloc (Nat.le_refl _) _⟩
  rw [if_neg (fun h => h.2 hkk)] at hr
  obtain rfl : nk = 0 := by rw [hnk, hkk]; rfl
  have hval := fun W => valid_any ⟨([] : Txt).toArray⟩ W (by decide)
  have hkeys := fun W hS => keys_any keys (.slice A2 0 c2) W (by omega) hkx hS
  have hbn : 0 ≤ 1048576 := by omega
  have hb1 : Below w.heap.size w (w.alloc (.cells #[.int .i64 3, .float .f64 num, .string ⟨([] : Txt).toArray⟩, .slice A 0 c, .slice A2 0 c2] 27)) := (Below.refl _ _).alloc (Nat.le_refl _) _
  have hvb : validB ⟨([] : Txt).toArray⟩ = true := rfl
  rw [if_neg (by rw [hvb]; decide)] at hr
  rw [hvb] at hval
  have HVal := Lib.hid hval
  have hkb : keysT keys = true := by rw [hkk]; rfl
  rw [if_neg (by rw [hkb]; decide)] at hr
  rw [hkb] at hkeys
  have HKey : Hid (∀ W, Below w.heap.size w W → Calls Tryz.prog 108 #[.slice A2 0 c2] W fun e w' => e = .returned (.bool true) ∧ Below W.heap.size W w') := Lib.hid (fun W hW => hkeys W (hSl.below hW))
  have HR : Hid (r = true) := Lib.hid (by rw [hr, hl]; rfl)
  clear hr hkb hx hvb hL hK hc2 hc hn2 hn hkx hnum hstr hll hkl ih hnn hnk hval hkeys hSl hkk hl
  go_enter Tryz.func51, Tryz.ntmps51
  go_wp2_with (go_at_call 107; refine (HZ.out _).mono ?_; rintro e' _ ⟨rfl, rfl⟩)
  refine (HVal.out _).mono ?_
  rintro e' _ ⟨rfl, rfl⟩
  go_wp2_with fail
  refine (HKey.out _ hb1).mono ?_
  rintro e' w2 ⟨rfl, hb2⟩
  have hb3 := hb1.trans (hb2.mono hb1.size)
  have hc3 := fun o u hcu => (hb2.cell (p := ⟨w.heap.size, o, none⟩) (World.block_lt_of_cell? (w.alloc (.cells #[.int .i64 3, .float .f64 num, .string ⟨([] : Txt).toArray⟩, .slice A 0 c, .slice A2 0 c2] 27)) ⟨w.heap.size, o, none⟩ (u := u) hcu)).trans hcu
  have hc3 := hc3 3 (.slice A 0 c) (by rw [World.cell?_alloc_new]; rfl)
  go_wp2_with fail
  refine wp_loop_rounds 1 ?_
  rw [rounds_succ]
  go_wp2_with fail
  go_ret
  exact ⟨by rw [HR.out]; rfl, hb3⟩
set_option maxHeartbeats 4000000 in
set_option maxRecDepth 100000 in
theorem right_4 (m d : Nat) (hm : m < 1000000) (ih : Rights m) (w : World) (num : Nat) (str : List UInt8) (keys : List (List UInt8)) (list : List Tr) (x0 x1 x2 x3 x4 : Value) (x : Int) (hx : x = ((m + 1 : Nat) : Int)) (hR : Rep (d + 1) w (.mk 4 num str keys list) x0 x1 x2 x3 x4) :
    Calls Tryz.prog 51 #[.agg #[x0, x1, x2, x3, x4], .int .i64 x] w fun e w' => e = .returned (.bool (rightT (m + 1) (.mk 4 num str keys list))) ∧ Below w.heap.size w w' := by
  obtain ⟨rfl, rfl, rfl, hnum, hstr, hll, hkl, A, c, A2, c2, rfl, rfl, hL, hK, hc2, hc, hn2, hn⟩ := hR
  obtain ⟨hSl, hkx⟩ := rep_strSl hK hc2 hn2
  obtain ⟨r, hr⟩ : ∃ r, r = rightT (m + 1) (.mk 4 num str keys list) := ⟨_, rfl⟩
  rw [← hr]
  rw [rightT, if_neg (by decide)] at hr
  have hx1 : decide (x < 1) = false := decide_eq_false (by omega)
  obtain ⟨n, hnn⟩ : ∃ n, n = list.length := ⟨_, rfl⟩
  obtain ⟨nk, hnk⟩ : ∃ nk, nk = keys.length := ⟨_, rfl⟩
  rw [← hnn, ← hnk]
  rw [← hnn] at hc hll
  rw [← hnk] at hc2 hkl hSl
  by_cases hz : num = 0
  case neg =>
    rw [if_pos ⟨by decide, hz⟩] at hr
    have HR := Lib.hid hr
    have HZ : Hid (∀ W, Calls Tryz.prog 107 #[.float .f64 num] W fun e w' => e = .returned (.bool false) ∧ W = w') := Lib.hid (fun W => by have := zeroB_any num W; rwa [decide_eq_false hz] at this)
    clear hr hL hK hc2 hc hn2 hn hSl hkx hnum hstr hll hkl ih hnn hnk hx hz
    go_enter Tryz.func51, Tryz.ntmps51
    go_wp2_with (go_at_call 107; refine (HZ.out _).mono ?_; rintro e' _ ⟨rfl, rfl⟩)
    go_ret
    exact ⟨by rw [HR.out]; rfl, (Below.refl _ _).alloc (Nat.le_refl _) _⟩
  rw [if_neg (fun h => h.2 hz)] at hr
  subst hz
  have HZ : Hid (∀ W, Calls Tryz.prog 107 #[.float .f64 0] W fun e w' => e = .returned (.bool true) ∧ W = w') := Lib.hid (fun W => zeroB_any 0 W)
  rw [if_neg (fun h => h.1 rfl)] at hr
  by_cases hl : list = []
  case neg =>
    rw [if_pos ⟨by decide, hl⟩] at hr
    have HR := Lib.hid hr
    have hl1 : 0 < n := by rw [hnn]; exact List.length_pos_iff.2 hl
    clear hr hL hK hc2 hc hn2 hn hSl hkx hnum hstr hll hkl ih hnn hnk hx hl
    go_enter Tryz.func51, Tryz.ntmps51
    go_wp2_with (go_at_call 107; refine (HZ.out _).mono ?_; rintro e' _ ⟨rfl, rfl⟩)
    go_ret
    exact ⟨by rw [HR.out]; rfl, (Below.refl _ _).alloc (Nat.le_refl _) _⟩
  rw [if_neg (fun h => h.2 hl)] at hr
  obtain rfl : n = 0 := by rw [hnn, hl]; rfl
  rw [if_neg (fun h => absurd h.1 (by decide))] at hr
  by_cases hkk : keys = []
  case neg =>
    rw [if_pos ⟨by decide, hkk⟩] at hr
    have HR := Lib.hid hr
    have hk1 : 0 < nk := by rw [hnk]; exact List.length_pos_iff.2 hkk
    clear hr hL hK hc2 hc hn2 hn hSl hkx hnum hstr hll hkl ih hnn hnk hx hkk
    go_enter Tryz.func51, Tryz.ntmps51
    go_wp2_with (go_at_call 107; refine (HZ.out _).mono ?_; rintro e' _ ⟨rfl, rfl⟩)
    go_ret
    exact ⟨by rw [HR.out]; rfl, (Below.refl _ _).alloc (Nat.le_refl _) _⟩
  rw [if_neg (fun h => h.2 hkk)] at hr
  obtain rfl : nk = 0 := by rw [hnk, hkk]; rfl
  have hval := fun W => valid_any ⟨(str : Txt).toArray⟩ W (by show str.length < _; omega)
  have hkeys := fun W hS => keys_any keys (.slice A2 0 c2) W (by omega) hkx hS
  have hbn : 0 ≤ 1048576 := by omega
  have hb1 : Below w.heap.size w (w.alloc (.cells #[.int .i64 4, .float .f64 0, .string ⟨(str : Txt).toArray⟩, .slice A 0 c, .slice A2 0 c2] 27)) := (Below.refl _ _).alloc (Nat.le_refl _) _
  cases hvb : validB ⟨str.toArray⟩ with
  | false =>
    rw [if_pos hvb] at hr
    rw [hvb] at hval
    have HR := Lib.hid hr
    have HVal := Lib.hid hval
    clear hr hb1 hvb hx hL hK hc2 hc hn2 hn hkx hnum hstr hll hkl ih hnn hnk hval hkeys hSl hkk hl
    go_enter Tryz.func51, Tryz.ntmps51
    go_wp2_with (go_at_call 107; refine (HZ.out _).mono ?_; rintro e' _ ⟨rfl, rfl⟩)
    refine (HVal.out _).mono ?_
    rintro e' _ ⟨rfl, rfl⟩
    go_wp2_with fail
    go_ret
    exact ⟨by rw [HR.out]; rfl, (Below.refl _ _).alloc (Nat.le_refl _) _⟩
  | true =>
  rw [if_neg (by rw [hvb]; decide)] at hr
  rw [hvb] at hval
  have HVal := Lib.hid hval
  have hkb : keysT keys = true := by rw [hkk]; rfl
  rw [if_neg (by rw [hkb]; decide)] at hr
  rw [hkb] at hkeys
  have HKey : Hid (∀ W, Below w.heap.size w W → Calls Tryz.prog 108 #[.slice A2 0 c2] W fun e w' => e = .returned (.bool true) ∧ Below W.heap.size W w') := Lib.hid (fun W hW => hkeys W (hSl.below hW))
  have HR : Hid (r = true) := Lib.hid (by rw [hr, hl]; rfl)
  clear hr hkb hx hvb hL hK hc2 hc hn2 hn hkx hnum hstr hll hkl ih hnn hnk hval hkeys hSl hkk hl
  go_enter Tryz.func51, Tryz.ntmps51
  go_wp2_with (go_at_call 107; refine (HZ.out _).mono ?_; rintro e' _ ⟨rfl, rfl⟩)
  refine (HVal.out _).mono ?_
  rintro e' _ ⟨rfl, rfl⟩
  go_wp2_with fail
  refine (HKey.out _ hb1).mono ?_
  rintro e' w2 ⟨rfl, hb2⟩
  have hb3 := hb1.trans (hb2.mono hb1.size)
  have hc3 := fun o u hcu => (hb2.cell (p := ⟨w.heap.size, o, none⟩) (World.block_lt_of_cell? (w.alloc (.cells #[.int .i64 4, .float .f64 0, .string ⟨(str : Txt).toArray⟩, .slice A 0 c, .slice A2 0 c2] 27)) ⟨w.heap.size, o, none⟩ (u := u) hcu)).trans hcu
  have hc3 := hc3 3 (.slice A 0 c) (by rw [World.cell?_alloc_new]; rfl)
  go_wp2_with fail
  refine wp_loop_rounds 1 ?_
  rw [rounds_succ]
  go_wp2_with fail
  go_ret
  exact ⟨by rw [HR.out]; rfl, hb3⟩
set_option maxHeartbeats 4000000 in
set_option maxRecDepth 100000 in
theorem right_5 (m d : Nat) (hm : m < 1000000) (ih : Rights m) (w : World) (num : Nat) (str : List UInt8) (keys : List (List UInt8)) (list : List Tr) (x0 x1 x2 x3 x4 : Value) (x : Int) (hx : x = ((m + 1 : Nat) : Int)) (hR : Rep (d + 1) w (.mk 5 num str keys list) x0 x1 x2 x3 x4) :
    Calls Tryz.prog 51 #[.agg #[x0, x1, x2, x3, x4], .int .i64 x] w fun e w' => e = .returned (.bool (rightT (m + 1) (.mk 5 num str keys list))) ∧ Below w.heap.size w w' := by
  obtain ⟨rfl, rfl, rfl, hnum, hstr, hll, hkl, A, c, A2, c2, rfl, rfl, hL, hK, hc2, hc, hn2, hn⟩ := hR
  obtain ⟨hSl, hkx⟩ := rep_strSl hK hc2 hn2
  obtain ⟨r, hr⟩ : ∃ r, r = rightT (m + 1) (.mk 5 num str keys list) := ⟨_, rfl⟩
  rw [← hr]
  rw [rightT, if_neg (by decide)] at hr
  have hx1 : decide (x < 1) = false := decide_eq_false (by omega)
  obtain ⟨n, hnn⟩ : ∃ n, n = list.length := ⟨_, rfl⟩
  obtain ⟨nk, hnk⟩ : ∃ nk, nk = keys.length := ⟨_, rfl⟩
  rw [← hnn, ← hnk]
  rw [← hnn] at hc hll
  rw [← hnk] at hc2 hkl hSl
  by_cases hz : num = 0
  case neg =>
    rw [if_pos ⟨by decide, hz⟩] at hr
    have HR := Lib.hid hr
    have HZ : Hid (∀ W, Calls Tryz.prog 107 #[.float .f64 num] W fun e w' => e = .returned (.bool false) ∧ W = w') := Lib.hid (fun W => by have := zeroB_any num W; rwa [decide_eq_false hz] at this)
    clear hr hL hK hc2 hc hn2 hn hSl hkx hnum hstr hll hkl ih hnn hnk hx hz
    go_enter Tryz.func51, Tryz.ntmps51
    go_wp2_with (go_at_call 107; refine (HZ.out _).mono ?_; rintro e' _ ⟨rfl, rfl⟩)
    go_ret
    exact ⟨by rw [HR.out]; rfl, (Below.refl _ _).alloc (Nat.le_refl _) _⟩
  rw [if_neg (fun h => h.2 hz)] at hr
  subst hz
  have HZ : Hid (∀ W, Calls Tryz.prog 107 #[.float .f64 0] W fun e w' => e = .returned (.bool true) ∧ W = w') := Lib.hid (fun W => zeroB_any 0 W)
  by_cases hs : str = []
  case neg =>
    rw [if_pos ⟨by decide, hs⟩] at hr
    have HR := Lib.hid hr
    have hs1 : (⟨str.toArray⟩ : ByteArray).toList.isEmpty = false := by rw [toList_txt]; cases str <;> simp_all
    obtain ⟨S, hS⟩ : ∃ S : ByteArray, S = ⟨str.toArray⟩ := ⟨_, rfl⟩
    rw [← hS] at hs1 ⊢
    clear hr hL hK hc2 hc hn2 hn hSl hkx hnum hstr hll hkl ih hnn hnk hx hs hS
    go_enter Tryz.func51, Tryz.ntmps51
    go_wp2_with (go_at_call 107; refine (HZ.out _).mono ?_; rintro e' _ ⟨rfl, rfl⟩)
    go_ret
    exact ⟨by rw [HR.out]; rfl, (Below.refl _ _).alloc (Nat.le_refl _) _⟩
  rw [if_neg (fun h => h.2 hs)] at hr
  subst hs
  rw [if_neg (fun h => absurd h.1 (by decide))] at hr
  rw [if_neg (fun h => absurd h.1 (by decide))] at hr
  by_cases hkk : keys = []
  case neg =>
    rw [if_pos ⟨by decide, hkk⟩] at hr
    have HR := Lib.hid hr
    have hk1 : 0 < nk := by rw [hnk]; exact List.length_pos_iff.2 hkk
    clear hr hL hK hc2 hc hn2 hn hSl hkx hnum hstr hll hkl ih hnn hnk hx hkk
    go_enter Tryz.func51, Tryz.ntmps51
    go_wp2_with (go_at_call 107; refine (HZ.out _).mono ?_; rintro e' _ ⟨rfl, rfl⟩)
    go_ret
    exact ⟨by rw [HR.out]; rfl, (Below.refl _ _).alloc (Nat.le_refl _) _⟩
  rw [if_neg (fun h => h.2 hkk)] at hr
  obtain rfl : nk = 0 := by rw [hnk, hkk]; rfl
  have hval := fun W => valid_any ⟨([] : Txt).toArray⟩ W (by decide)
  have hkeys := fun W hS => keys_any keys (.slice A2 0 c2) W (by omega) hkx hS
  have hbn : n ≤ 1048576 := by omega
  have hb1 : Below w.heap.size w (w.alloc (.cells #[.int .i64 5, .float .f64 0, .string ⟨([] : Txt).toArray⟩, .slice A n c, .slice A2 0 c2] 27)) := (Below.refl _ _).alloc (Nat.le_refl _) _
  have hvb : validB ⟨([] : Txt).toArray⟩ = true := rfl
  rw [if_neg (by rw [hvb]; decide)] at hr
  rw [hvb] at hval
  have HVal := Lib.hid hval
  have hkb : keysT keys = true := by rw [hkk]; rfl
  rw [if_neg (by rw [hkb]; decide)] at hr
  rw [hkb] at hkeys
  have HKey : Hid (∀ W, Below w.heap.size w W → Calls Tryz.prog 108 #[.slice A2 0 c2] W fun e w' => e = .returned (.bool true) ∧ Below W.heap.size W w') := Lib.hid (fun W hW => hkeys W (hSl.below hW))
  have HR : Hid (r = (list.drop 0).all (rightT m)) := Lib.hid hr
  have HE : Hid (∀ (i : Nat) (h : i < list.length), ∃ ad, A = some ad ∧ ∃ y0 y1 y2 y3 y4, Cells5 w (ad.add (i * 5)) y0 y1 y2 y3 y4 ∧ ∀ W x', x' = (m : Int) → Below w.heap.size w W → Calls Tryz.prog 51 #[.agg #[y0, y1, y2, y3, y4], .int .i64 x'] W fun e w' => e = .returned (.bool (rightT m list[i])) ∧ Below W.heap.size W w') := Lib.hid (fun i h => by
    obtain ⟨ad, e, y0, y1, y2, y3, y4, h5, hRi⟩ := hL i h
    exact ⟨ad, e, y0, y1, y2, y3, y4, h5, fun W x' hx' hW => ih d W list[i] y0 y1 y2 y3 y4 x' hx' (hRi.below hW)⟩)
  have HN := Lib.hid hnn
  clear hr hkb hvb hL hK hc2 hc hn2 hn hkx hnum hstr hll hkl ih hnn hnk hval hkeys hSl hkk
  have hxb : x ≤ 1000000 := by omega
  have hxb2 : 1 ≤ x := by omega
  have hxm : x - 1 = (m : Int) := by omega
  have HXM := Lib.hid hxm
  clear hxm hx
  go_enter Tryz.func51, Tryz.ntmps51
  go_wp2_with (go_at_call 107; refine (HZ.out _).mono ?_; rintro e' _ ⟨rfl, rfl⟩)
  refine (HVal.out _).mono ?_
  rintro e' _ ⟨rfl, rfl⟩
  go_wp2_with fail
  refine (HKey.out _ hb1).mono ?_
  rintro e' w2 ⟨rfl, hb2⟩
  have hb3 := hb1.trans (hb2.mono hb1.size)
  have hc3 := fun o u hcu => (hb2.cell (p := ⟨w.heap.size, o, none⟩) (World.block_lt_of_cell? (w.alloc (.cells #[.int .i64 5, .float .f64 0, .string ⟨([] : Txt).toArray⟩, .slice A n c, .slice A2 0 c2] 27)) ⟨w.heap.size, o, none⟩ (u := u) hcu)).trans hcu
  have hc3 := hc3 3 (.slice A n c) (by rw [World.cell?_alloc_new]; rfl)
  have HC3 := Lib.hid hc3
  clear hb1 hb2 hc3
  go_wp2_with fail
  go_loopw [5] (fun i wr => ∃ (k : Nat), k ≤ n ∧ i = .int .i64 k ∧ Below w2.heap.size w2 wr ∧ Hid (r = (list.drop k).all (rightT m))) (fun i _ => n - (intOf i).toNat)
  case atStart => exact ⟨0, Nat.zero_le _, rfl, Below.refl _ _, HR⟩
  case round =>
    clear HR
    obtain ⟨k, hk, rfl, hbr, HV⟩ := hrel
    have hcr := (hbr.cell (p := ⟨w.heap.size, 3, none⟩) (World.block_lt_of_cell? w2 _ HC3.out)).trans HC3.out
    have hbw := hb3.trans (hbr.mono hb3.size)
    rcases Nat.lt_or_ge k n with hlt | hge
    · have hkl : k < list.length := by have := HN.out; omega
      obtain ⟨ad, hA, y0, y1, y2, y3, y4, h5, hCall⟩ := HE.out k hkl
      obtain ⟨g0, g1, g2, g3, g4⟩ := h5.below hbw
      have hv := HV.out
      rw [drop_cons list k hkl, List.all_cons] at hv
      have HCall := Lib.hid hCall
      clear hCall h5 HV
      subst hA
      cases hb : rightT m list[k] with
      | false =>
        rw [hb, Bool.false_and] at hv
        rw [hb] at HCall
        have HV := Lib.hid hv
        clear hb hv
        go_wp2_with fail
        refine (HCall.out _ _ HXM.out hbw).mono ?_
        rintro e' w3 ⟨rfl, hb4⟩
        have hb5 := hbw.trans (hb4.mono hbw.size)
        go_wp2_with fail
        go_ret
        exact ⟨by rw [HV.out]; rfl, hb5⟩
      | true =>
        rw [hb, Bool.true_and] at hv
        rw [hb] at HCall
        have HV := Lib.hid hv
        clear hb hv
        go_wp2_with fail
        refine (HCall.out _ _ HXM.out hbw).mono ?_
        rintro e' w3 ⟨rfl, hb4⟩
        have hb5 := hbr.trans (hb4.mono hbr.size)
        go_wp2_with fail
        go_roundw
        case rel => exact ⟨k + 1, by omega, by go_num, hb5, HV⟩
        case measure => simp [intOf]; omega
    · have HV2 : Hid (r = true) := Lib.hid (by
        have hds : list.drop k = [] := List.drop_eq_nil_of_le (by have := HN.out; omega)
        rw [HV.out, hds]; rfl)
      go_wp2_with fail
      go_ret
      exact ⟨by rw [HV2.out]; rfl, hbw⟩
set_option maxHeartbeats 4000000 in
set_option maxRecDepth 100000 in
theorem right_6 (m d : Nat) (hm : m < 1000000) (ih : Rights m) (w : World) (num : Nat) (str : List UInt8) (keys : List (List UInt8)) (list : List Tr) (x0 x1 x2 x3 x4 : Value) (x : Int) (hx : x = ((m + 1 : Nat) : Int)) (hR : Rep (d + 1) w (.mk 6 num str keys list) x0 x1 x2 x3 x4) :
    Calls Tryz.prog 51 #[.agg #[x0, x1, x2, x3, x4], .int .i64 x] w fun e w' => e = .returned (.bool (rightT (m + 1) (.mk 6 num str keys list))) ∧ Below w.heap.size w w' := by
  obtain ⟨rfl, rfl, rfl, hnum, hstr, hll, hkl, A, c, A2, c2, rfl, rfl, hL, hK, hc2, hc, hn2, hn⟩ := hR
  obtain ⟨hSl, hkx⟩ := rep_strSl hK hc2 hn2
  obtain ⟨r, hr⟩ : ∃ r, r = rightT (m + 1) (.mk 6 num str keys list) := ⟨_, rfl⟩
  rw [← hr]
  rw [rightT, if_neg (by decide)] at hr
  have hx1 : decide (x < 1) = false := decide_eq_false (by omega)
  obtain ⟨n, hnn⟩ : ∃ n, n = list.length := ⟨_, rfl⟩
  obtain ⟨nk, hnk⟩ : ∃ nk, nk = keys.length := ⟨_, rfl⟩
  rw [← hnn, ← hnk]
  rw [← hnn] at hc hll
  rw [← hnk] at hc2 hkl hSl
  by_cases hz : num = 0
  case neg =>
    rw [if_pos ⟨by decide, hz⟩] at hr
    have HR := Lib.hid hr
    have HZ : Hid (∀ W, Calls Tryz.prog 107 #[.float .f64 num] W fun e w' => e = .returned (.bool false) ∧ W = w') := Lib.hid (fun W => by have := zeroB_any num W; rwa [decide_eq_false hz] at this)
    clear hr hL hK hc2 hc hn2 hn hSl hkx hnum hstr hll hkl ih hnn hnk hx hz
    go_enter Tryz.func51, Tryz.ntmps51
    go_wp2_with (go_at_call 107; refine (HZ.out _).mono ?_; rintro e' _ ⟨rfl, rfl⟩)
    go_ret
    exact ⟨by rw [HR.out]; rfl, (Below.refl _ _).alloc (Nat.le_refl _) _⟩
  rw [if_neg (fun h => h.2 hz)] at hr
  subst hz
  have HZ : Hid (∀ W, Calls Tryz.prog 107 #[.float .f64 0] W fun e w' => e = .returned (.bool true) ∧ W = w') := Lib.hid (fun W => zeroB_any 0 W)
  by_cases hs : str = []
  case neg =>
    rw [if_pos ⟨by decide, hs⟩] at hr
    have HR := Lib.hid hr
    have hs1 : (⟨str.toArray⟩ : ByteArray).toList.isEmpty = false := by rw [toList_txt]; cases str <;> simp_all
    obtain ⟨S, hS⟩ : ∃ S : ByteArray, S = ⟨str.toArray⟩ := ⟨_, rfl⟩
    rw [← hS] at hs1 ⊢
    clear hr hL hK hc2 hc hn2 hn hSl hkx hnum hstr hll hkl ih hnn hnk hx hs hS
    go_enter Tryz.func51, Tryz.ntmps51
    go_wp2_with (go_at_call 107; refine (HZ.out _).mono ?_; rintro e' _ ⟨rfl, rfl⟩)
    go_ret
    exact ⟨by rw [HR.out]; rfl, (Below.refl _ _).alloc (Nat.le_refl _) _⟩
  rw [if_neg (fun h => h.2 hs)] at hr
  subst hs
  rw [if_neg (fun h => absurd h.1 (by decide))] at hr
  by_cases hkk : keys.length = list.length
  case neg =>
    rw [if_pos ⟨rfl, hkk⟩] at hr
    have HR := Lib.hid hr
    have hk1 : ((nk : Int) == (n : Int)) = false := by rw [beq_eq_false_iff_ne]; omega
    have hk2 : (nk == n) = false := by rw [beq_eq_false_iff_ne]; omega
    have hk3 : decide (nk = n) = false := decide_eq_false (by omega)
    have hk4 : ((nk : Int) != (n : Int)) = true := by rw [bne_iff_ne]; omega
    have hk5 : (nk != n) = true := by rw [bne_iff_ne]; omega
    clear hr hL hK hc2 hc hn2 hn hSl hkx hnum hstr hll hkl ih hnn hnk hx hkk
    go_enter Tryz.func51, Tryz.ntmps51
    go_wp2_with (go_at_call 107; refine (HZ.out _).mono ?_; rintro e' _ ⟨rfl, rfl⟩)
    go_ret
    exact ⟨by rw [HR.out]; rfl, (Below.refl _ _).alloc (Nat.le_refl _) _⟩
  rw [if_neg (fun h => h.2 hkk), if_neg (fun h => h.1 rfl)] at hr
  obtain rfl : nk = n := by rw [hnn, hnk]; exact hkk
  have hval := fun W => valid_any ⟨([] : Txt).toArray⟩ W (by decide)
  have hkeys := fun W hS => keys_any keys (.slice A2 nk c2) W (by omega) hkx hS
  have hbn : nk ≤ 1048576 := by omega
  have hb1 : Below w.heap.size w (w.alloc (.cells #[.int .i64 6, .float .f64 0, .string ⟨([] : Txt).toArray⟩, .slice A nk c, .slice A2 nk c2] 27)) := (Below.refl _ _).alloc (Nat.le_refl _) _
  have hvb : validB ⟨([] : Txt).toArray⟩ = true := rfl
  rw [if_neg (by rw [hvb]; decide)] at hr
  rw [hvb] at hval
  have HVal := Lib.hid hval
  cases hkb : keysT keys with
  | false =>
    rw [if_pos hkb] at hr
    rw [hkb] at hkeys
    have HR := Lib.hid hr
    have HKey : Hid (∀ W, Below w.heap.size w W → Calls Tryz.prog 108 #[.slice A2 nk c2] W fun e w' => e = .returned (.bool false) ∧ Below W.heap.size W w') := Lib.hid (fun W hW => hkeys W (hSl.below hW))
    clear hr hkb hx hvb hL hK hc2 hc hn2 hn hkx hnum hstr hll hkl ih hnn hnk hval hkeys hSl hkk
    go_enter Tryz.func51, Tryz.ntmps51
    go_wp2_with (go_at_call 107; refine (HZ.out _).mono ?_; rintro e' _ ⟨rfl, rfl⟩)
    refine (HVal.out _).mono ?_
    rintro e' _ ⟨rfl, rfl⟩
    go_wp2_with fail
    refine (HKey.out _ hb1).mono ?_
    rintro e' w2 ⟨rfl, hb2⟩
    have hb3 := hb1.trans (hb2.mono hb1.size)
    go_wp2_with fail
    go_ret
    exact ⟨by rw [HR.out]; rfl, hb3⟩
  | true =>
  rw [if_neg (by rw [hkb]; decide)] at hr
  rw [hkb] at hkeys
  have HKey : Hid (∀ W, Below w.heap.size w W → Calls Tryz.prog 108 #[.slice A2 nk c2] W fun e w' => e = .returned (.bool true) ∧ Below W.heap.size W w') := Lib.hid (fun W hW => hkeys W (hSl.below hW))
  have HR : Hid (r = (list.drop 0).all (rightT m)) := Lib.hid hr
  have HE : Hid (∀ (i : Nat) (h : i < list.length), ∃ ad, A = some ad ∧ ∃ y0 y1 y2 y3 y4, Cells5 w (ad.add (i * 5)) y0 y1 y2 y3 y4 ∧ ∀ W x', x' = (m : Int) → Below w.heap.size w W → Calls Tryz.prog 51 #[.agg #[y0, y1, y2, y3, y4], .int .i64 x'] W fun e w' => e = .returned (.bool (rightT m list[i])) ∧ Below W.heap.size W w') := Lib.hid (fun i h => by
    obtain ⟨ad, e, y0, y1, y2, y3, y4, h5, hRi⟩ := hL i h
    exact ⟨ad, e, y0, y1, y2, y3, y4, h5, fun W x' hx' hW => ih d W list[i] y0 y1 y2 y3 y4 x' hx' (hRi.below hW)⟩)
  have HN := Lib.hid hnn
  clear hr hkb hvb hL hK hc2 hc hn2 hn hkx hnum hstr hll hkl ih hnn hnk hval hkeys hSl hkk
  have hxb : x ≤ 1000000 := by omega
  have hxb2 : 1 ≤ x := by omega
  have hxm : x - 1 = (m : Int) := by omega
  have HXM := Lib.hid hxm
  clear hxm hx
  go_enter Tryz.func51, Tryz.ntmps51
  go_wp2_with (go_at_call 107; refine (HZ.out _).mono ?_; rintro e' _ ⟨rfl, rfl⟩)
  refine (HVal.out _).mono ?_
  rintro e' _ ⟨rfl, rfl⟩
  go_wp2_with fail
  refine (HKey.out _ hb1).mono ?_
  rintro e' w2 ⟨rfl, hb2⟩
  have hb3 := hb1.trans (hb2.mono hb1.size)
  have hc3 := fun o u hcu => (hb2.cell (p := ⟨w.heap.size, o, none⟩) (World.block_lt_of_cell? (w.alloc (.cells #[.int .i64 6, .float .f64 0, .string ⟨([] : Txt).toArray⟩, .slice A nk c, .slice A2 nk c2] 27)) ⟨w.heap.size, o, none⟩ (u := u) hcu)).trans hcu
  have hc3 := hc3 3 (.slice A nk c) (by rw [World.cell?_alloc_new]; rfl)
  have HC3 := Lib.hid hc3
  clear hb1 hb2 hc3
  go_wp2_with fail
  go_loopw [5] (fun i wr => ∃ (k : Nat), k ≤ nk ∧ i = .int .i64 k ∧ Below w2.heap.size w2 wr ∧ Hid (r = (list.drop k).all (rightT m))) (fun i _ => nk - (intOf i).toNat)
  case atStart => exact ⟨0, Nat.zero_le _, rfl, Below.refl _ _, HR⟩
  case round =>
    clear HR
    obtain ⟨k, hk, rfl, hbr, HV⟩ := hrel
    have hcr := (hbr.cell (p := ⟨w.heap.size, 3, none⟩) (World.block_lt_of_cell? w2 _ HC3.out)).trans HC3.out
    have hbw := hb3.trans (hbr.mono hb3.size)
    rcases Nat.lt_or_ge k nk with hlt | hge
    · have hkl : k < list.length := by have := HN.out; omega
      obtain ⟨ad, hA, y0, y1, y2, y3, y4, h5, hCall⟩ := HE.out k hkl
      obtain ⟨g0, g1, g2, g3, g4⟩ := h5.below hbw
      have hv := HV.out
      rw [drop_cons list k hkl, List.all_cons] at hv
      have HCall := Lib.hid hCall
      clear hCall h5 HV
      subst hA
      cases hb : rightT m list[k] with
      | false =>
        rw [hb, Bool.false_and] at hv
        rw [hb] at HCall
        have HV := Lib.hid hv
        clear hb hv
        go_wp2_with fail
        refine (HCall.out _ _ HXM.out hbw).mono ?_
        rintro e' w3 ⟨rfl, hb4⟩
        have hb5 := hbw.trans (hb4.mono hbw.size)
        go_wp2_with fail
        go_ret
        exact ⟨by rw [HV.out]; rfl, hb5⟩
      | true =>
        rw [hb, Bool.true_and] at hv
        rw [hb] at HCall
        have HV := Lib.hid hv
        clear hb hv
        go_wp2_with fail
        refine (HCall.out _ _ HXM.out hbw).mono ?_
        rintro e' w3 ⟨rfl, hb4⟩
        have hb5 := hbr.trans (hb4.mono hbr.size)
        go_wp2_with fail
        go_roundw
        case rel => exact ⟨k + 1, by omega, by go_num, hb5, HV⟩
        case measure => simp [intOf]; omega
    · have HV2 : Hid (r = true) := Lib.hid (by
        have hds : list.drop k = [] := List.drop_eq_nil_of_le (by have := HN.out; omega)
        rw [HV.out, hds]; rfl)
      go_wp2_with fail
      go_ret
      exact ⟨by rw [HV2.out]; rfl, hbw⟩
theorem right_tree : ∀ (m : Nat), m ≤ 1000000 → Rights m
  | 0, _ => right_zero
  | m + 1, hm => by
    have ih := right_tree m (by omega)
    intro d w t y0 y1 y2 y3 y4 x hx hR
    cases d with
    | zero => exact hR.elim
    | succ d =>
      cases t with
      | mk k num str keys list =>
        by_cases hk : k < 0 ∨ 6 < k
        · exact right_out m d w k num str keys list _ _ _ _ _ x hx hk hR
        · have h7 : k = 0 ∨ k = 1 ∨ k = 2 ∨ k = 3 ∨ k = 4 ∨ k = 5 ∨ k = 6 := by omega
          rcases h7 with rfl | rfl | rfl | rfl | rfl | rfl | rfl
          · exact right_0 m d (by omega) ih w num str keys list _ _ _ _ _ x hx hR
          · exact right_1 m d (by omega) ih w num str keys list _ _ _ _ _ x hx hR
          · exact right_2 m d (by omega) ih w num str keys list _ _ _ _ _ x hx hR
          · exact right_3 m d (by omega) ih w num str keys list _ _ _ _ _ x hx hR
          · exact right_4 m d (by omega) ih w num str keys list _ _ _ _ _ x hx hR
          · exact right_5 m d (by omega) ih w num str keys list _ _ _ _ _ x hx hR
          · exact right_6 m d (by omega) ih w num str keys list _ _ _ _ _ x hx hR
set_option maxRecDepth 100000 in
theorem right_any2 (d : Nat) (w : World) (t : Tr) (y0 y1 y2 y3 y4 : Value) (hR : Rep d w t y0 y1 y2 y3 y4) :
    Calls Tryz.prog 13 #[.agg #[y0, y1, y2, y3, y4]] w fun e w' => e = .returned (.bool (rightT 10000 t)) ∧ Below w.heap.size w w' := by
  obtain ⟨kk, nn, ss, A3, n3, e3, A4, n4, e4, rfl, rfl, rfl, rfl, rfl⟩ := rep_shape hR
  have hC := right_tree 10000 (by omega) d (w.alloc (.cells #[.int .i64 kk, .float .f64 nn, .string ss, .slice A3 n3 e3, .slice A4 n4 e4] 27)) t _ _ _ _ _ 10000 rfl (hR.below ((Below.refl _ _).alloc (Nat.le_refl _) _))
  obtain ⟨b, hb⟩ : ∃ b, b = rightT 10000 t := ⟨_, rfl⟩
  rw [← hb] at hC ⊢
  have HC := Lib.hid hC
  clear hb hC hR
  go_enter Tryz.func13, Tryz.ntmps13
  go_wp2_with fail
  refine HC.out.mono ?_
  rintro e' w2 ⟨rfl, hb2⟩
  have hb3 := ((Below.refl w.heap.size w).alloc (Nat.le_refl _) (.cells #[.int .i64 kk, .float .f64 nn, .string ss, .slice A3 n3 e3, .slice A4 n4 e4] 27)).trans (hb2.mono (by simp))
  go_wp2_with fail
  go_ret
  exact ⟨rfl, hb3⟩
end Go.Proofs.YtopecjnmeeejhaaGreatDoor
