/- Tight texts, plain: what stands between tokens is left out; what a value's text is without it. colanderlaw05.tight, walked. The document's answer: room, Large: that they answer at all. colanderlaw05.PrinterBlanks, walked. colanderlaw05.PrinterBlanks, walked to its end. -/
import Derived.Test.YtopecjnmeeejhaaGreatDoorPrt
import Derived.Test.YtopecjnmeeejhaaGreatDoorRes
import Derived.Test.YtopecjnmeeejhaaGreatDoorRig
import Derived.Test.YtopecjnmeeejhaaGreatDoorHds
set_option linter.unusedVariables false
set_option linter.unusedSimpArgs false
namespace Go.Proofs.YtopecjnmeeejhaaGreatDoor
open Go Go.RowKit Go.Proofs
/- Tight texts, plain: what stands between tokens is left out; what a value's text is without it. -/
/-- A text without what stands between tokens. 0: outside of a string; 1: within one; 2: behind a backslash there. -/
def tightL : Nat → List UInt8 → List UInt8
  | _, [] => []
  | st, c :: s =>
    if st = 2 then c :: tightL 1 s
    else if st = 1 ∧ c = 92 then c :: tightL 2 s
    else if (if c = 34 then 1 - st else st) = 1 ∨ (c ≠ 32 ∧ c ≠ 10 ∧ c ≠ 9) then c :: tightL (if c = 34 then 1 - st else st) s
    else tightL (if c = 34 then 1 - st else st) s
def Neut (l o : List UInt8) : Prop := ∀ s, tightL 0 (l ++ s) = o ++ tightL 0 s
def InNeut (l : List UInt8) : Prop := ∀ s, tightL 1 (l ++ s) = l ++ tightL 1 s
theorem Neut.nil : Neut [] [] := fun _ => rfl
theorem Neut.append {a b x y : List UInt8} (h : Neut a x) (k : Neut b y) : Neut (a ++ b) (x ++ y) := fun s => by rw [List.append_assoc, h, k, List.append_assoc]
theorem InNeut.append {a b : List UInt8} (h : InNeut a) (k : InNeut b) : InNeut (a ++ b) := fun s => by rw [List.append_assoc, h, k, List.append_assoc]
theorem Neut.tight {l o : List UInt8} (h : Neut l o) : tightL 0 l = o := by
  have := h []
  rw [List.append_nil] at this
  rw [this]; show o ++ [] = o; rw [List.append_nil]
/-- A byte that means nothing to it. -/
abbrev Okc (c : UInt8) : Prop := c ≠ 34 ∧ c ≠ 32 ∧ c ≠ 10 ∧ c ≠ 9
theorem neut_one {c : UInt8} (h : Okc c) : Neut [c] [c] := fun s => by
  obtain ⟨h1, h2, h3, h4⟩ := h
  show tightL 0 (c :: s) = c :: tightL 0 s
  rw [tightL, if_neg (by decide), if_neg (fun e => absurd e.1 (by decide)), if_pos (.inr ⟨h2, h3, h4⟩), if_neg h1]
theorem neut_plain : ∀ (l : List UInt8), (∀ c ∈ l, Okc c) → Neut l l
  | [], _ => Neut.nil
  | c :: l, h => (neut_one (h c (List.mem_cons_self ..))).append (neut_plain l fun x hx => h x (List.mem_cons_of_mem _ hx))
theorem neut_blank : ∀ (l : List UInt8), (∀ c ∈ l, c = 32 ∨ c = 10 ∨ c = 9) → Neut l []
  | [], _ => Neut.nil
  | c :: l, h => fun s => by
    have hc := h c (List.mem_cons_self ..)
    have ih := neut_blank l (fun x hx => h x (List.mem_cons_of_mem _ hx)) s
    have h34 : c ≠ 34 := by rcases hc with rfl | rfl | rfl <;> decide
    show tightL 0 (c :: (l ++ s)) = tightL 0 s
    rw [tightL, if_neg (by decide), if_neg (fun e => absurd e.1 (by decide)), if_neg h34, if_neg (fun e => ?_)]
    · exact ih
    · rcases e with e | ⟨e1, e2, e3⟩
      · cases e
      · rcases hc with e | e | e
        · exact e1 e
        · exact e2 e
        · exact e3 e
theorem in_one {c : UInt8} (h1 : c ≠ 34) (h2 : c ≠ 92) : InNeut [c] := fun s => by
  show tightL 1 (c :: s) = c :: tightL 1 s
  rw [tightL, if_neg (by decide), if_neg (fun e => h2 e.2), if_neg h1, if_pos (.inl rfl)]
theorem in_two (c : UInt8) : InNeut [92, c] := fun s => by
  show tightL 1 (92 :: c :: s) = 92 :: c :: tightL 1 s
  rw [tightL, if_neg (by decide), if_pos ⟨rfl, rfl⟩, tightL, if_pos rfl]
theorem hexd_ok (n : Nat) : hexd n ≠ 34 ∧ hexd n ≠ 92 ∧ hexd n ≠ 32 ∧ hexd n ≠ 10 ∧ hexd n ≠ 9 := by
  have key : ∀ j : Fin 17, hexd j.val ≠ 34 ∧ hexd j.val ≠ 92 ∧ hexd j.val ≠ 32 ∧ hexd j.val ≠ 10 ∧ hexd j.val ≠ 9 := by decide
  by_cases h : n < 16
  · exact key ⟨n, by omega⟩
  · have : hexd n = hexd 16 := by
      unfold hexd
      rw [List.getD_eq_getElem?_getD, List.getD_eq_getElem?_getD, List.getElem?_eq_none (by simp; omega), List.getElem?_eq_none (by simp)]
    rw [this]; exact key ⟨16, by omega⟩
theorem in_qb (c : UInt8) : InNeut (qb c) := by
  unfold qb
  repeat' split
  all_goals first
    | exact in_two _
    | (rename_i h34 h92 _ _ _ _ _ _; exact in_one h34 h92)
    | exact (in_two 117).append ((in_one (by decide) (by decide)).append ((in_one (by decide) (by decide)).append ((in_one (hexd_ok _).1 (hexd_ok _).2.1).append (in_one (hexd_ok _).1 (hexd_ok _).2.1))))
theorem in_flat : ∀ (s : List UInt8), InNeut (s.flatMap qb)
  | [] => fun _ => rfl
  | c :: s => by rw [List.flatMap_cons]; exact (in_qb c).append (in_flat s)
theorem neut_quote (s : List UInt8) : Neut (quoteT s) (quoteT s) := fun r => by
  unfold quoteT
  show tightL 0 (34 :: ((s.flatMap qb ++ [34]) ++ r)) = 34 :: ((s.flatMap qb ++ [34]) ++ tightL 0 r)
  rw [tightL, if_neg (by decide), if_neg (fun e => absurd e.1 (by decide)), if_pos (.inl rfl), if_pos rfl, List.append_assoc, in_flat, List.append_assoc]
  show 34 :: (s.flatMap qb ++ tightL 1 (34 :: r)) = 34 :: (s.flatMap qb ++ (34 :: tightL 0 r))
  rw [tightL, if_neg (by decide), if_neg (fun e => absurd e.2 (by decide)), if_pos (.inr (by decide)), if_pos rfl]
/-- What a part adds to a sheet that is not full in the end. -/
def Adds (f : St → St) (o : List UInt8) : Prop := ∀ st, (f st).2 = false → st.2 = false ∧ ∃ l, (f st).1 = st.1 ++ l ∧ Neut l o
theorem Adds.comp {f g : St → St} {a b : List UInt8} (hf : Adds f a) (hg : Adds g b) : Adds (fun st => g (f st)) (a ++ b) := fun st h => by
  obtain ⟨h1, l1, e1, n1⟩ := hg (f st) h
  obtain ⟨h2, l2, e2, n2⟩ := hf st h1
  exact ⟨h2, l2 ++ l1, by rw [e1, e2, List.append_assoc], n2.append n1⟩
theorem adds_id : Adds (fun st => st) [] := fun st h => ⟨h, [], by rw [List.append_nil], Neut.nil⟩
theorem adds_put {l o : List UInt8} (h : Neut l o) : Adds (fun st => putS st l) o := fun st hf => by
  show st.2 = false ∧ ∃ l', (putS st l).1 = st.1 ++ l' ∧ Neut l' o
  have hf : (putS st l).2 = false := hf
  unfold putS at hf ⊢
  split at hf
  · cases hf
  · rename_i hn
    rw [if_neg hn]
    refine ⟨?_, l, rfl, h⟩
    cases hs : st.2 with
    | false => rfl
    | true => exact absurd (.inl hs) hn
section
variable {S : Sty} (hc : S.col = false) (ha : S.asc = false)
include hc
theorem adds_tok {l o : List UInt8} (col : List UInt8) (h : Neut l o) : Adds (fun st => tokS S st l col) o := by
  have e : (fun st => tokS S st l col) = fun st => putS st l := by
    funext st
    unfold tokS tokT
    rw [if_neg (by rw [hc]; decide)]
  rw [e]; exact adds_put h
omit hc in
theorem adds_line (n : Nat) : Adds (fun st => lineS S st n) [] := by
  by_cases hl : S.loose = true
  · have e : (fun st => lineS S st n) = fun st => putS st (10 :: (if S.tab = true then List.replicate n 9 else List.replicate (S.ind * n) 32)) := by
      funext st; unfold lineS; rw [if_pos hl]
    rw [e]
    refine adds_put (neut_blank _ fun c hx => ?_)
    rcases List.mem_cons.1 hx with rfl | hx
    · exact .inr (.inl rfl)
    · split at hx
      · exact .inr (.inr (List.mem_replicate.1 hx).2)
      · exact .inl (List.mem_replicate.1 hx).2
  · have e : (fun st => lineS S st n) = fun st => st := by
      funext st; unfold lineS; rw [if_neg hl]
    rw [e]; exact adds_id
def joinF (f : Nat → List UInt8) : Nat → Nat → List UInt8
  | 0, _ => []
  | m + 1, i => ((if 0 < i then [44] else []) ++ f i) ++ joinF f m (i + 1)
omit hc in
theorem okc_44 : Okc 44 := ⟨by decide, by decide, by decide, by decide⟩
theorem adds_loop (lvl : Nat) (part : Nat → St → St) (f : Nat → List UInt8) (hp : ∀ i, Adds (part i) (f i)) : ∀ (m i : Nat), Adds (fun st => loopS S lvl part m i st) (joinF f m i)
  | 0, i => by
    have e : (fun st => loopS S lvl part 0 i st) = fun st => st := rfl
    rw [e]; exact adds_id
  | m + 1, i => fun st h => by
    have ih := adds_loop lvl part f hp m (i + 1)
    show st.2 = false ∧ ∃ l, (loopS S lvl part (m + 1) i st).1 = st.1 ++ l ∧ Neut l _
    have h : (loopS S lvl part (m + 1) i st).2 = false := h
    rw [loopS] at h ⊢
    by_cases hs : st.2 = true
    · rw [if_pos hs] at h; rw [hs] at h; cases h
    · rw [if_neg hs] at h ⊢
      have hA : Adds (fun st => lineS S (if 0 < i then tokS S st [44] sgn else st) (lvl + 1)) (if 0 < i then [44] else []) := by
        by_cases hi : 0 < i
        · rw [if_pos hi]
          have e : (fun st => lineS S (if 0 < i then tokS S st [44] sgn else st) (lvl + 1)) = fun st => lineS S (tokS S st [44] sgn) (lvl + 1) := by funext st; rw [if_pos hi]
          rw [e]
          have := (adds_tok hc sgn (neut_one okc_44)).comp (adds_line (S := S) (lvl + 1))
          rwa [List.append_nil] at this
        · rw [if_neg hi]
          have e : (fun st => lineS S (if 0 < i then tokS S st [44] sgn else st) (lvl + 1)) = fun st => lineS S st (lvl + 1) := by funext st; rw [if_neg hi]
          rw [e]; exact adds_line (lvl + 1)
      exact ((hA.comp (hp i)).comp ih) st h
theorem adds_many (lvl : Nat) (part : Nat → St → St) (f : Nat → List UInt8) (hp : ∀ i, Adds (part i) (f i)) (op cl : UInt8) (ho : Okc op) (hl : Okc cl) (n : Nat) : Adds (fun st => manyS S lvl part [op] [cl] n st) ([op] ++ joinF f n 0 ++ [cl]) := by
  have h1 := ((adds_tok hc sgn (neut_one ho)).comp (adds_loop hc lvl part f hp n 0))
  by_cases hn : 0 < n
  · have e : (fun st => manyS S lvl part [op] [cl] n st) = fun st => tokS S (lineS S (loopS S lvl part n 0 (tokS S st [op] sgn)) lvl) [cl] sgn := by funext st; unfold manyS; rw [if_pos hn]
    rw [e]
    have := (h1.comp (adds_line (S := S) lvl)).comp (adds_tok hc sgn (neut_one hl))
    rwa [List.append_nil] at this
  · have e : (fun st => manyS S lvl part [op] [cl] n st) = fun st => tokS S (loopS S lvl part n 0 (tokS S st [op] sgn)) [cl] sgn := by funext st; unfold manyS; rw [if_neg hn]
    rw [e]
    exact h1.comp (adds_tok hc sgn (neut_one hl))
end
theorem okc_digit {c : UInt8} (h : 48 ≤ c.toNat ∧ c.toNat ≤ 57) : Okc c := by
  refine ⟨?_, ?_, ?_, ?_⟩ <;> (rintro rfl; revert h; decide)
theorem okc_of {c : UInt8} (h : c = 48 ∨ c = 46 ∨ c = 101 ∨ c = 45 ∨ c = 43) : Okc c := by
  rcases h with rfl | rfl | rfl | rfl | rfl <;> exact ⟨by decide, by decide, by decide, by decide⟩
theorem okc_body {d : List UInt8} (hd : Dig d) (e : Int) : ∀ c ∈ bodyT d e, Okc c := by
  have hd' : ∀ c ∈ d, Okc c := fun c h => okc_digit (hd c h)
  have hdec : ∀ n : Nat, ∀ c ∈ Lib.decDigits n, Okc c := fun n c h => okc_digit (dig_dec n c h)
  intro c hc
  unfold bodyT at hc
  split at hc
  · unfold powT at hc
    rcases List.mem_append.1 hc with hc | hc
    · rcases List.mem_append.1 hc with hc | hc
      · exact hd' c (List.mem_of_mem_take hc)
      · split at hc
        · rcases List.mem_cons.1 hc with rfl | hc
          · exact okc_of (by simp)
          · exact hd' c (List.mem_of_mem_drop hc)
        · cases hc
    · rcases List.mem_cons.1 hc with rfl | hc
      · exact okc_of (by simp)
      · rcases List.mem_cons.1 hc with hc | hc
        · rw [hc]; split <;> exact okc_of (by simp)
        · split at hc
          · rcases List.mem_cons.1 hc with rfl | hc
            · exact okc_of (by simp)
            · exact hdec _ c hc
          · exact hdec _ c hc
  · split at hc
    · rcases List.mem_append.1 hc with hc | hc
      · exact hd' c hc
      · rw [(List.mem_replicate.1 hc).2]; exact okc_of (by simp)
    · split at hc
      · rcases List.mem_append.1 hc with hc | hc
        · exact hd' c (List.mem_of_mem_take hc)
        · rcases List.mem_cons.1 hc with rfl | hc
          · exact okc_of (by simp)
          · exact hd' c (List.mem_of_mem_drop hc)
      · rcases List.mem_cons.1 hc with rfl | hc
        · exact okc_of (by simp)
        · rcases List.mem_cons.1 hc with rfl | hc
          · exact okc_of (by simp)
          · rcases List.mem_append.1 hc with hc | hc
            · rw [(List.mem_replicate.1 hc).2]; exact okc_of (by simp)
            · exact hd' c hc
theorem okc_num (b : Nat) : ∀ c ∈ numT b, Okc c := by
  intro c hc
  unfold numT at hc
  split at hc
  · simp at hc
    rcases hc with rfl | rfl | rfl <;> exact ⟨by decide, by decide, by decide, by decide⟩
  · rename_i hn
    rcases List.mem_append.1 hc with hc | hc
    · split at hc
      · simp at hc; subst hc; exact okc_of (by simp)
      · cases hc
    · split at hc
      · simp at hc; subst hc; exact okc_of (by simp)
      · rename_i h0
        refine okc_body (digT_bounds _ ?_ ?_).1 _ c hc
        · split <;> omega
        · split <;> omega
theorem neut_text (k num : Nat) (str : List UInt8) : Neut (plainT k num str) (plainT k num str) := by
  unfold plainT
  repeat' split
  · exact neut_plain _ (by decide)
  · exact neut_plain _ (by decide)
  · exact neut_plain _ (by decide)
  · exact neut_plain _ (okc_num num)
  · exact neut_quote str
/-- A value's text without what stands between tokens. -/
def ttl : Nat → Tr → List UInt8
  | 0, _ => []
  | d + 1, .mk k num str keys list =>
    if k = 5 then [91] ++ joinF (fun i => ttl d (list.getD i default)) list.length 0 ++ [93]
    else if k = 6 then [123] ++ joinF (fun i => quoteT (keys.getD i []) ++ [58] ++ ttl d (list.getD i default)) keys.length 0 ++ [125]
    else if k = 4 then quoteT str else plainT k.toNat num str
theorem adds_key {S : Sty} (hc : S.col = false) (ha : S.asc = false) (key : List UInt8) : Adds (fun st => keyS S st key) (quoteT key ++ [58]) := by
  have he : escT key S.asc = quoteT key := by unfold escT; rw [if_neg (by rw [ha]; decide)]
  have h1 := (adds_tok hc [51, 52, 59, 49] (neut_quote key)).comp (adds_tok hc sgn (neut_one (c := 58) ⟨by decide, by decide, by decide, by decide⟩))
  by_cases hl : S.loose = true
  · have e : (fun st => keyS S st key) = fun st => putS (tokS S (tokS S st (quoteT key) [51, 52, 59, 49]) [58] sgn) [32] := by
      funext st; unfold keyS; rw [if_pos hl, he]
    rw [e]
    have := h1.comp (adds_put (neut_blank [32] (by decide)))
    rwa [List.append_nil] at this
  · have e : (fun st => keyS S st key) = fun st => tokS S (tokS S st (quoteT key) [51, 52, 59, 49]) [58] sgn := by
      funext st; unfold keyS; rw [if_neg hl, he]
    rw [e]; exact h1
theorem adds_pv {S : Sty} (hc : S.col = false) (ha : S.asc = false) : ∀ (d : Nat) (t : Tr) (lvl : Nat), Adds (fun st => pv S d t lvl st) (ttl d t)
  | 0, _, _ => adds_id
  | d + 1, .mk k num str keys list, lvl => by
    have ih := adds_pv hc ha d
    by_cases h5 : k = 5
    · have e : (fun st => pv S (d + 1) (.mk k num str keys list) lvl st) = fun st => manyS S lvl (fun i st => pv S d (list.getD i default) (lvl + 1) st) [91] [93] list.length st := by funext st; rw [pv, if_pos h5]
      rw [e, ttl, if_pos h5]
      exact adds_many hc lvl _ _ (fun i => ih (list.getD i default) (lvl + 1)) 91 93 ⟨by decide, by decide, by decide, by decide⟩ ⟨by decide, by decide, by decide, by decide⟩ _
    · by_cases h6 : k = 6
      · have e : (fun st => pv S (d + 1) (.mk k num str keys list) lvl st) = fun st => manyS S lvl (fun i st => pv S d (list.getD i default) (lvl + 1) (keyS S st (keys.getD i []))) [123] [125] keys.length st := by funext st; rw [pv, if_neg h5, if_pos h6]
        rw [e, ttl, if_neg h5, if_pos h6]
        exact adds_many hc lvl _ _ (fun i => (adds_key hc ha (keys.getD i [])).comp (ih (list.getD i default) (lvl + 1))) 123 125 ⟨by decide, by decide, by decide, by decide⟩ ⟨by decide, by decide, by decide, by decide⟩ _
      · have e : (fun st => pv S (d + 1) (.mk k num str keys list) lvl st) = fun st => tokS S st (if k = 4 then quoteT str else plainT k.toNat num str) (colT k.toNat) := by
          funext st
          have he : escT str S.asc = quoteT str := by unfold escT; rw [if_neg (by rw [ha]; decide)]
          rw [pv, if_neg h5, if_neg h6, he]
        rw [e, ttl, if_neg h5, if_neg h6]
        refine adds_tok hc _ ?_
        split
        · exact neut_quote str
        · exact neut_text _ _ _
/-- What is printed is tight in one way alone. -/
theorem tight_print {S : Sty} (hc : S.col = false) (ha : S.asc = false) (d : Nat) (t : Tr) (h : (printS S d t).2 = false) : tightL 0 (printS S d t).1 = ttl d t := by
  obtain ⟨_, l, e, n⟩ := adds_pv hc ha d t 0 ([], false) h
  have e' : (printS S d t).1 = l := e
  rw [e']; exact n.tight
/- colanderlaw05.tight, walked. -/
theorem drop_consB (l : List UInt8) (i : Nat) (h : i < l.length) : l.drop i = l[i] :: l.drop (i + 1) := List.drop_eq_getElem_cons h
def stN (b : Bool) : Nat := if b = true then 1 else 0
theorem t_esc2 (y : UInt8) (s : List UInt8) : tightL (stN true) (92 :: y :: s) = [92, y] ++ tightL (stN true) s := by
  show tightL 1 (92 :: y :: s) = 92 :: y :: tightL 1 s
  rw [tightL, if_neg (by decide), if_pos ⟨rfl, rfl⟩, tightL, if_pos rfl]
theorem t_esc1 : tightL (stN true) [92] = [92] := by decide
theorem t_quote (b : Bool) (s : List UInt8) : tightL (stN b) (34 :: s) = [34] ++ tightL (stN (!b)) s := by
  cases b
  · show tightL 0 (34 :: s) = 34 :: tightL 1 s
    rw [tightL, if_neg (by decide), if_neg (fun e => absurd e.1 (by decide)), if_pos (.inl rfl), if_pos rfl]
  · show tightL 1 (34 :: s) = 34 :: tightL 0 s
    rw [tightL, if_neg (by decide), if_neg (fun e => absurd e.2 (by decide)), if_pos (.inr (by decide)), if_pos rfl]
theorem t_in (c : UInt8) (h1 : c ≠ 34) (h2 : c ≠ 92) (s : List UInt8) : tightL (stN true) (c :: s) = [c] ++ tightL (stN true) s := in_one h1 h2 s
theorem t_skip (c : UInt8) (h : c = 32 ∨ c = 10 ∨ c = 9) (s : List UInt8) : tightL (stN false) (c :: s) = [] ++ tightL (stN false) s := neut_blank [c] (by simpa using h) s
theorem t_out (c : UInt8) (h1 : c ≠ 34) (h2 : c ≠ 32) (h3 : c ≠ 10) (h4 : c ≠ 9) (s : List UInt8) : tightL (stN false) (c :: s) = [c] ++ tightL (stN false) s := neut_one ⟨h1, h2, h3, h4⟩ s
set_option maxHeartbeats 8000000 in
set_option maxRecDepth 100000 in
theorem tight_any (w : World) (s : List UInt8) (hl : s.length ≤ 100000000) :
    Calls Tryz.prog 26 #[.string ⟨s.toArray⟩] w fun e w' => e = .returned (.string ⟨(tightL 0 s).toArray⟩) ∧ Below w.heap.size w w' := by
  obtain ⟨T, hT⟩ : ∃ T, T = tightL 0 s := ⟨_, rfl⟩
  rw [← hT]
  have HT : Hid ([] ++ tightL (stN false) (s.drop 0) = T) := Lib.hid (by rw [hT]; rfl)
  clear hT
  have hA0 := App.start (OwnB.nil w.heap.size w) (Nat.le_refl _)
  go_enter Tryz.func26, Tryz.ntmps26
  go_wp2_with fail
  go_loopw [3, 4, 5] (fun b q i wr => ∃ (k : Nat) (st : Bool) (acc : List UInt8), k ≤ s.length + 1 ∧ q = .bool st ∧ i = .int .i64 k ∧ App w.heap.size w (.slice none 0 0) [] wr b acc ∧ acc.length ≤ k ∧ Hid (acc ++ tightL (stN st) (s.drop k) = T)) (fun _ _ i _ => s.length + 1 - (intOf i).toNat)
  case atStart => exact ⟨0, false, [], by omega, rfl, rfl, hA0, by simp, HT⟩
  case round =>
    clear hA0 HT
    obtain ⟨k, st, acc, hk, rfl, rfl, hA, hal, HV⟩ := hrel
    rcases Nat.lt_or_ge k s.length with hlt | hge
    · obtain ⟨x, hx⟩ : ∃ x, x = s[k] := ⟨_, rfl⟩
      have hds := drop_consB s k hlt
      rw [← hx] at hds
      have hv := HV.out
      rw [hds] at hv
      have hby : ∀ h, ((⟨s.toArray⟩ : ByteArray)[k]'h).toNat = x.toNat := fun h => by rw [hx]; rfl
      clear HV hx
      have HB0 := Lib.hid hby
      by_cases h34 : x = 34
      · subst h34
        have hby' : ∀ h, ((⟨s.toArray⟩ : ByteArray)[k]'h).toNat = 34 := hby
        clear hby HB0
        cases st with
        | false =>
          have HV : Hid ((acc ++ [34]) ++ tightL (stN true) (s.drop (k + 1)) = T) := Lib.hid (by rw [← hv, t_quote, List.append_assoc]; rfl)
          clear hv hds
          go_wp2_with (at_builtin; refine appN rfl _ _ rfl [34] 1 _ rfl rfl rfl rfl hA (by simp; omega) ?_; intro v2 w2 hA2)
          all_goals go_roundw
          case rel => exact ⟨k + 1, true, _, by omega, rfl, by go_num, hA2, by simp; omega, HV⟩
          case measure => simp [intOf]; omega
        | true =>
          have HV : Hid ((acc ++ [34]) ++ tightL (stN false) (s.drop (k + 1)) = T) := Lib.hid (by rw [← hv, t_quote, List.append_assoc]; rfl)
          clear hv hds
          go_wp2_with (at_builtin; refine appN rfl _ _ rfl [34] 1 _ rfl rfl rfl rfl hA (by simp; omega) ?_; intro v2 w2 hA2)
          all_goals go_roundw
          case rel => exact ⟨k + 1, false, _, by omega, rfl, by go_num, hA2, by simp; omega, HV⟩
          case measure => simp [intOf]; omega
      by_cases h92 : x = 92
      · subst h92
        have hby' : ∀ h, ((⟨s.toArray⟩ : ByteArray)[k]'h).toNat = 92 := hby
        clear hby HB0
        cases st with
        | false =>
          have HV : Hid ((acc ++ [92]) ++ tightL (stN false) (s.drop (k + 1)) = T) := Lib.hid (by rw [← hv, t_out 92 (by decide) (by decide) (by decide) (by decide), List.append_assoc])
          clear hv hds
          go_wp2_with (at_builtin; refine appN rfl _ _ rfl [92] 1 _ rfl rfl rfl rfl hA (by simp; omega) ?_; intro v2 w2 hA2)
          all_goals go_roundw
          case rel => exact ⟨k + 1, false, _, by omega, rfl, by go_num, hA2, by simp; omega, HV⟩
          case measure => simp [intOf]; omega
        | true =>
          rcases Nat.lt_or_ge (k + 1) s.length with hlt2 | hge2
          · obtain ⟨y, hy⟩ : ∃ y, y = s[k + 1] := ⟨_, rfl⟩
            have hds2 := drop_consB s (k + 1) hlt2
            rw [← hy] at hds2
            have hby2 : ∀ h, ((⟨s.toArray⟩ : ByteArray)[k + 1]'h).toNat = y.toNat := fun h => by rw [hy]; rfl
            have HV : Hid (((acc ++ [92]) ++ [y]) ++ tightL (stN true) (s.drop (k + 1 + 1)) = T) := Lib.hid (by rw [← hv, hds2, t_esc2]; simp)
            obtain ⟨m, hm⟩ : ∃ m, m = y.toNat := ⟨_, rfl⟩
            rw [← hm] at hby2
            have HM := Lib.hid hm
            clear hv hds hy hds2 hm
            go_wp2_with (first | (at_builtin; refine appN rfl _ _ rfl [92] 1 _ rfl rfl rfl rfl hA (by simp; omega) ?_; intro v2 w2 hA2; clear hA) | (at_builtin; refine appN rfl _ _ rfl [y] 1 _ rfl rfl rfl (by rw [HM.out]; rfl) hA2 (by simp; omega) ?_; intro v3 w3 hA3))
            all_goals go_roundw
            case rel => exact ⟨k + 1 + 1, true, _, by omega, rfl, by go_num, hA3, by simp; omega, HV⟩
            case measure => simp [intOf]; omega
          · have HV : Hid ((acc ++ [92]) ++ tightL (stN true) (s.drop (k + 1 + 1)) = T) := Lib.hid (by
              have e1 : s.drop (k + 1) = [] := List.drop_eq_nil_of_le hge2
              have e2 : s.drop (k + 1 + 1) = [] := List.drop_eq_nil_of_le (by omega)
              rw [← hv, e1, e2, t_esc1]; simp [tightL])
            clear hv hds
            go_wp2_with (at_builtin; refine appN rfl _ _ rfl [92] 1 _ rfl rfl rfl rfl hA (by simp; omega) ?_; intro v2 w2 hA2)
            all_goals go_roundw
            case rel => exact ⟨k + 1 + 1, true, _, by omega, rfl, by go_num, hA2, by simp; omega, HV⟩
            case measure => simp [intOf]; omega
      by_cases h32 : x = 32
      · subst h32
        have hby' : ∀ h, ((⟨s.toArray⟩ : ByteArray)[k]'h).toNat = 32 := hby
        clear hby HB0
        cases st with
        | false =>
          have HV : Hid (acc ++ tightL (stN false) (s.drop (k + 1)) = T) := Lib.hid (by rw [← hv, t_skip 32 (by decide)]; rfl)
          clear hv hds
          go_wp2_with fail
          all_goals go_roundw
          case rel => exact ⟨k + 1, false, _, by omega, rfl, by go_num, hA, by omega, HV⟩
          case measure => simp [intOf]; omega
        | true =>
          have HV : Hid ((acc ++ [32]) ++ tightL (stN true) (s.drop (k + 1)) = T) := Lib.hid (by rw [← hv, t_in 32 (by decide) (by decide), List.append_assoc])
          clear hv hds
          go_wp2_with (at_builtin; refine appN rfl _ _ rfl [32] 1 _ rfl rfl rfl rfl hA (by simp; omega) ?_; intro v2 w2 hA2)
          all_goals go_roundw
          case rel => exact ⟨k + 1, true, _, by omega, rfl, by go_num, hA2, by simp; omega, HV⟩
          case measure => simp [intOf]; omega
      by_cases h10 : x = 10
      · subst h10
        have hby' : ∀ h, ((⟨s.toArray⟩ : ByteArray)[k]'h).toNat = 10 := hby
        clear hby HB0
        cases st with
        | false =>
          have HV : Hid (acc ++ tightL (stN false) (s.drop (k + 1)) = T) := Lib.hid (by rw [← hv, t_skip 10 (by decide)]; rfl)
          clear hv hds
          go_wp2_with fail
          all_goals go_roundw
          case rel => exact ⟨k + 1, false, _, by omega, rfl, by go_num, hA, by omega, HV⟩
          case measure => simp [intOf]; omega
        | true =>
          have HV : Hid ((acc ++ [10]) ++ tightL (stN true) (s.drop (k + 1)) = T) := Lib.hid (by rw [← hv, t_in 10 (by decide) (by decide), List.append_assoc])
          clear hv hds
          go_wp2_with (at_builtin; refine appN rfl _ _ rfl [10] 1 _ rfl rfl rfl rfl hA (by simp; omega) ?_; intro v2 w2 hA2)
          all_goals go_roundw
          case rel => exact ⟨k + 1, true, _, by omega, rfl, by go_num, hA2, by simp; omega, HV⟩
          case measure => simp [intOf]; omega
      by_cases h9 : x = 9
      · subst h9
        have hby' : ∀ h, ((⟨s.toArray⟩ : ByteArray)[k]'h).toNat = 9 := hby
        clear hby HB0
        cases st with
        | false =>
          have HV : Hid (acc ++ tightL (stN false) (s.drop (k + 1)) = T) := Lib.hid (by rw [← hv, t_skip 9 (by decide)]; rfl)
          clear hv hds
          go_wp2_with fail
          all_goals go_roundw
          case rel => exact ⟨k + 1, false, _, by omega, rfl, by go_num, hA, by omega, HV⟩
          case measure => simp [intOf]; omega
        | true =>
          have HV : Hid ((acc ++ [9]) ++ tightL (stN true) (s.drop (k + 1)) = T) := Lib.hid (by rw [← hv, t_in 9 (by decide) (by decide), List.append_assoc])
          clear hv hds
          go_wp2_with (at_builtin; refine appN rfl _ _ rfl [9] 1 _ rfl rfl rfl rfl hA (by simp; omega) ?_; intro v2 w2 hA2)
          all_goals go_roundw
          case rel => exact ⟨k + 1, true, _, by omega, rfl, by go_num, hA2, by simp; omega, HV⟩
          case measure => simp [intOf]; omega
      obtain ⟨n, hn⟩ : ∃ n, n = x.toNat := ⟨_, rfl⟩
      have t34 : ((n : Int) == 34) = false := by rw [beq_eq_false_iff_ne]; intro h; apply h34; apply UInt8.toNat_inj.1; show x.toNat = 34; omega
      have u34 : ((n : Int) != 34) = true := by rw [bne_iff_ne]; intro h; apply h34; apply UInt8.toNat_inj.1; show x.toNat = 34; omega
      have t92 : ((n : Int) == 92) = false := by rw [beq_eq_false_iff_ne]; intro h; apply h92; apply UInt8.toNat_inj.1; show x.toNat = 92; omega
      have u92 : ((n : Int) != 92) = true := by rw [bne_iff_ne]; intro h; apply h92; apply UInt8.toNat_inj.1; show x.toNat = 92; omega
      have t32 : ((n : Int) == 32) = false := by rw [beq_eq_false_iff_ne]; intro h; apply h32; apply UInt8.toNat_inj.1; show x.toNat = 32; omega
      have u32 : ((n : Int) != 32) = true := by rw [bne_iff_ne]; intro h; apply h32; apply UInt8.toNat_inj.1; show x.toNat = 32; omega
      have t10 : ((n : Int) == 10) = false := by rw [beq_eq_false_iff_ne]; intro h; apply h10; apply UInt8.toNat_inj.1; show x.toNat = 10; omega
      have u10 : ((n : Int) != 10) = true := by rw [bne_iff_ne]; intro h; apply h10; apply UInt8.toNat_inj.1; show x.toNat = 10; omega
      have t9 : ((n : Int) == 9) = false := by rw [beq_eq_false_iff_ne]; intro h; apply h9; apply UInt8.toNat_inj.1; show x.toNat = 9; omega
      have u9 : ((n : Int) != 9) = true := by rw [bne_iff_ne]; intro h; apply h9; apply UInt8.toNat_inj.1; show x.toNat = 9; omega
      rw [← hn] at hby
      have HNN := Lib.hid hn
      cases st with
      | false =>
        have HV : Hid ((acc ++ [x]) ++ tightL (stN false) (s.drop (k + 1)) = T) := Lib.hid (by rw [← hv, t_out x h34 h32 h10 h9, List.append_assoc])
        clear hv hds hn h34 h92 h32 h10 h9 HB0
        go_wp2_with (at_builtin; refine appN rfl _ _ rfl [x] 1 _ rfl rfl rfl (by rw [HNN.out]; rfl) hA (by simp; omega) ?_; intro v2 w2 hA2)
        all_goals go_roundw
        case rel => exact ⟨k + 1, false, _, by omega, rfl, by go_num, hA2, by simp; omega, HV⟩
        case measure => simp [intOf]; omega
      | true =>
        have HV : Hid ((acc ++ [x]) ++ tightL (stN true) (s.drop (k + 1)) = T) := Lib.hid (by rw [← hv, t_in x h34 h92, List.append_assoc])
        clear hv hds hn h34 h92 h32 h10 h9 HB0
        go_wp2_with (at_builtin; refine appN rfl _ _ rfl [x] 1 _ rfl rfl rfl (by rw [HNN.out]; rfl) hA (by simp; omega) ?_; intro v2 w2 hA2)
        all_goals go_roundw
        case rel => exact ⟨k + 1, true, _, by omega, rfl, by go_num, hA2, by simp; omega, HV⟩
        case measure => simp [intOf]; omega
    · have HE : Hid (acc = T) := Lib.hid (by
        have hds : s.drop k = [] := List.drop_eq_nil_of_le hge
        rw [← HV.out, hds]; cases st <;> simp [tightL])
      have hcv := convOwn hA.own
      rw [List.nil_append, HE.out] at hcv
      have hb := hA.fresh
      clear HV
      go_wp2_with fail
      go_ret
      exact ⟨rfl, hb⟩
/- The document's answer: room, Large: that they answer at all. -/
/-- Two whole numbers are answered, and nothing that was there has changed. -/
def SomePair (w : World) (e : Ending) (w' : World) : Prop := ∃ p q : Int, e = .returned (.tuple #[.int .i64 p, .int .i64 q]) ∧ Below w.heap.size w w'
def SomeBool (w : World) (e : Ending) (w' : World) : Prop := ∃ b : Bool, e = .returned (.bool b) ∧ Below w.heap.size w w'
set_option maxHeartbeats 4000000 in
set_option maxRecDepth 100000 in
theorem room_any : ∀ (d : Nat) (w : World) (t : Tr) (y0 y1 y2 y3 y4 : Value) (a b x : Int), 0 ≤ x → x ≤ 10000 → Rep d w t y0 y1 y2 y3 y4 →
    Calls Tryz.prog 66 #[.agg #[y0, y1, y2, y3, y4], .int .i64 a, .int .i64 b, .int .i64 x] w (SomePair w) := by
  intro d
  induction d with
  | zero => intro w t y0 y1 y2 y3 y4 a b x _ _ h; exact h.elim
  | succ d ih =>
    intro w t y0 y1 y2 y3 y4 a b x hx0 hx1 hR
    cases t with
    | mk k num str keys list =>
    obtain ⟨rfl, rfl, rfl, hnum, hstr, hll, hkl, A, c, A2, c2, rfl, rfl, hL, hK, hc2, hc, hn2, hn⟩ := hR
    obtain ⟨n, hnn⟩ : ∃ n, n = list.length := ⟨_, rfl⟩
    obtain ⟨nk, hnk⟩ : ∃ nk, nk = keys.length := ⟨_, rfl⟩
    rw [← hnn, ← hnk]
    rw [← hnn] at hc hll
    rw [← hnk] at hc2 hkl
    by_cases hx : x < 1
    · have t1 : decide (x < 1) = true := decide_eq_true hx
      clear hL hK hnn hnk ih
      go_enter Tryz.func66, Tryz.ntmps66
      go_wp2_with fail
      go_ret2
      exact ⟨-1, -1, rfl, (Below.refl _ _).alloc (Nat.le_refl _) _⟩
    have t1 : decide (x < 1) = false := decide_eq_false hx
    obtain ⟨S, hS⟩ : ∃ S : ByteArray, S = ⟨str.toArray⟩ := ⟨_, rfl⟩
    rw [← hS]
    obtain ⟨W1, hW1⟩ : ∃ W1, W1 = w.alloc (.cells #[.int .i64 k, .float .f64 num, .string S, .slice A n c, .slice A2 nk c2] 27) := ⟨_, rfl⟩
    obtain ⟨hb1, e0, e1, e2, e3, e4⟩ := after_new _ _ _ _ _ _ _ _ hW1
    have hlt1 : w.heap.size < W1.heap.size := by rw [hW1]; simp
    have HK : Hid (∀ i (h : i < keys.length), ∃ ad, A2 = some ad ∧ ∃ s : ByteArray, W1.cell? (ad.add i) = some (.string s)) := Lib.hid (fun i h => by
      obtain ⟨_, ad, e, hc⟩ := hK i h
      exact ⟨ad, e, _, (World.cell?_of_block (w := w) (a := ad.add i) (hb1.block _ (World.block_lt_of_cell? w _ hc))).trans hc⟩)
    have HE : Hid (∀ (i : Nat) (h : i < list.length), ∃ ad, A = some ad ∧ ∃ y0 y1 y2 y3 y4, Cells5 w (ad.add (i * 5)) y0 y1 y2 y3 y4 ∧ ∀ W a' b' x', 0 ≤ x' → x' ≤ 10000 → Below w.heap.size w W → Calls Tryz.prog 66 #[.agg #[y0, y1, y2, y3, y4], .int .i64 a', .int .i64 b', .int .i64 x'] W (SomePair W)) := Lib.hid (fun i h => by
      obtain ⟨ad, e, y0, y1, y2, y3, y4, h5, hRi⟩ := hL i h
      exact ⟨ad, e, y0, y1, y2, y3, y4, h5, fun W a' b' x' h0 h1 hW => ih W list[i] y0 y1 y2 y3 y4 a' b' x' h0 h1 (hRi.below hW)⟩)
    have HN := Lib.hid hnn
    have HNK := Lib.hid hnk
    have HW := Lib.hid hW1
    have hx2 : 1 ≤ x := by omega
    clear hL hK hnn hnk ih hS hW1 hx hnum hstr hn2 hn
    go_enter Tryz.func66, Tryz.ntmps66
    go_upto_region 1 with fail
    rw [← HW.out]
    clear HW
    go_wp2_with fail
    go_loop [2, 10] (fun b i => ∃ (q : Int) (k : Nat), b = .int .i64 q ∧ k ≤ nk ∧ i = .int .i64 k) (fun _ i => nk - (intOf i).toNat)
    case atStart => exact ⟨_, 0, rfl, Nat.zero_le _, rfl⟩
    case round =>
      obtain ⟨q, j, rfl, hj, rfl⟩ := hrel
      rcases Nat.lt_or_ge j nk with hlt | hge
      · obtain ⟨ad, hA, s, hcs⟩ := HK.out j (by have := HNK.out; omega)
        subst hA
        go_wp2_with fail
        go_round
        case rel => exact ⟨_, j + 1, rfl, by omega, by go_num⟩
        case measure => simp [intOf]; omega
      · go_wp2_with fail
        go_loopw [1, 2, 11] (fun a b i wr => ∃ (p q : Int) (k : Nat), a = .int .i64 p ∧ b = .int .i64 q ∧ k ≤ n ∧ i = .int .i64 k ∧ Below W1.heap.size W1 wr) (fun _ _ i _ => n - (intOf i).toNat)
        case atStart => exact ⟨_, _, 0, rfl, rfl, Nat.zero_le _, rfl, Below.refl _ _⟩
        case round =>
          obtain ⟨p, q2, i, rfl, rfl, hi, rfl, hbr⟩ := hrel
          have hcr := (hbr.cell (p := ⟨w.heap.size, 3, none⟩) hlt1).trans e3
          have hbw := hb1.trans (hbr.mono hb1.size)
          have hend : ∀ (p q : Int), SomePair w (.returned (.tuple #[.int .i64 p, .int .i64 q])) wr := fun p q => ⟨p, q, rfl, hbw⟩
          rcases Nat.lt_or_ge i n with hlt | hge2
          · by_cases hp : 0 ≤ p
            · by_cases hq : 0 ≤ q2
              · obtain ⟨ad, hA, y0, y1, y2, y3, y4, h5, hCall⟩ := HE.out i (by have := HN.out; omega)
                obtain ⟨g0, g1, g2, g3, g4⟩ := h5.below hbw
                have HC := Lib.hid hCall
                have tp : decide (0 ≤ p) = true := decide_eq_true hp
                have tq : decide (0 ≤ q2) = true := decide_eq_true hq
                subst hA
                clear hCall h5 hend
                go_wp2_with fail
                refine (HC.out _ _ _ _ (by omega) (by omega) hbw).mono ?_
                rintro e' w3 ⟨p3, q3, rfl, hb4⟩
                have hb5 := hbr.trans (hb4.mono hbr.size)
                go_wp2_with fail
                go_roundw
                case rel => exact ⟨_, _, i + 1, rfl, rfl, by omega, by go_num, hb5⟩
                case measure => simp [intOf]; omega
              · have tp : decide (0 ≤ p) = true := decide_eq_true hp
                have tq : decide (0 ≤ q2) = false := decide_eq_false hq
                go_wp2_with fail
                go_ret2
                exact hend _ _
            · have tp : decide (0 ≤ p) = false := decide_eq_false hp
              go_wp2_with fail
              go_ret2
              exact hend _ _
          · go_wp2_with fail
            go_ret2
            exact hend _ _
set_option maxRecDepth 100000 in
theorem large_any (d : Nat) (w : World) (t : Tr) (y0 y1 y2 y3 y4 : Value) (hR : Rep d w t y0 y1 y2 y3 y4) :
    Calls Tryz.prog 24 #[.agg #[y0, y1, y2, y3, y4]] w (SomeBool w) := by
  obtain ⟨kk, nn, ss, A3, n3, e3, A4, n4, e4, rfl, rfl, rfl, rfl, rfl⟩ := rep_shape hR
  have hC := room_any d (w.alloc (.cells #[.int .i64 kk, .float .f64 nn, .string ss, .slice A3 n3 e3, .slice A4 n4 e4] 27)) t _ _ _ _ _ 65536 1048576 10000 (by decide) (by decide) (hR.below ((Below.refl _ _).alloc (Nat.le_refl _) _))
  have HC := Lib.hid hC
  clear hC hR
  go_enter Tryz.func24, Tryz.ntmps24
  go_wp2_with fail
  refine HC.out.mono ?_
  rintro e' w2 ⟨p, q, rfl, hb2⟩
  have hb3 := ((Below.refl w.heap.size w).alloc (Nat.le_refl _) (.cells #[.int .i64 kk, .float .f64 nn, .string ss, .slice A3 n3 e3, .slice A4 n4 e4] 27)).trans (hb2.mono (by simp))
  by_cases hp : p < 0
  · have tp : decide (p < 0) = true := decide_eq_true hp
    go_wp2_with fail
    go_ret
    exact ⟨_, rfl, hb3⟩
  · have tp : decide (p < 0) = false := decide_eq_false hp
    go_wp2_with fail
    go_ret
    exact ⟨_, rfl, hb3⟩
/- colanderlaw05.PrinterBlanks, walked. -/
/-- What a tree that is right gives. -/
theorem right_parts {m : Nat} {k : Int} {num : Nat} {str : Txt} {keys : List Txt} {list : List Tr} (h : rightT (m + 1) (.mk k num str keys list) = true) :
    (0 ≤ k ∧ k ≤ 6) ∧ (k = 3 ∨ num = 0) ∧ (k = 4 ∨ str = []) ∧ (5 ≤ k ∨ list = []) ∧ (k = 6 → keys.length = list.length) ∧ (k = 6 ∨ keys = []) ∧ validB ⟨str.toArray⟩ = true ∧ keysT keys = true ∧ ∀ i (hi : i < list.length), rightT m list[i] = true := by
  rw [rightT] at h
  split at h
  · cases h
  rename_i h1
  split at h
  · cases h
  rename_i h2
  split at h
  · cases h
  rename_i h3
  split at h
  · cases h
  rename_i h4
  split at h
  · cases h
  rename_i h5
  split at h
  · cases h
  rename_i h6
  split at h
  · cases h
  rename_i h7
  split at h
  · cases h
  rename_i h8
  refine ⟨by omega, ?_, ?_, ?_, ?_, ?_, ?_, ?_, fun i hi => ?_⟩
  · by_cases e : k = 3
    · exact .inl e
    · exact .inr (Decidable.byContradiction fun e2 => h2 ⟨e, e2⟩)
  · by_cases e : k = 4
    · exact .inl e
    · exact .inr (Decidable.byContradiction fun e2 => h3 ⟨e, e2⟩)
  · by_cases e : k < 5
    · cases list with
      | nil => exact .inr rfl
      | cons a l => exact absurd ⟨e, by simp⟩ h4
    · exact .inl (by omega)
  · intro e
    exact Decidable.byContradiction fun e2 => h5 ⟨e, e2⟩
  · by_cases e : k = 6
    · exact .inl e
    · exact .inr (Decidable.byContradiction fun e2 => h6 ⟨e, e2⟩)
  · cases hv : validB ⟨str.toArray⟩ with
    | true => rfl
    | false => exact absurd hv h7
  · cases hv : keysT keys with
    | true => rfl
    | false => exact absurd hv h8
  · exact List.all_eq_true.1 h _ (List.getElem_mem hi)
theorem right_okp : ∀ (d m : Nat) (w : World) (t : Tr) (x0 x1 x2 x3 x4 : Value), rightT m t = true → Rep d w t x0 x1 x2 x3 x4 → Okp d t
  | 0, _, _, _, _, _, _, _, _, _, h => h.elim
  | d + 1, 0, _, .mk _ _ _ _ _, _, _, _, _, _, h, _ => by cases h
  | d + 1, m + 1, w, .mk k num str keys list, x0, x1, x2, x3, x4, h, hR => by
    obtain ⟨hk, _, _, _, h6, _, _, _, hl⟩ := right_parts h
    obtain ⟨_, _, _, _, _, _, _, A, c, A2, c2, _, _, hL, _⟩ := hR
    refine ⟨hk.1, hk.2, h6, fun i hi => ?_⟩
    obtain ⟨ad, _, y0, y1, y2, y3, y4, _, hRi⟩ := hL i hi
    exact right_okp d m w list[i] y0 y1 y2 y3 y4 (hl i hi) hRi
def Room16 (f : St → St) : Prop := ∀ st : St, st.1.length ≤ 16777216 → (f st).1.length ≤ 16777216
theorem fits_tok (S : Sty) (l c : List UInt8) : Room16 (fun st => tokS S st l c) := fun st h => by unfold tokS; exact putS_length st _ h
theorem fits_line (S : Sty) (n : Nat) : Room16 (fun st => lineS S st n) := fun st h => by
  unfold lineS
  split
  · exact putS_length st _ h
  · exact h
theorem fits_loop (S : Sty) (lvl : Nat) (part : Nat → St → St) (hp : ∀ i, Room16 (part i)) : ∀ (m i : Nat), Room16 (fun st => loopS S lvl part m i st)
  | 0, _ => fun st h => h
  | m + 1, i => fun st h => by
    show (loopS S lvl part (m + 1) i st).1.length ≤ 16777216
    rw [loopS]
    split
    · exact h
    · refine fits_loop S lvl part hp m (i + 1) _ (hp i _ (fits_line S (lvl + 1) _ ?_))
      split
      · exact fits_tok S [44] sgn st h
      · exact h
theorem fits_many (S : Sty) (lvl : Nat) (part : Nat → St → St) (hp : ∀ i, Room16 (part i)) (op cl : List UInt8) (n : Nat) : Room16 (fun st => manyS S lvl part op cl n st) := fun st h => by
  show (manyS S lvl part op cl n st).1.length ≤ 16777216
  unfold manyS
  refine fits_tok S cl sgn _ ?_
  have hl := fits_loop S lvl part hp n 0 _ (fits_tok S op sgn st h)
  split
  · exact fits_line S lvl _ hl
  · exact hl
theorem fits_key (S : Sty) (key : List UInt8) : Room16 (fun st => keyS S st key) := fun st h => by
  show (keyS S st key).1.length ≤ 16777216
  have h1 := fits_tok S [58] sgn _ (fits_tok S (escT key S.asc) [51, 52, 59, 49] st h)
  unfold keyS
  split
  · exact putS_length _ _ h1
  · exact h1
theorem fits_pv (S : Sty) : ∀ (d : Nat) (t : Tr) (lvl : Nat), Room16 (fun st => pv S d t lvl st)
  | 0, _, _ => fun st h => h
  | d + 1, .mk k num str keys list, lvl => fun st h => by
    show (pv S (d + 1) (.mk k num str keys list) lvl st).1.length ≤ 16777216
    rw [pv]
    split
    · exact fits_many S lvl _ (fun i => fits_pv S d _ _) _ _ _ st h
    · split
      · exact fits_many S lvl _ (fun i st' h' => fits_pv S d _ _ _ (fits_key S _ st' h')) _ _ _ st h
      · exact fits_tok S _ _ st h
/-- What Print answers where neither colours nor ASCII are asked: an error, or a text that is tight in one way. -/
theorem print_tight (n : Int) (tab : Bool) (w : World) (d : Nat) (hd : d ≤ 800000) (t : Tr) (kk : Int) (nn : Nat) (ss : ByteArray) (A3 A4 : Option Addr) (n3 e3 n4 e4 : Nat) (hR : Rep (d + 1) w t (.int .i64 kk) (.float .f64 nn) (.string ss) (.slice A3 n3 e3) (.slice A4 n4 e4)) (hO : Okp (d + 1) t) :
    ∃ (a : Txt) (ea : Int), (∀ W, Below w.heap.size w W → Tabs W → Calls Tryz.prog 16 #[.agg #[.int .i64 kk, .float .f64 nn, .string ss, .slice A3 n3 e3, .slice A4 n4 e4], .agg #[.int .i64 n, .bool tab, .bool false, .bool false, .bool false]] W fun e w' => e = .returned (.tuple #[.string ⟨a.toArray⟩, .int .i64 ea]) ∧ Below W.heap.size W w') ∧
      (ea = 0 → tightL 0 a = ttl (d + 1) t ∧ a.length ≤ 16777216) := by
  by_cases hn : n < 0 ∨ 7 < n
  · exact ⟨[], 2, fun W _ _ => print_bad W n hn tab false false false kk nn ss A3 A4 n3 e3 n4 e4, fun h => by cases h⟩
  · obtain ⟨m, rfl⟩ : ∃ m : Nat, n = (m : Int) := ⟨n.toNat, by omega⟩
    have hP := fun W (hb : Below w.heap.size w W) (hT : Tabs W) => print_any { ind := m, tab := tab, srt := false, asc := false, col := false } (by show m ≤ 7; omega) rfl W hT d hd t _ _ _ _ _ (hR.below hb) hO
    have hF := tight_print (S := { ind := m, tab := tab, srt := false, asc := false, col := false }) rfl rfl (d + 1) t
    have hL := fits_pv { ind := m, tab := tab, srt := false, asc := false, col := false } (d + 1) t 0 ([], false) (by simp)
    cases hr : (printS { ind := m, tab := tab, srt := false, asc := false, col := false } (d + 1) t).2 with
    | true =>
      refine ⟨[], 171, fun W hb hT => ?_, fun h => by cases h⟩
      have := hP W hb hT
      unfold printV at this
      rw [if_pos hr] at this
      exact this
    | false =>
      refine ⟨(printS { ind := m, tab := tab, srt := false, asc := false, col := false } (d + 1) t).1, 0, fun W hb hT => ?_, fun _ => ⟨hF hr, hL⟩⟩
      have := hP W hb hT
      unfold printV at this
      rw [if_neg (by rw [hr]; decide)] at this
      exact this
/- colanderlaw05.PrinterBlanks, walked to its end. -/
set_option maxHeartbeats 4000000 in
set_option maxRecDepth 100000 in
theorem blanks_walk (w : World) (TW : Tabs w) (n : Int) (tab : Bool) (d : Nat) (hd : d ≤ 700000) (t : Tr) (y0 y1 y2 y3 y4 : Value) (hR : Rep d w t y0 y1 y2 y3 y4) :
    Calls Tryz.prog 6 #[.agg #[y0, y1, y2, y3, y4], .int .i64 n, .bool tab] w fun e w' => e = .returned (.bool true) ∧ Below w.heap.size w w' := by
  cases d with
  | zero => exact hR.elim
  | succ d =>
  obtain ⟨kk, nn, ss, A3, n3, e3, A4, n4, e4, rfl, rfl, rfl, rfl, rfl⟩ := rep_shape hR
  have HR : Hid (∀ W, Below w.heap.size w W → Calls Tryz.prog 13 #[.agg #[.int .i64 kk, .float .f64 nn, .string ss, .slice A3 n3 e3, .slice A4 n4 e4]] W fun e w' => e = .returned (.bool (rightT 10000 t)) ∧ Below W.heap.size W w') := Lib.hid (fun W hb => right_any2 (d + 1) W t _ _ _ _ _ (hR.below hb))
  have HL : Hid (∀ W, Below w.heap.size w W → Calls Tryz.prog 24 #[.agg #[.int .i64 kk, .float .f64 nn, .string ss, .slice A3 n3 e3, .slice A4 n4 e4]] W (SomeBool W)) := Lib.hid (fun W hb => large_any (d + 1) W t _ _ _ _ _ (hR.below hb))
  have HT : Hid (∀ W, Below w.heap.size w W → Tabs W) := Lib.hid (fun W hb => TW.next hb)
  have HH : Hid (∀ W, Below w.heap.size w W → Calls Tryz.prog 14 #[] W fun e w' => e = .returned (.bool true) ∧ Below W.heap.size W w') := Lib.hid (fun W hb => heads_any W (TW.next hb))
  obtain ⟨W1, hW1⟩ : ∃ W1, W1 = w.alloc (.cells #[.int .i64 kk, .float .f64 nn, .string ss, .slice A3 n3 e3, .slice A4 n4 e4] 27) := ⟨_, rfl⟩
  obtain ⟨hb1, e0, e1, e2, e3', e4'⟩ := after_new _ _ _ _ _ _ _ _ hW1
  have HW := Lib.hid hW1
  have K : Hid (∀ W, Below W1.heap.size W1 W → W.cell? ⟨w.heap.size, 0, none⟩ = some (.int .i64 kk) ∧ W.cell? ⟨w.heap.size, 1, none⟩ = some (.float .f64 nn) ∧ W.cell? ⟨w.heap.size, 2, none⟩ = some (.string ss) ∧ W.cell? ⟨w.heap.size, 3, none⟩ = some (.slice A3 n3 e3) ∧ W.cell? ⟨w.heap.size, 4, none⟩ = some (.slice A4 n4 e4)) := Lib.hid (fun W hb => by
    have hlt := World.block_lt_of_cell? W1 _ e0
    exact ⟨(hb.cell (p := ⟨w.heap.size, 0, none⟩) hlt).trans e0, (hb.cell (p := ⟨w.heap.size, 1, none⟩) hlt).trans e1, (hb.cell (p := ⟨w.heap.size, 2, none⟩) hlt).trans e2, (hb.cell (p := ⟨w.heap.size, 3, none⟩) hlt).trans e3', (hb.cell (p := ⟨w.heap.size, 4, none⟩) hlt).trans e4'⟩)
  have hO := fun h => right_okp (d + 1) 10000 w t _ _ _ _ _ h hR
  have hP1 := fun h => print_tight n tab w d (by omega) t kk nn ss A3 A4 n3 e3 n4 e4 hR (hO h)
  have hP2 := fun h => print_tight 0 false w d (by omega) t kk nn ss A3 A4 n3 e3 n4 e4 hR (hO h)
  obtain ⟨r, hr⟩ : ∃ r, r = rightT 10000 t := ⟨_, rfl⟩
  rw [← hr] at HR hP1 hP2
  clear hO hr hR hW1 e0 e1 e2 e3' e4' TW hd
  go_enter Tryz.func6, Tryz.ntmps6
  go_upto_region 1 with fail
  rw [← HW.out]
  clear HW
  obtain ⟨q0, q1, q2, q3, q4⟩ := K.out W1 (Below.refl _ _)
  go_wp2_with fail
  refine (HR.out _ hb1).mono ?_
  rintro e' w2 ⟨rfl, hb2⟩
  have hw2 := hb1.trans (hb2.mono hb1.size)
  clear q0 q1 q2 q3 q4 HR
  cases r with
  | false =>
    clear hP1 hP2
    go_wp2_with fail
    refine (HH.out _ hw2).mono ?_
    rintro e' w3 ⟨rfl, hb3⟩
    have hw3 := hw2.trans (hb3.mono hw2.size)
    go_wp2_with fail
    go_ret
    exact ⟨rfl, hw3⟩
  | true =>
    obtain ⟨a, ea, hPa, hta⟩ := hP1 rfl
    obtain ⟨b, eb, hPb, htb⟩ := hP2 rfl
    have HPa := Lib.hid hPa
    have HPb := Lib.hid hPb
    clear hP1 hP2 hPa hPb
    obtain ⟨q0, q1, q2, q3, q4⟩ := K.out w2 hb2
    go_wp2_with fail
    refine (HL.out _ hw2).mono ?_
    rintro e' w3 ⟨lg, rfl, hb3⟩
    have hw3 := hw2.trans (hb3.mono hw2.size)
    have hb3 := hb2.trans (hb3.mono hb2.size)
    clear q0 q1 q2 q3 q4 HL hb2 hw2
    cases lg with
    | true =>
      clear hta htb
      go_wp2_with fail
      refine (HH.out _ hw3).mono ?_
      rintro e' w4 ⟨rfl, hb4⟩
      have hw4 := hw3.trans (hb4.mono hw3.size)
      go_wp2_with fail
      go_ret
      exact ⟨rfl, hw4⟩
    | false =>
      obtain ⟨q0, q1, q2, q3, q4⟩ := K.out w3 hb3
      go_wp2_with fail
      refine (HPa.out _ hw3 (HT.out _ hw3)).mono ?_
      rintro e' w4 ⟨rfl, hb4⟩
      have hw4 := hw3.trans (hb4.mono hw3.size)
      have hb4 := hb3.trans (hb4.mono hb3.size)
      clear q0 q1 q2 q3 q4 hb3 hw3
      obtain ⟨q0, q1, q2, q3, q4⟩ := K.out w4 hb4
      go_wp2_with fail
      refine (HPb.out _ hw4 (HT.out _ hw4)).mono ?_
      rintro e' w5 ⟨rfl, hb5⟩
      have hw5 := hw4.trans (hb5.mono hw4.size)
      clear q0 q1 q2 q3 q4 hb4 hw4 hb5 HPa HPb K
      by_cases ha : ea = 0
      · by_cases hb : eb = 0
        · subst ha
          subst hb
          obtain ⟨ta, la⟩ := hta rfl
          obtain ⟨tb, lb⟩ := htb rfl
          have HA := fun W => tight_any W a (by omega)
          have HB := fun W => tight_any W b (by omega)
          rw [ta] at HA
          rw [tb] at HB
          obtain ⟨E, hE⟩ : ∃ E, E = ttl (d + 1) t := ⟨_, rfl⟩
          rw [← hE] at HA HB
          have HA := Lib.hid HA
          have HB := Lib.hid HB
          clear hta htb ta tb la lb hE
          go_wp2_with fail
          refine (HA.out _).mono ?_
          rintro e' w6 ⟨rfl, hb6⟩
          have hw6 := hw5.trans (hb6.mono hw5.size)
          clear hb6
          go_wp2_with fail
          refine (HB.out _).mono ?_
          rintro e' w7 ⟨rfl, hb7⟩
          have hw7 := hw6.trans (hb7.mono hw6.size)
          clear hb7
          go_wp2_with fail
          refine (HH.out _ hw7).mono ?_
          rintro e' w8 ⟨rfl, hb8⟩
          have hw8 := hw7.trans (hb8.mono hw7.size)
          go_wp2_with fail
          go_ret
          exact ⟨rfl, hw8⟩
        · subst ha
          have t1 : (eb == 0) = false := by rw [beq_eq_false_iff_ne]; exact hb
          have t2 : (eb != 0) = true := by rw [bne_iff_ne]; exact hb
          clear hta htb hb
          go_wp2_with fail
          refine (HH.out _ hw5).mono ?_
          rintro e' w8 ⟨rfl, hb8⟩
          have hw8 := hw5.trans (hb8.mono hw5.size)
          go_wp2_with fail
          go_ret
          exact ⟨rfl, hw8⟩
      · have t1 : (ea == 0) = false := by rw [beq_eq_false_iff_ne]; exact ha
        have t2 : (ea != 0) = true := by rw [bne_iff_ne]; exact ha
        clear hta htb ha
        go_wp2_with fail
        refine (HH.out _ hw5).mono ?_
        rintro e' w8 ⟨rfl, hb8⟩
        have hw8 := hw5.trans (hb8.mono hw5.size)
        go_wp2_with fail
        go_ret
        exact ⟨rfl, hw8⟩
end Go.Proofs.YtopecjnmeeejhaaGreatDoor
