/- What a tree's text is, whatever the room for it; what the printer makes of it. -/
import Derived.Test.YticaihfcnbehpaaGreatDoorVap
set_option linter.unusedVariables false
set_option linter.unusedSimpArgs false
namespace Go.Proofs.YticaihfcnbehpaaGreatDoor
open Go Go.RowKit Go.Proofs
/-- o is put onto a sheet: it is there, or the sheet is full. -/
def Fr (st st' : St) (o : List UInt8) : Prop :=
  (st.2 = true → st'.2 = true) ∧ (st.2 = false → (st.1.length + o.length ≤ 16777216 → st' = (st.1 ++ o, false)) ∧ (16777216 < st.1.length + o.length → st'.2 = true))
theorem Fr.refl (st : St) (h : st.2 = true ∨ st.1.length ≤ 16777216) : Fr st st [] := by
  refine ⟨fun h => h, fun h0 => ⟨fun _ => by rw [List.append_nil, ← h0], fun hl => ?_⟩⟩
  rcases h with h | h
  · exact h
  · rw [List.length_nil] at hl; omega
theorem Fr.trans {a b c : St} {x y : List UInt8} (h : Fr a b x) (k : Fr b c y) : Fr a c (x ++ y) := by
  refine ⟨fun e => k.1 (h.1 e), fun e => ⟨fun hl => ?_, fun hl => ?_⟩⟩
  · rw [List.length_append] at hl
    have hb := (h.2 e).1 (by omega)
    subst hb
    have := (k.2 rfl).1 (by rw [List.length_append]; omega)
    rw [this, List.append_assoc]
  · rw [List.length_append] at hl
    by_cases hx : a.1.length + x.length ≤ 16777216
    · have hb := (h.2 e).1 hx
      subst hb
      exact (k.2 rfl).2 (by rw [List.length_append]; omega)
    · exact k.1 ((h.2 e).2 (by omega))
/-- A full sheet stays so. -/
theorem Fr.more {a b : St} {x : List UInt8} (h : Fr a b x) (hb : b.2 = true) (y : List UInt8) : Fr a b (x ++ y) := by
  refine ⟨fun _ => hb, fun e => ⟨fun hl => ?_, fun _ => hb⟩⟩
  rw [List.length_append] at hl
  have := (h.2 e).1 (by omega)
  rw [this] at hb; cases hb
theorem fr_put (st : St) (s : List UInt8) : Fr st (putS st s) s := by
  unfold putS
  refine ⟨fun h => by rw [if_pos (.inl h)], fun h => ⟨fun hl => ?_, fun hl => by rw [if_pos (.inr hl)]⟩⟩
  rw [if_neg (by rw [h]; simp; omega)]
def ltx (S : Sty) (n : Nat) : List UInt8 := if S.loose = true then 10 :: (if S.tab = true then List.replicate n 9 else List.replicate (S.ind * n) 32) else []
theorem fr_line (S : Sty) (st : St) (n : Nat) (h : st.2 = true ∨ st.1.length ≤ 16777216) : Fr st (lineS S st n) (ltx S n) := by
  unfold lineS ltx
  split
  · exact fr_put _ _
  · exact Fr.refl st h
theorem fr_tok (S : Sty) (st : St) (s c : List UInt8) : Fr st (tokS S st s c) (tokT S s c) := fr_put _ _
/-- Room, or full. -/
abbrev Okm (st : St) : Prop := st.1.length ≤ 16777216
theorem okm_put (st : St) (s : List UInt8) (h : Okm st) : Okm (putS st s) := putS_length st s h
theorem okm_tok (S : Sty) (st : St) (s c : List UInt8) (h : Okm st) : Okm (tokS S st s c) := putS_length st _ h
theorem okm_line (S : Sty) (st : St) (n : Nat) (h : Okm st) : Okm (lineS S st n) := by
  unfold lineS
  split
  · exact putS_length st _ h
  · exact h
def jtx (S : Sty) (lvl : Nat) (f : Nat → List UInt8) : Nat → Nat → List UInt8
  | 0, _ => []
  | m + 1, i => ((if 0 < i then tokT S [44] sgn else []) ++ ltx S (lvl + 1) ++ f i) ++ jtx S lvl f m (i + 1)
/-- A part of a printer puts o onto a sheet. -/
def Puts (f : St → St) (o : List UInt8) : Prop := ∀ st, Okm st → Okm (f st) ∧ Fr st (f st) o
theorem Puts.comp {f g : St → St} {a b : List UInt8} (hf : Puts f a) (hg : Puts g b) : Puts (fun st => g (f st)) (a ++ b) := fun st h =>
  ⟨(hg _ (hf st h).1).1, (hf st h).2.trans (hg _ (hf st h).1).2⟩
theorem puts_tok (S : Sty) (s c : List UInt8) : Puts (fun st => tokS S st s c) (tokT S s c) := fun st h => ⟨okm_tok S st s c h, fr_tok S st s c⟩
theorem puts_line (S : Sty) (n : Nat) : Puts (fun st => lineS S st n) (ltx S n) := fun st h => ⟨okm_line S st n h, fr_line S st n (.inr h)⟩
theorem puts_loop (S : Sty) (lvl n : Nat) (part : Nat → St → St) (f : Nat → List UInt8) (hp : ∀ i, i < n → Puts (part i) (f i)) : ∀ (m i : Nat), i + m ≤ n → Puts (fun st => loopS S lvl part m i st) (jtx S lvl f m i)
  | 0, i, _ => fun st h => ⟨h, Fr.refl st (.inr h)⟩
  | m + 1, i, hi => fun st h => by
    have ih := puts_loop S lvl n part f hp m (i + 1) (by omega)
    show Okm (loopS S lvl part (m + 1) i st) ∧ Fr st (loopS S lvl part (m + 1) i st) _
    rw [loopS]
    by_cases hs : st.2 = true
    · rw [if_pos hs]
      have := (Fr.refl st (.inr h)).more hs (jtx S lvl f (m + 1) i)
      rw [List.nil_append] at this
      exact ⟨h, this⟩
    · rw [if_neg hs]
      have hA : Puts (fun st => lineS S (if 0 < i then tokS S st [44] sgn else st) (lvl + 1)) ((if 0 < i then tokT S [44] sgn else []) ++ ltx S (lvl + 1)) := by
        by_cases hi : 0 < i
        · rw [if_pos hi]
          have e : (fun st => lineS S (if 0 < i then tokS S st [44] sgn else st) (lvl + 1)) = fun st => lineS S (tokS S st [44] sgn) (lvl + 1) := by funext st; rw [if_pos hi]
          rw [e]
          exact (puts_tok S [44] sgn).comp (puts_line S (lvl + 1))
        · rw [if_neg hi]
          have e : (fun st => lineS S (if 0 < i then tokS S st [44] sgn else st) (lvl + 1)) = fun st => lineS S st (lvl + 1) := by funext st; rw [if_neg hi]
          rw [e]; exact puts_line S (lvl + 1)
      exact ((hA.comp (hp i (by omega))).comp ih) st h
/-- The text of a row of n parts. -/
def mtx (S : Sty) (lvl : Nat) (f : Nat → List UInt8) (op cl : List UInt8) (n : Nat) : List UInt8 :=
  (tokT S op sgn ++ jtx S lvl f n 0) ++ (if 0 < n then ltx S lvl else []) ++ tokT S cl sgn
theorem puts_many (S : Sty) (lvl n : Nat) (part : Nat → St → St) (f : Nat → List UInt8) (hp : ∀ i, i < n → Puts (part i) (f i)) (op cl : List UInt8) : Puts (fun st => manyS S lvl part op cl n st) (mtx S lvl f op cl n) := by
  have h1 := (puts_tok S op sgn).comp (puts_loop S lvl n part f hp n 0 (by omega))
  unfold mtx
  by_cases hn : 0 < n
  · have e : (fun st => manyS S lvl part op cl n st) = fun st => tokS S (lineS S (loopS S lvl part n 0 (tokS S st op sgn)) lvl) cl sgn := by funext st; unfold manyS; rw [if_pos hn]
    rw [e, if_pos hn]
    exact (h1.comp (puts_line S lvl)).comp (puts_tok S cl sgn)
  · have e : (fun st => manyS S lvl part op cl n st) = fun st => tokS S (loopS S lvl part n 0 (tokS S st op sgn)) cl sgn := by funext st; unfold manyS; rw [if_neg hn]
    rw [e, if_neg hn, List.append_nil]
    exact h1.comp (puts_tok S cl sgn)
def ktx (S : Sty) (key : List UInt8) : List UInt8 := (tokT S (escT key S.asc) [51, 52, 59, 49] ++ tokT S [58] sgn) ++ (if S.loose = true then [32] else [])
theorem puts_key (S : Sty) (key : List UInt8) : Puts (fun st => keyS S st key) (ktx S key) := by
  have h1 := (puts_tok S (escT key S.asc) [51, 52, 59, 49]).comp (puts_tok S [58] sgn)
  unfold ktx
  by_cases hl : S.loose = true
  · have e : (fun st => keyS S st key) = fun st => putS (tokS S (tokS S st (escT key S.asc) [51, 52, 59, 49]) [58] sgn) [32] := by
      funext st; unfold keyS; rw [if_pos hl]
    rw [e, if_pos hl]
    exact h1.comp (fun st h => ⟨okm_put st _ h, fr_put st _⟩)
  · have e : (fun st => keyS S st key) = fun st => tokS S (tokS S st (escT key S.asc) [51, 52, 59, 49]) [58] sgn := by
      funext st; unfold keyS; rw [if_neg hl]
    rw [e, if_neg hl, List.append_nil]
    exact h1
/-- A tree's text. -/
def ftx (S : Sty) : Nat → Tr → Nat → List UInt8
  | 0, _, _ => []
  | d + 1, .mk k num str keys list, lvl =>
    if k = 5 then mtx S lvl (fun i => ftx S d (list.getD i default) (lvl + 1)) [91] [93] list.length
    else if k = 6 then mtx S lvl (fun i => ktx S (keys.getD i []) ++ ftx S d (list.getD i default) (lvl + 1)) [123] [125] keys.length
    else tokT S (if k = 4 then escT str S.asc else plainT k.toNat num str) (colT k.toNat)
theorem puts_pv (S : Sty) : ∀ (d : Nat) (t : Tr) (lvl : Nat), Puts (fun st => pv S d t lvl st) (ftx S d t lvl)
  | 0, _, _ => fun st h => ⟨h, Fr.refl st (.inr h)⟩
  | d + 1, .mk k num str keys list, lvl => by
    have ih := fun i => puts_pv S d (list.getD i default) (lvl + 1)
    by_cases h5 : k = 5
    · have e : (fun st => pv S (d + 1) (.mk k num str keys list) lvl st) = fun st => manyS S lvl (fun i st => pv S d (list.getD i default) (lvl + 1) st) [91] [93] list.length st := by funext st; rw [pv, if_pos h5]
      rw [e, ftx, if_pos h5]
      exact puts_many S lvl _ _ _ (fun i _ => ih i) _ _
    · by_cases h6 : k = 6
      · have e : (fun st => pv S (d + 1) (.mk k num str keys list) lvl st) = fun st => manyS S lvl (fun i st => pv S d (list.getD i default) (lvl + 1) (keyS S st (keys.getD i []))) [123] [125] keys.length st := by funext st; rw [pv, if_neg h5, if_pos h6]
        rw [e, ftx, if_neg h5, if_pos h6]
        exact puts_many S lvl _ _ _ (fun i _ => (puts_key S (keys.getD i [])).comp (ih i)) _ _
      · have e : (fun st => pv S (d + 1) (.mk k num str keys list) lvl st) = fun st => tokS S st (if k = 4 then escT str S.asc else plainT k.toNat num str) (colT k.toNat) := by funext st; rw [pv, if_neg h5, if_neg h6]
        rw [e, ftx, if_neg h5, if_neg h6]
        exact puts_tok S _ _
/-- What Print answers, by the text alone. -/
def prV (o : List UInt8) : Value := if o.length ≤ 16777216 then .tuple #[.string ⟨o.toArray⟩, .int .i64 0] else .tuple #[.string ⟨#[]⟩, .int .i64 171]
theorem printV_fr {r : St} {o : List UInt8} (h : Fr ([], false) r o) : printV r = prV o := by
  unfold printV prV
  by_cases hl : o.length ≤ 16777216
  · have := (h.2 rfl).1 (by simpa using hl)
    rw [if_pos hl, this, if_neg (by simp)]
    rfl
  · have := (h.2 rfl).2 (by simp; omega)
    rw [if_neg hl, if_pos this]
theorem printS_tx (S : Sty) (d : Nat) (t : Tr) : printV (printS S d t) = prV (ftx S d t 0) := printV_fr (puts_pv S d t 0 ([], false) (by simp)).2
end Go.Proofs.YticaihfcnbehpaaGreatDoor
