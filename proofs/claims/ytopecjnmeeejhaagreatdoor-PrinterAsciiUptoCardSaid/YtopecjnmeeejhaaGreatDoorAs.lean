/- In one text: Colours, plain: what a printed text is without them; in ASCII there is nothing else.; colanderlaw05.bare, walked.; colanderlaw05.PrinterAscii, walked. -/
import Derived.Test.YtopecjnmeeejhaaGreatDoorPrt
import Derived.Test.YtopecjnmeeejhaaGreatDoorRes
import Derived.Test.YtopecjnmeeejhaaGreatDoorSos
import Derived.Test.YtopecjnmeeejhaaGreatDoorSw
import Derived.Test.YtopecjnmeeejhaaGreatDoorBlz
import Derived.LoopTactic
set_option linter.unusedVariables false
set_option linter.unusedSimpArgs false
/- Colours, plain: what a printed text is without them; in ASCII there is nothing else. -/
namespace Go.Proofs.YtopecjnmeeejhaaGreatDoor
open Go Go.RowKit Go.Proofs
/-- A text without colours. true: within a colour, up to its m. -/
def bareL : Bool → List UInt8 → List UInt8
  | _, [] => []
  | true, c :: s => if c = 109 then bareL false s else bareL true s
  | false, c :: s => if c = 27 then bareL true s else c :: bareL false s
def BN (l o : List UInt8) : Prop := ∀ s, bareL false (l ++ s) = o ++ bareL false s
theorem BN.nil : BN [] [] := fun _ => rfl
theorem BN.append {a b x y : List UInt8} (h : BN a x) (k : BN b y) : BN (a ++ b) (x ++ y) := fun s => by rw [List.append_assoc, h, k, List.append_assoc]
theorem BN.bare {l o : List UInt8} (h : BN l o) : bareL false l = o := by
  have := h []
  rw [List.append_nil] at this
  rw [this]; show o ++ [] = o; rw [List.append_nil]
/-- ASCII, and no escape. -/
abbrev Ac (c : UInt8) : Prop := c.toNat ≤ 126 ∧ c ≠ 27
def Asc (l : List UInt8) : Prop := ∀ c ∈ l, Ac c
def Lo (l : List UInt8) : Prop := ∀ c ∈ l, c.toNat ≤ 126
theorem Asc.append {a b : List UInt8} (h : Asc a) (k : Asc b) : Asc (a ++ b) := fun x hx => (List.mem_append.1 hx).elim (h x) (k x)
theorem Lo.append {a b : List UInt8} (h : Lo a) (k : Lo b) : Lo (a ++ b) := fun x hx => (List.mem_append.1 hx).elim (h x) (k x)
theorem Asc.lo {l : List UInt8} (h : Asc l) : Lo l := fun x hx => (h x hx).1
theorem bn_asc : ∀ (l : List UInt8), Asc l → BN l l
  | [], _ => BN.nil
  | c :: l, h => fun s => by
    have ih := bn_asc l (fun x hx => h x (List.mem_cons_of_mem _ hx)) s
    show bareL false (c :: (l ++ s)) = c :: (l ++ bareL false s)
    rw [bareL, if_neg (h c (List.mem_cons_self ..)).2, ih]
theorem bare_skip : ∀ (c : List UInt8), (∀ x ∈ c, x ≠ 109) → ∀ s, bareL true (c ++ 109 :: s) = bareL false s
  | [], _, s => by show bareL true (109 :: s) = _; rw [bareL, if_pos rfl]
  | x :: c, h, s => by
    show bareL true (x :: (c ++ 109 :: s)) = _
    rw [bareL, if_neg (h x (List.mem_cons_self ..))]
    exact bare_skip c (fun y hy => h y (List.mem_cons_of_mem _ hy)) s
theorem bn_col (c : List UInt8) (h : ∀ x ∈ c, x ≠ 109) : BN (27 :: 91 :: (c ++ [109])) [] := fun s => by
  show bareL false (27 :: 91 :: (c ++ [109] ++ s)) = bareL false s
  rw [bareL, if_pos rfl, bareL, if_neg (by decide), List.append_assoc]
  exact bare_skip c h s
/-- A colour's text. -/
def Cc (c : List UInt8) : Prop := ∀ x ∈ c, x ≠ 109 ∧ x.toNat ≤ 126
theorem cc_sgn : Cc sgn := by unfold Cc sgn; decide
theorem cc_key : Cc [51, 52, 59, 49] := by unfold Cc; decide
theorem cc_col (k : Nat) : Cc (colT k) := by
  unfold colT
  repeat' split
  all_goals (unfold Cc; decide)
theorem bn_tok (S : Sty) {s c : List UInt8} (hs : Asc s) (hc : Cc c) : BN (tokT S s c) s := by
  unfold tokT
  split
  · have h1 : BN ([27, 91] ++ c ++ [109]) [] := bn_col c fun x hx => (hc x hx).1
    have h2 : BN [27, 91, 48, 109] [] := bn_col [48] (by decide)
    have h3 := (h1.append (bn_asc s hs)).append h2
    rw [List.nil_append, List.append_nil] at h3
    exact h3
  · exact bn_asc s hs
theorem lo_tok (S : Sty) {s c : List UInt8} (hs : Asc s) (hc : Cc c) : Lo (tokT S s c) := by
  unfold tokT
  split
  · have h1 : Lo [27, 91] := by unfold Lo; decide
    have h2 : Lo [109] := by unfold Lo; decide
    have h3 : Lo [27, 91, 48, 109] := by unfold Lo; decide
    have h4 : Lo c := fun x hx => (hc x hx).2
    exact (((h1.append h4).append h2).append hs.lo).append h3
  · exact hs.lo
/-- What a part adds to a sheet: nothing above 126; o without colours, if the sheet is not full in the end. -/
def AddB (f : St → St) (o : List UInt8) : Prop := ∀ st : St, (Lo st.1 → Lo (f st).1) ∧ ((f st).2 = false → st.2 = false ∧ ∃ l, (f st).1 = st.1 ++ l ∧ BN l o)
theorem AddB.comp {f g : St → St} {a b : List UInt8} (hf : AddB f a) (hg : AddB g b) : AddB (fun st => g (f st)) (a ++ b) := fun st =>
  ⟨fun h => (hg (f st)).1 ((hf st).1 h), fun h => by
    obtain ⟨h1, l1, e1, n1⟩ := (hg (f st)).2 h
    obtain ⟨h2, l2, e2, n2⟩ := (hf st).2 h1
    exact ⟨h2, l2 ++ l1, by rw [e1, e2, List.append_assoc], n2.append n1⟩⟩
theorem addB_id : AddB (fun st => st) [] := fun st => ⟨fun h => h, fun h => ⟨h, [], by rw [List.append_nil], BN.nil⟩⟩
theorem addB_put {l o : List UInt8} (h : BN l o) (k : Lo l) : AddB (fun st => putS st l) o := fun st => by
  show (Lo st.1 → Lo (putS st l).1) ∧ ((putS st l).2 = false → st.2 = false ∧ ∃ l', (putS st l).1 = st.1 ++ l' ∧ BN l' o)
  unfold putS
  split
  · exact ⟨fun h => h, fun h => by cases h⟩
  · rename_i hn
    refine ⟨fun h => h.append k, fun _ => ⟨?_, l, rfl, h⟩⟩
    cases hs : st.2 with
    | false => rfl
    | true => exact absurd (.inl hs) hn
theorem addB_tok (S : Sty) {s c : List UInt8} (hs : Asc s) (hc : Cc c) : AddB (fun st => tokS S st s c) s := addB_put (bn_tok S hs hc) (lo_tok S hs hc)
def lineO (ind : Nat) (tab : Bool) (n : Nat) : List UInt8 := if (tab || decide (0 < ind)) = true then 10 :: (if tab = true then List.replicate n 9 else List.replicate (ind * n) 32) else []
theorem addB_line (S : Sty) (n : Nat) : AddB (fun st => lineS S st n) (lineO S.ind S.tab n) := by
  have ha : Asc (10 :: (if S.tab = true then List.replicate n 9 else List.replicate (S.ind * n) 32)) := fun c hc => by
    rcases List.mem_cons.1 hc with rfl | hc
    · decide
    · split at hc
      · rw [(List.mem_replicate.1 hc).2]; decide
      · rw [(List.mem_replicate.1 hc).2]; decide
  by_cases hl : S.loose = true
  · have e : (fun st => lineS S st n) = fun st => putS st (10 :: (if S.tab = true then List.replicate n 9 else List.replicate (S.ind * n) 32)) := by
      funext st; unfold lineS; rw [if_pos hl]
    have e2 : lineO S.ind S.tab n = 10 :: (if S.tab = true then List.replicate n 9 else List.replicate (S.ind * n) 32) := by unfold lineO; exact if_pos hl
    rw [e, e2]
    exact addB_put (bn_asc _ ha) ha.lo
  · have e : (fun st => lineS S st n) = fun st => st := by
      funext st; unfold lineS; rw [if_neg hl]
    have e2 : lineO S.ind S.tab n = [] := by unfold lineO; exact if_neg hl
    rw [e, e2]; exact addB_id
def joinO (ind : Nat) (tab : Bool) (lvl : Nat) (f : Nat → List UInt8) : Nat → Nat → List UInt8
  | 0, _ => []
  | m + 1, i => ((if 0 < i then [44] else []) ++ lineO ind tab (lvl + 1) ++ f i) ++ joinO ind tab lvl f m (i + 1)
theorem asc_one (c : UInt8) (h : Ac c) : Asc [c] := fun x hx => by rw [List.mem_singleton.1 hx]; exact h
theorem addB_loop (S : Sty) (lvl n : Nat) (part : Nat → St → St) (f : Nat → List UInt8) (hp : ∀ i, i < n → AddB (part i) (f i)) : ∀ (m i : Nat), i + m ≤ n → AddB (fun st => loopS S lvl part m i st) (joinO S.ind S.tab lvl f m i)
  | 0, i, _ => by
    have e : (fun st => loopS S lvl part 0 i st) = fun st => st := rfl
    rw [e]; exact addB_id
  | m + 1, i, hi => fun st => by
    have ih := addB_loop S lvl n part f hp m (i + 1) (by omega)
    show (Lo st.1 → Lo (loopS S lvl part (m + 1) i st).1) ∧ ((loopS S lvl part (m + 1) i st).2 = false → st.2 = false ∧ ∃ l, (loopS S lvl part (m + 1) i st).1 = st.1 ++ l ∧ BN l _)
    rw [loopS]
    by_cases hs : st.2 = true
    · rw [if_pos hs]
      exact ⟨fun h => h, fun h => by rw [hs] at h; cases h⟩
    · rw [if_neg hs]
      have hA : AddB (fun st => lineS S (if 0 < i then tokS S st [44] sgn else st) (lvl + 1)) ((if 0 < i then [44] else []) ++ lineO S.ind S.tab (lvl + 1)) := by
        by_cases hi : 0 < i
        · rw [if_pos hi]
          have e : (fun st => lineS S (if 0 < i then tokS S st [44] sgn else st) (lvl + 1)) = fun st => lineS S (tokS S st [44] sgn) (lvl + 1) := by funext st; rw [if_pos hi]
          rw [e]
          exact (addB_tok S (asc_one 44 (by decide)) cc_sgn).comp (addB_line S (lvl + 1))
        · rw [if_neg hi]
          have e : (fun st => lineS S (if 0 < i then tokS S st [44] sgn else st) (lvl + 1)) = fun st => lineS S st (lvl + 1) := by funext st; rw [if_neg hi]
          rw [e]; exact addB_line S (lvl + 1)
      exact ((hA.comp (hp i (by omega))).comp ih) st
theorem addB_many (S : Sty) (lvl n : Nat) (part : Nat → St → St) (f : Nat → List UInt8) (hp : ∀ i, i < n → AddB (part i) (f i)) (op cl : UInt8) (ho : Ac op) (hl : Ac cl) :
    AddB (fun st => manyS S lvl part [op] [cl] n st) (([op] ++ joinO S.ind S.tab lvl f n 0) ++ (if 0 < n then lineO S.ind S.tab lvl else []) ++ [cl]) := by
  have h1 := (addB_tok S (asc_one op ho) cc_sgn).comp (addB_loop S lvl n part f hp n 0 (by omega))
  by_cases hn : 0 < n
  · have e : (fun st => manyS S lvl part [op] [cl] n st) = fun st => tokS S (lineS S (loopS S lvl part n 0 (tokS S st [op] sgn)) lvl) [cl] sgn := by funext st; unfold manyS; rw [if_pos hn]
    rw [e, if_pos hn]
    exact (h1.comp (addB_line S lvl)).comp (addB_tok S (asc_one cl hl) cc_sgn)
  · have e : (fun st => manyS S lvl part [op] [cl] n st) = fun st => tokS S (loopS S lvl part n 0 (tokS S st [op] sgn)) [cl] sgn := by funext st; unfold manyS; rw [if_neg hn]
    rw [e, if_neg hn, List.append_nil]
    exact h1.comp (addB_tok S (asc_one cl hl) cc_sgn)
theorem ac_digit {c : UInt8} (h : 48 ≤ c.toNat ∧ c.toNat ≤ 57) : Ac c := by
  refine ⟨by omega, ?_⟩
  rintro rfl; revert h; decide
theorem ac_of {c : UInt8} (h : c = 48 ∨ c = 46 ∨ c = 101 ∨ c = 45 ∨ c = 43) : Ac c := by
  rcases h with rfl | rfl | rfl | rfl | rfl <;> decide
theorem ac_body {d : List UInt8} (hd : Dig d) (e : Int) : ∀ c ∈ bodyT d e, Ac c := by
  have hd' : ∀ c ∈ d, Ac c := fun c h => ac_digit (hd c h)
  have hdec : ∀ n : Nat, ∀ c ∈ Lib.decDigits n, Ac c := fun n c h => ac_digit (dig_dec n c h)
  intro c hc
  unfold bodyT at hc
  split at hc
  · unfold powT at hc
    rcases List.mem_append.1 hc with hc | hc
    · rcases List.mem_append.1 hc with hc | hc
      · exact hd' c (List.mem_of_mem_take hc)
      · split at hc
        · rcases List.mem_cons.1 hc with rfl | hc
          · exact ac_of (by simp)
          · exact hd' c (List.mem_of_mem_drop hc)
        · cases hc
    · rcases List.mem_cons.1 hc with rfl | hc
      · exact ac_of (by simp)
      · rcases List.mem_cons.1 hc with hc | hc
        · rw [hc]; split <;> exact ac_of (by simp)
        · split at hc
          · rcases List.mem_cons.1 hc with rfl | hc
            · exact ac_of (by simp)
            · exact hdec _ c hc
          · exact hdec _ c hc
  · split at hc
    · rcases List.mem_append.1 hc with hc | hc
      · exact hd' c hc
      · rw [(List.mem_replicate.1 hc).2]; exact ac_of (by simp)
    · split at hc
      · rcases List.mem_append.1 hc with hc | hc
        · exact hd' c (List.mem_of_mem_take hc)
        · rcases List.mem_cons.1 hc with rfl | hc
          · exact ac_of (by simp)
          · exact hd' c (List.mem_of_mem_drop hc)
      · rcases List.mem_cons.1 hc with rfl | hc
        · exact ac_of (by simp)
        · rcases List.mem_cons.1 hc with rfl | hc
          · exact ac_of (by simp)
          · rcases List.mem_append.1 hc with hc | hc
            · rw [(List.mem_replicate.1 hc).2]; exact ac_of (by simp)
            · exact hd' c hc
theorem asc_num (b : Nat) : Asc (numT b) := by
  intro c hc
  unfold numT at hc
  split at hc
  · simp at hc
    rcases hc with rfl | rfl | rfl <;> decide
  · rename_i hn
    rcases List.mem_append.1 hc with hc | hc
    · split at hc
      · simp at hc; subst hc; exact ac_of (by simp)
      · cases hc
    · split at hc
      · simp at hc; subst hc; exact ac_of (by simp)
      · rename_i h0
        refine ac_body (digT_bounds _ ?_ ?_).1 _ c hc
        · split <;> omega
        · split <;> omega
theorem asc_plain (k num : Nat) (str : List UInt8) (hk : k ≤ 3) : Asc (plainT k num str) := by
  unfold plainT
  split
  · unfold Asc; decide
  · split
    · unfold Asc; decide
    · split
      · unfold Asc; decide
      · rw [if_pos (by omega)]; exact asc_num num
theorem hexd_ac (n : Nat) : Ac (hexd n) ∧ 32 ≤ (hexd n).toNat ∧ hexd n ≠ 127 := by
  have key : ∀ j : Fin 17, Ac (hexd j.val) ∧ 32 ≤ (hexd j.val).toNat ∧ hexd j.val ≠ 127 := by decide
  by_cases h : n < 16
  · exact key ⟨n, by omega⟩
  · have : hexd n = hexd 16 := by
      unfold hexd
      rw [List.getD_eq_getElem?_getD, List.getD_eq_getElem?_getD, List.getElem?_eq_none (by simp; omega), List.getElem?_eq_none (by simp)]
    rw [this]; exact key ⟨16, by omega⟩
theorem asc_unit (r : Nat) : Asc (unitT r) := by
  unfold unitT
  intro c hc
  simp only [List.mem_cons, List.not_mem_nil, or_false] at hc
  rcases hc with rfl | rfl | rfl | rfl | rfl | rfl
  · decide
  · decide
  all_goals exact (hexd_ac _).1
/-- A byte as it stands in a string's text: no control. -/
abbrev Nc (c : UInt8) : Prop := 32 ≤ c.toNat ∧ c ≠ 127
theorem nc_qb (c : UInt8) : ∀ x ∈ qb c, Nc x := by
  intro x hx
  unfold qb at hx
  split at hx
  · rename_i h; subst h; simp at hx; rcases hx with rfl | rfl <;> decide
  split at hx
  · rename_i h; subst h; simp at hx; subst hx; decide
  split at hx
  · simp at hx; rcases hx with rfl | rfl <;> decide
  split at hx
  · simp at hx; rcases hx with rfl | rfl <;> decide
  split at hx
  · simp at hx; rcases hx with rfl | rfl <;> decide
  split at hx
  · simp at hx; rcases hx with rfl | rfl <;> decide
  split at hx
  · simp at hx; rcases hx with rfl | rfl <;> decide
  split at hx
  · rename_i h; rw [List.mem_singleton.1 hx]; exact h
  · simp only [List.mem_cons, List.not_mem_nil, or_false] at hx
    rcases hx with rfl | rfl | rfl | rfl | rfl | rfl
    · decide
    · decide
    · decide
    · decide
    all_goals exact (hexd_ac _).2
theorem nc_quote (s : List UInt8) : ∀ x ∈ quoteT s, Nc x := by
  intro x hx
  unfold quoteT at hx
  rcases List.mem_cons.1 hx with rfl | hx
  · decide
  rcases List.mem_append.1 hx with hx | hx
  · obtain ⟨c, _, hc⟩ := List.mem_flatMap.1 hx
    exact nc_qb c x hc
  · rw [List.mem_singleton.1 hx]; decide
theorem dec_low (s : ByteArray) (p : Nat) (h : (Utf8.decode s p).1 < 128) : (Utf8.decode s p).1 = cb s p 0 := by
  rw [dec_eq] at h ⊢
  by_cases h0 : cb s p 0 < 128
  · rw [if_pos h0]
  · exfalso
    rw [if_neg h0] at h
    revert h
    repeat' split
    all_goals (intro h; simp only at h; omega)
theorem pts_low (s : ByteArray) (hb : ∀ i, i < s.size → 32 ≤ cb s i 0 ∧ cb s i 0 ≠ 127) : ∀ (f p : Nat), ∀ r ∈ ptsFrom s f p, r < 128 → 32 ≤ r ∧ r ≠ 127
  | 0, _, r, hr, _ => by cases hr
  | f + 1, p, r, hr, h => by
    rw [ptsFrom] at hr
    split at hr
    · rename_i hp
      rcases List.mem_cons.1 hr with e | hr
      · subst e
        rw [dec_low s p h]
        exact hb p hp
      · exact pts_low s hb f _ r hr h
    · cases hr
theorem asc_escR (r : Nat) (h : r < 128 → 32 ≤ r ∧ r ≠ 127) : Asc (escR r) := by
  unfold escR
  split
  · rename_i hr
    obtain ⟨h1, h2⟩ := h hr
    refine asc_one _ ⟨?_, ?_⟩
    · rw [UInt8.toNat_ofNat', Nat.mod_eq_of_lt (by omega)]; omega
    · intro e
      have := congrArg UInt8.toNat e
      rw [UInt8.toNat_ofNat', Nat.mod_eq_of_lt (by omega)] at this
      have h27 : (27 : UInt8).toNat = 27 := rfl
      omega
  · split
    · exact (asc_unit _).append (asc_unit _)
    · exact asc_unit _
theorem asc_esc (s : List UInt8) : Asc (escT s true) := by
  unfold escT
  rw [if_pos rfl, escA_pts]
  intro c hc
  obtain ⟨r, hr, hc⟩ := List.mem_flatMap.1 hc
  refine asc_escR r ?_ c hc
  refine pts_low _ (fun i hi => ?_) _ _ r hr
  have h1 := cb_at (⟨(quoteT s).toArray⟩ : ByteArray) i 0 hi
  have hi' : i < (quoteT s).length := hi
  have h2 := nc_quote s (quoteT s)[i] (List.getElem_mem hi')
  have h3 : ((⟨(quoteT s).toArray⟩ : ByteArray)[i + 0]'hi) = (quoteT s)[i] := rfl
  rw [h3] at h1
  rw [← h1]
  refine ⟨h2.1, fun e => h2.2 ?_⟩
  apply UInt8.toNat_inj.1
  rw [e]; rfl
def keyO (ind : Nat) (tab : Bool) (key : List UInt8) : List UInt8 := escT key true ++ [58] ++ (if (tab || decide (0 < ind)) = true then [32] else [])
theorem addB_key {S : Sty} (ha : S.asc = true) (key : List UInt8) : AddB (fun st => keyS S st key) (keyO S.ind S.tab key) := by
  have h1 := (addB_tok S (asc_esc key) cc_key).comp (addB_tok S (asc_one 58 (by decide)) cc_sgn)
  by_cases hl : S.loose = true
  · have e : (fun st => keyS S st key) = fun st => putS (tokS S (tokS S st (escT key true) [51, 52, 59, 49]) [58] sgn) [32] := by
      funext st; unfold keyS; rw [if_pos hl, ha]
    have e2 : keyO S.ind S.tab key = escT key true ++ [58] ++ [32] := by unfold keyO; rw [show (if (S.tab || decide (0 < S.ind)) = true then ([32] : List UInt8) else []) = [32] from if_pos hl]
    rw [e, e2]
    exact h1.comp (addB_put (bn_asc [32] (asc_one 32 (by decide))) (asc_one 32 (by decide)).lo)
  · have e : (fun st => keyS S st key) = fun st => tokS S (tokS S st (escT key true) [51, 52, 59, 49]) [58] sgn := by
      funext st; unfold keyS; rw [if_neg hl, ha]
    have e2 : keyO S.ind S.tab key = escT key true ++ [58] := by unfold keyO; rw [show (if (S.tab || decide (0 < S.ind)) = true then ([32] : List UInt8) else []) = [] from if_neg hl, List.append_nil]
    rw [e, e2]; exact h1
/-- A value's text without its colours. -/
def btl (ind : Nat) (tab : Bool) : Nat → Tr → Nat → List UInt8
  | 0, _, _ => []
  | d + 1, .mk k num str keys list, lvl =>
    if k = 5 then ([91] ++ joinO ind tab lvl (fun i => btl ind tab d (list.getD i default) (lvl + 1)) list.length 0) ++ (if 0 < list.length then lineO ind tab lvl else []) ++ [93]
    else if k = 6 then ([123] ++ joinO ind tab lvl (fun i => keyO ind tab (keys.getD i []) ++ btl ind tab d (list.getD i default) (lvl + 1)) keys.length 0) ++ (if 0 < keys.length then lineO ind tab lvl else []) ++ [125]
    else if k = 4 then escT str true else plainT k.toNat num str
theorem addB_pv {S : Sty} (ha : S.asc = true) : ∀ (d : Nat) (t : Tr) (lvl : Nat), Okp d t → AddB (fun st => pv S d t lvl st) (btl S.ind S.tab d t lvl)
  | 0, _, _, _ => addB_id
  | d + 1, .mk k num str keys list, lvl, hO => by
    obtain ⟨hk0, hk6, hkl, hOl⟩ := hO
    have ih := fun i (hi : i < list.length) => addB_pv ha d (list.getD i default) (lvl + 1) (by rw [show list.getD i default = list[i] by simp [hi]]; exact hOl i hi)
    by_cases h5 : k = 5
    · have e : (fun st => pv S (d + 1) (.mk k num str keys list) lvl st) = fun st => manyS S lvl (fun i st => pv S d (list.getD i default) (lvl + 1) st) [91] [93] list.length st := by funext st; rw [pv, if_pos h5]
      rw [e, btl, if_pos h5]
      exact addB_many S lvl _ _ _ (fun i hi => ih i hi) 91 93 (by decide) (by decide)
    · by_cases h6 : k = 6
      · have e : (fun st => pv S (d + 1) (.mk k num str keys list) lvl st) = fun st => manyS S lvl (fun i st => pv S d (list.getD i default) (lvl + 1) (keyS S st (keys.getD i []))) [123] [125] keys.length st := by funext st; rw [pv, if_neg h5, if_pos h6]
        rw [e, btl, if_neg h5, if_pos h6]
        exact addB_many S lvl _ _ _ (fun i hi => (addB_key ha (keys.getD i [])).comp (ih i (by have := hkl h6; omega))) 123 125 (by decide) (by decide)
      · have e : (fun st => pv S (d + 1) (.mk k num str keys list) lvl st) = fun st => tokS S st (if k = 4 then escT str true else plainT k.toNat num str) (colT k.toNat) := by
          funext st
          rw [pv, if_neg h5, if_neg h6, ha]
        rw [e, btl, if_neg h5, if_neg h6]
        refine addB_tok S ?_ (cc_col _)
        split
        · exact asc_esc str
        · exact asc_plain _ _ _ (by omega)
/-- What is printed in ASCII: nothing else; without colours it is the same whatever the colours. -/
theorem bare_print {S : Sty} (ha : S.asc = true) (d : Nat) (t : Tr) (hO : Okp d t) : Lo (printS S d t).1 ∧ ((printS S d t).2 = false → bareL false (printS S d t).1 = btl S.ind S.tab d t 0) := by
  obtain ⟨h1, h2⟩ := addB_pv ha d t 0 hO ([], false)
  refine ⟨h1 (fun x hx => by cases hx), fun h => ?_⟩
  obtain ⟨_, l, e, n⟩ := h2 h
  have e' : (printS S d t).1 = l := e
  rw [e']; exact n.bare
end Go.Proofs.YtopecjnmeeejhaaGreatDoor
/- colanderlaw05.bare, walked. -/
namespace Go.Proofs.YtopecjnmeeejhaaGreatDoor
open Go Go.RowKit Go.Proofs
theorem bare_27 (s : List UInt8) : bareL false (27 :: s) = bareL true (27 :: s) := by simp [bareL]
theorem bare_109 (s : List UInt8) : bareL true (109 :: s) = bareL false s := by rw [bareL, if_pos rfl]
theorem bare_in (c : UInt8) (h : c ≠ 109) (s : List UInt8) : bareL true (c :: s) = bareL true s := by rw [bareL, if_neg h]
theorem bare_out (c : UInt8) (h : c ≠ 27) (s : List UInt8) : bareL false (c :: s) = c :: bareL false s := by rw [bareL, if_neg h]
theorem bare_nil (b : Bool) : bareL b [] = [] := by cases b <;> rfl
set_option maxHeartbeats 8000000 in
set_option maxRecDepth 100000 in
theorem bare_any (w : World) (s : List UInt8) (hl : s.length ≤ 100000000) :
    Calls Tryz.prog 25 #[.string ⟨s.toArray⟩] w fun e w' => e = .returned (.string ⟨(bareL false s).toArray⟩) ∧ Below w.heap.size w w' := by
  obtain ⟨T, hT⟩ : ∃ T, T = bareL false s := ⟨_, rfl⟩
  rw [← hT]
  have HT : Hid ([] ++ bareL false (s.drop 0) = T) := Lib.hid (by rw [hT]; rfl)
  clear hT
  have hA0 := App.start (OwnB.nil w.heap.size w) (Nat.le_refl _)
  go_enter Tryz.func25, Tryz.ntmps25
  go_wp2_with fail
  go_loopw [3, 4] (fun b i wr => ∃ (k : Nat) (acc : List UInt8), k ≤ s.length + 1 ∧ i = .int .i64 k ∧ App w.heap.size w (.slice none 0 0) [] wr b acc ∧ acc.length ≤ k ∧ Hid (acc ++ bareL false (s.drop k) = T)) (fun _ i _ => s.length + 1 - (intOf i).toNat)
  case atStart => exact ⟨0, [], by omega, rfl, hA0, by simp, HT⟩
  case round =>
    clear hA0 HT
    obtain ⟨k, acc, hk, rfl, hA, hal, HV⟩ := hrel
    rcases Nat.lt_or_ge k s.length with hlt | hge
    · obtain ⟨x, hx⟩ : ∃ x, x = s[k] := ⟨_, rfl⟩
      have hds := drop_cons s k hlt
      rw [← hx] at hds
      have hv := HV.out
      rw [hds] at hv
      have hby : ∀ h, ((⟨s.toArray⟩ : ByteArray)[k]'h).toNat = x.toNat := fun h => by rw [hx]; rfl
      clear HV hx
      by_cases h27 : x = 27
      · subst h27
        have hby' : ∀ h, ((⟨s.toArray⟩ : ByteArray)[k]'h).toNat = 27 := hby
        have HI : Hid (acc ++ bareL true (s.drop k) = T) := Lib.hid (by rw [hds, ← bare_27]; exact hv)
        clear hby hv hds
        go_wp2_with fail
        clear hby'
        go_loop [4] (fun i => ∃ m : Nat, m ≤ s.length ∧ k ≤ m ∧ i = .int .i64 m ∧ Hid (acc ++ bareL true (s.drop m) = T)) (fun i => s.length - (intOf i).toNat)
        case atStart => exact ⟨k, by omega, by omega, rfl, HI⟩
        case round =>
          clear HI
          obtain ⟨m, hm, hkm, rfl, HJ⟩ := hrel
          rcases Nat.lt_or_ge m s.length with hlt2 | hge2
          · obtain ⟨y, hy⟩ : ∃ y, y = s[m] := ⟨_, rfl⟩
            have hds2 := drop_cons s m hlt2
            rw [← hy] at hds2
            have hj := HJ.out
            rw [hds2] at hj
            have hby2 : ∀ h, ((⟨s.toArray⟩ : ByteArray)[m]'h).toNat = y.toNat := fun h => by rw [hy]; rfl
            clear HJ hy
            by_cases h109 : y = 109
            · subst h109
              have hby3 : ∀ h, ((⟨s.toArray⟩ : ByteArray)[m]'h).toNat = 109 := hby2
              have HJ : Hid (acc ++ bareL false (s.drop (m + 1)) = T) := Lib.hid (by rw [← bare_109]; exact hj)
              clear hby2 hj hds2
              go_wp2_with fail
              all_goals go_roundw
              case rel => exact ⟨m + 1, acc, by omega, by go_num, hA, by omega, HJ⟩
              case measure => simp [intOf]; omega
            · obtain ⟨n, hn⟩ : ∃ n, n = y.toNat := ⟨_, rfl⟩
              have t1 : ((n : Int) == 109) = false := by rw [beq_eq_false_iff_ne]; intro h; apply h109; apply UInt8.toNat_inj.1; show y.toNat = 109; omega
              have u1 : ((n : Int) != 109) = true := by rw [bne_iff_ne]; intro h; apply h109; apply UInt8.toNat_inj.1; show y.toNat = 109; omega
              rw [← hn] at hby2
              have HJ : Hid (acc ++ bareL true (s.drop (m + 1)) = T) := Lib.hid (by rw [← bare_in y h109]; exact hj)
              clear hj hds2 hn h109
              go_wp2_with fail
              all_goals go_round
              case rel => exact ⟨m + 1, by omega, by omega, by go_num, HJ⟩
              case measure => simp [intOf]; omega
          · have HJ2 : Hid (acc ++ bareL false (s.drop (m + 1)) = T) := Lib.hid (by
              have e1 : s.drop m = [] := List.drop_eq_nil_of_le hge2
              have e2 : s.drop (m + 1) = [] := List.drop_eq_nil_of_le (by omega)
              rw [← HJ.out, e1, e2, bare_nil, bare_nil])
            clear HJ
            go_wp2_with fail
            all_goals go_roundw
            case rel => exact ⟨m + 1, acc, by omega, by go_num, hA, by omega, HJ2⟩
            case measure => simp [intOf]; omega
      · obtain ⟨n, hn⟩ : ∃ n, n = x.toNat := ⟨_, rfl⟩
        have t1 : ((n : Int) == 27) = false := by rw [beq_eq_false_iff_ne]; intro h; apply h27; apply UInt8.toNat_inj.1; show x.toNat = 27; omega
        have u1 : ((n : Int) != 27) = true := by rw [bne_iff_ne]; intro h; apply h27; apply UInt8.toNat_inj.1; show x.toNat = 27; omega
        rw [← hn] at hby
        have HNN := Lib.hid hn
        have HV : Hid ((acc ++ [x]) ++ bareL false (s.drop (k + 1)) = T) := Lib.hid (by rw [← hv, bare_out x h27, List.append_assoc]; rfl)
        clear hv hds hn h27
        go_wp2_with (at_builtin; refine appN rfl _ _ rfl [x] 1 _ rfl rfl rfl (by rw [HNN.out]; rfl) hA (by simp; omega) ?_; intro v2 w2 hA2)
        all_goals go_roundw
        case rel => exact ⟨k + 1, _, by omega, by go_num, hA2, by simp; omega, HV⟩
        case measure => simp [intOf]; omega
    · have HE : Hid (acc = T) := Lib.hid (by
        have hds : s.drop k = [] := List.drop_eq_nil_of_le hge
        rw [← HV.out, hds, bare_nil, List.append_nil])
      have hcv := convOwn hA.own
      rw [List.nil_append, HE.out] at hcv
      have hb := hA.fresh
      clear HV
      go_wp2_with fail
      go_ret
      exact ⟨rfl, hb⟩
end Go.Proofs.YtopecjnmeeejhaaGreatDoor
/- colanderlaw05.PrinterAscii, walked. -/
namespace Go.Proofs.YtopecjnmeeejhaaGreatDoor
open Go Go.RowKit Go.Proofs
/-- What Print answers in ASCII, whatever the colours: errors, or texts that are one text without their colours. -/
theorem print_asc (n : Int) (tab srt : Bool) (w : World) (d : Nat) (hd : d ≤ 800000) (t : Tr) (kk : Int) (nn : Nat) (ss : ByteArray) (A3 A4 : Option Addr) (n3 e3 n4 e4 : Nat) (hR : Rep (d + 1) w t (.int .i64 kk) (.float .f64 nn) (.string ss) (.slice A3 n3 e3) (.slice A4 n4 e4)) (hO : Okp (d + 1) t) :
    ∃ (a : Bool → Txt) (ea : Bool → Int), (∀ c W, Below w.heap.size w W → Tabs W → Calls Tryz.prog 16 #[.agg #[.int .i64 kk, .float .f64 nn, .string ss, .slice A3 n3 e3, .slice A4 n4 e4], .agg #[.int .i64 n, .bool tab, .bool srt, .bool true, .bool c]] W fun e w' => e = .returned (.tuple #[.string ⟨(a c).toArray⟩, .int .i64 (ea c)]) ∧ Below W.heap.size W w') ∧
      (∀ c, Lo (a c) ∧ (a c).length ≤ 16777216) ∧ (∀ c c', ea c = 0 → ea c' = 0 → bareL false (a c) = bareL false (a c')) := by
  by_cases hn : n < 0 ∨ 7 < n
  · exact ⟨fun _ => [], fun _ => 2, fun c W _ _ => print_bad W n hn tab srt true c kk nn ss A3 A4 n3 e3 n4 e4, fun c => ⟨fun x hx => (by cases hx), Nat.zero_le _⟩, fun c c' h => absurd (show (2 : Int) = 0 from h) (by decide)⟩
  · obtain ⟨m, rfl⟩ : ∃ m : Nat, n = (m : Int) := ⟨n.toNat, by omega⟩
    obtain ⟨T, hT⟩ : ∃ T, T = if srt = true then srtT (d + 1) t else t := ⟨_, rfl⟩
    have hT2 : ∀ c, styT { ind := m, tab := tab, srt := srt, asc := true, col := c } (d + 1) t = T := fun c => by rw [hT]; rfl
    have hOT : Okp (d + 1) T := by rw [← hT2 true]; exact okp_sty _ _ _ hO
    have hP := fun c W (hb : Below w.heap.size w W) (hT : Tabs W) => print_any_s { ind := m, tab := tab, srt := srt, asc := true, col := c } (by show m ≤ 7; omega) W hT d hd t _ _ _ _ _ (hR.below hb) hO
    have hB := fun c => bare_print (S := { ind := m, tab := tab, srt := srt, asc := true, col := c }) rfl (d + 1) T hOT
    have hL := fun c => fits_pv { ind := m, tab := tab, srt := srt, asc := true, col := c } (d + 1) T 0 ([], false) (by simp)
    obtain ⟨r, hr⟩ : ∃ r : Bool → St, r = fun c => printS { ind := m, tab := tab, srt := srt, asc := true, col := c } (d + 1) T := ⟨_, rfl⟩
    have hrc : ∀ c, printS { ind := m, tab := tab, srt := srt, asc := true, col := c } (d + 1) T = r c := fun c => by rw [hr]
    refine ⟨fun c => if (r c).2 = true then [] else (r c).1, fun c => if (r c).2 = true then 171 else 0, fun c W hb hT => ?_, fun c => ?_, fun c c' h h' => ?_⟩
    · have := hP c W hb hT
      rw [hT2 c, hrc c] at this
      unfold printV at this
      cases hf : (r c).2 with
      | true =>
        rw [if_pos hf] at this
        simpa [hf] using this
      | false =>
        rw [if_neg (by rw [hf]; decide)] at this
        simpa [hf] using this
    · have hb := (hB c).1
      have hl := hL c
      change (printS { ind := m, tab := tab, srt := srt, asc := true, col := c } (d + 1) T).1.length ≤ 16777216 at hl
      rw [hrc c] at hb hl
      show Lo (if (r c).2 = true then [] else (r c).1) ∧ (if (r c).2 = true then [] else (r c).1).length ≤ 16777216
      cases hf : (r c).2 with
      | true => rw [if_pos rfl]; exact ⟨fun x hx => (by cases hx), Nat.zero_le _⟩
      | false => rw [if_neg (by decide)]; exact ⟨hb, hl⟩
    · have e1 : ∀ c, (if (r c).2 = true then (171 : Int) else 0) = 0 → (r c).2 = false := fun c h => by
        cases hf : (r c).2 with
        | true => rw [hf] at h; cases h
        | false => rfl
      have key : ∀ c, (r c).2 = false → bareL false (if (r c).2 = true then [] else (r c).1) = btl m tab (d + 1) T 0 := fun c hf => by
        rw [if_neg (by rw [hf]; decide)]
        have := (hB c).2
        rw [hrc c] at this
        exact this hf
      show bareL false (if (r c).2 = true then [] else (r c).1) = bareL false (if (r c').2 = true then [] else (r c').1)
      rw [key c (e1 c h), key c' (e1 c' h')]
set_option maxHeartbeats 8000000 in
set_option maxRecDepth 100000 in
theorem ascii_walk (w : World) (TW : Tabs w) (n : Int) (tab srt asc col : Bool) (d : Nat) (hd : d ≤ 700000) (t : Tr) (y0 y1 y2 y3 y4 : Value) (hR : Rep d w t y0 y1 y2 y3 y4) :
    Calls Tryz.prog 5 #[.agg #[y0, y1, y2, y3, y4], .agg #[.int .i64 n, .bool tab, .bool srt, .bool asc, .bool col]] w fun e w' => e = .returned (.bool true) ∧ Below w.heap.size w w' := by
  cases d with
  | zero => exact hR.elim
  | succ d =>
  obtain ⟨kk, nn, ss, A3, n3, e3, A4, n4, e4, rfl, rfl, rfl, rfl, rfl⟩ := rep_shape hR
  have HR : Hid (∀ W, Below w.heap.size w W → Calls Tryz.prog 13 #[.agg #[.int .i64 kk, .float .f64 nn, .string ss, .slice A3 n3 e3, .slice A4 n4 e4]] W fun e w' => e = .returned (.bool (rightT 10000 t)) ∧ Below W.heap.size W w') := Lib.hid (fun W hb => right_any2 (d + 1) W t _ _ _ _ _ (hR.below hb))
  have HL : Hid (∀ W, Below w.heap.size w W → Calls Tryz.prog 24 #[.agg #[.int .i64 kk, .float .f64 nn, .string ss, .slice A3 n3 e3, .slice A4 n4 e4]] W (SomeBool W)) := Lib.hid (fun W hb => large_any (d + 1) W t _ _ _ _ _ (hR.below hb))
  have HT : Hid (∀ W, Below w.heap.size w W → Tabs W) := Lib.hid (fun W hb => TW.next hb)
  have HH : Hid (∀ W, Below w.heap.size w W → Calls Tryz.prog 14 #[] W fun e w' => e = .returned (.bool true) ∧ Below W.heap.size W w') := Lib.hid (fun W hb => heads_any W (TW.next hb))
  obtain ⟨B, hB⟩ : ∃ B, B = w.heap.size := ⟨_, rfl⟩
  obtain ⟨W1, hW1⟩ : ∃ W1, W1 = w.alloc (.cells #[.int .i64 kk, .float .f64 nn, .string ss, .slice A3 n3 e3, .slice A4 n4 e4] 27) := ⟨_, rfl⟩
  obtain ⟨hb01, a0, a1, a2, a3, a4⟩ := after_new _ _ _ _ _ _ _ _ hW1
  have hs1 : W1.heap.size = B + 1 := by rw [hW1, hB]; simp
  obtain ⟨W2, hW2⟩ : ∃ W2, W2 = W1.alloc (.cells #[.int .i64 n, .bool tab, .bool srt, .bool asc, .bool col] 29) := ⟨_, rfl⟩
  obtain ⟨hb12, c0, c1, c2, c3, c4⟩ := after_new _ _ _ _ _ _ _ _ hW2
  have hs2 : W2.heap.size = B + 1 + 1 := by rw [hW2]; simp; omega
  have hb2 : Below w.heap.size w W2 := hb01.trans (hb12.mono (by omega))
  have hrow : W2.heap[B + 1]? = some (.cells #[.int .i64 n, .bool tab, .bool srt, .bool asc, .bool col] 29) := by rw [hW2, ← hs1]; exact heap_alloc_new _ _
  rw [hs1] at c0 c1 c2 c3 c4
  rw [← hB] at a0 a1 a2 a3 a4
  have go2 : ∀ {a : Addr} {u : Value}, W1.cell? a = some u → W2.cell? a = some u := fun hc => (hb12.cell (World.block_lt_of_cell? W1 _ hc)).trans hc
  have VF : Hid (∀ W : World, (∀ (a : Addr) (u : Value), a.block = B → W2.cell? a = some u → W.cell? a = some u) → W.cell? ⟨B, 0, none⟩ = some (.int .i64 kk) ∧ W.cell? ⟨B, 1, none⟩ = some (.float .f64 nn) ∧ W.cell? ⟨B, 2, none⟩ = some (.string ss) ∧ W.cell? ⟨B, 3, none⟩ = some (.slice A3 n3 e3) ∧ W.cell? ⟨B, 4, none⟩ = some (.slice A4 n4 e4)) := Lib.hid (fun W h => ⟨h _ _ rfl (go2 a0), h _ _ rfl (go2 a1), h _ _ rfl (go2 a2), h _ _ rfl (go2 a3), h _ _ rfl (go2 a4)⟩)
  have SF : Hid (∀ (W : World) (r s : Bool), W.heap[B + 1]? = some (.cells #[.int .i64 n, .bool tab, .bool srt, .bool r, .bool s] 29) → W.cell? ⟨B + 1, 0, none⟩ = some (.int .i64 n) ∧ W.cell? ⟨B + 1, 1, none⟩ = some (.bool tab) ∧ W.cell? ⟨B + 1, 2, none⟩ = some (.bool srt) ∧ W.cell? ⟨B + 1, 3, none⟩ = some (.bool r) ∧ W.cell? ⟨B + 1, 4, none⟩ = some (.bool s) ∧ W.frozen? ⟨B + 1, 3, none⟩ = false ∧ W.frozen? ⟨B + 1, 4, none⟩ = false) := Lib.hid (fun W r s h => ⟨Go.Proofs.YtopecjnmeeejhaaGreatDoor.cell_of_heap h rfl, Go.Proofs.YtopecjnmeeejhaaGreatDoor.cell_of_heap h rfl, Go.Proofs.YtopecjnmeeejhaaGreatDoor.cell_of_heap h rfl, Go.Proofs.YtopecjnmeeejhaaGreatDoor.cell_of_heap h rfl, Go.Proofs.YtopecjnmeeejhaaGreatDoor.cell_of_heap h rfl, Go.Proofs.YtopecjnmeeejhaaGreatDoor.frozen_of_heap 3 h, Go.Proofs.YtopecjnmeeejhaaGreatDoor.frozen_of_heap 4 h⟩)
  have hO := fun h => right_okp (d + 1) 10000 w t _ _ _ _ _ h hR
  have hP := fun h => print_asc n tab srt w d (by omega) t kk nn ss A3 A4 n3 e3 n4 e4 hR (hO h)
  obtain ⟨r, hr⟩ : ∃ r, r = rightT 10000 t := ⟨_, rfl⟩
  rw [← hr] at HR hP
  have HB := Lib.hid hB
  have HW2 : Hid (W2 = (w.alloc (.cells #[.int .i64 kk, .float .f64 nn, .string ss, .slice A3 n3 e3, .slice A4 n4 e4] 27)).alloc (.cells #[.int .i64 n, .bool tab, .bool srt, .bool asc, .bool col] 29)) := Lib.hid (by rw [hW2, hW1])
  clear hO hr hR hW1 hW2 a0 a1 a2 a3 a4 c0 c1 c2 c3 c4 TW hd hb01 hb12 hs1 go2
  have same : ∀ W : World, Below W2.heap.size W2 W → ∀ (a : Addr) (u : Value), a.block = B → W2.cell? a = some u → W.cell? a = some u := fun W hb a u _ hc => (hb.cell (World.block_lt_of_cell? W2 _ hc)).trans hc
  have HSame := Lib.hid same
  have HS2 := Lib.hid hs2
  clear same hs2
  go_enter Tryz.func5, Tryz.ntmps5
  go_upto_region 1 with fail
  rw [← HW2.out, ← hB]
  clear HW2 hB
  obtain ⟨q0, q1, q2, q3, q4⟩ := VF.out W2 (fun a u _ h => h)
  go_wp2_with fail
  refine (HR.out _ hb2).mono ?_
  rintro e' w3 ⟨rfl, hb3⟩
  have hw3 := hb2.trans (hb3.mono hb2.size)
  clear q0 q1 q2 q3 q4 HR
  cases r with
  | false =>
    clear hP
    go_wp2_with fail
    refine (HH.out _ hw3).mono ?_
    rintro e' w4 ⟨rfl, hb4⟩
    have hw4 := hw3.trans (hb4.mono hw3.size)
    go_wp2_with fail
    go_ret
    exact ⟨rfl, hw4⟩
  | true =>
    obtain ⟨a, ea, hPr, hLo, hEq⟩ := hP rfl
    have HPr := Lib.hid hPr
    have HLo := Lib.hid hLo
    have HEq := Lib.hid hEq
    clear hP hPr hLo hEq
    obtain ⟨q0, q1, q2, q3, q4⟩ := VF.out w3 (HSame.out _ hb3)
    go_wp2_with fail
    refine (HL.out _ hw3).mono ?_
    rintro e' w4 ⟨lg, rfl, hb4⟩
    have hw4 := hw3.trans (hb4.mono hw3.size)
    have hb24 := hb3.trans (hb4.mono hb3.size)
    clear q0 q1 q2 q3 q4 HL hb3 hb4 hw3
    cases lg with
    | true =>
      go_wp2_with fail
      refine (HH.out _ hw4).mono ?_
      rintro e' w5 ⟨rfl, hb5⟩
      have hw5 := hw4.trans (hb5.mono hw4.size)
      go_wp2_with fail
      go_ret
      exact ⟨rfl, hw5⟩
    | false =>
      have hrow4 : w4.heap[B + 1]? = some (.cells #[.int .i64 n, .bool tab, .bool srt, .bool asc, .bool col] 29) := (hb24.block _ (by have := HS2.out; omega)).trans hrow
      obtain ⟨s0, s1, s2, s3, s4, z3, z4⟩ := SF.out w4 asc col hrow4
      obtain ⟨W5, hW5⟩ : ∃ W5, W5 = w4.setCell ⟨B + 1, 3, none⟩ (.bool true) := ⟨_, rfl⟩
      have hrow5 : W5.heap[B + 1]? = some (.cells #[.int .i64 n, .bool tab, .bool srt, .bool true, .bool col] 29) := by
        rw [hW5]; simpa using Go.heap_setCell_same _ _ 3 _ _ (.bool true) hrow4
      have hsame5 : ∀ (a : Addr) (u : Value), a.block = B → W2.cell? a = some u → W5.cell? a = some u := fun a u ha hc => by
        rw [hW5]
        exact (World.cell?_of_block (Below.heap_setCell w4 ⟨B + 1, 3, none⟩ _ a.block (by rw [ha]; show B ≠ B + 1; omega))).trans (HSame.out _ hb24 a u ha hc)
      have hw5 : Below w.heap.size w W5 := by rw [hW5]; exact hw4.setCell (by show w.heap.size ≤ B + 1; have := HB.out; omega) _
      have HW5 := Lib.hid hW5
      clear hW5 hrow4
      go_upto_region 4 with fail
      rw [← HW5.out]
      clear HW5 s0 s1 s2 s3 s4 z3 z4
      obtain ⟨q0, q1, q2, q3, q4⟩ := VF.out W5 hsame5
      obtain ⟨s0, s1, s2, s3, s4, z3, z4⟩ := SF.out W5 true col hrow5
      go_wp2_with fail
      refine (HPr.out col _ hw5 (HT.out _ hw5)).mono ?_
      rintro e' w6 ⟨rfl, hb6⟩
      have hw6 := hw5.trans (hb6.mono hw5.size)
      have hsame6 : ∀ (a : Addr) (u : Value), a.block = B → W2.cell? a = some u → w6.cell? a = some u := fun a u ha hc => (hb6.cell (World.block_lt_of_cell? W5 _ (hsame5 a u ha hc))).trans (hsame5 a u ha hc)
      have hrow6 : w6.heap[B + 1]? = some (.cells #[.int .i64 n, .bool tab, .bool srt, .bool true, .bool col] 29) := hlBelow hb6 hrow5
      clear q0 q1 q2 q3 q4 s0 s1 s2 s3 s4 z3 z4 hb6 hsame5 hrow5 hw5 hw4 hb24
      obtain ⟨x, hx⟩ : ∃ x, x = a col := ⟨_, rfl⟩
      obtain ⟨ex, hex⟩ : ∃ x, x = ea col := ⟨_, rfl⟩
      have HX := Lib.hid hx
      have HEX := Lib.hid hex
      have hlx : x.length ≤ 16777216 := by rw [hx]; exact (HLo.out col).2
      have HLX : Hid (Lo x) := Lib.hid (by rw [hx]; exact (HLo.out col).1)
      rw [← hx, ← hex]
      clear hx hex
      go_wp2_with fail
      go_loop [7] (fun i => ∃ k : Nat, k ≤ x.length ∧ i = .int .i64 k) (fun i => x.length - (intOf i).toNat)
      case atStart => exact ⟨0, by omega, rfl⟩
      case round =>
        obtain ⟨k, hk, rfl⟩ := hrel
        rcases Nat.lt_or_ge k x.length with hlt | hge
        · obtain ⟨m, hm⟩ : ∃ m, m = (x[k]).toNat := ⟨_, rfl⟩
          have hby : ∀ h, ((⟨x.toArray⟩ : ByteArray)[k]'h).toNat = m := fun h => by rw [hm]; rfl
          have hm126 : m ≤ 126 := by rw [hm]; exact HLX.out _ (List.getElem_mem hlt)
          have t1 : decide ((126 : Int) < (m : Int)) = false := decide_eq_false (by omega)
          clear hm
          go_wp2_with fail
          all_goals go_round
          case rel => exact ⟨k + 1, by omega, by go_num⟩
          case measure => simp [intOf]; omega
        · obtain rfl : k = x.length := by omega
          obtain ⟨s0, s1, s2, s3, s4, z3, z4⟩ := SF.out w6 true col hrow6
          obtain ⟨W7, hW7⟩ : ∃ W7, W7 = w6.setCell ⟨B + 1, 4, none⟩ (.bool (!col)) := ⟨_, rfl⟩
          have hrow7 : W7.heap[B + 1]? = some (.cells #[.int .i64 n, .bool tab, .bool srt, .bool true, .bool (!col)] 29) := by
            rw [hW7]; simpa using Go.heap_setCell_same _ _ 4 _ _ (.bool (!col)) hrow6
          have hsame7 : ∀ (a : Addr) (u : Value), a.block = B → W2.cell? a = some u → W7.cell? a = some u := fun a u ha hc => by
            rw [hW7]
            exact (World.cell?_of_block (Below.heap_setCell w6 ⟨B + 1, 4, none⟩ _ a.block (by rw [ha]; show B ≠ B + 1; omega))).trans (hsame6 a u ha hc)
          have hw7 : Below w.heap.size w W7 := by rw [hW7]; exact hw6.setCell (by show w.heap.size ≤ B + 1; have := HB.out; omega) _
          have HW7 := Lib.hid hW7
          clear hW7 hrow6 hsame6
          go_upto_region 11 with fail
          rw [← HW7.out]
          clear HW7 s0 s1 s2 s3 s4 z3 z4
          obtain ⟨q0, q1, q2, q3, q4⟩ := VF.out W7 hsame7
          obtain ⟨s0, s1, s2, s3, s4, z3, z4⟩ := SF.out W7 true (!col) hrow7
          go_wp2_with fail
          refine (HPr.out (!col) _ hw7 (HT.out _ hw7)).mono ?_
          rintro e' w8 ⟨rfl, hb8⟩
          have hw8 := hw7.trans (hb8.mono hw7.size)
          clear q0 q1 q2 q3 q4 s0 s1 s2 s3 s4 z3 z4 hb8 hsame7 hrow7 hw7
          obtain ⟨y, hy⟩ : ∃ x, x = a (!col) := ⟨_, rfl⟩
          obtain ⟨ey, hey⟩ : ∃ x, x = ea (!col) := ⟨_, rfl⟩
          have HY := Lib.hid hy
          have HEY := Lib.hid hey
          have hly : y.length ≤ 16777216 := by rw [hy]; exact (HLo.out (!col)).2
          rw [← hy, ← hey]
          clear hy hey
          by_cases ha : ex = 0
          · by_cases hb : ey = 0
            · have hEE : bareL false x = bareL false y := by
                rw [HX.out, HY.out]
                exact HEq.out col (!col) (by rw [← HEX.out]; exact ha) (by rw [← HEY.out]; exact hb)
              subst ha
              subst hb
              have HA := fun W => bare_any W x (by omega)
              have HB2 := fun W => bare_any W y (by omega)
              rw [← hEE] at HB2
              obtain ⟨E, hE⟩ : ∃ E, E = bareL false x := ⟨_, rfl⟩
              rw [← hE] at HA HB2
              have HA := Lib.hid HA
              have HB2 := Lib.hid HB2
              clear hE hEE
              go_wp2_with fail
              refine (HA.out _).mono ?_
              rintro e' w9 ⟨rfl, hb9⟩
              have hw9 := hw8.trans (hb9.mono hw8.size)
              clear hb9
              go_wp2_with fail
              refine (HB2.out _).mono ?_
              rintro e' w10 ⟨rfl, hb10⟩
              have hw10 := hw9.trans (hb10.mono hw9.size)
              clear hb10
              go_wp2_with fail
              refine (HH.out _ hw10).mono ?_
              rintro e' w11 ⟨rfl, hb11⟩
              have hw11 := hw10.trans (hb11.mono hw10.size)
              go_wp2_with fail
              go_ret
              exact ⟨rfl, hw11⟩
            · subst ha
              have t1 : (ey == 0) = false := by rw [beq_eq_false_iff_ne]; exact hb
              have t2 : (ey != 0) = true := by rw [bne_iff_ne]; exact hb
              clear hb
              go_wp2_with fail
              refine (HH.out _ hw8).mono ?_
              rintro e' w9 ⟨rfl, hb9⟩
              have hw9 := hw8.trans (hb9.mono hw8.size)
              go_wp2_with fail
              go_ret
              exact ⟨rfl, hw9⟩
          · have t1 : (ex == 0) = false := by rw [beq_eq_false_iff_ne]; exact ha
            have t2 : (ex != 0) = true := by rw [bne_iff_ne]; exact ha
            clear ha
            go_wp2_with fail
            refine (HH.out _ hw8).mono ?_
            rintro e' w9 ⟨rfl, hb9⟩
            have hw9 := hw8.trans (hb9.mono hw8.size)
            go_wp2_with fail
            go_ret
            exact ⟨rfl, hw9⟩
end Go.Proofs.YtopecjnmeeejhaaGreatDoor
