/- In one text: Formats, plain: cells between signs; what a shell reads; what reads cells again.; format, small: names, cut texts, errors, strings, how cells are quoted.; runes.Count, offset, Slice, value.Short: some text.; format.rows: how cells are written by a format. -/
import Derived.Test.YtpfamfkdfbcooaaGreatDoorRre
import Derived.Test.YtpfamfkdfbcooaaGreatDoorVmy
import Derived.Test.YtpfamfkdfbcooaaGreatDoorEm
import Derived.Test.YtpfamfkdfbcooaaGreatDoorShelf
import Derived.ProofKit
set_option linter.unusedVariables false
set_option linter.unusedSimpArgs false
/- Formats, plain: cells between signs; what a shell reads; what reads cells again. -/
namespace Go.Proofs.YtpfamfkdfbcooaaGreatDoor
open Go
/-- Texts with something between. -/
def joinB (x : UInt8) : List (List UInt8) → List UInt8
  | [] => []
  | [a] => a
  | a :: b :: l => a ++ x :: joinB x (b :: l)
def shE (c : UInt8) : List UInt8 := if c = 39 then [39, 92, 39, 39] else [c]
def shQ (s : List UInt8) : List UInt8 := 39 :: (s.flatMap shE ++ [39])
/-- The words of a text as a shell reads them. -/
def shL : Bool → Bool → List UInt8 → List UInt8 → Option (List (List UInt8) × Bool)
  | inn, word, w, [] => some (if word = true then [w] else [], !inn)
  | inn, word, w, [c] =>
    if inn = true ∧ c ≠ 39 then some (if word = true then [w ++ [c]] else [], !inn)
    else if c = 39 then some ([w], inn)
    else if c = 32 then some (if word = true then [w] else [], !inn)
    else none
  | inn, word, w, c :: x :: s =>
    if inn = true ∧ c ≠ 39 then shL inn word (w ++ [c]) (x :: s)
    else if c = 39 then shL (!inn) true w (x :: s)
    else if c = 92 then shL inn true (w ++ [x]) s
    else if c = 32 then (shL inn false [] (x :: s)).map fun p => ((if word = true then [w] else []) ++ p.1, p.2)
    else none
theorem shL_in (inn word : Bool) (w : List UInt8) (c : UInt8) (s : List UInt8) (h : inn = true ∧ c ≠ 39) : shL inn word w (c :: s) = shL inn word (w ++ [c]) s := by
  cases s with
  | nil => simp only [shL]; rw [if_pos h]
  | cons x s => rw [shL, if_pos h]
theorem shL_39 (inn word : Bool) (w s : List UInt8) : shL inn word w (39 :: s) = shL (!inn) true w s := by
  cases s with
  | nil => simp [shL]
  | cons x s => rw [shL, if_neg (by simp), if_pos rfl]
theorem shL_32 (word : Bool) (w s : List UInt8) : shL false word w (32 :: s) = (shL false false [] s).map fun p => ((if word = true then [w] else []) ++ p.1, p.2) := by
  cases s with
  | nil => cases word <;> simp [shL]
  | cons x s => rw [shL, if_neg (by simp), if_neg (by decide), if_neg (by decide), if_pos rfl]
theorem shL_92 (word : Bool) (w : List UInt8) (x : UInt8) (s : List UInt8) : shL false word w (92 :: x :: s) = shL false true (w ++ [x]) s := by
  rw [shL, if_neg (by simp), if_neg (by decide), if_pos rfl]
theorem shL_body : ∀ (s w r : List UInt8), shL true true w (s.flatMap shE ++ 39 :: r) = shL false true (w ++ s) r
  | [], w, r => by
    show shL true true w (39 :: r) = _
    rw [shL_39, List.append_nil]; rfl
  | c :: s, w, r => by
    rw [List.flatMap_cons, List.append_assoc]
    by_cases h : c = 39
    · subst h
      have e : shE 39 = [39, 92, 39, 39] := rfl
      rw [e]
      show shL true true w (39 :: 92 :: 39 :: 39 :: (s.flatMap shE ++ 39 :: r)) = _
      rw [shL_39, show (!true) = false from rfl, shL_92, shL_39, show (!false) = true from rfl, shL_body s, List.append_assoc]
      rfl
    · have e : shE c = [c] := by unfold shE; rw [if_neg h]
      rw [e]
      show shL true true w (c :: (s.flatMap shE ++ 39 :: r)) = _
      rw [shL_in true true w c _ ⟨rfl, h⟩, shL_body s, List.append_assoc]
      rfl
theorem shL_word (s r : List UInt8) (word : Bool) : shL false word [] (shQ s ++ r) = shL false true s r := by
  unfold shQ
  rw [List.cons_append, List.append_assoc, shL_39]
  show shL true true [] (s.flatMap shE ++ 39 :: r) = _
  rw [shL_body, List.nil_append]
theorem shell_back : ∀ l : List (List UInt8), shL false false [] (joinB 32 (l.map shQ)) = some (l, true)
  | [] => rfl
  | [a] => by
    show shL false false [] (shQ a) = _
    have := shL_word a [] false
    rw [List.append_nil] at this
    rw [this]; rfl
  | a :: b :: l => by
    show shL false false [] (shQ a ++ 32 :: joinB 32 ((b :: l).map shQ)) = _
    rw [shL_word, shL_32, shell_back (b :: l)]
    rfl
def csvE (c : UInt8) : List UInt8 := if c = 34 then [34, 34] else [c]
def csvQ (s : List UInt8) : List UInt8 := 34 :: (s.flatMap csvE ++ [34])
def tsvE (c : UInt8) : List UInt8 := if c = 92 then [92, 92] else if c = 9 then [92, 116] else if c = 10 then [92, 110] else if c = 13 then [92, 114] else [c]
def tsvQ (s : List UInt8) : List UInt8 := s.flatMap tsvE
def turnedB (c : UInt8) : UInt8 := if c = 116 then 9 else if c = 110 then 10 else if c = 114 then 13 else c
/-- The cells of a row of csv. -/
def csvL : Bool → List UInt8 → List UInt8 → List (List UInt8)
  | _, w, [] => [w]
  | inn, w, [c] => if c = 34 then [w] else if inn = false ∧ c = 44 then [w, []] else [w ++ [c]]
  | inn, w, c :: x :: s =>
    if inn = true ∧ c = 34 ∧ x = 34 then csvL inn (w ++ [34]) s
    else if c = 34 then csvL (!inn) w (x :: s)
    else if inn = false ∧ c = 44 then w :: csvL inn [] (x :: s)
    else csvL inn (w ++ [c]) (x :: s)
/-- The cells of a row of tsv. -/
def tsvL : List UInt8 → List UInt8 → List (List UInt8)
  | w, [] => [w]
  | w, [c] => if c = 9 then [w, []] else [w ++ [c]]
  | w, c :: x :: s =>
    if c = 92 then tsvL (w ++ [turnedB x]) s
    else if c = 9 then w :: tsvL [] (x :: s)
    else tsvL (w ++ [c]) (x :: s)
theorem csvL_plain (inn : Bool) (w : List UInt8) (c : UInt8) (s : List UInt8) (h : c ≠ 34) (h2 : ¬ (inn = false ∧ c = 44)) : csvL inn w (c :: s) = csvL inn (w ++ [c]) s := by
  cases s with
  | nil => simp only [csvL]; rw [if_neg h, if_neg h2]
  | cons x s => rw [csvL, if_neg (by simp [h]), if_neg h, if_neg h2]
theorem csvL_44 (w s : List UInt8) : csvL false w (44 :: s) = w :: csvL false [] s := by
  cases s with
  | nil => simp [csvL]
  | cons x s => rw [csvL, if_neg (by simp), if_neg (by decide), if_pos ⟨rfl, rfl⟩]
theorem csvL_34 (inn : Bool) (w s : List UInt8) (h : inn = false ∨ s.head? ≠ some 34) : csvL inn w (34 :: s) = csvL (!inn) w s := by
  cases s with
  | nil => simp [csvL]
  | cons x s => rw [csvL, if_neg (by rcases h with h | h <;> simp_all), if_pos rfl]
theorem csvL_body : ∀ (s w r : List UInt8), r.head? ≠ some 34 → csvL true w (s.flatMap csvE ++ 34 :: r) = csvL false (w ++ s) r
  | [], w, r, h => by
    show csvL true w (34 :: r) = _
    rw [csvL_34 true w r (.inr h), List.append_nil]; rfl
  | c :: s, w, r, h => by
    rw [List.flatMap_cons, List.append_assoc]
    by_cases hc : c = 34
    · subst hc
      show csvL true w (34 :: 34 :: (s.flatMap csvE ++ 34 :: r)) = _
      rw [csvL, if_pos ⟨rfl, rfl, rfl⟩, csvL_body s _ r h, List.append_assoc]
      rfl
    · have e : csvE c = [c] := by unfold csvE; rw [if_neg hc]
      rw [e]
      show csvL true w (c :: (s.flatMap csvE ++ 34 :: r)) = _
      rw [csvL_plain true w c _ hc (by simp), csvL_body s _ r h, List.append_assoc]
      rfl
theorem csvL_word (s r : List UInt8) (h : r.head? ≠ some 34) : csvL false [] (csvQ s ++ r) = csvL false s r := by
  unfold csvQ
  rw [List.cons_append, List.append_assoc, csvL_34 false [] _ (.inl rfl)]
  show csvL true [] (s.flatMap csvE ++ 34 :: r) = _
  rw [csvL_body s [] r h, List.nil_append]
theorem csv_back : ∀ (a : List UInt8) (l : List (List UInt8)), csvL false [] (joinB 44 ((a :: l).map csvQ)) = a :: l
  | a, [] => by
    show csvL false [] (csvQ a) = _
    have := csvL_word a [] (by simp)
    rw [List.append_nil] at this
    rw [this]; rfl
  | a, b :: l => by
    show csvL false [] (csvQ a ++ 44 :: joinB 44 ((b :: l).map csvQ)) = _
    rw [csvL_word _ _ (by simp), csvL_44, csv_back b l]
theorem tsvL_plain (w : List UInt8) (c : UInt8) (s : List UInt8) (h : c ≠ 92) (h2 : c ≠ 9) : tsvL w (c :: s) = tsvL (w ++ [c]) s := by
  cases s with
  | nil => simp only [tsvL]; rw [if_neg h2]
  | cons x s => rw [tsvL, if_neg h, if_neg h2]
theorem tsvL_9 (w s : List UInt8) : tsvL w (9 :: s) = w :: tsvL [] s := by
  cases s with
  | nil => simp [tsvL]
  | cons x s => rw [tsvL, if_neg (by decide), if_pos rfl]
theorem tsvL_92 (w : List UInt8) (x : UInt8) (s : List UInt8) : tsvL w (92 :: x :: s) = tsvL (w ++ [turnedB x]) s := by
  rw [tsvL, if_pos rfl]
theorem tsvL_word : ∀ (s w r : List UInt8), tsvL w (tsvQ s ++ r) = tsvL (w ++ s) r
  | [], w, r => by simp [tsvQ]
  | c :: s, w, r => by
    have e : tsvQ (c :: s) = tsvE c ++ tsvQ s := by unfold tsvQ; rw [List.flatMap_cons]
    have step : ∀ x y, tsvE c = [92, x] → turnedB x = y → c = y → tsvL w (tsvE c ++ (tsvQ s ++ r)) = tsvL (w ++ c :: s) r := fun x y h1 h2 h3 => by
      rw [h1]
      show tsvL w (92 :: x :: (tsvQ s ++ r)) = _
      rw [tsvL_92, h2, ← h3, tsvL_word s, List.append_assoc]
      rfl
    rw [e, List.append_assoc]
    by_cases h1 : c = 92
    · exact step 92 92 (by rw [h1]; rfl) (by decide) h1
    · by_cases h2 : c = 9
      · exact step 116 9 (by rw [h2]; rfl) (by decide) h2
      · by_cases h3 : c = 10
        · exact step 110 10 (by rw [h3]; rfl) (by decide) h3
        · by_cases h4 : c = 13
          · exact step 114 13 (by rw [h4]; rfl) (by decide) h4
          · have e : tsvE c = [c] := by unfold tsvE; rw [if_neg h1, if_neg h2, if_neg h3, if_neg h4]
            rw [e]
            show tsvL w (c :: (tsvQ s ++ r)) = _
            rw [tsvL_plain w c _ h1 h2, tsvL_word s, List.append_assoc]
            rfl
theorem tsv_back : ∀ (a : List UInt8) (l : List (List UInt8)), tsvL [] (joinB 9 ((a :: l).map tsvQ)) = a :: l
  | a, [] => by
    show tsvL [] (tsvQ a) = _
    have := tsvL_word a [] []
    rw [List.append_nil] at this
    rw [this]; rfl
  | a, b :: l => by
    show tsvL [] (tsvQ a ++ 9 :: joinB 9 ((b :: l).map tsvQ)) = _
    rw [tsvL_word, tsvL_9, tsv_back b l, List.nil_append]
/-- html: nothing that means something there. -/
def htmlE (c : UInt8) : List UInt8 := if c = 60 then [38, 108, 116, 59] else if c = 62 then [38, 103, 116, 59] else if c = 38 then [38, 97, 109, 112, 59] else if c = 39 then [38, 35, 51, 57, 59] else if c = 34 then [38, 113, 117, 111, 116, 59] else [c]
theorem html_safe (s : List UInt8) : ∀ c ∈ s.flatMap htmlE, c ≠ 60 ∧ c ≠ 62 ∧ c ≠ 39 ∧ c ≠ 34 := by
  intro c hc
  obtain ⟨x, _, hx⟩ := List.mem_flatMap.1 hc
  unfold htmlE at hx
  split at hx
  · simp at hx; rcases hx with rfl | rfl | rfl | rfl <;> decide
  · split at hx
    · simp at hx; rcases hx with rfl | rfl | rfl | rfl <;> decide
    · split at hx
      · simp at hx; rcases hx with rfl | rfl | rfl | rfl | rfl <;> decide
      · split at hx
        · simp at hx; rcases hx with rfl | rfl | rfl | rfl | rfl <;> decide
        · split at hx
          · simp at hx; rcases hx with rfl | rfl | rfl | rfl | rfl | rfl <;> decide
          · rename_i h1 h2 h3 h4 h5
            simp at hx
            subst hx
            exact ⟨h1, h2, h4, h5⟩
def hexU (n : Nat) : UInt8 := if n < 10 then UInt8.ofNat (48 + n) else UInt8.ofNat (55 + n)
def keptB (c : UInt8) : Bool := (97 ≤ c && c ≤ 122) || (65 ≤ c && c ≤ 90) || (48 ≤ c && c ≤ 57) || c == 45 || c == 95 || c == 46 || c == 126
def uriE (c : UInt8) : List UInt8 := if keptB c = true then [c] else [37, hexU (c.toNat / 16), hexU (c.toNat % 16)]
theorem hexU_kept : ∀ n, n < 16 → keptB (hexU n) = true := by decide
theorem uri_safe (s : List UInt8) : ∀ c ∈ s.flatMap uriE, keptB c = true ∨ c = 37 := by
  intro c hc
  obtain ⟨x, _, hx⟩ := List.mem_flatMap.1 hc
  unfold uriE at hx
  split at hx
  · rename_i h; simp at hx; subst hx; exact .inl h
  · have hl := x.toNat_lt
    simp at hx
    rcases hx with rfl | rfl | rfl
    · exact .inr rfl
    · exact .inl (hexU_kept _ (by omega))
    · exact .inl (hexU_kept _ (by omega))
end Go.Proofs.YtpfamfkdfbcooaaGreatDoor
/- format, small: names, cut texts, errors, strings, how cells are quoted. -/
namespace Go.Proofs.YtpfamfkdfbcooaaGreatDoor
open Go Go.RowKit Go.Proofs
def nameT (k : Nat) : List UInt8 := if k = 0 then [110, 117, 108, 108] else if k = 1 ∨ k = 2 then [98, 111, 111, 108, 101, 97, 110] else if k = 3 then [110, 117, 109, 98, 101, 114] else if k = 4 then [115, 116, 114, 105, 110, 103] else if k = 5 then [97, 114, 114, 97, 121] else [111, 98, 106, 101, 99, 116]
set_option maxHeartbeats 2000000 in
set_option maxRecDepth 100000 in
theorem name_any (w : World) (k : Nat) (hk : k ≤ 6) (num : Nat) (str : ByteArray) (A3 : Option Addr) (n3 e3 : Nat) (A4 : Option Addr) (n4 e4 : Nat) :
    Calls Tryz.prog 29 #[.agg #[.int .i64 k, .float .f64 num, .string str, .slice A3 n3 e3, .slice A4 n4 e4]] w fun e w' => e = .returned (.string ⟨(nameT k).toArray⟩) ∧ Below w.heap.size w w' := by
  have hb : ∀ o1 o2, Below w.heap.size w ((w.alloc o1).alloc o2) := fun o1 o2 => ((Below.refl _ _).alloc (Nat.le_refl _) _).alloc (by simp) _
  have h7 : k = 0 ∨ k = 1 ∨ k = 2 ∨ k = 3 ∨ k = 4 ∨ k = 5 ∨ k = 6 := by omega
  rcases h7 with rfl | rfl | rfl | rfl | rfl | rfl | rfl
  all_goals
    go_enter Tryz.func29, Tryz.ntmps29
    go_wp2_with fail
    go_ret
    exact ⟨rfl, hb _ _⟩
/-- The value that a text is, and no error. -/
def strV (s : List UInt8) : Value := .agg #[.int .i64 4, .float .f64 0, .string ⟨s.toArray⟩, .slice none 0 0, .slice none 0 0]
theorem results_cell_cell {fn : Func} {p q : Tmp} {ty tz : TypeId} (h : fn.results = #[.cell p ty, .cell q tz]) (tmps : Array Value) (w : World) (g k : Nat) (cs ds : Array Value)
    (hp : tmps.getD p undef = .pointer (some ⟨g, 0, none⟩)) (hl : (loadVar ty ⟨g, 0, none⟩).run Tryz.prog w = .ok (.agg cs) w)
    (hq : tmps.getD q undef = .pointer (some ⟨k, 0, none⟩)) (hm : (loadVar tz ⟨k, 0, none⟩).run Tryz.prog w = .ok (.agg ds) w) :
    (results fn tmps).run Tryz.prog w = .ok (.tuple #[.agg cs, .agg ds]) w := by
  have hp' : tmps[p]?.getD undef = .pointer (some ⟨g, 0, none⟩) := by simpa using hp
  have hq' : tmps[q]?.getD undef = .pointer (some ⟨k, 0, none⟩) := by simpa using hq
  simp [results, h, hp', hq', asAddr, hl, hm]
/-- A value and an error in two new blocks. -/
structure Two (B : Nat) (w W : World) (v e : Array Value) : Prop where
  below : Below w.heap.size w W
  v : W.heap[B]? = some (.cells v 27 (0, 0))
  e : W.heap[B + 1]? = some (.cells e 32 (0, 0))
  b : w.heap.size ≤ B
theorem Two.setV {B : Nat} {w W : World} {v e : Array Value} (h : Two B w W v e) (x : Array Value) : Two B w (W.setRow B x) x e :=
  ⟨below_setRowG h.below h.b _, setRow_heap _ _ _ _ _ _ h.v, (setRow_other W B (B + 1) x (by omega)).trans h.e, h.b⟩
theorem Two.setE {B : Nat} {w W : World} {v e : Array Value} (h : Two B w W v e) (x : Array Value) : Two B w (W.setRow (B + 1) x) v x :=
  ⟨below_setRowG h.below (by have := h.b; omega) _, (setRow_other W (B + 1) B x (by omega)).trans h.v, setRow_heap _ _ _ _ _ _ h.e, h.b⟩
theorem Two.below' {B : Nat} {w W W' : World} {v e : Array Value} (h : Two B w W v e) (hb : Below W.heap.size W W') : Two B w W' v e :=
  ⟨h.below.trans (hb.mono h.below.size), hlBelow hb h.v, hlBelow hb h.e, h.b⟩
abbrev vZ : Array Value := #[.int .i64 0, .float .f64 0, .string ⟨#[]⟩, .slice none 0 0, .slice none 0 0]
abbrev vS (s : List UInt8) : Array Value := #[.int .i64 4, .float .f64 0, .string ⟨s.toArray⟩, .slice none 0 0, .slice none 0 0]
abbrev eZ : Array Value := #[.bool false, .int .i64 0, .float .f64 0, .string ⟨#[]⟩, .slice none 0 0, .slice none 0 0]
abbrev eS (s : List UInt8) : Array Value := #[.bool true, .int .i64 4, .float .f64 0, .string ⟨s.toArray⟩, .slice none 0 0, .slice none 0 0]
theorem two_new (w : World) : Two w.heap.size w ((w.alloc (.cells vZ 27)).alloc (.cells eZ 32)) vZ eZ := by
  have h := heap_alloc_new (w.alloc (.cells vZ 27)) (.cells eZ 32)
  rw [show (w.alloc (.cells vZ 27)).heap.size = w.heap.size + 1 from by simp] at h
  exact ⟨((Below.refl _ _).alloc (Nat.le_refl _) _).alloc (by simp) _, hlOld (heap_alloc_new _ _), h, Nat.le_refl _⟩
theorem Two.ret {B : Nat} {w W : World} {v e : Array Value} (h : Two B w W v e) (hv : v.size = 5) (he : e.size = 6) :
    (loadVar 27 ⟨B, 0, none⟩).run Tryz.prog W = .ok (.agg v) W ∧ (loadVar 32 ⟨B + 1, 0, none⟩).run Tryz.prog W = .ok (.agg e) W :=
  ⟨run_loadVar_row _ _ _ 27 _ (0, 0) _ h.v Tryz.underlying27 rfl (by rw [hv]; kernel_rfl), run_loadVar_row _ _ _ 32 _ (0, 0) _ h.e Tryz.underlying32 rfl (by rw [he]; kernel_rfl)⟩
theorem oneV (s : ByteArray) (k : Int) : (#[Value.int .i64 k, .float .f64 0, .string s, .slice none 0 0, .slice none 0 0].all (·.oneCell')) = true := by simp [Value.oneCell']
theorem oneE (s : ByteArray) (k : Int) (b : Bool) : (#[Value.bool b, .int .i64 k, .float .f64 0, .string s, .slice none 0 0, .slice none 0 0].all (·.oneCell')) = true := by simp [Value.oneCell']
set_option maxHeartbeats 2000000 in
set_option maxRecDepth 100000 in
theorem fail_any (w : World) (s : List UInt8) :
    Calls Tryz.prog 33 #[.string ⟨s.toArray⟩] w fun e w' => e = .returned (.tuple #[.agg vZ, .agg (eS s)]) ∧ Below w.heap.size w w' := by
  have hT := two_new w
  obtain ⟨W0, hW0⟩ : ∃ W0, W0 = (w.alloc (.cells vZ 27)).alloc (.cells eZ 32) := ⟨_, rfl⟩
  rw [← hW0] at hT
  have HW := Lib.hid hW0
  have HT := Lib.hid hT
  clear hT hW0
  go_enter Tryz.func33, Tryz.ntmps33
  go_upto_region 1 with fail
  rw [← HW.out]
  go_wp2_with (first
    | (refine wpList_store_row rfl 27 (.tmp 2) (.tmp 4) rfl w.heap.size vZ rfl rfl 27 vZ HT.out.v (by kernel_rfl) rfl (oneV _ _) ?_; have HT2 := Lib.hid (HT.out.setV vZ); obtain ⟨W1, hW1⟩ : ∃ W1, W1 = W0.setRow w.heap.size vZ := ⟨_, rfl⟩; rw [← hW1] at HT2 ⊢; clear hW1)
    | (refine wpList_store_row rfl 32 (.tmp 3) (.tmp 7) rfl (w.heap.size + 1) (eS s) rfl rfl 32 eZ HT2.out.e (by kernel_rfl) rfl (oneE _ _ _) ?_; have HT3 := Lib.hid (HT2.out.setE (eS s)); obtain ⟨W2, hW2⟩ : ∃ W2, W2 = W1.setRow (w.heap.size + 1) (eS s) := ⟨_, rfl⟩; rw [← hW2] at HT3 ⊢; clear hW2))
  obtain ⟨l1, l2⟩ := HT3.out.ret rfl rfl
  refine bodyPost_ret (results_cell_cell rfl _ _ w.heap.size (w.heap.size + 1) _ _ rfl l1 rfl l2) rfl ?_
  exact ⟨rfl, HT3.out.below⟩
def largeT : List UInt8 := [118, 97, 108, 117, 101, 32, 105, 115, 32, 116, 111, 111, 32, 108, 97, 114, 103, 101]
/-- What str answers. -/
def outV (s : List UInt8) : Value := if s.length ≤ 1048576 then .tuple #[.agg (vS s), .agg eZ] else .tuple #[.agg vZ, .agg (eS largeT)]
set_option maxHeartbeats 2000000 in
set_option maxRecDepth 100000 in
theorem str_any (w : World) (s : List UInt8) :
    Calls Tryz.prog 34 #[.string ⟨s.toArray⟩] w fun e w' => e = .returned (outV s) ∧ Below w.heap.size w w' := by
  have hT := two_new w
  obtain ⟨W0, hW0⟩ : ∃ W0, W0 = (w.alloc (.cells vZ 27)).alloc (.cells eZ 32) := ⟨_, rfl⟩
  rw [← hW0] at hT
  have HW := Lib.hid hW0
  have HT := Lib.hid hT
  have HF := Lib.hid (fun W => fail_any W largeT)
  have hsz : (⟨s.toArray⟩ : ByteArray).size = s.length := rfl
  clear hT hW0
  rcases Nat.lt_or_ge 1048576 s.length with hl | hl
  · have t1 : decide ((1048576 : Int) < (s.length : Int)) = true := decide_eq_true (by omega)
    have HO : Hid (outV s = .tuple #[.agg vZ, .agg (eS largeT)]) := Lib.hid (by unfold outV; rw [if_neg (by omega)])
    go_enter Tryz.func34, Tryz.ntmps34
    go_upto_region 1 with fail
    rw [← HW.out]
    go_wp2_with fail
    refine (HF.out _).mono ?_
    rintro e' w3 ⟨rfl, hb3⟩
    have HT := Lib.hid (HT.out.below' hb3)
    clear hb3
    go_wp2_with (first
    | (refine wpList_store_row rfl 27 (.tmp 2) (.tmp 8) rfl w.heap.size (vZ) rfl rfl 27 vZ HT.out.v (by kernel_rfl) rfl (oneV _ _) ?_; have HT2 := Lib.hid (HT.out.setV (vZ)); obtain ⟨W1, hW1⟩ : ∃ W1, W1 = w3.setRow w.heap.size (vZ) := ⟨_, rfl⟩; rw [← hW1] at HT2 ⊢; clear hW1)
    | (refine wpList_store_row rfl 32 (.tmp 3) (.tmp 9) rfl (w.heap.size + 1) (eS largeT) rfl rfl 32 eZ HT2.out.e (by kernel_rfl) rfl (oneE _ _ _) ?_; have HT3 := Lib.hid (HT2.out.setE (eS largeT)); obtain ⟨W2, hW2⟩ : ∃ W2, W2 = W1.setRow (w.heap.size + 1) (eS largeT) := ⟨_, rfl⟩; rw [← hW2] at HT3 ⊢; clear hW2))
    obtain ⟨l1, l2⟩ := HT3.out.ret rfl rfl
    refine bodyPost_ret (results_cell_cell rfl _ _ w.heap.size (w.heap.size + 1) _ _ rfl l1 rfl l2) rfl ?_
    exact ⟨by rw [HO.out], HT3.out.below⟩
  · have t1 : decide ((1048576 : Int) < (s.length : Int)) = false := decide_eq_false (by omega)
    have HO : Hid (outV s = .tuple #[.agg (vS s), .agg eZ]) := Lib.hid (by unfold outV; rw [if_pos hl])
    go_enter Tryz.func34, Tryz.ntmps34
    go_upto_region 1 with fail
    rw [← HW.out]
    go_wp2_with (first
    | (refine wpList_store_row rfl 27 (.tmp 2) (.tmp 11) rfl w.heap.size (vS s) rfl rfl 27 vZ HT.out.v (by kernel_rfl) rfl (oneV _ _) ?_; have HT2 := Lib.hid (HT.out.setV (vS s)); obtain ⟨W1, hW1⟩ : ∃ W1, W1 = W0.setRow w.heap.size (vS s) := ⟨_, rfl⟩; rw [← hW1] at HT2 ⊢; clear hW1)
    | (refine wpList_store_row rfl 32 (.tmp 3) (.tmp 12) rfl (w.heap.size + 1) (eZ) rfl rfl 32 eZ HT2.out.e (by kernel_rfl) rfl (oneE _ _ _) ?_; have HT3 := Lib.hid (HT2.out.setE (eZ)); obtain ⟨W2, hW2⟩ : ∃ W2, W2 = W1.setRow (w.heap.size + 1) (eZ) := ⟨_, rfl⟩; rw [← hW2] at HT3 ⊢; clear hW2))
    obtain ⟨l1, l2⟩ := HT3.out.ret rfl rfl
    refine bodyPost_ret (results_cell_cell rfl _ _ w.heap.size (w.heap.size + 1) _ _ rfl l1 rfl l2) rfl ?_
    exact ⟨by rw [HO.out], HT3.out.below⟩
theorem ba_app (a b : List UInt8) : (⟨a.toArray⟩ : ByteArray) ++ ⟨b.toArray⟩ = ⟨(a ++ b).toArray⟩ := by
  apply ByteArray.ext
  simp
theorem cell_slice (w : World) (arr : Array Value) (T : TypeId) (l : List Value) (h : arr.toList = l) : ∀ j u, l[j]? = some u → (w.alloc (.cells arr T)).cell? ((⟨w.heap.size, 0, none⟩ : Addr).add j) = some u := by
  intro j u hu
  rw [add_mk, Nat.zero_add]
  refine cell_of_heap (heap_alloc_new _ _) ?_
  rw [← Array.getElem?_toList, h]; exact hu
def psC : Prs := [(34, [34, 34])]
def psS : Prs := [(39, [39, 92, 39, 39])]
def psT : Prs := [(92, [92, 92]), (9, [92, 116]), (10, [92, 110]), (13, [92, 114])]
theorem rep_csv (s : List UInt8) : repT psC s = s.flatMap csvE := by
  unfold repT
  congr 1
  funext c
  by_cases h : c = 34
  · subst h; rfl
  · unfold repE psC csvE; rw [List.lookup_cons, show (c == 34) = false from by rw [beq_eq_false_iff_ne]; exact h, if_neg h]; rfl
theorem rep_sh (s : List UInt8) : repT psS s = s.flatMap shE := by
  unfold repT
  congr 1
  funext c
  by_cases h : c = 39
  · subst h; rfl
  · unfold repE psS shE; rw [List.lookup_cons, show (c == 39) = false from by rw [beq_eq_false_iff_ne]; exact h, if_neg h]; rfl
theorem rep_tsv (s : List UInt8) : repT psT s = s.flatMap tsvE := by
  unfold repT
  congr 1
  funext c
  by_cases h1 : c = 92
  · subst h1; rfl
  · by_cases h2 : c = 9
    · subst h2; rfl
    · by_cases h3 : c = 10
      · subst h3; rfl
      · by_cases h4 : c = 13
        · subst h4; rfl
        · unfold repE psT tsvE
          rw [if_neg h1, if_neg h2, if_neg h3, if_neg h4]
          simp only [List.lookup_cons, List.lookup_nil, show (c == 92) = false from by rw [beq_eq_false_iff_ne]; exact h1, show (c == 9) = false from by rw [beq_eq_false_iff_ne]; exact h2, show (c == 10) = false from by rw [beq_eq_false_iff_ne]; exact h3, show (c == 13) = false from by rw [beq_eq_false_iff_ne]; exact h4]
          rfl
set_option maxHeartbeats 2000000 in
set_option maxRecDepth 100000 in
theorem quote_csv (w : World) (s : List UInt8) (hs : s.length ≤ 1200000000) :
    Calls Tryz.prog 60 #[.string ⟨s.toArray⟩] w fun e w' => e = .returned (.string ⟨(csvQ s).toArray⟩) ∧ Below w.heap.size w w' := by
  have hE := escaped_any (w.alloc (.cells #[.string ⟨#[34]⟩, .string ⟨#[34, 34]⟩] 9)) psC ⟨w.heap.size, 0, none⟩ 2 (by decide) (by decide) (by decide) (by decide) (cell_slice w _ _ _ rfl) s hs
  have hZl := (repT_len_le psC (by decide) s).2
  rw [rep_csv] at hE hZl
  have HE := Lib.hid hE
  have HQ : Hid (csvQ s = 34 :: (s.flatMap csvE ++ [34])) := Lib.hid rfl
  obtain ⟨Z, hZ⟩ : ∃ Z, Z = s.flatMap csvE := ⟨_, rfl⟩
  rw [← hZ] at HE HQ hZl
  have hZl : Z.length ≤ 200000000000 := by omega
  have hZ0 : (⟨Z.toArray⟩ : ByteArray).size = Z.length := rfl
  clear hE hZ
  have hb0 : ∀ o, Below w.heap.size w (w.alloc o) := fun o => (Below.refl _ _).alloc (Nat.le_refl _) _
  go_enter Tryz.func60, Tryz.ntmps60
  go_wp2_with fail
  refine HE.out.mono ?_
  rintro e' w2 ⟨rfl, hb2⟩
  have hbe := (hb0 _).trans (hb2.mono (hb0 (.cells #[.string ⟨#[34]⟩, .string ⟨#[34, 34]⟩] 9)).size)
  go_wp2_with fail
  go_ret
  exact ⟨by rw [HQ.out]; congr 2, hbe⟩
set_option maxHeartbeats 2000000 in
set_option maxRecDepth 100000 in
theorem quote_tsv (w : World) (s : List UInt8) (hs : s.length ≤ 1200000000) :
    Calls Tryz.prog 61 #[.string ⟨s.toArray⟩] w fun e w' => e = .returned (.string ⟨(tsvQ s).toArray⟩) ∧ Below w.heap.size w w' := by
  have hE := escaped_any (w.alloc (.cells #[.string ⟨#[92]⟩, .string ⟨#[92, 92]⟩, .string ⟨#[9]⟩, .string ⟨#[92, 116]⟩, .string ⟨#[10]⟩, .string ⟨#[92, 110]⟩, .string ⟨#[13]⟩, .string ⟨#[92, 114]⟩] 9)) psT ⟨w.heap.size, 0, none⟩ 8 (by decide) (by decide) (by decide) (by decide) (cell_slice w _ _ _ rfl) s hs
  have hZl := (repT_len_le psT (by decide) s).2
  rw [rep_tsv] at hE hZl
  have HE := Lib.hid hE
  have HQ : Hid (tsvQ s = s.flatMap tsvE) := Lib.hid rfl
  obtain ⟨Z, hZ⟩ : ∃ Z, Z = s.flatMap tsvE := ⟨_, rfl⟩
  rw [← hZ] at HE HQ hZl
  have hZl : Z.length ≤ 200000000000 := by omega
  have hZ0 : (⟨Z.toArray⟩ : ByteArray).size = Z.length := rfl
  clear hE hZ
  have hb0 : ∀ o, Below w.heap.size w (w.alloc o) := fun o => (Below.refl _ _).alloc (Nat.le_refl _) _
  go_enter Tryz.func61, Tryz.ntmps61
  go_wp2_with fail
  refine HE.out.mono ?_
  rintro e' w2 ⟨rfl, hb2⟩
  have hbe := (hb0 _).trans (hb2.mono (hb0 (.cells #[.string ⟨#[92]⟩, .string ⟨#[92, 92]⟩, .string ⟨#[9]⟩, .string ⟨#[92, 116]⟩, .string ⟨#[10]⟩, .string ⟨#[92, 110]⟩, .string ⟨#[13]⟩, .string ⟨#[92, 114]⟩] 9)).size)
  go_wp2_with fail
  go_ret
  exact ⟨by rw [HQ.out]; rfl, hbe⟩
set_option maxHeartbeats 2000000 in
set_option maxRecDepth 100000 in
theorem quote_sh (w : World) (s : List UInt8) (hs : s.length ≤ 1200000000) :
    Calls Tryz.prog 62 #[.string ⟨s.toArray⟩] w fun e w' => e = .returned (.string ⟨(shQ s).toArray⟩) ∧ Below w.heap.size w w' := by
  have hE := escaped_any (w.alloc (.cells #[.string ⟨#[39]⟩, .string ⟨#[39, 92, 39, 39]⟩] 9)) psS ⟨w.heap.size, 0, none⟩ 2 (by decide) (by decide) (by decide) (by decide) (cell_slice w _ _ _ rfl) s hs
  have hZl := (repT_len_le psS (by decide) s).2
  rw [rep_sh] at hE hZl
  have HE := Lib.hid hE
  have HQ : Hid (shQ s = 39 :: (s.flatMap shE ++ [39])) := Lib.hid rfl
  obtain ⟨Z, hZ⟩ : ∃ Z, Z = s.flatMap shE := ⟨_, rfl⟩
  rw [← hZ] at HE HQ hZl
  have hZl : Z.length ≤ 200000000000 := by omega
  have hZ0 : (⟨Z.toArray⟩ : ByteArray).size = Z.length := rfl
  clear hE hZ
  have hb0 : ∀ o, Below w.heap.size w (w.alloc o) := fun o => (Below.refl _ _).alloc (Nat.le_refl _) _
  go_enter Tryz.func62, Tryz.ntmps62
  go_wp2_with fail
  refine HE.out.mono ?_
  rintro e' w2 ⟨rfl, hb2⟩
  have hbe := (hb0 _).trans (hb2.mono (hb0 (.cells #[.string ⟨#[39]⟩, .string ⟨#[39, 92, 39, 39]⟩] 9)).size)
  go_wp2_with fail
  go_ret
  exact ⟨by rw [HQ.out]; congr 2, hbe⟩
end Go.Proofs.YtpfamfkdfbcooaaGreatDoor
/- runes.Count, offset, Slice, value.Short: some text. -/
namespace Go.Proofs.YtpfamfkdfbcooaaGreatDoor
open Go Go.RowKit Go.Proofs
set_option maxRecDepth 100000 in
theorem count_any (w : World) (s : ByteArray) (hs : s.size ≤ 140000000000000) :
    Calls Tryz.prog 58 #[.string s] w fun e w' => e = .returned (.int .i64 (Lib.runeCount s)) ∧ Below w.heap.size w w' := by
  go_enter Tryz.func58, Tryz.ntmps58
  go_wp2_with fail
  refine (Tryz.utf8_RuneCountInString s w (by omega)).mono ?_
  rintro e' w' ⟨rfl, pos, rfl⟩
  have hb : Below w.heap.size w (w.iter s pos) := show Below _ _ (World.alloc _ (.stringIter s pos)) from (Below.refl _ _).alloc (Nat.le_refl _) _
  go_wp2_with fail
  go_ret
  exact ⟨rfl, hb⟩
set_option maxHeartbeats 1000000 in
set_option maxRecDepth 100000 in
theorem offset_some (w : World) (Z : ByteArray) (n : Nat) (hn : n ≤ 1000) (hs : Z.size ≤ 140000000000000) :
    Calls Tryz.prog 87 #[.string Z, .int .i64 n] w fun e w' => ∃ k : Nat, k ≤ Z.size ∧ e = .returned (.int .i64 k) ∧ Below w.heap.size w w' := by
  have hst : (w.iter Z 0).heap[w.heap.size]? = some (.stringIter Z 0) ∧ Below w.heap.size w (w.iter Z 0) :=
    ⟨by have := World.iter_heap w Z 0; simpa using this, show Below _ _ (World.alloc _ (.stringIter Z 0)) from (Below.refl _ _).alloc (Nat.le_refl _) _⟩
  have HST := Lib.hid hst
  clear hst
  go_enter Tryz.func87, Tryz.ntmps87
  go_wp2_with fail
  go_loopw [1] (fun x wr => ∃ (pos m : Nat), x = .int .i64 m ∧ m ≤ 1000 ∧ wr.heap[w.heap.size]? = some (.stringIter Z pos) ∧ Below w.heap.size w wr) (fun _ wr => Z.size - wr.iterPos w.heap.size)
  case atStart => exact ⟨0, n, rfl, hn, HST.out.1, HST.out.2⟩
  case round =>
    clear HST hn
    obtain ⟨pos, m, rfl, hm, hit, hbw⟩ := hrel
    by_cases hp : pos < Z.size
    · have hnx : ∀ ty, (Instr.next (.pointer (some ⟨w.heap.size, 0, none⟩)) true ty).run Tryz.prog wr = _ := fun ty => Lib.run_next_any_at wr w.heap.size Z pos ty hit hp
      have hwd := width_pos Z pos hp
      have hit2 := Lib.iterAt_heap wr w.heap.size Z pos (pos + (Utf8.decode Z pos).2) hit
      have hbw2 := Lib.below_iterAt hbw (k := w.heap.size) (by omega) Z (pos + (Utf8.decode Z pos).2)
      obtain ⟨r, hr⟩ : ∃ r, r = (Utf8.decode Z pos).1 := ⟨_, rfl⟩
      obtain ⟨d, hd⟩ : ∃ d, d = (Utf8.decode Z pos).2 := ⟨_, rfl⟩
      rw [← hr] at hnx
      rw [← hd] at hnx hit2 hbw2 hwd
      obtain ⟨W2, hW2⟩ : ∃ W2, W2 = wr.iterAt w.heap.size Z (pos + d) := ⟨_, rfl⟩
      rw [← hW2] at hnx hit2 hbw2
      have HIT := Lib.hid hit2
      clear hr hd hW2 hit2
      cases m with
      | zero =>
        go_wp2_with fail
        go_ret
        exact ⟨pos, by omega, rfl, hbw2⟩
      | succ m =>
        go_wp2_with fail
        all_goals go_roundw
        case rel => exact ⟨pos + d, m, by go_num, by omega, HIT.out, hbw2⟩
        case measure =>
          simp only [World.iterPos, HIT.out, hit]
          omega
    · have hnx : ∀ ty, (Instr.next (.pointer (some ⟨w.heap.size, 0, none⟩)) true ty).run Tryz.prog wr = _ := fun ty => Lib.run_next_end_at wr w.heap.size Z pos ty hit hp
      go_wp2_with fail
      go_ret
      exact ⟨Z.size, Nat.le_refl _, rfl, hbw⟩
set_option maxHeartbeats 1000000 in
set_option maxRecDepth 100000 in
theorem slice_some (w : World) (Z : ByteArray) (hs : Z.size ≤ 140000000000000) :
    Calls Tryz.prog 59 #[.string Z, .int .i64 0, .int .i64 21] w fun e w' => ∃ out : ByteArray, out.size ≤ Z.size ∧ e = .returned (.string out) ∧ Below w.heap.size w w' := by
  go_enter Tryz.func59, Tryz.ntmps59
  go_wp2_with fail
  refine (offset_some w Z 0 (by omega) hs).mono ?_
  rintro e' w1 ⟨k, hk, rfl, hb1⟩
  go_wp2_with fail
  obtain ⟨Y, hY⟩ : ∃ Y : ByteArray, Y = Z.extract k Z.size := ⟨_, rfl⟩
  have hys : Y.size ≤ Z.size := by rw [hY]; simp only [ByteArray.size_extract]; omega
  rw [← hY]
  clear hY hk
  refine (offset_some w1 Y 21 (by omega) (by omega)).mono ?_
  rintro e' w2 ⟨j, hj, rfl, hb2⟩
  have hb := hb1.trans (hb2.mono hb1.size)
  go_wp2_with fail
  go_ret
  exact ⟨_, by simp only [ByteArray.size_extract]; omega, rfl, hb⟩
set_option maxHeartbeats 1000000 in
set_option maxRecDepth 100000 in
theorem short_of (w : World) (k num : Nat) (str : ByteArray) (A3 : Option Addr) (n3 e3 : Nat) (A4 : Option Addr) (n4 e4 : Nat) (Z : List UInt8) (hZ : Z.length ≤ 130000000000000)
    (HT : ∀ W, Below w.heap.size w W → Calls Tryz.prog 35 #[.agg #[.int .i64 k, .float .f64 num, .string str, .slice A3 n3 e3, .slice A4 n4 e4]] W fun e w' => e = .returned (.string ⟨Z.toArray⟩) ∧ Below W.heap.size W w') :
    Calls Tryz.prog 30 #[.agg #[.int .i64 k, .float .f64 num, .string str, .slice A3 n3 e3, .slice A4 n4 e4]] w fun e w' => ∃ out : ByteArray, out.size ≤ Z.length + 3 ∧ e = .returned (.string out) ∧ Below w.heap.size w w' := by
  have HT2 := Lib.hid HT
  clear HT
  have hzs : (⟨Z.toArray⟩ : ByteArray).size = Z.length := rfl
  obtain ⟨ZB, hZB⟩ : ∃ ZB : ByteArray, ZB = ⟨Z.toArray⟩ := ⟨_, rfl⟩
  rw [← hZB] at HT2 hzs
  clear hZB
  go_enter Tryz.func30, Tryz.ntmps30
  obtain ⟨W1, hW1⟩ : ∃ W1, W1 = w.alloc (.cells #[.int .i64 k, .float .f64 num, .string str, .slice A3 n3 e3, .slice A4 n4 e4] 27) := ⟨_, rfl⟩
  have hb1 : Below w.heap.size w W1 := by rw [hW1]; exact (Below.refl _ _).alloc (Nat.le_refl _) _
  have hT := HT2.out W1 hb1
  clear HT2
  rw [hW1] at hb1 hT
  clear hW1
  go_wp2_with fail
  refine hT.mono ?_
  rintro e' w2 ⟨rfl, hb2⟩
  have hb3 := hb1.trans (hb2.mono hb1.size)
  clear hb1 hb2 hT
  go_wp2_with fail
  refine (count_any w2 ZB (by omega)).mono ?_
  rintro e' w3 ⟨rfl, hb4⟩
  have hb5 := hb3.trans (hb4.mono hb3.size)
  obtain ⟨c, hc⟩ : ∃ c, c = Lib.runeCount ZB := ⟨_, rfl⟩
  rw [← hc]
  clear hc hb3 hb4
  by_cases h24 : (c : Int) ≤ 24
  · have hd : ((c : Int) ≤ 24) = True := eq_true h24
    go_wp2_with fail
    go_ret
    exact ⟨_, by omega, rfl, hb5⟩
  · have hd : ((c : Int) ≤ 24) = False := eq_false h24
    go_wp2_with fail
    refine (slice_some w3 ZB (by omega)).mono ?_
    rintro e' w4 ⟨out, ho, rfl, hb6⟩
    have hb7 := hb5.trans (hb6.mono hb5.size)
    go_wp2_with fail
    go_ret
    exact ⟨_, by simp only [ByteArray.size_append]; have : (⟨#[46, 46, 46]⟩ : ByteArray).size = 3 := rfl; omega, rfl, hb7⟩
set_option maxHeartbeats 1000000 in
set_option maxRecDepth 100000 in
/-- format.String of a string. -/
theorem fstring_str (w : World) (num : Nat) (str : ByteArray) (A3 : Option Addr) (n3 e3 : Nat) (A4 : Option Addr) (n4 e4 : Nat) :
    Calls Tryz.prog 15 #[.agg #[.int .i64 4, .float .f64 num, .string str, .slice A3 n3 e3, .slice A4 n4 e4]] w fun e w' => e = .returned (.string str) ∧ Below w.heap.size w w' := by
  have hb : ∀ o1, Below w.heap.size w (w.alloc o1) := fun o1 => (Below.refl _ _).alloc (Nat.le_refl _) _
  go_enter Tryz.func15, Tryz.ntmps15
  go_wp2_with fail
  go_ret
  exact ⟨rfl, hb _⟩
set_option maxHeartbeats 1000000 in
set_option maxRecDepth 100000 in
/-- format.String of what is no string. -/
theorem fstring_of (w : World) (k num : Nat) (hk : k ≠ 4) (hk6 : k ≤ 6) (str : ByteArray) (A3 : Option Addr) (n3 e3 : Nat) (A4 : Option Addr) (n4 e4 : Nat) (Z : List UInt8)
    (HT : ∀ W, Below w.heap.size w W → Calls Tryz.prog 35 #[.agg #[.int .i64 k, .float .f64 num, .string str, .slice A3 n3 e3, .slice A4 n4 e4]] W fun e w' => e = .returned (.string ⟨Z.toArray⟩) ∧ Below W.heap.size W w') :
    Calls Tryz.prog 15 #[.agg #[.int .i64 k, .float .f64 num, .string str, .slice A3 n3 e3, .slice A4 n4 e4]] w fun e w' => e = .returned (.string ⟨Z.toArray⟩) ∧ Below w.heap.size w w' := by
  have HT2 := Lib.hid HT
  clear HT
  have hk4 : ((k : Int) = 4) = False := eq_false (by omega)
  have hb1 : Below w.heap.size w (w.alloc (.cells #[.int .i64 k, .float .f64 num, .string str, .slice A3 n3 e3, .slice A4 n4 e4] 27)) := (Below.refl _ _).alloc (Nat.le_refl _) _
  have hT := HT2.out _ hb1
  clear HT2
  go_enter Tryz.func15, Tryz.ntmps15
  go_wp2_with fail
  refine hT.mono ?_
  rintro e' w2 ⟨rfl, hb2⟩
  have hb3 := hb1.trans (hb2.mono hb1.size)
  go_wp2_with fail
  go_ret
  exact ⟨rfl, hb3⟩
end Go.Proofs.YtpfamfkdfbcooaaGreatDoor
/- format.rows: how cells are written by a format. -/
namespace Go.Proofs.YtpfamfkdfbcooaaGreatDoor
open Go Go.RowKit Go.Proofs
theorem results_row_tmp {fn : Func} {p q : Tmp} {ty : TypeId} (h : fn.results = #[.cell p ty, .tmp q]) (tmps : Array Value) (w : World) (g : Nat) (cs : Array Value)
    (hp : tmps.getD p undef = .pointer (some ⟨g, 0, none⟩)) (hl : (loadVar ty ⟨g, 0, none⟩).run Tryz.prog w = .ok (.agg cs) w) :
    (results fn tmps).run Tryz.prog w = .ok (.tuple #[.agg cs, tmps.getD q undef]) w := by
  have hp' : tmps[p]?.getD undef = .pointer (some ⟨g, 0, none⟩) := by simpa using hp
  simp [results, h, hp', asAddr, hl]
/-- A row: how cells are written. -/
def rowA (name between null : List UInt8) (fn : Nat) (wrong : List UInt8) : Array Value := #[.string ⟨name.toArray⟩, .string ⟨between.toArray⟩, .string ⟨null.toArray⟩, .func (.func fn) #[] #[], .string ⟨wrong.toArray⟩]
def wrongC : List UInt8 := [105, 115, 32, 110, 111, 116, 32, 118, 97, 108, 105, 100, 32, 105, 110, 32, 97, 32, 99, 115, 118, 32, 114, 111, 119]
def wrongT : List UInt8 := [105, 115, 32, 110, 111, 116, 32, 118, 97, 108, 105, 100, 32, 105, 110, 32, 97, 32, 116, 115, 118, 32, 114, 111, 119]
def wrongS : List UInt8 := [99, 97, 110, 32, 110, 111, 116, 32, 98, 101, 32, 101, 115, 99, 97, 112, 101, 100, 32, 102, 111, 114, 32, 115, 104, 101, 108, 108]
def rowC : Array Value := rowA [99, 115, 118] [44] [] 60 wrongC
def rowT : Array Value := rowA [116, 115, 118] [9] [] 61 wrongT
def rowS : Array Value := rowA [115, 104] [32] [110, 117, 108, 108] 62 wrongS
abbrev rowZ : Array Value := #[.string ⟨#[]⟩, .string ⟨#[]⟩, .string ⟨#[]⟩, .nilFunc, .string ⟨#[]⟩]
set_option maxHeartbeats 2000000 in
set_option maxRecDepth 100000 in
theorem rows_csv (w : World) : Calls Tryz.prog 31 #[.string ⟨#[99, 115, 118]⟩] w fun e w' => e = .returned (.tuple #[.agg rowC, .bool true]) ∧ Below w.heap.size w w' := by
  go_enter Tryz.func31, Tryz.ntmps31
  go_wp2_with (refine wpList_store_row rfl 54 (.tmp 2) (.tmp 8) rfl w.heap.size rowC rfl rfl 54 rowZ (heap_alloc_new _ _) (by kernel_rfl) rfl (by simp [rowC, rowT, rowS, rowA, Value.oneCell']) ?_; rw [setRow_new])
  have hr := heap_alloc_new w (.cells rowC 54)
  refine bodyPost_ret (results_row_tmp rfl _ _ w.heap.size _ rfl (run_loadVar_row _ _ _ 54 _ (0, 0) _ hr Tryz.underlying54 rfl (by kernel_rfl))) rfl ?_
  exact ⟨rfl, (Below.refl _ _).alloc (Nat.le_refl _) _⟩
set_option maxHeartbeats 2000000 in
set_option maxRecDepth 100000 in
theorem rows_tsv (w : World) : Calls Tryz.prog 31 #[.string ⟨#[116, 115, 118]⟩] w fun e w' => e = .returned (.tuple #[.agg rowT, .bool true]) ∧ Below w.heap.size w w' := by
  go_enter Tryz.func31, Tryz.ntmps31
  go_wp2_with (refine wpList_store_row rfl 54 (.tmp 2) (.tmp 12) rfl w.heap.size rowT rfl rfl 54 rowZ (heap_alloc_new _ _) (by kernel_rfl) rfl (by simp [rowC, rowT, rowS, rowA, Value.oneCell']) ?_; rw [setRow_new])
  have hr := heap_alloc_new w (.cells rowT 54)
  refine bodyPost_ret (results_row_tmp rfl _ _ w.heap.size _ rfl (run_loadVar_row _ _ _ 54 _ (0, 0) _ hr Tryz.underlying54 rfl (by kernel_rfl))) rfl ?_
  exact ⟨rfl, (Below.refl _ _).alloc (Nat.le_refl _) _⟩
set_option maxHeartbeats 2000000 in
set_option maxRecDepth 100000 in
theorem rows_sh (w : World) : Calls Tryz.prog 31 #[.string ⟨#[115, 104]⟩] w fun e w' => e = .returned (.tuple #[.agg rowS, .bool true]) ∧ Below w.heap.size w w' := by
  go_enter Tryz.func31, Tryz.ntmps31
  go_wp2_with (refine wpList_store_row rfl 54 (.tmp 2) (.tmp 16) rfl w.heap.size rowS rfl rfl 54 rowZ (heap_alloc_new _ _) (by kernel_rfl) rfl (by simp [rowC, rowT, rowS, rowA, Value.oneCell']) ?_; rw [setRow_new])
  have hr := heap_alloc_new w (.cells rowS 54)
  refine bodyPost_ret (results_row_tmp rfl _ _ w.heap.size _ rfl (run_loadVar_row _ _ _ 54 _ (0, 0) _ hr Tryz.underlying54 rfl (by kernel_rfl))) rfl ?_
  exact ⟨rfl, (Below.refl _ _).alloc (Nat.le_refl _) _⟩
set_option maxHeartbeats 2000000 in
set_option maxRecDepth 100000 in
theorem rows_no (w : World) (name : List UInt8) (h1 : (name == [99, 115, 118]) = false) (h2 : (name == [116, 115, 118]) = false) (h3 : (name == [115, 104]) = false) : Calls Tryz.prog 31 #[.string ⟨name.toArray⟩] w fun e w' => e = .returned (.tuple #[.agg rowZ, .bool false]) ∧ Below w.heap.size w w' := by
  go_enter Tryz.func31, Tryz.ntmps31
  go_wp2_with (refine wpList_store_row rfl 54 (.tmp 2) (.tmp 17) rfl w.heap.size rowZ rfl rfl 54 rowZ (heap_alloc_new _ _) (by kernel_rfl) rfl (by simp [Value.oneCell']) ?_; rw [setRow_new])
  have hr := heap_alloc_new w (.cells rowZ 54)
  refine bodyPost_ret (results_row_tmp rfl _ _ w.heap.size _ rfl (run_loadVar_row _ _ _ 54 _ (0, 0) _ hr Tryz.underlying54 rfl (by kernel_rfl))) rfl ?_
  exact ⟨rfl, (Below.refl _ _).alloc (Nat.le_refl _) _⟩
end Go.Proofs.YtpfamfkdfbcooaaGreatDoor
