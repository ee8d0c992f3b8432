/- In one text: Rows of texts in the order of their bytes: there is one; trees whose objects' keys are sorted.; value.places: an object's places in the order of its keys' bytes.; value.Keys: an object's keys in the order of their bytes. -/
import Derived.Test.YticaihfcnbehpaaGreatDoorGet
import Derived.Sort.LotA
import Derived.Deep.QuietTactic
import Derived.WalkKit
import Derived.Shelf.GgSortFunc.Whole
import Derived.Shelf.GgSortFunc.Tiny
import Derived.Lib.RowBridge
import Derived.Lib.OwnBridge
set_option linter.unusedVariables false
set_option linter.unusedSimpArgs false
/- Rows of texts in the order of their bytes: there is one; trees whose objects' keys are sorted. -/
namespace Go.Proofs.YticaihfcnbehpaaGreatDoor
open Go Go.RowKit Go.Proofs
theorem bl_eq : ∀ (x y : Txt), Op.bytesLess x y = decide (x < y)
  | [], [] => by simp [Op.bytesLess]
  | _ :: _, [] => by simp [Op.bytesLess]
  | [], _ :: _ => by simp [Op.bytesLess]
  | a :: x, b :: y => by
    rw [Op.bytesLess, bl_eq x y]
    simp only [List.cons_lt_cons_iff]
    by_cases h1 : a < b <;> by_cases h2 : a = b <;> by_cases h3 : x < y <;> simp [h1, h2, h3]
theorem leS_le (x y : Txt) : leS x y = decide (x ≤ y) := by
  unfold leS
  rw [bl_eq, Bool.eq_iff_iff]
  simp only [Bool.or_eq_true, decide_eq_true_eq, beq_iff_eq]
  constructor
  · rintro (h | rfl)
    · exact List.le_of_lt h
    · exact List.le_refl _
  · intro h
    by_cases h1 : x < y
    · exact .inl h1
    · exact .inr (List.le_antisymm h (List.not_lt.1 h1))
theorem leS_trans {x y z : Txt} (h : leS x y = true) (k : leS y z = true) : leS x z = true := by
  rw [leS_le] at *
  exact decide_eq_true (List.le_trans (of_decide_eq_true h) (of_decide_eq_true k))
theorem leS_anti {x y : Txt} (h : leS x y = true) (k : leS y x = true) : x = y := by
  rw [leS_le] at *
  exact List.le_antisymm (of_decide_eq_true h) (of_decide_eq_true k)
theorem leS_total {x y : Txt} (h : leS x y = false) : leS y x = true := by
  rw [leS_le] at *
  rcases List.le_total x y with e | e
  · exact absurd e (of_decide_eq_false h)
  · exact decide_eq_true e
theorem leS_of_not {x y : Txt} (h : Op.bytesLess y x = false) : leS x y = true := by
  rw [leS_le]
  rw [bl_eq] at h
  exact decide_eq_true (List.not_lt.1 (of_decide_eq_false h))
/-- In the order of the bytes. -/
def Asd (l : List Txt) : Prop := l.Pairwise fun a b => leS a b = true
theorem mergeT_asd : ∀ (f : Nat) (a b : List Txt), a.length + b.length ≤ f → Asd a → Asd b → Asd (mergeT f a b)
  | 0, _, _, _, _, _ => List.Pairwise.nil
  | f + 1, [], [], _, _, _ => List.Pairwise.nil
  | f + 1, x :: a, [], h, ha, _ => by
    simp only [List.length_cons, List.length_nil] at h
    rw [mergeT_x]
    have hl : a.length + ([] : List Txt).length ≤ f := by simp only [List.length_nil]; omega
    refine List.Pairwise.cons (fun z hz => ?_) (mergeT_asd f a [] hl (List.pairwise_cons.1 ha).2 List.Pairwise.nil)
    have hz' := (mergeT_perm f a [] hl).mem_iff.1 hz
    rw [List.append_nil] at hz'
    exact (List.pairwise_cons.1 ha).1 z hz'
  | f + 1, [], y :: b, h, _, hb => by
    simp only [List.length_cons, List.length_nil] at h
    rw [mergeT_y]
    have hl : ([] : List Txt).length + b.length ≤ f := by simp only [List.length_nil]; omega
    refine List.Pairwise.cons (fun z hz => ?_) (mergeT_asd f [] b hl List.Pairwise.nil (List.pairwise_cons.1 hb).2)
    have hz' := (mergeT_perm f [] b hl).mem_iff.1 hz
    rw [List.nil_append] at hz'
    exact (List.pairwise_cons.1 hb).1 z hz'
  | f + 1, x :: a, y :: b, h, ha, hb => by
    simp only [List.length_cons] at h
    obtain ⟨hx, ha2⟩ := List.pairwise_cons.1 ha
    obtain ⟨hy, hb2⟩ := List.pairwise_cons.1 hb
    cases hl : leS x y with
    | true =>
      rw [mergeT_xy _ _ _ _ _ hl]
      have hf : a.length + (y :: b).length ≤ f := by simp only [List.length_cons]; omega
      refine List.Pairwise.cons (fun z hz => ?_) (mergeT_asd f a (y :: b) hf ha2 hb)
      rcases List.mem_append.1 ((mergeT_perm f a (y :: b) hf).mem_iff.1 hz) with e | e
      · exact hx z e
      · rcases List.mem_cons.1 e with rfl | e
        · exact hl
        · exact leS_trans hl (hy z e)
    | false =>
      have hl2 := leS_total hl
      rw [mergeT_yx _ _ _ _ _ hl]
      have hf : (x :: a).length + b.length ≤ f := by simp only [List.length_cons]; omega
      refine List.Pairwise.cons (fun z hz => ?_) (mergeT_asd f (x :: a) b hf ha hb2)
      rcases List.mem_append.1 ((mergeT_perm f (x :: a) b hf).mem_iff.1 hz) with e | e
      · rcases List.mem_cons.1 e with rfl | e
        · exact hl2
        · exact leS_trans hl2 (hx z e)
      · exact hy z e
theorem asd_short (l : List Txt) (h : l.length < 2) : Asd l := by
  rcases l with _ | ⟨x, _ | ⟨y, l⟩⟩
  · exact List.Pairwise.nil
  · exact List.pairwise_singleton _ _
  · simp only [List.length_cons] at h; omega
theorem sortT_asd : ∀ (f : Nat) (l : List Txt), l.length ≤ f + 1 → Asd (sortT f l)
  | 0, l, h => asd_short l (by omega)
  | f + 1, l, h => by
    rw [sortT]
    by_cases hl : l.length < 2
    · rw [if_pos hl]; exact asd_short l hl
    · rw [if_neg hl]
      exact mergeT_asd _ _ _ (by rw [sortT_len, sortT_len, List.length_take, List.length_drop]; omega) (sortT_asd f _ (by rw [List.length_take]; omega)) (sortT_asd f _ (by rw [List.length_drop]; omega))
/-- There is one. -/
theorem sort_one (keys l : List Txt) (hp : l.Perm keys) (hs : Asd l) : l = sortT keys.length keys := by
  refine List.Perm.eq_of_pairwise (le := fun a b => leS a b = true) ?_ hs (sortT_asd keys.length keys (by omega)) (hp.trans (sortT_perm _ _).symm)
  intro a b _ _ h1 h2
  exact leS_anti h1 h2
theorem swo_bl : Sort.SWO (fun x y : Txt => Op.bytesLess x y) where
  irrefl x := by rw [bl_eq]; exact decide_eq_false (List.lt_irrefl _)
  trans x y z h1 h2 := by
    rw [bl_eq] at *
    exact decide_eq_true (List.lt_trans (of_decide_eq_true h1) (of_decide_eq_true h2))
  ntrans x y z h1 h2 := by
    rw [bl_eq] at *
    have a := List.not_lt.1 (of_decide_eq_false h1)
    have b := List.not_lt.1 (of_decide_eq_false h2)
    exact decide_eq_false (List.not_lt.2 (List.le_trans b a))
/-- The order of places. -/
def ltP (keys : List Txt) (n : Nat) (x y : Fin n) : Bool := Op.bytesLess (keys.getD x.val []) (keys.getD y.val [])
theorem swo_ltP (keys : List Txt) (n : Nat) : Sort.SWO (ltP keys n) := ⟨fun x => swo_bl.irrefl _, fun x y z => swo_bl.trans _ _ _, fun x y z => swo_bl.ntrans _ _ _⟩
def idxs (n : Nat) : Array (Fin n) := Array.ofFn fun i : Fin n => i
theorem idxs_size (n : Nat) : (idxs n).size = n := by simp [idxs]
theorem idxs_at (n j : Nat) [Inhabited (Fin n)] (h : j < n) : ((idxs n)[j]!).val = j := by
  rw [getElem!_pos (idxs n) j (by rw [idxs_size]; exact h)]
  simp [idxs]
theorem range_keys (keys : List Txt) : ((List.range keys.length).map fun z => keys.getD z []) = keys := by
  apply List.ext_getElem
  · simp
  · intro i h1 h2
    simp [h2]
theorem places_plain (keys : List Txt) (n : Nat) [Inhabited (Fin n)] (hn : keys.length = n) (d' : Array (Fin n)) (hp : Sort.PermIn 0 n (idxs n) d') (hs : Sort.SortedIn (ltP keys n) 0 n d') :
    d'.size = n ∧ (∀ z ∈ d'.toList.map Fin.val, z < n) ∧ ((d'.toList.map Fin.val).map fun z => keys.getD z []) = sortT keys.length keys := by
  obtain ⟨hsz, _, hperm⟩ := hp
  rw [idxs_size] at hsz
  have e1 : d'.extract 0 n = d' := by
    have : d'.extract 0 d'.size = d' := Array.extract_size
    rw [hsz] at this
    exact this
  have e2 : (idxs n).extract 0 n = idxs n := by
    have : (idxs n).extract 0 (idxs n).size = idxs n := Array.extract_size
    rw [idxs_size] at this
    exact this
  rw [e1, e2] at hperm
  have hpl : (d'.toList.map Fin.val).Perm (List.range n) := by
    have h := hperm.map Fin.val
    have e : ((idxs n).toList.map Fin.val) = List.range n := by
      apply List.ext_getElem
      · simp [idxs]
      · intro i h1 h2
        simp [idxs]
    rw [e] at h
    exact h
  refine ⟨hsz, fun z hz => List.mem_range.1 (hpl.mem_iff.1 hz), ?_⟩
  refine sort_one keys _ ?_ ?_
  · have h := hpl.map (fun z => keys.getD z [])
    have e : ((List.range n).map fun z => keys.getD z []) = keys := by rw [← hn]; exact range_keys keys
    rw [e] at h
    exact h
  · rw [List.map_map]
    unfold Asd
    rw [List.pairwise_map, List.pairwise_iff_getElem]
    intro i j hi hj hij
    have hi' : i < d'.size := by simpa using hi
    have hj' : j < d'.size := by simpa using hj
    have h := hs i j (Nat.zero_le _) hij (by omega)
    rw [getElem!_pos d' j hj', getElem!_pos d' i hi'] at h
    exact leS_of_not h
theorem atFrom_mem (y : Txt) : ∀ (l : List Txt) (i : Nat), y ∈ l → ∃ j, ∃ h : j < l.length, atFrom y i l = ((i + j : Nat) : Int) ∧ l[j] = y
  | [], _, h => by cases h
  | x :: l, i, h => by
    rw [atFrom]
    by_cases he : x = y
    · rw [if_pos he]; exact ⟨0, by simp, by simp, he⟩
    · rw [if_neg he]
      have hm : y ∈ l := by
        rcases List.mem_cons.1 h with e | e
        · exact absurd e.symm he
        · exact e
      obtain ⟨j, hj, e1, e2⟩ := atFrom_mem y l (i + 1) hm
      exact ⟨j + 1, by simp only [List.length_cons]; omega, by rw [e1]; congr 1; omega, by simpa using e2⟩
theorem atT_mem (l : List Txt) (y : Txt) (h : y ∈ l) : ∃ j, ∃ hj : j < l.length, atT l y = (j : Int) ∧ l[j] = y := by
  obtain ⟨j, hj, e1, e2⟩ := atFrom_mem y l 0 h
  exact ⟨j, hj, by rw [atT, e1, Nat.zero_add], e2⟩
/-- A tree whose objects' keys are sorted. -/
def srtT : Nat → Tr → Tr
  | 0, t => t
  | d + 1, .mk k num str keys list =>
    if k = 5 then .mk k num str keys (list.map (srtT d))
    else if k = 6 then .mk k num str (sortT keys.length keys) ((sortT keys.length keys).map fun y => srtT d (list.getD (atT keys y).toNat default))
    else .mk k num str keys list
theorem okp_srt : ∀ (d : Nat) (t : Tr), Okp d t → Okp d (srtT d t)
  | 0, _, h => h.elim
  | d + 1, .mk k num str keys list, h => by
    obtain ⟨h0, h6, hkl, hl⟩ := h
    rw [srtT]
    by_cases h5 : k = 5
    · rw [if_pos h5]
      refine ⟨h0, h6, fun e => by omega, fun i hi => ?_⟩
      rw [List.getElem_map]
      exact okp_srt d _ (hl i (by simpa using hi))
    · rw [if_neg h5]
      by_cases h66 : k = 6
      · rw [if_pos h66]
        refine ⟨h0, h6, fun _ => by simp, fun i hi => ?_⟩
        rw [List.getElem_map]
        have hi' : i < (sortT keys.length keys).length := by simpa using hi
        obtain ⟨j, hj, e1, _⟩ := atT_mem keys (sortT keys.length keys)[i] ((sortT_perm _ _).mem_iff.1 (List.getElem_mem hi'))
        have hjl : j < list.length := by have := hkl h66; omega
        have e3 : list.getD (atT keys (sortT keys.length keys)[i]).toNat default = list[j] := by rw [e1, Int.toNat_natCast]; simp [hjl]
        rw [e3]
        exact okp_srt d _ (hl j hjl)
      · rw [if_neg h66]
        exact ⟨h0, h6, hkl, hl⟩
end Go.Proofs.YticaihfcnbehpaaGreatDoor
/- value.places: an object's places in the order of its keys' bytes. -/
namespace Go.Proofs.YticaihfcnbehpaaGreatDoor
open Go Go.RowKit Go.Proofs
set_option maxHeartbeats 4000000 in
set_option maxRecDepth 100000 in
/-- The closure: the keys at the places that the row l holds. -/
theorem less_places (W : World) (Bv Bl : Nat) (A2 : Addr) (nk c2 : Nat) (blk off size c : Nat) (a b : Nat) (x y : Txt) (i k : Nat) (hv : W.cell? ⟨Bv, 4, none⟩ = some (.slice (some A2) nk c2)) (hl : W.cell? ⟨Bl, 0, none⟩ = some (.slice (some ⟨blk, off, none⟩) size c))
    (hi : i < size) (hk : k < size) (ha : a < nk) (hb : b < nk)
    (hci : W.cell? ⟨blk, off + i, none⟩ = some (.int .i64 a)) (hck : W.cell? ⟨blk, off + k, none⟩ = some (.int .i64 b))
    (hx : W.cell? (A2.add a) = some (.string ⟨x.toArray⟩)) (hy : W.cell? (A2.add b) = some (.string ⟨y.toArray⟩)) :
    Calls Tryz.prog 74 #[.int .i64 i, .int .i64 k, .pointer (some ⟨Bv, 0, none⟩), .pointer (some ⟨Bl, 0, none⟩)] W fun e w' => e = .returned (.bool (Op.bytesLess x y)) ∧ ∃ q, w' = W.drewN q := by
  go_enter Tryz.func74, Tryz.ntmps74
  go_wp2_with fail
  go_quiet (fail)
  go_wp2_with fail
  go_ret
  exact ⟨rfl, _, rfl⟩
theorem siK (n : Nat) (h2 : 2 ≤ n) : Lib.swapperK n Tryz.t3 2 = 5 := by
  have a : (Tryz.t3).hasPointers = false := by kernel_rfl
  have b : (Tryz.t3).bytes = 8 := by kernel_rfl
  have c : (n == 0) = false := by simp; omega
  have d : (n == 1) = false := by simp; omega
  simp [Lib.swapperK, a, b, c, d]
abbrev encF (n : Nat) (x : Fin n) : Value := .int .i64 ((x.val : Nat) : Int)
set_option maxHeartbeats 4000000 in
set_option maxRecDepth 100000 in
/-- sort.Slice at two places or more. -/
theorem slice_many (w W : World) (Bv Bl blk n c : Nat) (A2 : Addr) (keys : List Txt) (c2 : Nat) (hn : keys.length = n) (h2 : 2 ≤ n) (hmx : n ≤ 1048576) [Inhabited (Fin n)]
    (hBl : Bl ≠ blk) (hBv : Bv ≠ blk) (hA2 : A2.block ≠ blk) (hlt : blk < W.heap.size)
    (hv : W.cell? ⟨Bv, 4, none⟩ = some (.slice (some A2) n c2)) (hl : W.cell? ⟨Bl, 0, none⟩ = some (.slice (some ⟨blk, 0, none⟩) n c))
    (hk : ∀ i (h : i < keys.length), W.cell? (A2.add i) = some (.string ⟨keys[i].toArray⟩))
    (hH : Sort.Holds (encF n) W blk 0 (idxs n)) :
    Calls Tryz.prog 73 #[.iface 88 (.slice (some ⟨blk, 0, none⟩) n c), .func (.func 74) #[] #[.pointer (some ⟨Bv, 0, none⟩), .pointer (some ⟨Bl, 0, none⟩)]] W fun e w' =>
      e = .returned (.tuple #[]) ∧ ∃ d' q os, Sort.PermIn 0 n (idxs n) d' ∧ Sort.SortedIn (ltP keys n) 0 n d' ∧ w' = Sort.grow (Sort.putRow (encF n) (Sort.ahead W q) blk 0 d') os := by
  have hadd : ∀ j : Nat, (A2.add j).block = A2.block := fun j => by unfold Addr.add; split <;> rfl
  have hless : LessReads Tryz.prog 74 #[.pointer (some ⟨Bv, 0, none⟩), .pointer (some ⟨Bl, 0, none⟩)] (encF n) (ltP keys n) blk 0 (idxs n).size W := by
    rw [idxs_size]
    intro m os dk hs i j hi hj
    have e : sortWorld (encF n) W blk 0 m dk os = Sort.putRow (encF n) (Sort.grow (Sort.ahead W m) os) blk 0 dk := by
      unfold sortWorld; rw [Sort.putRow_grow _ (Sort.ahead W m) _ blk 0 _ hlt]
    have hHg : Sort.Holds (encF n) (Sort.grow (Sort.ahead W m) os) blk 0 (idxs n) := Sort.holds_grow _ _ _ blk 0 _ hlt (Sort.holds_ahead _ _ _ _ _ _ hH)
    have other : ∀ (a : Addr) (u : Value), a.block ≠ blk → W.cell? a = some u → (sortWorld (encF n) W blk 0 m dk os).cell? a = some u := fun a u hne hc => by
      rw [e, Sort.cell?_putRow_other _ _ blk 0 dk _ (Or.inl hne), Sort.cell?_grow (Sort.ahead W m) os a (World.block_lt_of_cell? W a hc)]
      exact hc
    have row : ∀ t, t < n → (sortWorld (encF n) W blk 0 m dk os).cell? ⟨blk, 0 + t, none⟩ = some (.int .i64 ((dk[t]!).val : Nat)) := fun t ht => by
      rw [e]; exact Sort.cell?_putRow _ _ blk 0 (idxs n) dk hHg (by rw [idxs_size]; exact hs) t (by omega)
    have key : ∀ z : Fin n, (sortWorld (encF n) W blk 0 m dk os).cell? (A2.add z.val) = some (.string ⟨(keys.getD z.val []).toArray⟩) := fun z => by
      have hz : z.val < keys.length := by have := z.isLt; omega
      refine other _ _ (by rw [hadd]; exact hA2) ?_
      rw [show keys.getD z.val [] = keys[z.val] by simp [hz]]
      exact hk z.val hz
    exact less_places _ Bv Bl A2 n c2 blk 0 n c (dk[i]!).val (dk[j]!).val _ _ i j (other _ _ hBv hv) (other _ _ hBl hl) hi hj (dk[i]!).isLt (dk[j]!).isLt (row i hi) (row j hj) (key _) (key _)
  have hS := Any.sort_Slice_sorted Tryz.laysGg6 88 3 Tryz.t88 Tryz.t3 (by kernel_rfl) (by kernel_rfl) (by kernel_rfl) (by kernel_rfl) 2 (fun _ => by kernel_rfl) (by kernel_rfl) (fun _ => by kernel_rfl) (encF n) (fun _ => rfl) (ltP keys n) (swo_ltP keys n) 74 _
    (enters_of Tryz.func74 (by kernel_rfl) rfl) blk 0 c (idxs n) (by rw [idxs_size]; exact h2) (by rw [idxs_size]; omega) 106 (by rw [idxs_size, siK _ h2]; kernel_rfl) true
    (fun args W => run_callFunc_extern Tryz.func106 (by kernel_rfl) (by kernel_rfl) (by kernel_rfl) (e := Extern.ReflectliteSwapper.swap true) (by kernel_rfl) args W) W hless hH hlt
  rw [idxs_size] at hS
  change Calls Tryz.prog 73 _ _ _ at hS
  exact hS
theorem size_putRow {α : Type} [Inhabited α] (enc : α → Value) (w : World) (g q : Nat) (d : Array α) : w.heap.size ≤ (Sort.putRow enc (Sort.ahead w q) g 0 d).heap.size := (Lib.below_putRow (enc := enc) (q := q) (d := d) (Below.refl 0 w) (Nat.zero_le g)).size
theorem below_sorted {α : Type} [Inhabited α] (enc : α → Value) {B : Nat} {w W : World} {blk q : Nat} {d : Array α} {os : Array Obj} (h : Below B w W) (hB : B ≤ blk) (hs : B ≤ W.heap.size) : Below B w (Sort.grow (Sort.putRow enc (Sort.ahead W q) blk 0 d) os) := by
  have h1 := Lib.below_putRow (enc := enc) (q := q) (d := d) h hB
  have h2 := size_putRow enc W blk q d
  exact h1.trans ⟨rfl, rfl, rfl, by rw [Sort.size_grow]; omega, fun k hk => Sort.heap_grow_old _ _ (by omega)⟩
theorem below_grow0 {B : Nat} {w W : World} {os : Array Obj} (h : Below B w W) (hs : B ≤ W.heap.size) : Below B w (Sort.grow W os) :=
  h.trans ⟨rfl, rfl, rfl, by rw [Sort.size_grow]; omega, fun k hk => Sort.heap_grow_old _ _ (by omega)⟩
/-- What places answers: the places in the order of the keys. -/
def PlacesR (w w' : World) (keys : List Txt) (e : Ending) : Prop :=
  ∃ (l : List Nat) (g c : Nat), e = .returned (.slice (some ⟨g, 0, none⟩) l.length c) ∧ l.length = keys.length ∧ (∀ z ∈ l, z < keys.length) ∧ (l.map fun z => keys.getD z []) = sortT keys.length keys ∧ (∀ j (h : j < l.length), w'.cell? ⟨g, j, none⟩ = some (.int .i64 (l[j] : Nat))) ∧ w.heap.size ≤ g ∧ Below w.heap.size w w'
set_option maxHeartbeats 4000000 in
set_option maxRecDepth 100000 in
theorem places_any (d : Nat) (w : World) (kk : Int) (num : Nat) (str : Txt) (keys : List Txt) (list : List Tr) (y0 y1 y2 y3 y4 : Value) (hR : Rep d w (.mk kk num str keys list) y0 y1 y2 y3 y4) :
    Calls Tryz.prog 49 #[.agg #[y0, y1, y2, y3, y4]] w fun e w' => PlacesR w w' keys e := by
  cases d with
  | zero => exact hR.elim
  | succ d =>
  obtain ⟨rfl, rfl, rfl, hnum, hstr, hll, hkl, A, c, A2, c2, rfl, rfl, hL, hK, hc2, hc, hn2, hn⟩ := hR
  obtain ⟨n, hnn⟩ : ∃ n, n = keys.length := ⟨_, rfl⟩
  obtain ⟨nl, hnl⟩ : ∃ n, n = list.length := ⟨_, rfl⟩
  rw [← hnn] at hkl hc2 ⊢
  rw [← hnl] at hll hc ⊢
  have HK := Lib.hid hK
  have HN := Lib.hid hnn
  clear hL hK hnn hnl hn2 hn hnum hstr
  obtain ⟨i0, hi, hz0, hz1, hz2⟩ := info_parts eltInts.info
  have hmk : ∀ W, (Instr.makeSlice 88 (.int .i64 (n : Int)) (.int .i64 (n : Int))).run Tryz.prog W = .ok (.slice (some ⟨W.heap.size, 0, none⟩) n n) (W.alloc (.cells (madeCells #[.int .i64 0] n) 3)) := fun W => by
    have h := run_make (P := Tryz.prog) W 88 3 i0 (.int .i64 0) Tryz.underlying88 hi hz0 .i64 .i64 (n : Int) (n : Int) (by omega) (Int.le_refl _) (by rw [hz2]; omega) (by omega)
    rw [hz1, Int.toNat_natCast, Nat.mul_one] at h
    exact h
  obtain ⟨MC, hMC⟩ : ∃ MC, MC = madeCells #[.int .i64 0] n := ⟨_, rfl⟩
  have hMs : MC.size = n := by rw [hMC, size_madeCells]
  rw [← hMC] at hmk
  clear hMC hi hz0 hz1 hz2
  obtain ⟨B, hB⟩ : ∃ B, B = w.heap.size := ⟨_, rfl⟩
  obtain ⟨W1, hW1⟩ : ∃ W1, W1 = ((w.alloc (.cells #[.int .i64 kk, .float .f64 num, .string ⟨str.toArray⟩, .slice A nl c, .slice A2 n c2] 27)).alloc (.cells MC 3)).alloc (.cells #[.slice (some ⟨w.heap.size + 1, 0, none⟩) n n] 88) := ⟨_, rfl⟩
  have hbw : Below w.heap.size w W1 := by rw [hW1]; exact below_boxes _ _ _ _
  have hsz1 : W1.heap.size = B + 1 + 1 + 1 := by rw [hW1, hB]; simp
  have e1 : W1.cell? ⟨B, 4, none⟩ = some (.slice A2 n c2) := by rw [hW1, hB]; exact (boxes3 w _ _ _ _ _ _ 4).1
  have e3 : W1.cell? ⟨B + 1 + 1, 0, none⟩ = some (.slice (some ⟨B + 1, 0, none⟩) n n) := by rw [hW1, hB]; exact (boxes3 w _ _ _ _ _ _ 0).2.2
  have e2 : W1.heap[B + 1]? = some (.cells MC 3 (0, 0)) := by
    have h1 := heap_alloc_new (w.alloc (.cells #[.int .i64 kk, .float .f64 num, .string ⟨str.toArray⟩, .slice A nl c, .slice A2 n c2] 27)) (.cells MC 3)
    have hs : (w.alloc (.cells #[.int .i64 kk, .float .f64 num, .string ⟨str.toArray⟩, .slice A nl c, .slice A2 n c2] 27)).heap.size = w.heap.size + 1 := by simp
    rw [hW1, hB, Below.heap_alloc _ _ _ (by simp), ← hs]
    exact h1
  have HB := Lib.hid hB
  have HW := Lib.hid hW1
  have HS1 := Lib.hid hsz1
  clear hW1 hB hsz1
  go_enter Tryz.func49, Tryz.ntmps49
  go_wp2_with fail
  rw [← HW.out]
  clear hmk
  have f3 := e3
  rw [HB.out] at f3
  go_loopw [11] (fun i wr => ∃ (k : Nat) (cur : Array Value), k ≤ n ∧ i = .int .i64 k ∧ wr.heap[B + 1]? = some (.cells cur 3 (0, 0)) ∧ cur.size = n ∧ Hid (∀ j, j < k → cur[j]? = some (.int .i64 j)) ∧ Keep (fun b => b = B + 1) W1 wr) (fun i _ => n - (intOf i).toNat)
  case atStart => exact ⟨0, MC, Nat.zero_le _, rfl, e2, hMs, Lib.hid (fun j hj => absurd hj (Nat.not_lt_zero _)), Keep.refl _ _⟩
  case round =>
    clear e2 hMs
    obtain ⟨k, cur, hk, rfl, hp, hcs, HC, hkeep⟩ := hrel
    have g3 : wr.cell? ⟨B + 1 + 1, 0, none⟩ = some (.slice (some ⟨B + 1, 0, none⟩) n n) := hkeep.cell e3 (by omega)
    have g3' := g3
    rw [HB.out] at g3'
    rcases Nat.lt_or_ge k n with hlt | hge
    · have hck : cur[k]? = some cur[k] := Array.getElem?_eq_getElem (by omega)
      have q1 : wr.cell? ⟨w.heap.size + 1, k, none⟩ = some cur[k] := by
        rw [← HB.out]
        simp only [World.cell?, hp]
        rw [hck]; rfl
      have q2 : wr.frozen? ⟨w.heap.size + 1, k, none⟩ = false := by rw [← HB.out]; exact Lib.frozen_of_heap hp k
      have n1 : (wr.setCell ⟨w.heap.size + 1, k, none⟩ (.int .i64 k)).heap[B + 1]? = some (.cells (cur.setIfInBounds k (.int .i64 k)) 3 (0, 0)) := by
        rw [← HB.out]
        simp [World.setCell, Array.getElem?_modify, hp]
      have n2 : Keep (fun b => b = B + 1) W1 (wr.setCell ⟨w.heap.size + 1, k, none⟩ (.int .i64 k)) := hkeep.set (p := ⟨w.heap.size + 1, k, none⟩) (.inl (by show w.heap.size + 1 = B + 1; rw [HB.out])) _
      have n3 : Hid (∀ j, j < k + 1 → (cur.setIfInBounds k (.int .i64 k))[j]? = some (.int .i64 j)) := Lib.hid (fun j hj => by
        rw [Array.getElem?_setIfInBounds]
        by_cases hjk : k = j
        · subst hjk; rw [if_pos rfl, if_pos (by omega)]
        · rw [if_neg hjk]; exact HC.out j (by omega))
      have HN1 := Lib.hid n1
      have HN2 := Lib.hid n2
      clear n1 n2 hp hkeep hck HC g3 e1 e3 f3
      go_wp2_with fail
      go_roundw
      case rel => exact ⟨k + 1, _, by omega, by go_num, HN1.out, by rw [Array.size_setIfInBounds]; exact hcs, n3, HN2.out⟩
      case measure => simp [intOf]; omega
    · obtain rfl : k = n := by omega
      have hb2 : Below w.heap.size w wr := hbw.trans (hkeep.below (by have := HS1.out; have := HB.out; omega) (fun j hj e => by have := HB.out; omega))
      have hsr : B + 1 + 1 + 1 ≤ wr.heap.size := by have := HS1.out; have := hkeep.size; omega
      have q4 : wr.cell? ⟨B, 4, none⟩ = some (.slice A2 k c2) := hkeep.cell e1 (by omega)
      have hrow : ∀ j, j < k → wr.cell? ⟨B + 1, j, none⟩ = some (.int .i64 (j : Nat)) ∧ wr.frozen? ⟨B + 1, j, none⟩ = false := fun j hj => ⟨by
        simp only [World.cell?, hp]
        rw [HC.out j hj]; rfl, Lib.frozen_of_heap hp j⟩
      clear HC hge f3
      rcases Nat.lt_or_ge k 2 with h2 | h2
      · have hend : ∀ os : Array Obj, PlacesR w (Sort.grow wr os) keys (.returned (.slice (some ⟨w.heap.size + 1, 0, none⟩) k k)) := fun os => by
          have hrl : (List.range k).length = k := List.length_range
          refine ⟨List.range k, w.heap.size + 1, k, by rw [hrl], by rw [hrl]; exact HN.out, fun z hz => by have := List.mem_range.1 hz; have := HN.out; omega, ?_, fun j hj => ?_, by omega, below_grow0 hb2 (by have := HB.out; omega)⟩
          · rw [sortT_short _ _ (by have := HN.out; omega)]
            have := range_keys keys
            rw [← HN.out] at this
            exact this
          · rw [hrl] at hj
            rw [Sort.cell?_grow _ _ _ (by show w.heap.size + 1 < _; have := HB.out; omega), ← HB.out, (hrow j hj).1, List.getElem_range]
        have q5 : ∀ os : Array Obj, (Sort.grow wr os).cell? ⟨w.heap.size + 1 + 1, 0, none⟩ = some (.slice (some ⟨w.heap.size + 1, 0, none⟩) k k) := fun os => by
          rw [Sort.cell?_grow _ _ _ (by show w.heap.size + 1 + 1 < _; have := HB.out; omega)]; exact g3'
        have hS : ∀ (la lb : Array Value), Calls Tryz.prog 73 #[.iface 88 (.slice (some ⟨w.heap.size + 1, 0, none⟩) k k), .func (.func 74) la lb] wr fun e w' => e = .returned (.tuple #[]) ∧ ∃ os, w' = Sort.grow wr os := fun la lb => by
          have h01 : k = 0 ∨ k = 1 := by omega
          rcases h01 with rfl | rfl
          · exact Any.sort_Slice_tiny Tryz.laysGg6 88 3 Tryz.t88 Tryz.t3 (by kernel_rfl) (by kernel_rfl) (by kernel_rfl) (by kernel_rfl) 2 (fun _ => by kernel_rfl) _ 0 _ (by omega) 102 (by kernel_rfl) _ la lb wr
          · exact Any.sort_Slice_tiny Tryz.laysGg6 88 3 Tryz.t88 Tryz.t3 (by kernel_rfl) (by kernel_rfl) (by kernel_rfl) (by kernel_rfl) 2 (fun _ => by kernel_rfl) _ 1 _ (by omega) 103 (by kernel_rfl) _ la lb wr
        have HE := Lib.hid hend
        have HQ := Lib.hid q5
        have HSS := Lib.hid hS
        clear hend q5 hS hrow hb2 q4 hp g3 e1 e3
        go_wp2_with fail
        refine (HSS.out _ _).mono ?_
        rintro e' _ ⟨rfl, os, rfl⟩
        have q6 := HQ.out os
        go_wp2_with fail
        go_ret
        exact HE.out os
      · have hne : (Fin k) = (Fin k) := rfl
        haveI : Inhabited (Fin k) := ⟨⟨0, by omega⟩⟩
        have hH : Sort.Holds (encF k) wr (B + 1) 0 (idxs k) := fun j hj => by
          rw [idxs_size] at hj
          rw [Nat.zero_add]
          refine ⟨?_, (hrow j hj).2⟩
          rw [(hrow j hj).1]
          show _ = some (Value.int .i64 ((((idxs k)[j]!).val : Nat) : Int))
          rw [idxs_at k j hj]
        have hK2 : ∃ ad, A2 = some ad := by
          obtain ⟨_, ad, h, _⟩ := HK.out 0 (by have := HN.out; omega)
          exact ⟨ad, h⟩
        obtain ⟨ad, rfl⟩ := hK2
        have hkey : ∀ i (h : i < keys.length), wr.cell? (ad.add i) = some (.string ⟨keys[i].toArray⟩) := fun i h => by
          obtain ⟨_, ad', h1, h2⟩ := HK.out i h
          obtain rfl := Option.some.inj h1
          exact (hb2.cell (World.block_lt_of_cell? w _ h2)).trans h2
        have hadB : ad.block ≠ B + 1 := by
          obtain ⟨_, ad', h1, h2⟩ := HK.out 0 (by have := HN.out; omega)
          obtain rfl := Option.some.inj h1
          have h3 := World.block_lt_of_cell? w _ h2
          have h4 : (ad.add 0).block = ad.block := by unfold Addr.add; split <;> rfl
          rw [h4] at h3
          have := HB.out
          omega
        have hS := slice_many w wr B (B + 1 + 1) (B + 1) k k ad keys c2 HN.out.symm h2 hkl (by omega) (by omega) hadB (by omega) q4 g3 hkey hH
        have hend : ∀ (d' : Array (Fin k)) (q : Nat) (os : Array Obj), Sort.PermIn 0 k (idxs k) d' → Sort.SortedIn (ltP keys k) 0 k d' →
            PlacesR w (Sort.grow (Sort.putRow (encF k) (Sort.ahead wr q) (B + 1) 0 d') os) keys (.returned (.slice (some ⟨w.heap.size + 1, 0, none⟩) k k)) ∧ (Sort.grow (Sort.putRow (encF k) (Sort.ahead wr q) (B + 1) 0 d') os).cell? ⟨w.heap.size + 1 + 1, 0, none⟩ = some (.slice (some ⟨w.heap.size + 1, 0, none⟩) k k) := fun d' q os hp hs => by
          obtain ⟨p1, p2, p3⟩ := places_plain keys k HN.out.symm d' hp hs
          have hl : (d'.toList.map Fin.val).length = k := by rw [List.length_map, Array.length_toList, p1]
          have hsz := size_putRow (encF k) wr (B + 1) q d'
          refine ⟨⟨d'.toList.map Fin.val, w.heap.size + 1, k, by rw [hl], by rw [hl]; exact HN.out, fun z hz => by have := p2 z hz; have := HN.out; omega, p3, fun j hj => ?_, by omega, below_sorted _ hb2 (by have := HB.out; omega) (by have := HB.out; omega)⟩, ?_⟩
          · rw [hl] at hj
            have h1 := Sort.cell?_putRow (encF k) (Sort.ahead wr q) (B + 1) 0 (idxs k) d' (Sort.holds_ahead _ _ _ _ _ _ hH) (by rw [idxs_size]; exact p1) j (by omega)
            rw [Nat.zero_add] at h1
            rw [← HB.out, Sort.cell?_grow _ _ _ (by show B + 1 < _; omega), h1, getElem!_pos d' j (by omega)]
            simp [encF]
          · rw [← HB.out, Sort.cell?_grow _ _ _ (by show B + 1 + 1 < _; omega), Sort.cell?_putRow_other _ _ _ _ _ _ (Or.inl (by show B + 1 + 1 ≠ B + 1; omega))]
            exact g3
        rw [HB.out] at hS hend
        have HE := Lib.hid hend
        have HSS := Lib.hid hS
        clear hend hS hrow hb2 q4 hp g3 hH hkey hadB e1 e3
        go_wp2_with fail
        refine HSS.out.mono ?_
        rintro e' _ ⟨rfl, d', q, os, hP, hSo, rfl⟩
        obtain ⟨hE, q6⟩ := HE.out d' q os hP hSo
        have HEE := Lib.hid hE
        clear hE hP hSo
        go_wp2_with fail
        go_ret
        exact HEE.out
end Go.Proofs.YticaihfcnbehpaaGreatDoor
/- value.Keys: an object's keys in the order of their bytes. -/
namespace Go.Proofs.YticaihfcnbehpaaGreatDoor
open Go Go.RowKit Go.Proofs
set_option maxHeartbeats 4000000 in
set_option maxRecDepth 100000 in
/-- value.Keys. -/
theorem vkeys_any (d : Nat) (w : World) (kk : Int) (num : Nat) (str : Txt) (keys : List Txt) (list : List Tr) (y0 y1 y2 y3 y4 : Value) (hR : Rep d w (.mk kk num str keys list) y0 y1 y2 y3 y4) :
    Calls Tryz.prog 30 #[.agg #[y0, y1, y2, y3, y4]] w fun e w' => ∃ v', e = .returned v' ∧ OwnG 9 1 w.heap.size w' v' (sortT keys.length keys).length (strCs (sortT keys.length keys)) ∧ Below w.heap.size w w' := by
  have hP := fun W (h : Below w.heap.size w W) => places_any d W kk num str keys list _ _ _ _ _ (hR.below h)
  cases d with
  | zero => exact hR.elim
  | succ d =>
  obtain ⟨rfl, rfl, rfl, hnum, hstr, hll, hkl, A, c, A2, c2, rfl, rfl, hL, hK, hc2, hc, hn2, hn⟩ := hR
  obtain ⟨n, hnn⟩ : ∃ n, n = keys.length := ⟨_, rfl⟩
  obtain ⟨nl, hnl⟩ : ∃ n, n = list.length := ⟨_, rfl⟩
  rw [← hnn] at hkl hc2
  rw [← hnl] at hll hc
  rw [← hnn, ← hnl] at hP
  obtain ⟨S, hS⟩ : ∃ S, S = sortT keys.length keys := ⟨_, rfl⟩
  rw [← hS, ← hnn, ← hnl]
  have HP := Lib.hid hP
  have HK := Lib.hid hK
  have HN := Lib.hid hnn
  have HSS := Lib.hid hS
  clear hL hK hnn hnl hn2 hn hnum hstr hP hS
  have hb1 := (Below.refl w.heap.size w).alloc (Nat.le_refl _) (.cells #[.int .i64 kk, .float .f64 num, .string ⟨str.toArray⟩, .slice A nl c, .slice A2 n c2] 27)
  have hc4 : (w.alloc (.cells #[.int .i64 kk, .float .f64 num, .string ⟨str.toArray⟩, .slice A nl c, .slice A2 n c2] 27)).cell? ⟨w.heap.size, 4, none⟩ = some (.slice A2 n c2) := by rw [World.cell?_alloc_new]; rfl
  go_enter Tryz.func30, Tryz.ntmps30
  go_wp2_with fail
  refine (HP.out _ hb1).mono ?_
  rintro e' w2 ⟨l, g, cg, rfl, hll2, hlt, hmap, hcells, hg, hb2⟩
  have hbw := hb1.trans (hb2.mono hb1.size)
  have hc4' := (hb2.cell (p := ⟨w.heap.size, 4, none⟩) (World.block_lt_of_cell? _ _ hc4)).trans hc4
  have hl1 : l.length = n := by rw [hll2]; exact HN.out.symm
  have HMap : Hid ((l.map fun z => keys.getD z []) = S) := Lib.hid (by rw [hmap]; exact HSS.out.symm)
  have HC := Lib.hid hcells
  have HLt := Lib.hid hlt
  have hwl : w.heap.size < w2.heap.size := World.block_lt_of_cell? _ _ hc4'
  rw [hl1]
  have HL := Lib.hid hl1
  clear hc4 hb2 hb1 hcells hlt hmap hll2 hl1
  have hA0 := AppG.start (OwnG.nil 9 1 w.heap.size w2) (by omega)
  go_wp2_with fail
  go_loopw [3, 9] (fun v i wr => ∃ (k : Nat) (acc : List Txt), k ≤ n ∧ i = .int .i64 k ∧ acc.length = k ∧ AppG 9 1 w.heap.size w2 (.slice none 0 0) 0 [] wr v acc.length (strCs acc) ∧ Hid (acc ++ (l.drop k).map (fun z => keys.getD z []) = S)) (fun _ i _ => n - (intOf i).toNat)
  case atStart => exact ⟨0, [], Nat.zero_le _, rfl, rfl, hA0, Lib.hid (by rw [List.nil_append, List.drop_zero]; exact HMap.out)⟩
  case round =>
    clear hA0
    obtain ⟨k, acc, hk, rfl, hal, hA, HV⟩ := hrel
    have hbr := hA.fresh
    rcases Nat.lt_or_ge k n with hlt | hge
    · have hkl2 : k < l.length := by have := HL.out; omega
      have q1 := (hbr.cell (p := ⟨g, k, none⟩) (World.block_lt_of_cell? w2 _ (HC.out k hkl2))).trans (HC.out k hkl2)
      obtain ⟨z, hz⟩ : ∃ z, z = l[k] := ⟨_, rfl⟩
      have hzn : z < keys.length := by rw [hz]; exact HLt.out _ (List.getElem_mem hkl2)
      obtain ⟨-, ad, rfl, hcx⟩ := HK.out z hzn
      obtain ⟨x, hx⟩ : ∃ x, x = keys[z] := ⟨_, rfl⟩
      have HV2 : Hid ((acc ++ [x]) ++ (l.drop (k + 1)).map (fun z => keys.getD z []) = S) := Lib.hid (by
        rw [← HV.out, List.drop_eq_getElem_cons hkl2, ← hz, List.map_cons, hx]
        simp [hzn])
      rw [← hz] at q1
      rw [← hx] at hcx
      have q2 := ((hbw.trans (hbr.mono (by omega))).cell (World.block_lt_of_cell? w _ hcx)).trans hcx
      have q3 := (hbr.cell (p := ⟨w.heap.size, 4, none⟩) (World.block_lt_of_cell? _ _ hc4')).trans hc4'
      have hzn2 : z < n := by have := HN.out; omega
      clear hz hx HV hcx hbr
      go_wp2_with (at_builtin; refine appGn eltStrs rfl _ _ rfl [.string ⟨x.toArray⟩] 1 _ _ _ rfl rfl rfl rfl (strCs_one [x]) hA (by unfold maxLen; omega) (by omega) ?_; intro v2 w3 hA2)
      all_goals go_roundw
      case rel => exact ⟨k + 1, acc ++ [x], by omega, by go_num, by rw [List.length_append, hal]; rfl, strs_snoc acc x _ _ hA2, HV2⟩
      case measure => simp [intOf]; omega
    · have HE : Hid (acc = S) := Lib.hid (by
        have hds : l.drop k = [] := List.drop_eq_nil_of_le (by have := HL.out; omega)
        rw [← HV.out, hds]; simp)
      have hO := hA.own
      rw [HE.out, Nat.zero_add, List.nil_append] at hO
      have hb := hbw.trans (hbr.mono (by omega))
      have HO := Lib.hid hO
      clear hA HV hO
      go_wp2_with fail
      go_ret
      exact ⟨_, rfl, HO.out, hb⟩
end Go.Proofs.YticaihfcnbehpaaGreatDoor
