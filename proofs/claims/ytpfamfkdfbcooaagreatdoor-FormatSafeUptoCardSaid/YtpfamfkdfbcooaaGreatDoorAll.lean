/- In one text: What a value among the arguments is: a tree of few levels.; What the rows' list gives: the library's tables; a world for the witness.; A law's answer is true and its arguments read as they did: out of 'nothing that was there has changed'. -/
import Derived.Test.YtpfamfkdfbcooaaGreatDoorKer
import Derived.Test.YtpfamfkdfbcooaaGreatDoorRows
import Derived.OpenShut
import Derived.SliceStrings
import Derived.Laws.Cover2
import Derived.Lay
import Derived.LaidMore
import Derived.Deep.DeepHandedRow
import Derived.Lib.LaidTab
import Derived.Stop.Joined
import Derived.Shelf.Vars
import Derived.ChangeSame
import Derived.Carry
set_option linter.unusedVariables false
set_option linter.unusedSimpArgs false
/- What a value among the arguments is: a tree of few levels. -/
namespace Go.Proofs.YtpfamfkdfbcooaaGreatDoor
open Go Go.RowKit Go.Proofs Go.ChangeShapes Go.WideShapes Go.ChangeAt
namespace Bulk
theorem one_le {H : Type} (d : DataW H) : 1 ≤ Rows.uptoBulk d := by
  cases d with
  | lit l => cases l <;> simp [Rows.uptoBulk]
  | nil => simp [Rows.uptoBulk]
  | ptr d => simp [Rows.uptoBulk]
  | slice elems spare => simp [Rows.uptoBulk]
  | agg parts => simp [Rows.uptoBulk]
  | iface t d => simp [Rows.uptoBulk]
  | map entries => simp [Rows.uptoBulk]
  | held h => simp [Rows.uptoBulk]
theorem part_le {H : Type} {d : DataW H} {l : List (DataW H)} (h : d ∈ l) : Rows.uptoBulk d ≤ Rows.uptoBulkAll l := by
  induction l with
  | nil => cases h
  | cons x r ih =>
    rw [Rows.uptoBulkAll]
    rcases List.mem_cons.1 h with e | e
    · subst e; omega
    · have := ih e; omega
theorem length_le {H : Type} (l : List (DataW H)) : l.length ≤ Rows.uptoBulkAll l := by
  induction l with
  | nil => simp [Rows.uptoBulkAll]
  | cons x r ih => have := one_le x; rw [Rows.uptoBulkAll, List.length_cons]; omega
theorem strs_bulk {H : Type} : ∀ l : List ByteArray, Rows.uptoBulkAll (strs (H := H) l) = ((l.map fun s => s.data.toList).map fun s => s.length + 1).sum
  | [] => rfl
  | s :: l => by
    have h := strs_bulk (H := H) l
    unfold strs at h ⊢
    rw [List.map_cons, Rows.uptoBulkAll, h, List.map_cons, List.map_cons, List.sum_cons]
    rfl
theorem all_sum {H : Type} : ∀ l : List (DataW H), Rows.uptoBulkAll l = (l.map Rows.uptoBulk).sum
  | [] => rfl
  | d :: l => by rw [Rows.uptoBulkAll, all_sum l, List.map_cons, List.sum_cons]
theorem sum_le {f g : Nat → Nat} : ∀ n : Nat, (∀ i, i < n → f i ≤ g i) → ((List.range n).map f).sum ≤ ((List.range n).map g).sum
  | 0, _ => Nat.le_refl _
  | n + 1, h => by
    rw [List.range_succ, List.map_append, List.map_append, List.sum_append, List.sum_append]
    have := sum_le n (fun i hi => h i (by omega))
    have := h n (by omega)
    simp only [List.map_cons, List.map_nil, List.sum_cons, List.sum_nil]
    omega
end Bulk
/-- How much a tree weighs. -/
def wtT : Nat → Tr → Nat
  | 0, _ => 0
  | d + 1, .mk _ _ str keys list => 5 + str.length + (keys.map fun s => s.length + 1).sum + (list.map fun t => wtT d t + 1).sum
theorem Rep.mono : ∀ {d d' : Nat} {w : World} {t : Tr} {x0 x1 x2 x3 x4 : Value}, Rep d w t x0 x1 x2 x3 x4 → d ≤ d' → Rep d' w t x0 x1 x2 x3 x4
  | 0, _, _, _, _, _, _, _, _, h, _ => h.elim
  | d + 1, 0, _, _, _, _, _, _, _, _, hd => by omega
  | d + 1, d' + 1, w, .mk k num str keys list, x0, x1, x2, x3, x4, h, hd => by
    obtain ⟨h1, h2, h3, h4, h5, h6, h7, A, c, A2, c2, e3, e4, hL, hK, hr⟩ := h
    refine ⟨h1, h2, h3, h4, h5, h6, h7, A, c, A2, c2, e3, e4, fun i hi => ?_, hK, hr⟩
    obtain ⟨ad, e, y0, y1, y2, y3, y4, h5, hRi⟩ := hL i hi
    exact ⟨ad, e, y0, y1, y2, y3, y4, h5, hRi.mono (by omega)⟩
section
variable {H : Type} {enc : TypeId × Value → H} {w : World} {held : Bool}
theorem trod_float {k : FloatKind} {t : TypeId} {fuel : Nat} {cs : List Value} {x : DataW H × List MemPlace} {sp : Nat → Bool} (ht : Tryz.prog.underlying t = some (.float k)) (h : DataW.trod enc Tryz.prog w 0 sp held fuel t cs = some x) :
    ∃ b, cs = [.float k b] ∧ x = (.lit (.float k b), []) ∧ (Lit.float k b).wf = true := by
  cases fuel with
  | zero => simp [DataW.trod] at h
  | succ n =>
    unfold DataW.trod at h
    rw [ht] at h
    split at h <;> simp_all
theorem cellsOf_Value : Tryz.prog.cellsOf 27 = 5 := by kernel_rfl
theorem cellsOf_Kind : Tryz.prog.cellsOf 22 = 1 := by kernel_rfl
theorem cellsOf_float : Tryz.prog.cellsOf 23 = 1 := by kernel_rfl
theorem cellsOf_string : Tryz.prog.cellsOf 9 = 1 := by kernel_rfl
theorem cellsOf_Values : Tryz.prog.cellsOf 24 = 1 := by kernel_rfl
theorem cellsOf_strings : Tryz.prog.cellsOf 25 = 1 := by kernel_rfl
/-- Texts among the arguments. -/
theorem open_texts {fuel : Nat} {c : Value} {x : DataW H × List MemPlace} (h : DataW.trod enc Tryz.prog w 0 (fun _ => true) held fuel 25 [c] = some x) (hb : Rows.uptoBulk x.1 ≤ 1048576) :
    ∃ (A : Option Addr) (cap : Nat) (keys : List Txt), c = .slice A keys.length cap ∧ keys.length ≤ 1048576 ∧ keys.length ≤ cap ∧ (A = none → cap = 0) ∧
      (∀ i (h : i < keys.length), keys[i].length ≤ 1048576 ∧ ∃ ad, A = some ad ∧ w.cell? (ad.add i) = some (.string ⟨keys[i].toArray⟩)) ∧
      (keys.map fun s => s.length + 1).sum + 1 ≤ Rows.uptoBulk x.1 := by
  rcases open_strings Tryz.underlying25 Tryz.underlying9 cellsOf_string h with ⟨e, hx⟩ | ⟨a, len, cap, ss, e, _, hlc, hcm, hsl, hx, hc, _⟩
  · injection e with e _
    exact ⟨none, 0, [], e, by simp, by simp, fun _ => rfl, fun i h => by simp at h, by have := Bulk.one_le x.1; simpa using this⟩
  · injection e with e _
    simp only [if_true] at hsl
    have hsum : (((ss.take len).map fun s => s.data.toList).map fun s => s.length + 1).sum + 1 ≤ Rows.uptoBulk x.1 := by
      rw [hx, Rows.uptoBulk, Bulk.strs_bulk]
      omega
    rw [hx] at hb
    have hbl : ∀ s ∈ ss.take len, s.size + 1 ≤ 1048576 := by
      intro s hs
      have h1 : DataW.lit (H := H) (.string s.data.toList) ∈ strs (H := H) (ss.take len) := by
        unfold strs
        exact List.mem_map.2 ⟨s, hs, rfl⟩
      have h2 := Bulk.part_le h1
      have h3 : Rows.uptoBulk (DataW.lit (H := H) (.string s.data.toList)) = s.size + 1 := by simp [Rows.uptoBulk]
      rw [Rows.uptoBulk] at hb
      omega
    have hll : len ≤ 1048576 := by
      have := Bulk.length_le (strs (H := H) (ss.take len))
      have h2 : (strs (H := H) (ss.take len)).length = len := by unfold strs; rw [List.length_map, List.length_take]; omega
      rw [Rows.uptoBulk] at hb
      omega
    have hkl : ((ss.take len).map fun s => s.data.toList).length = len := by rw [List.length_map, List.length_take]; omega
    refine ⟨some a, cap, (ss.take len).map fun s => s.data.toList, by rw [hkl]; exact e, by omega, by omega, fun h => (by cases h), fun i hi => ?_, hsum⟩
    have hi' : i < len := by omega
    have hget : ((ss.take len).map fun s => s.data.toList)[i] = (ss[i]'(by omega)).data.toList := by simp
    rw [hget]
    refine ⟨?_, a, rfl, ?_⟩
    · have := hbl (ss[i]'(by omega)) (List.mem_take_iff_getElem.2 ⟨i, by omega, rfl⟩)
      have e2 : (ss[i]'(by omega)).data.toList.length = (ss[i]'(by omega)).size := by simp
      omega
    · rw [hc i (by omega)]
      have : ss.getD i ByteArray.empty = ss[i]'(by omega) := by
        rw [List.getD_eq_getElem?_getD, List.getElem?_eq_getElem (by omega)]; rfl
      rw [this]
set_option maxRecDepth 100000 in
/-- A value among the arguments, and what it weighs. -/
theorem open_value_w : ∀ (fuel : Nat) (cs : List Value) (x : DataW H × List MemPlace), DataW.trod enc Tryz.prog w 0 (fun _ => true) held fuel 27 cs = some x → Rows.uptoBulk x.1 ≤ 1048576 →
    ∃ (t : Tr) (x0 x1 x2 x3 x4 : Value), cs = [x0, x1, x2, x3, x4] ∧ Rep (Rows.uptoBulk x.1 / 6) w t x0 x1 x2 x3 x4 ∧ 6 ≤ Rows.uptoBulk x.1 ∧ ∀ e, wtT e t + 1 ≤ Rows.uptoBulk x.1 := by
  intro fuel
  induction fuel using Nat.strongRecOn with
  | ind fuel ih =>
    intro cs x h hb
    obtain ⟨xs, n, hfu, hx, hlen, hxl, hf⟩ := DataW.trod_struct Tryz.underlying27 h
    rw [cellsOf_Value] at hlen
    match cs, hlen with
    | [c0, c1, c2, c3, c4], _ =>
    have hxl' : xs.length = 5 := hxl
    match xs, hxl' with
    | [y0, y1, y2, y3, y4], _ =>
    have f0 := hf 0 _ rfl
    have f1 := hf 1 _ rfl
    have f2 := hf 2 _ rfl
    have f3 := hf 3 _ rfl
    have f4 := hf 4 _ rfl
    simp only [cellsOf_Kind, cellsOf_float, cellsOf_string, cellsOf_Values, cellsOf_strings, List.drop_zero, List.drop_succ_cons, List.take_succ_cons, List.take_zero, List.getElem?_cons_zero, List.getElem?_cons_succ] at f0 f1 f2 f3 f4
    obtain ⟨k, e0, hy0, _⟩ := DataW.trod_int Tryz.underlying22 f0
    obtain ⟨s, e2, hy2, _⟩ := DataW.trod_string Tryz.underlying9 f2
    injection e0 with e0 _
    injection e2 with e2 _
    obtain ⟨num, e1, hy1, hw1⟩ := trod_float Tryz.underlying23 f1
    injection e1 with e1 _
    have hnum : num < 18446744073709551616 := by
      have := hw1
      simp [Lit.wf] at this
      omega
    have hxe : Rows.uptoBulk x.1 = Rows.uptoBulk y0.1 + (Rows.uptoBulk y1.1 + (Rows.uptoBulk y2.1 + (Rows.uptoBulk y3.1 + (Rows.uptoBulk y4.1 + 0)))) + 1 := by
      rw [hx]; rfl
    have b0 := Bulk.one_le y0.1
    have b1 := Bulk.one_le y1.1
    have b2 : Rows.uptoBulk y2.1 = s.data.toList.length + 1 := by rw [hy2]; rfl
    have b3 := Bulk.one_le y3.1
    have b4 := Bulk.one_le y4.1
    obtain ⟨d, hd⟩ : ∃ d, Rows.uptoBulk x.1 / 6 = d + 1 := ⟨Rows.uptoBulk x.1 / 6 - 1, by omega⟩
    obtain ⟨A2, cap2, keys, e4, hk1, hk2, hk3, hk4, hk5⟩ := open_texts f4 (by omega)
    have hL : ∃ (A : Option Addr) (cap : Nat) (list : List Tr), c3 = .slice A list.length cap ∧ list.length ≤ 1048576 ∧ list.length ≤ cap ∧ (A = none → cap = 0) ∧
        (∀ i (h : i < list.length), ∃ ad, A = some ad ∧ ∃ z0 z1 z2 z3 z4, Cells5 w (ad.add (i * 5)) z0 z1 z2 z3 z4 ∧ Rep d w list[i] z0 z1 z2 z3 z4) ∧ ∀ e, (list.map fun t => wtT e t + 1).sum + 1 ≤ Rows.uptoBulk y3.1 := by
      rcases DataW.trod_slice Tryz.underlying24 f3 with ⟨e3, _⟩ | ⟨a, len, cap, elems, rest, n', hn', e3, hx3, _, hlc, _, hel, hget, _⟩
      · injection e3 with e3 _
        exact ⟨none, 0, [], e3, by simp, by simp, fun _ => rfl, fun i h => by simp at h, fun e => by simpa using b3⟩
      · injection e3 with e3 _
        rw [cellsOf_Value] at hget
        have hb3 : Rows.uptoBulkAll (elems.map (·.1)) + 1 ≤ Rows.uptoBulk y3.1 := by rw [hx3, Rows.uptoBulk]; omega
        have hle := Bulk.length_le (elems.map (·.1))
        rw [List.length_map, hel] at hle
        have hT : ∀ i, ∃ t : Tr, i < len → (∃ z0 z1 z2 z3 z4, Cells5 w (a.add (i * 5)) z0 z1 z2 z3 z4 ∧ Rep d w t z0 z1 z2 z3 z4) ∧ ∀ e, wtT e t + 1 ≤ Rows.uptoBulk ((elems.map (·.1)).getD i .nil) := by
          intro i
          by_cases hi : i < len
          · have hg := hget i hi
            rw [List.getElem?_eq_getElem (by omega)] at hg
            obtain ⟨cs', hcs, htr⟩ := Option.bind_eq_some_iff.1 hg
            have hbi : Rows.uptoBulk (elems[i]'(by omega)).1 ≤ Rows.uptoBulkAll (elems.map (·.1)) := Bulk.part_le (List.mem_map.2 ⟨_, List.getElem_mem _, rfl⟩)
            obtain ⟨t, z0, z1, z2, z3, z4, hce, hR, _, hwt⟩ := ih n' (by omega) cs' _ htr (by omega)
            obtain ⟨_, hcl, hat⟩ := World.cells?_some hcs
            refine ⟨t, fun _ => ⟨⟨z0, z1, z2, z3, z4, ?_, hR.mono (by omega)⟩, fun e => ?_⟩⟩
            rotate_left
            · have hg : (elems.map (·.1)).getD i .nil = (elems[i]'(by omega)).1 := by
                rw [List.getD_eq_getElem?_getD, List.getElem?_map, List.getElem?_eq_getElem (by omega)]; rfl
              rw [hg]; exact hwt e
            rw [hce] at hat
            have q0 := hat 0 (by omega)
            have q1 := hat 1 (by omega)
            have q2 := hat 2 (by omega)
            have q3 := hat 3 (by omega)
            have q4 := hat 4 (by omega)
            exact ⟨by simpa [Addr.add] using q0, by simpa [Addr.add] using q1, by simpa [Addr.add] using q2, by simpa [Addr.add] using q3, by simpa [Addr.add] using q4⟩
          · exact ⟨default, fun h => absurd h hi⟩
        obtain ⟨T, hT⟩ := Classical.axiomOfChoice hT
        have hlen : ((List.range len).map T).length = len := by simp
        refine ⟨some a, cap, (List.range len).map T, by rw [hlen]; exact e3, by omega, by omega, fun h => (by cases h), fun i hi => ?_, fun e => ?_⟩
        rotate_left
        · have h1 : ((List.range len).map fun i => wtT e (T i) + 1).sum ≤ ((List.range len).map fun i => Rows.uptoBulk ((elems.map (·.1)).getD i .nil)).sum := Bulk.sum_le len (fun i hi => (hT i hi).2 e)
          have h2 : ((List.range len).map fun i => Rows.uptoBulk ((elems.map (·.1)).getD i .nil)) = (elems.map (·.1)).map Rows.uptoBulk := by
            refine List.ext_getElem (by simp [hel]) fun i h1 h2 => ?_
            rw [List.getElem_map, List.getElem_map, List.getElem_range, List.getD_eq_getElem?_getD, List.getElem?_eq_getElem (by simpa using h2)]
            rfl
          rw [h2, ← Bulk.all_sum] at h1
          rw [List.map_map]
          have h3 : ((List.range len).map ((fun t => wtT e t + 1) ∘ T)).sum = ((List.range len).map fun i => wtT e (T i) + 1).sum := rfl
          rw [h3]
          omega
        have hi' : i < len := by omega
        obtain ⟨⟨z0, z1, z2, z3, z4, h5, hR⟩, _⟩ := hT i hi'
        refine ⟨a, rfl, z0, z1, z2, z3, z4, h5, ?_⟩
        have : ((List.range len).map T)[i] = T i := by simp
        rw [this]; exact hR
    obtain ⟨A, cap, list, e3, hl1, hl2, hl3, hl4, hl5⟩ := hL
    refine ⟨.mk k num s.data.toList keys list, c0, c1, c2, c3, c4, rfl, ?_, by omega, fun e => ?_⟩
    rotate_left
    · cases e with
      | zero => rw [wtT]; omega
      | succ e =>
        have h5 := hl5 e
        obtain ⟨K, hK⟩ : ∃ K, K = (keys.map fun s : List UInt8 => s.length + 1).sum := ⟨_, rfl⟩
        obtain ⟨L, hL⟩ : ∃ L, L = (list.map fun t => wtT e t + 1).sum := ⟨_, rfl⟩
        have e5 : wtT (e + 1) (.mk k num s.data.toList keys list) = 5 + s.data.toList.length + K + L := by rw [hK, hL]; rfl
        have h6 : K + 1 ≤ Rows.uptoBulk y4.1 := by rw [hK]; exact hk5
        rw [← hL] at h5
        rw [e5]
        omega
    rw [hd]
    exact ⟨e0, e1, e2, hnum, by omega, hl1, hk1, A, cap, A2, cap2, e3, e4, hl4, hk4, hk2, hl2, hk3, hl3⟩
/-- A value among the arguments. -/
theorem open_value (fuel : Nat) (cs : List Value) (x : DataW H × List MemPlace) (h : DataW.trod enc Tryz.prog w 0 (fun _ => true) held fuel 27 cs = some x) (hb : Rows.uptoBulk x.1 ≤ 1048576) :
    ∃ (t : Tr) (x0 x1 x2 x3 x4 : Value), cs = [x0, x1, x2, x3, x4] ∧ Rep (Rows.uptoBulk x.1 / 6) w t x0 x1 x2 x3 x4 ∧ 6 ≤ Rows.uptoBulk x.1 := by
  obtain ⟨t, x0, x1, x2, x3, x4, h1, h2, h3, _⟩ := open_value_w fuel cs x h hb
  exact ⟨t, x0, x1, x2, x3, x4, h1, h2, h3⟩
end
end Go.Proofs.YtpfamfkdfbcooaaGreatDoor
/- What the rows' list gives: the library's tables; a world for the witness. -/
namespace Go.Proofs.YtpfamfkdfbcooaaGreatDoor
open Go Go.RowKit Go.Proofs Go.ChangeShapes Go.WideShapes Go.ChangeAt
theorem laidVars_at {P : Program} {W : World} : ∀ (l : List (String × DataW Unit)) (ps : List MemPlace), DataW.LaidVars P W l ps → ∀ (i : Nat) (n : String) (d : DataW Unit), l[i]? = some (n, d) →
    ∃ g t cs fuel p, P.globalNamed n = some g ∧ (P.globals[g]?).map (·.type) = some t ∧ W.var? P n = some cs ∧ DataW.trod (fun _ => ()) P W 0 (fun _ => true) false fuel t cs.toList = some (d, p)
  | [], _, _, i, _, _, hi => by simp at hi
  | (n', d') :: r, ps, h, i, n, d, hi => by
    obtain ⟨g, t, cs, fuel, p, q, h1, h2, h3, h4, h5, _⟩ := h
    cases i with
    | zero =>
      injection hi with hi
      injection hi with e1 e2
      subst e1; subst e2
      exact ⟨g, t, cs, fuel, p, h1, h2, h3, h4⟩
    | succ i => exact laidVars_at r q h5 i n d (by simpa using hi)
/-- The rows' list. -/
def theList : List (String × DataW Unit) := [("math/bits.deBruijn32tab", Rows.laid_math_bits_deBruijn32tab), ("math/bits.deBruijn64tab", Rows.laid_math_bits_deBruijn64tab), ("internal/strconv.optimize", Rows.laid_internal_strconv_optimize), ("internal/strconv.uint64pow10", Rows.laid_internal_strconv_uint64pow10), ("unicode/utf8.acceptRanges", Rows.laid_unicode_utf8_acceptRanges), ("strconv.ErrRange", Rows.laid_strconv_ErrRange), ("strconv.ErrSyntax", Rows.laid_strconv_ErrSyntax), ("internal/strconv.leftcheats", Rows.laid_internal_strconv_leftcheats), ("internal/strconv.pow10Tab", Rows.laid_internal_strconv_pow10Tab), ("unicode/utf8.first", Rows.laid_unicode_utf8_first)]
theorem list_plain (W : World) : laidMetH Tryz.prog theList W = laidMet Tryz.prog theList W := MakeChecks.laidMetH_plain _ _ _ (by kernel_rfl)
theorem g_pow : Tryz.prog.globalNamed "internal/strconv.pow10Tab" = some 8 := by kernel_rfl
theorem g_opt : Tryz.prog.globalNamed "internal/strconv.optimize" = some 4 := by kernel_rfl
theorem gt (g : Nat) (t t' : TypeId) (h : (Tryz.prog.globals[g]?).map (·.type) = some t) (h' : (Tryz.prog.globals[g]?).map (·.type) = some t') : t' = t := Option.some.inj (h'.symm.trans h)
/-- An array of bytes that reads as a table of numbers. -/
theorem tab_u8 {W : World} {n : String} {g : Nat} {zs : List Nat} {T : TypeId} {cnt : Nat} {l : List (String × DataW Unit)} {i : Nat} (h : laidMet Tryz.prog l W) (hi : l[i]? = some (n, .agg (Pinned.numbers .u8 zs))) (hg : Tryz.prog.globalNamed n = some g) (hT : (Tryz.prog.globals[g]?).map (·.type) = some T) (hu : Tryz.prog.underlying T = some (.array cnt 5)) :
    ∀ (j : Nat) (x : Nat), zs[j]? = some x → W.cell? ⟨g, j, none⟩ = some (.int .u8 x) := by
  obtain ⟨ps, hl, _⟩ := h
  obtain ⟨g', t, cs, fuel, p, h1, h2, h3, h4⟩ := laidVars_at l ps hl i _ _ hi
  obtain rfl := Option.some.inj (hg.symm.trans h1)
  obtain rfl := gt _ _ _ hT h2
  obtain ⟨xs, m, _, ex, _, hxl, hel⟩ := DataW.trod_array hu h4
  have c5 : Tryz.prog.cellsOf 5 = 1 := by kernel_rfl
  have e3 : xs.map (·.1) = Pinned.numbers .u8 zs := (DataW.agg.inj (Prod.mk.inj ex).1).symm
  intro j x hx
  have hjz : j < zs.length := (List.getElem?_eq_some_iff.1 hx).1
  have hjx : j < xs.length := by
    have := congrArg List.length e3
    unfold Pinned.numbers at this
    rw [List.length_map, List.length_map] at this
    omega
  have hE := hel j (by omega)
  rw [c5, Nat.mul_one, List.getElem?_eq_getElem hjx] at hE
  obtain ⟨z, e1, e2, _⟩ := DataW.trod_int Tryz.underlying5 hE
  have e4 : (xs.map (·.1))[j]? = (Pinned.numbers .u8 zs)[j]? := by rw [e3]
  unfold Pinned.numbers at e4
  rw [List.getElem?_map, List.getElem?_map, List.getElem?_eq_getElem hjx, hx, e2] at e4
  have hz : z = (x : Int) := by
    simp only [Option.map_some, Option.some.injEq, DataW.lit.injEq, Lit.int.injEq, true_and] at e4
    exact e4
  rw [World.var?_cell hg h3 j, ← hz]
  have : cs.toList[j]? = some (.int .u8 z) := by
    have h0 : ((cs.toList.drop j).take 1)[0]? = some (.int .u8 z) := by rw [e1]; rfl
    simpa using h0
  simpa using this
/-- An array of pairs of numbers. -/
theorem tab_pairs {W : World} {n : String} {g : Nat} {zs : List (Nat × Nat)} {T E U : TypeId} {cnt : Nat} {f0 f1 : Field} {l : List (String × DataW Unit)} {i : Nat} (h : laidMet Tryz.prog l W) (hi : l[i]? = some (n, .agg (zs.map fun x => .agg [.lit (.int .u64 x.1), .lit (.int .u64 x.2)]))) (hg : Tryz.prog.globalNamed n = some g) (hT : (Tryz.prog.globals[g]?).map (·.type) = some T) (hu : Tryz.prog.underlying T = some (.array cnt E))
    (he : Tryz.prog.underlying E = some (.struct #[f0, f1])) (hE : Tryz.prog.cellsOf E = 2) (ho : f0.offset = 0 ∧ f1.offset = 1 ∧ f0.type = U ∧ f1.type = U) (hU : Tryz.prog.underlying U = some (.int .u64)) (hc : Tryz.prog.cellsOf U = 1) :
    ∀ (j : Nat) (x : Nat × Nat), zs[j]? = some x → W.cell? ⟨g, j * 2, none⟩ = some (.int .u64 x.1) ∧ W.cell? ⟨g, j * 2 + 1, none⟩ = some (.int .u64 x.2) := by
  obtain ⟨ps, hl, _⟩ := h
  obtain ⟨g', t, cs, fuel, p, h1, h2, h3, h4⟩ := laidVars_at l ps hl i _ _ hi
  obtain rfl := Option.some.inj (hg.symm.trans h1)
  obtain rfl := gt _ _ _ hT h2
  obtain ⟨xs, m, _, ex, _, hxl, hel⟩ := DataW.trod_array hu h4
  have e3 : xs.map (·.1) = zs.map fun x => (.agg [.lit (.int .u64 x.1), .lit (.int .u64 x.2)] : DataW Unit) := (DataW.agg.inj (Prod.mk.inj ex).1).symm
  intro j x hx
  have hjz : j < zs.length := (List.getElem?_eq_some_iff.1 hx).1
  have hjx : j < xs.length := by
    have := congrArg List.length e3
    rw [List.length_map, List.length_map] at this
    omega
  have hEl := hel j (by omega)
  rw [hE, List.getElem?_eq_getElem hjx] at hEl
  obtain ⟨ys, m', _, ey, _, hyl, hf⟩ := DataW.trod_struct he hEl
  obtain ⟨o0, o1, t0, t1⟩ := ho
  have hyl' : ys.length = 2 := hyl
  match ys, hyl' with
  | [y0, y1], _ =>
  have q0 := hf 0 f0 rfl
  have q1 := hf 1 f1 rfl
  rw [o0, t0, hc, List.drop_zero] at q0
  rw [o1, t1, hc] at q1
  obtain ⟨z0, a0, b0, _⟩ := DataW.trod_int hU q0
  obtain ⟨z1, a1, b1, _⟩ := DataW.trod_int hU q1
  have e4 : (xs.map (·.1))[j]? = (zs.map fun x => (.agg [.lit (.int .u64 x.1), .lit (.int .u64 x.2)] : DataW Unit))[j]? := by rw [e3]
  rw [List.getElem?_map, List.getElem?_map, List.getElem?_eq_getElem hjx, hx, ey] at e4
  simp only [Option.map_some, Option.some.injEq, DataW.agg.injEq, List.map_cons, List.map_nil, b0, b1, List.cons.injEq, DataW.lit.injEq, Lit.int.injEq, true_and, and_true] at e4
  obtain ⟨rfl, rfl⟩ := e4
  rw [World.var?_cell hg h3 (j * 2), World.var?_cell hg h3 (j * 2 + 1)]
  have k0 : cs.toList[j * 2]? = some (.int .u64 x.1) := by
    have h0 : ((((cs.toList.drop (j * 2)).take 2)).take 1)[0]? = some (.int .u64 x.1) := by rw [a0]; rfl
    simpa using h0
  have k1 : cs.toList[j * 2 + 1]? = some (.int .u64 x.2) := by
    have h0 : ((((cs.toList.drop (j * 2)).take 2).drop 1).take 1)[0]? = some (.int .u64 x.2) := by rw [a1]; rfl
    simpa using h0
  exact ⟨by simpa using k0, by simpa using k1⟩
theorem var_lt {W : World} {n : String} {g : Nat} {cs : Array Value} (hg : Tryz.prog.globalNamed n = some g) (h : W.var? Tryz.prog n = some cs) : g < W.heap.size := by
  simp only [World.var?, hg, Option.bind_some] at h
  split at h
  · rename_i hh
    exact (Array.getElem?_eq_some_iff.1 hh).1
  · cases h
theorem tabs_of_list {W : World} (hL : laidMetH Tryz.prog theList W) (hsh : W.ShapedOpen Tryz.prog) : Tabs W := by
  rw [list_plain] at hL
  refine ⟨?_, ?_, ?_, ?_, ?_, ?_⟩
  · obtain ⟨ps, hl, _⟩ := hL
    obtain ⟨g, t, cs, fuel, p, h1, h2, h3, h4⟩ := laidVars_at _ ps hl 1 _ _ rfl
    have := var_lt (show Tryz.prog.globalNamed "math/bits.deBruijn64tab" = some 11 by kernel_rfl) h3
    omega
  · exact tab_pairs (i := 8) hL (n := "internal/strconv.pow10Tab") (zs := Pinned.pow10Rows) rfl g_pow (T := 267) (by kernel_rfl) Tryz.underlying267 Tryz.underlying266 (by kernel_rfl) ⟨rfl, rfl, rfl, rfl⟩ Tryz.underlying102 (by kernel_rfl)
  · obtain ⟨ps, hl, _⟩ := hL
    obtain ⟨g, t, cs, fuel, p, h1, h2, h3, h4⟩ := laidVars_at _ ps hl 3 "internal/strconv.uint64pow10" (Lib.tabData .u64 Lib.pow10Tab) rfl
    obtain rfl := Option.some.inj (g_u10.symm.trans h1)
    obtain rfl := gt _ 244 _ (by kernel_rfl) h2
    unfold Lib.TabIs
    rw [h3, ← Lib.cells_of_tab Tryz.underlying244 Tryz.underlying102 (by kernel_rfl) (by kernel_rfl) h4]
  · exact tab_u8 (i := 9) hL (n := "unicode/utf8.first") (zs := Pinned.utf8FirstZ) rfl g_first (T := 165) (by kernel_rfl) Tryz.underlying165
  · obtain ⟨ps, hl, _⟩ := hL
    obtain ⟨g, t, cs, fuel, p, h1, h2, h3, h4⟩ := laidVars_at _ ps hl 2 _ _ rfl
    obtain rfl := Option.some.inj (g_opt.symm.trans h1)
    obtain rfl := gt _ 4 _ (by kernel_rfl) h2
    obtain ⟨b, e1, e2⟩ := DataW.trod_bool Tryz.underlying4 h4
    have eb : b = true := by
      have := (Prod.mk.inj e2).1
      injection this with this
      injection this with this
      exact this.symm
    rw [World.var?_cell g_opt h3 0, ← Array.getElem?_toList, e1, eb]
    rfl
  · exact cell_of_shapedOpen_int (t := 3) (zero := #[.int .i64 0]) hsh (of_decide_eq_true (by kernel_rfl)) (by kernel_rfl) rfl (by kernel_rfl) (by kernel_rfl) Tryz.underlying3
/-- A world for the witness, whatever the function. -/
theorem witness_at {H : Type} {enc : TypeId × Value → H} (os : Os) {f : FuncId} {fn : Func} {s : OpenSpec} (args : Array Value)
    (hok : Input.okWideB Tryz.prog ((World.laidAll Tryz.prog os theList).forCall (fun _ _ => 0) ⟨#[], args, []⟩) f ⟨#[], args, []⟩ = true)
    (hrow : s.preRow enc Tryz.prog fn [] false theList ((World.laidAll Tryz.prog os theList).forCall (fun _ _ => 0) ⟨#[], args, []⟩).memory args) :
    ∃ (w : World) (tape : Tape) (i : Input), w.os = os ∧ (w.forCall tape i).Shaped Tryz.prog ∧ i.vars = [] ∧ Input.okWide Tryz.prog (w.forCall tape i) .any w.heap.size f i ∧
      s.preRow enc Tryz.prog fn [] false theList (w.forCall tape i).memory i.args ∧ ({} : Assume).holds Tryz.prog (lone (Frame.enter Tryz.prog f i.args .normal) [] (w.forCall tape i)) :=
  ⟨World.laidAll Tryz.prog os theList, fun _ _ => 0, ⟨#[], args, []⟩, World.laidAll_os _ _ _, World.shaped_of_ZipB (by kernel_rfl) (by kernel_rfl), (Input.okWide_of_okWideB (base := 0) hok).1, (Input.okWide_of_okWideB hok).2, hrow, by
    simp only [Assume.holds]
    exact ⟨by simp, by simp, fun _ => Modest.zero, by simp, by simp⟩⟩
theorem list_met (os : Os) (args : Array Value) : laidMetH Tryz.prog theList ((World.laidAll Tryz.prog os theList).forCall (fun _ _ => 0) ⟨#[], args, []⟩).memory := by
  rw [list_plain]
  exact laidMet_laidAll _ (by kernel_rfl) (by kernel_rfl)
end Go.Proofs.YtpfamfkdfbcooaaGreatDoor
/- A law's answer is true and its arguments read as they did: out of 'nothing that was there has changed'. -/
namespace Go.Proofs.YtpfamfkdfbcooaaGreatDoor
open Go Go.RowKit Go.Proofs Go.ChangeShapes Go.WideShapes Go.ChangeAt
theorem laid_out : laidOutB Tryz.prog = true := by kernel_rfl
theorem trodAll_later {H : Type} {enc : TypeId × Value → H} {W W' : World} (hb : Below W.heap.size W W') : ∀ {ts : List TypeId} {vs : List Value} {ds : List (DataW H)} {ps : List MemPlace},
    DataW.TrodAll enc Tryz.prog W 0 (fun _ => true) true ts vs ds ps → (∀ t ∈ ts, Tryz.prog.readableRec t = true ∧ t < Tryz.prog.types.size) → (∀ x ∈ ps, x.block < W.heap.size) →
    DataW.TrodAll enc Tryz.prog W' 0 (fun b => decide (b < W.heap.size)) true ts vs ds ps
  | [], [], [], ps, h, _, _ => h
  | t :: ts, v :: vs, d :: ds, ps, h, ht, hp => by
    obtain ⟨p, q, h1, h2, rfl⟩ := h
    exact ⟨p, q, Below.trod laid_out (ht t (List.mem_cons_self ..)).1 (ht t (List.mem_cons_self ..)).2 h1 hb (fun x hx => hp x (List.mem_append_left _ hx)), trodAll_later hb h2 (fun t ht' => ht t (List.mem_cons_of_mem _ ht')) (fun x hx => hp x (List.mem_append_right _ hx)), rfl⟩
  | [], _ :: _, _, _, h, _, _ => h.elim
  | [], [], _ :: _, _, h, _, _ => h.elim
  | _ :: _, [], _, _, h, _, _ => h.elim
  | _ :: _, _ :: _, [], _, h, _, _ => h.elim
theorem law_post {H : Type} {enc : TypeId × Value → H} {f : Func} {s : ChangeSpec} {W W' : World} {args : Array Value} {ds gs : List (DataW H)} {before : List MemPlace}
    (hv : s.vars = []) (hr : f.resultTypes = #[4]) (hfn : s.fn H (ds ++ gs) = { results := [.lit (.bool true)], args := ds }) (hts : ∀ t ∈ f.params.toList, Tryz.prog.readableRec t = true ∧ t < Tryz.prog.types.size)
    (hW : DataW.Whole enc Tryz.prog f.params.toList s.vars false W args.toList ds gs before) (hb : Below W.heap.size W W') : s.post enc Tryz.prog f false true false false W args (.bool true) W' := by
  have hlt : ∀ p ∈ before, p.block < W.heap.size := fun p hp => hW.lt p hp
  have hW0 := hW
  obtain ⟨p, q, hA, hV, rfl, _, _⟩ := hW
  rw [hv] at hV
  obtain ⟨rfl, rfl⟩ := trodVars_none hV
  refine ⟨ds, [], p ++ [], [], p, [], hW0, ?_, ?_, ?_, World.keptBut_mono (fun x hx => ⟨hx, ?_⟩) (hb.frame (· ∈ p ++ [])), fun h => by cases h⟩
  · rw [hfn, hr]
    exact trodAll_mk1 (shut_bool Tryz.underlying4 _)
  · rw [hfn]
    exact trodAll_later hb hA hts (fun x hx => hlt x (List.mem_append_left _ hx))
  · rw [hfn, hv]
    exact rfl
  · rw [List.append_nil] at hx
    exact Or.inr (Or.inl hx)
end Go.Proofs.YtpfamfkdfbcooaaGreatDoor
