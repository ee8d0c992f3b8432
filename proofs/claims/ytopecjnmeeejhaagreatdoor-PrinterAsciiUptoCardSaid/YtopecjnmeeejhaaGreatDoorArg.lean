/- What a value among the arguments is: a tree of few levels. -/
import Derived.Test.YtopecjnmeeejhaaGreatDoorRig
import Derived.Test.YtopecjnmeeejhaaGreatDoorRows
import Derived.OpenShut
import Derived.SliceStrings
import Derived.Laws.Cover2
set_option linter.unusedVariables false
set_option linter.unusedSimpArgs false
namespace Go.Proofs.YtopecjnmeeejhaaGreatDoor
open Go Go.RowKit Go.Proofs Go.ChangeShapes Go.WideShapes Go.ChangeAt
namespace Bulk
theorem one_le {H : Type} (d : DataW H) : 1 ≤ Rows.uptoBulk d := by
  cases d with
  | lit l => cases l <;> simp [Rows.uptoBulk]
  | nil => simp [Rows.uptoBulk]
  | ptr d => simp [Rows.uptoBulk]
  | slice elems spare => simp [Rows.uptoBulk]
  | agg parts => simp [Rows.uptoBulk]
  | iface t d => simp [Rows.uptoBulk]
  | map entries => simp [Rows.uptoBulk]
  | held h => simp [Rows.uptoBulk]
theorem part_le {H : Type} {d : DataW H} {l : List (DataW H)} (h : d ∈ l) : Rows.uptoBulk d ≤ Rows.uptoBulkAll l := by
  induction l with
  | nil => cases h
  | cons x r ih =>
    rw [Rows.uptoBulkAll]
    rcases List.mem_cons.1 h with e | e
    · subst e; omega
    · have := ih e; omega
theorem length_le {H : Type} (l : List (DataW H)) : l.length ≤ Rows.uptoBulkAll l := by
  induction l with
  | nil => simp [Rows.uptoBulkAll]
  | cons x r ih => have := one_le x; rw [Rows.uptoBulkAll, List.length_cons]; omega
end Bulk
theorem Rep.mono : ∀ {d d' : Nat} {w : World} {t : Tr} {x0 x1 x2 x3 x4 : Value}, Rep d w t x0 x1 x2 x3 x4 → d ≤ d' → Rep d' w t x0 x1 x2 x3 x4
  | 0, _, _, _, _, _, _, _, _, h, _ => h.elim
  | d + 1, 0, _, _, _, _, _, _, _, _, hd => by omega
  | d + 1, d' + 1, w, .mk k num str keys list, x0, x1, x2, x3, x4, h, hd => by
    obtain ⟨h1, h2, h3, h4, h5, h6, h7, A, c, A2, c2, e3, e4, hL, hK, hr⟩ := h
    refine ⟨h1, h2, h3, h4, h5, h6, h7, A, c, A2, c2, e3, e4, fun i hi => ?_, hK, hr⟩
    obtain ⟨ad, e, y0, y1, y2, y3, y4, h5, hRi⟩ := hL i hi
    exact ⟨ad, e, y0, y1, y2, y3, y4, h5, hRi.mono (by omega)⟩
section
variable {H : Type} {enc : TypeId × Value → H} {w : World} {held : Bool}
theorem trod_float {k : FloatKind} {t : TypeId} {fuel : Nat} {cs : List Value} {x : DataW H × List MemPlace} {sp : Nat → Bool} (ht : Tryz.prog.underlying t = some (.float k)) (h : DataW.trod enc Tryz.prog w 0 sp held fuel t cs = some x) :
    ∃ b, cs = [.float k b] ∧ x = (.lit (.float k b), []) ∧ (Lit.float k b).wf = true := by
  cases fuel with
  | zero => simp [DataW.trod] at h
  | succ n =>
    unfold DataW.trod at h
    rw [ht] at h
    split at h <;> simp_all
theorem cellsOf_Value : Tryz.prog.cellsOf 27 = 5 := by kernel_rfl
theorem cellsOf_Kind : Tryz.prog.cellsOf 22 = 1 := by kernel_rfl
theorem cellsOf_float : Tryz.prog.cellsOf 23 = 1 := by kernel_rfl
theorem cellsOf_string : Tryz.prog.cellsOf 9 = 1 := by kernel_rfl
theorem cellsOf_Values : Tryz.prog.cellsOf 24 = 1 := by kernel_rfl
theorem cellsOf_strings : Tryz.prog.cellsOf 25 = 1 := by kernel_rfl
/-- Texts among the arguments. -/
theorem open_texts {fuel : Nat} {c : Value} {x : DataW H × List MemPlace} (h : DataW.trod enc Tryz.prog w 0 (fun _ => true) held fuel 25 [c] = some x) (hb : Rows.uptoBulk x.1 ≤ 1048576) :
    ∃ (A : Option Addr) (cap : Nat) (keys : List Txt), c = .slice A keys.length cap ∧ keys.length ≤ 1048576 ∧ keys.length ≤ cap ∧ (A = none → cap = 0) ∧
      (∀ i (h : i < keys.length), keys[i].length ≤ 1048576 ∧ ∃ ad, A = some ad ∧ w.cell? (ad.add i) = some (.string ⟨keys[i].toArray⟩)) := by
  rcases open_strings Tryz.underlying25 Tryz.underlying9 cellsOf_string h with ⟨e, hx⟩ | ⟨a, len, cap, ss, e, _, hlc, hcm, hsl, hx, hc, _⟩
  · injection e with e _
    exact ⟨none, 0, [], e, by simp, by simp, fun _ => rfl, fun i h => by simp at h⟩
  · injection e with e _
    simp only [if_true] at hsl
    rw [hx] at hb
    have hbl : ∀ s ∈ ss.take len, s.size + 1 ≤ 1048576 := by
      intro s hs
      have h1 : DataW.lit (H := H) (.string s.data.toList) ∈ strs (H := H) (ss.take len) := by
        unfold strs
        exact List.mem_map.2 ⟨s, hs, rfl⟩
      have h2 := Bulk.part_le h1
      have h3 : Rows.uptoBulk (DataW.lit (H := H) (.string s.data.toList)) = s.size + 1 := by simp [Rows.uptoBulk]
      rw [Rows.uptoBulk] at hb
      omega
    have hll : len ≤ 1048576 := by
      have := Bulk.length_le (strs (H := H) (ss.take len))
      have h2 : (strs (H := H) (ss.take len)).length = len := by unfold strs; rw [List.length_map, List.length_take]; omega
      rw [Rows.uptoBulk] at hb
      omega
    have hkl : ((ss.take len).map fun s => s.data.toList).length = len := by rw [List.length_map, List.length_take]; omega
    refine ⟨some a, cap, (ss.take len).map fun s => s.data.toList, by rw [hkl]; exact e, by omega, by omega, fun h => (by cases h), fun i hi => ?_⟩
    have hi' : i < len := by omega
    have hget : ((ss.take len).map fun s => s.data.toList)[i] = (ss[i]'(by omega)).data.toList := by simp
    rw [hget]
    refine ⟨?_, a, rfl, ?_⟩
    · have := hbl (ss[i]'(by omega)) (List.mem_take_iff_getElem.2 ⟨i, by omega, rfl⟩)
      have e2 : (ss[i]'(by omega)).data.toList.length = (ss[i]'(by omega)).size := by simp
      omega
    · rw [hc i (by omega)]
      have : ss.getD i ByteArray.empty = ss[i]'(by omega) := by
        rw [List.getD_eq_getElem?_getD, List.getElem?_eq_getElem (by omega)]; rfl
      rw [this]
set_option maxRecDepth 100000 in
/-- A value among the arguments. -/
theorem open_value : ∀ (fuel : Nat) (cs : List Value) (x : DataW H × List MemPlace), DataW.trod enc Tryz.prog w 0 (fun _ => true) held fuel 27 cs = some x → Rows.uptoBulk x.1 ≤ 1048576 →
    ∃ (t : Tr) (x0 x1 x2 x3 x4 : Value), cs = [x0, x1, x2, x3, x4] ∧ Rep (Rows.uptoBulk x.1 / 6) w t x0 x1 x2 x3 x4 ∧ 6 ≤ Rows.uptoBulk x.1 := by
  intro fuel
  induction fuel using Nat.strongRecOn with
  | ind fuel ih =>
    intro cs x h hb
    obtain ⟨xs, n, hfu, hx, hlen, hxl, hf⟩ := DataW.trod_struct Tryz.underlying27 h
    rw [cellsOf_Value] at hlen
    match cs, hlen with
    | [c0, c1, c2, c3, c4], _ =>
    have hxl' : xs.length = 5 := hxl
    match xs, hxl' with
    | [y0, y1, y2, y3, y4], _ =>
    have f0 := hf 0 _ rfl
    have f1 := hf 1 _ rfl
    have f2 := hf 2 _ rfl
    have f3 := hf 3 _ rfl
    have f4 := hf 4 _ rfl
    simp only [cellsOf_Kind, cellsOf_float, cellsOf_string, cellsOf_Values, cellsOf_strings, List.drop_zero, List.drop_succ_cons, List.take_succ_cons, List.take_zero, List.getElem?_cons_zero, List.getElem?_cons_succ] at f0 f1 f2 f3 f4
    obtain ⟨k, e0, hy0, _⟩ := DataW.trod_int Tryz.underlying22 f0
    obtain ⟨s, e2, hy2, _⟩ := DataW.trod_string Tryz.underlying9 f2
    injection e0 with e0 _
    injection e2 with e2 _
    obtain ⟨num, e1, hy1, hw1⟩ := trod_float Tryz.underlying23 f1
    injection e1 with e1 _
    have hnum : num < 18446744073709551616 := by
      have := hw1
      simp [Lit.wf] at this
      omega
    have hxe : Rows.uptoBulk x.1 = Rows.uptoBulk y0.1 + (Rows.uptoBulk y1.1 + (Rows.uptoBulk y2.1 + (Rows.uptoBulk y3.1 + (Rows.uptoBulk y4.1 + 0)))) + 1 := by
      rw [hx]; rfl
    have b0 := Bulk.one_le y0.1
    have b1 := Bulk.one_le y1.1
    have b2 : Rows.uptoBulk y2.1 = s.data.toList.length + 1 := by rw [hy2]; rfl
    have b3 := Bulk.one_le y3.1
    have b4 := Bulk.one_le y4.1
    obtain ⟨d, hd⟩ : ∃ d, Rows.uptoBulk x.1 / 6 = d + 1 := ⟨Rows.uptoBulk x.1 / 6 - 1, by omega⟩
    obtain ⟨A2, cap2, keys, e4, hk1, hk2, hk3, hk4⟩ := open_texts f4 (by omega)
    have hL : ∃ (A : Option Addr) (cap : Nat) (list : List Tr), c3 = .slice A list.length cap ∧ list.length ≤ 1048576 ∧ list.length ≤ cap ∧ (A = none → cap = 0) ∧
        (∀ i (h : i < list.length), ∃ ad, A = some ad ∧ ∃ z0 z1 z2 z3 z4, Cells5 w (ad.add (i * 5)) z0 z1 z2 z3 z4 ∧ Rep d w list[i] z0 z1 z2 z3 z4) := by
      rcases DataW.trod_slice Tryz.underlying24 f3 with ⟨e3, _⟩ | ⟨a, len, cap, elems, rest, n', hn', e3, hx3, _, hlc, _, hel, hget, _⟩
      · injection e3 with e3 _
        exact ⟨none, 0, [], e3, by simp, by simp, fun _ => rfl, fun i h => by simp at h⟩
      · injection e3 with e3 _
        rw [cellsOf_Value] at hget
        have hb3 : Rows.uptoBulkAll (elems.map (·.1)) + 1 ≤ Rows.uptoBulk y3.1 := by rw [hx3, Rows.uptoBulk]; omega
        have hle := Bulk.length_le (elems.map (·.1))
        rw [List.length_map, hel] at hle
        have hT : ∀ i, ∃ t : Tr, i < len → ∃ z0 z1 z2 z3 z4, Cells5 w (a.add (i * 5)) z0 z1 z2 z3 z4 ∧ Rep d w t z0 z1 z2 z3 z4 := by
          intro i
          by_cases hi : i < len
          · have hg := hget i hi
            rw [List.getElem?_eq_getElem (by omega)] at hg
            obtain ⟨cs', hcs, htr⟩ := Option.bind_eq_some_iff.1 hg
            have hbi : Rows.uptoBulk (elems[i]'(by omega)).1 ≤ Rows.uptoBulkAll (elems.map (·.1)) := Bulk.part_le (List.mem_map.2 ⟨_, List.getElem_mem _, rfl⟩)
            obtain ⟨t, z0, z1, z2, z3, z4, hce, hR, _⟩ := ih n' (by omega) cs' _ htr (by omega)
            obtain ⟨_, hcl, hat⟩ := World.cells?_some hcs
            refine ⟨t, fun _ => ⟨z0, z1, z2, z3, z4, ?_, hR.mono (by omega)⟩⟩
            rw [hce] at hat
            have q0 := hat 0 (by omega)
            have q1 := hat 1 (by omega)
            have q2 := hat 2 (by omega)
            have q3 := hat 3 (by omega)
            have q4 := hat 4 (by omega)
            exact ⟨by simpa [Addr.add] using q0, by simpa [Addr.add] using q1, by simpa [Addr.add] using q2, by simpa [Addr.add] using q3, by simpa [Addr.add] using q4⟩
          · exact ⟨default, fun h => absurd h hi⟩
        obtain ⟨T, hT⟩ := Classical.axiomOfChoice hT
        have hlen : ((List.range len).map T).length = len := by simp
        refine ⟨some a, cap, (List.range len).map T, by rw [hlen]; exact e3, by omega, by omega, fun h => (by cases h), fun i hi => ?_⟩
        have hi' : i < len := by omega
        obtain ⟨z0, z1, z2, z3, z4, h5, hR⟩ := hT i hi'
        refine ⟨a, rfl, z0, z1, z2, z3, z4, h5, ?_⟩
        have : ((List.range len).map T)[i] = T i := by simp
        rw [this]; exact hR
    obtain ⟨A, cap, list, e3, hl1, hl2, hl3, hl4⟩ := hL
    refine ⟨.mk k num s.data.toList keys list, c0, c1, c2, c3, c4, rfl, ?_, by omega⟩
    rw [hd]
    exact ⟨e0, e1, e2, hnum, by omega, hl1, hk1, A, cap, A2, cap2, e3, e4, hl4, hk4, hk2, hl2, hk3, hl3⟩
end
end Go.Proofs.YtopecjnmeeejhaaGreatDoor
