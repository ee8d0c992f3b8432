/- In one text: strings.Replacer: Replace of bytes by texts.; format.escaped: a text with bytes replaced by texts. -/
import Derived.Test.YtpfamfkdfbcooaaGreatDoorRpx
import Derived.Laws.CopyRow
set_option linter.unusedVariables false
set_option linter.unusedSimpArgs false
/- strings.Replacer: Replace of bytes by texts. -/
namespace Go.Proofs.YtpfamfkdfbcooaaGreatDoor
open Go Go.RowKit Go.Proofs
theorem repT_snoc (ps : Prs) (l : List UInt8) (x : UInt8) : repT ps (l ++ [x]) = repT ps l ++ repE ps x := by unfold repT; simp
theorem gain_snoc (l : Prs) (p : UInt8 × List UInt8) (s : List UInt8) : gain (l ++ [p]) s = gain l s + s.count p.1 * (p.2.length - 1) := by unfold gain; simp
theorem gain_perm {a b : Prs} (h : a.Perm b) (s : List UInt8) : gain a s = gain b s := (h.map _).sum_nat
theorem repT_len_le (ps : Prs) (hl : ∀ p ∈ ps, 1 ≤ p.2.length ∧ p.2.length ≤ 100) : ∀ s : List UInt8, s.length ≤ (repT ps s).length ∧ (repT ps s).length ≤ 100 * s.length
  | [] => by simp [repT]
  | x :: s => by
    have ih := repT_len_le ps hl s
    have e : repT ps (x :: s) = repE ps x ++ repT ps s := by unfold repT; rw [List.flatMap_cons]
    have h1 : 1 ≤ (repE ps x).length ∧ (repE ps x).length ≤ 100 := by
      unfold repE
      cases h : ps.lookup x with
      | none => simp
      | some nl =>
        have gen : ∀ l : Prs, l.lookup x = some nl → ∃ p ∈ l, p.2 = nl := fun l => by
          induction l with
          | nil => intro h; cases h
          | cons p l ih =>
            intro h
            rw [List.lookup_cons] at h
            cases hx : (x == p.1) with
            | true => rw [hx] at h; injection h with h; exact ⟨p, List.mem_cons_self .., h⟩
            | false => rw [hx] at h; obtain ⟨q, hq, e⟩ := ih h; exact ⟨q, List.mem_cons_of_mem _ hq, e⟩
        obtain ⟨p, hp, rfl⟩ := gen ps h
        exact hl p hp
    rw [e, List.length_append, List.length_cons]
    omega
theorem look_len {ps : Prs} (hn : ∀ p ∈ ps, 2 ≤ p.2.length ∧ p.2.length ≤ 100) {x : UInt8} {nl : List UInt8} (h : ps.lookup x = some nl) : 2 ≤ nl.length ∧ nl.length ≤ 100 := by
  have gen : ∀ l : Prs, l.lookup x = some nl → ∃ p ∈ l, p.2 = nl := fun l => by
    induction l with
    | nil => intro h; cases h
    | cons p l ih =>
      intro h
      rw [List.lookup_cons] at h
      cases hx : (x == p.1) with
      | true => rw [hx] at h; injection h with h; exact ⟨p, List.mem_cons_self .., h⟩
      | false => rw [hx] at h; obtain ⟨q, hq, e⟩ := ih h; exact ⟨q, List.mem_cons_of_mem _ hq, e⟩
  obtain ⟨p, hp, rfl⟩ := gen ps h
  exact hn p hp
theorem nil_neq (W : World) : (binOp BinOp.neq 60 (.slice none 0 0) (.slice none 0 0)).run Tryz.prog W = .ok (.bool false) W := by
  kernel_rfl
theorem some_neq (W : World) (g n c : Nat) : (binOp BinOp.neq 60 (.slice (some ⟨g, 0, none⟩) n c) (.slice none 0 0)).run Tryz.prog W = .ok (.bool true) W := by
  kernel_rfl
/-- A table that stands. -/
structure TabF (T : Nat) (ps : Prs) (W : World) : Prop where
  sv : ∃ A c, W.cell? ⟨T, 256, none⟩ = some (.slice A ps.length c) ∧ ps.length ≤ c ∧ (0 < ps.length → ∃ g, A = some ⟨g, 0, none⟩ ∧ ∀ k (h : k < ps.length), W.cell? ⟨g, k, none⟩ = some (.string ⟨#[(ps.reverse[k]'(by simpa using h)).1]⟩))
  no : ∀ c : UInt8, ps.lookup c = none → W.cell? ⟨T, c.toNat, none⟩ = some (.slice none 0 0)
  yes : ∀ (c : UInt8) nl, ps.lookup c = some nl → ∃ g cap, W.cell? ⟨T, c.toNat, none⟩ = some (.slice (some ⟨g, 0, none⟩) nl.length cap) ∧ g < W.heap.size ∧ ∀ q (h : q < nl.length), W.cell? ⟨g, q, none⟩ = some (.int .u8 (nl[q].toNat : Int))
theorem TabF.below {T : Nat} {ps : Prs} {W W' : World} (h : TabF T ps W) (hb : Below W.heap.size W W') : TabF T ps W' := by
  have go : ∀ {a : Addr} {u : Value}, W.cell? a = some u → W'.cell? a = some u := fun hc => (hb.cell (World.block_lt_of_cell? W _ hc)).trans hc
  refine ⟨?_, fun c hc => go (h.no c hc), fun c nl hc => ?_⟩
  · obtain ⟨A, c, h1, h2, h3⟩ := h.sv
    refine ⟨A, c, go h1, h2, fun hp => ?_⟩
    obtain ⟨g, e, hk⟩ := h3 hp
    exact ⟨g, e, fun k hk' => go (hk k hk')⟩
  · obtain ⟨g, cap, h1, h2, h3⟩ := h.yes c nl hc
    exact ⟨g, cap, go h1, Nat.lt_of_lt_of_le h2 hb.size, fun q hq => go (h3 q hq)⟩
theorem TabI.fin {w : World} {T B : Nat} {ps : Prs} {W : World} {sv : Value} {cs : Array Value} (h : TabI w T B ps 0 W sv cs) : TabF T ps W := by
  have hO := h.own
  rw [List.drop_zero, Nat.sub_zero] at hO
  refine ⟨?_, fun c hc => ?_, fun c nl hc => ?_⟩
  · obtain ⟨A, c, e⟩ := hO.shape
    have h256 := cell_of_heap h.heap h.sl
    obtain ⟨_, h2, h3⟩ := hO.cells e
    rw [e] at h256
    refine ⟨A, c, h256, h2, fun hp => ?_⟩
    obtain ⟨g, e1, _, hc⟩ := h3 (by simp [strCs, firsts]; omega)
    refine ⟨g, e1, fun k hk => hc k _ ?_⟩
    have hk' : k < ps.reverse.length := by simpa using hk
    simp only [strCs, firsts, List.getElem?_map, List.getElem?_eq_getElem hk', Option.map_some]
  · obtain ⟨u, hu, he⟩ := h.ent c.toNat c.toNat_lt
    rw [show UInt8.ofNat c.toNat = c from by simp, List.drop_zero, hc] at he
    rw [show u = .slice none 0 0 from he] at hu
    exact cell_of_heap h.heap hu
  · obtain ⟨u, hu, he⟩ := h.ent c.toNat c.toNat_lt
    rw [show UInt8.ofNat c.toNat = c from by simp, List.drop_zero, hc] at he
    obtain ⟨g, cap, rfl, _, h3, _, _, h6⟩ := he
    exact ⟨g, cap, cell_of_heap h.heap hu, h3, h6⟩
theorem gain_le {l : Prs} {k : Nat} (s : List UInt8) : gain (l.take k) s ≤ gain l s := by
  have h : gain l s = gain (l.take k) s + gain (l.drop k) s := by
    conv => lhs; rw [← List.take_append_drop k l]
    unfold gain
    rw [List.map_append, List.sum_append]
  omega
theorem lookup_mem {ps : Prs} (h : (ps.map Prod.fst).Nodup) : ∀ p ∈ ps, ps.lookup p.1 = some p.2 := by
  induction ps with
  | nil => intro p hp; cases hp
  | cons q ps ih =>
    intro p hp
    rw [List.map_cons, List.nodup_cons] at h
    rw [List.lookup_cons]
    rcases List.mem_cons.1 hp with rfl | hp
    · simp
    · have : (p.1 == q.1) = false := by
        rw [beq_eq_false_iff_ne]
        intro e
        exact h.1 (by rw [← e]; exact List.mem_map.2 ⟨p, hp, rfl⟩)
      rw [this]
      exact ih h.2 p hp
theorem look_rev {ps : Prs} (h : (ps.map Prod.fst).Nodup) (k : Nat) (hk : k < ps.reverse.length) : ps.lookup ps.reverse[k].1 = some ps.reverse[k].2 := lookup_mem h _ (List.mem_reverse.1 (List.getElem_mem hk))
theorem gain_zero {ps : Prs} (hn : ∀ p ∈ ps, 2 ≤ p.2.length ∧ p.2.length ≤ 100) {s : List UInt8} (h : gain ps s = 0) : repT ps s = s := by
  refine repT_same ps s (fun c hc => ?_)
  cases hl : ps.lookup c with
  | none => rfl
  | some nl =>
    exfalso
    have gen : ∀ l : Prs, l.lookup c = some nl → gain l s = 0 → (∀ p ∈ l, 2 ≤ p.2.length) → False := fun l => by
      induction l with
      | nil => intro h; cases h
      | cons p l ih =>
        intro h hg hp
        have hg' : s.count p.1 * (p.2.length - 1) + gain l s = 0 := hg
        rw [List.lookup_cons] at h
        cases hx : (c == p.1) with
        | true =>
          have e : c = p.1 := by simpa using hx
          have h1 : s.count p.1 * (p.2.length - 1) = 0 := by omega
          have h2 := hp p (List.mem_cons_self ..)
          rcases Nat.mul_eq_zero.1 h1 with h3 | h3
          · rw [List.count_eq_zero] at h3; exact h3 (e ▸ hc)
          · omega
        | false => rw [hx] at h; exact ih h (by omega) (fun q hq => hp q (List.mem_cons_of_mem _ hq))
    exact gen ps hl h (fun p hp => (hn p hp).1)
theorem make_bytes (W : World) (R : Nat) (hR : R ≤ 200000000000) : (Instr.makeSlice 60 (.int .i64 (R : Int)) (.int .i64 (R : Int))).run Tryz.prog W = .ok (.slice (some ⟨W.heap.size, 0, none⟩) R R) (W.alloc (.cells (madeCells #[.int .u8 0] R) 5)) := by
  have hE : Elt 60 5 1 1 (.int .u8 0) := ⟨Tryz.underlying60, by kernel_rfl, rfl, by decide⟩
  obtain ⟨i0, hi, hz0, hz1, hz2⟩ := info_parts hE.info
  have h := run_make (P := Tryz.prog) W 60 5 i0 (.int .u8 0) Tryz.underlying60 hi hz0 .i64 .i64 (R : Int) (R : Int) (by omega) (Int.le_refl _) (by rw [hz2]; omega) (by omega)
  rw [hz1, Int.toNat_natCast, Nat.mul_one] at h
  exact h
theorem bytes_one (l : List UInt8) : ∀ v ∈ Lib.byteCells l, v.oneCell' = true := by
  intro v hv
  unfold Lib.byteCells at hv
  obtain ⟨x, _, rfl⟩ := List.mem_map.1 hv
  rfl
theorem below_setRowG {B : Nat} {a W : World} (h : Below B a W) {g : Nat} (hg : B ≤ g) (cs : Array Value) : Below B a (W.setRow g cs) :=
  ⟨h.os, h.tape, h.output, Nat.le_trans h.size (by simp [World.setRow]), fun k hk => (setRow_other W g k cs (by omega)).trans (h.block k hk)⟩
/-- The buffer at block Bf: k bytes of the text have been read, j bytes written. -/
structure BufI (w : World) (ps : Prs) (s : List UInt8) (R Bf : Nat) (W : World) (k j : Nat) : Prop where
  below : Below w.heap.size w W
  buf : ∃ cur, W.heap[Bf]? = some (.cells cur 5 (0, 0)) ∧ cur.size = R ∧ cur.toList.take j = Lib.byteCells (repT ps (s.take k)) ∧ j = (repT ps (s.take k)).length
  bge : w.heap.size ≤ Bf
theorem BufI.row {w : World} {ps : Prs} {s : List UInt8} {R Bf : Nat} {W : World} {k j : Nat} (h : BufI w ps s R Bf W k j) : ∃ cur : Array Value, W.heap[Bf]? = some (.cells cur 5 (0, 0)) ∧ cur.size = R := by
  obtain ⟨cur, h1, h2, _⟩ := h.buf
  exact ⟨cur, h1, h2⟩
theorem repT_app (ps : Prs) (a b : List UInt8) : repT ps (a ++ b) = repT ps a ++ repT ps b := by unfold repT; simp
theorem BufI.room {w : World} {ps : Prs} {s : List UInt8} {R Bf : Nat} {W : World} {k j : Nat} (h : BufI w ps s R Bf W k j) (hR : R = (repT ps s).length) (hk : k < s.length) {x : UInt8} (hx : x = s[k]) : j + (repE ps x).length ≤ R := by
  obtain ⟨cur, h1, h2, h3, h4⟩ := h.buf
  have e : s = (s.take k ++ [x]) ++ s.drop (k + 1) := by rw [hx, ← List.take_succ_eq_append_getElem hk, List.take_append_drop]
  have e2 : (repT ps s).length = (repT ps (s.take k)).length + (repE ps x).length + (repT ps (s.drop (k + 1))).length := by
    conv => lhs; rw [e, repT_app, repT_snoc]
    simp only [List.length_append]
  omega
theorem BufI.put {w : World} {ps : Prs} {s : List UInt8} {R Bf : Nat} {W : World} {k j : Nat} (h : BufI w ps s R Bf W k j) (hk : k < s.length) {x : UInt8} (hx : x = s[k]) (he : repE ps x = [x]) (hj : j < R) :
    BufI w ps s R Bf (W.setCell ⟨Bf, j, none⟩ (.int .u8 x.toNat)) (k + 1) (j + 1) := by
  obtain ⟨cur, h1, h2, h3, h4⟩ := h.buf
  have e : repT ps (s.take (k + 1)) = repT ps (s.take k) ++ [x] := by rw [List.take_succ_eq_append_getElem hk, repT_snoc, ← hx, he]
  refine ⟨h.below.setCell h.bge _, ⟨_, Go.heap_setCell_same _ _ j _ _ _ h1, by simp [h2], ?_, by rw [e, List.length_append, h4]; rfl⟩, h.bge⟩
  rw [e, Lib.byteCells_append, ← h3, Array.toList_setIfInBounds, List.take_add_one, List.take_set_of_le (Nat.le_refl _), List.getElem?_set_self (by rw [Array.length_toList]; omega)]
  rfl
theorem BufI.copy {w : World} {ps : Prs} {s : List UInt8} {R Bf : Nat} {W : World} {k j : Nat} (h : BufI w ps s R Bf W k j) (hk : k < s.length) {x : UInt8} (hx : x = s[k]) {nl : List UInt8} (he : repE ps x = nl) (hj : j + nl.length ≤ R) {cur : Array Value} (hrow : W.heap[Bf]? = some (.cells cur 5 (0, 0))) :
    BufI w ps s R Bf (W.drew.setRow Bf (cur.toList.take j ++ Lib.byteCells nl ++ cur.toList.drop (j + nl.length)).toArray) (k + 1) (j + nl.length) := by
  obtain ⟨cur', h1, h2, h3, h4⟩ := h.buf
  have hc : cur' = cur := by
    have := h1.symm.trans hrow
    injection this with this
    injection this
  subst hc
  have e : repT ps (s.take (k + 1)) = repT ps (s.take k) ++ nl := by rw [List.take_succ_eq_append_getElem hk, repT_snoc, ← hx, he]
  have hd : W.drew.heap[Bf]? = some (.cells cur' 5 (0, 0)) := h1
  refine ⟨below_setRowG h.below.drew h.bge _, ⟨_, setRow_heap _ _ _ _ _ _ hd, ?_, ?_, by rw [e, List.length_append, h4]⟩, h.bge⟩
  · simp [Lib.byteCells_length, h2]; omega
  · have hl : (cur'.toList.take j ++ Lib.byteCells nl).length = j + nl.length := by simp [Lib.byteCells_length, h2]; omega
    rw [e, Lib.byteCells_append, ← h3]
    show List.take (j + nl.length) (cur'.toList.take j ++ Lib.byteCells nl ++ cur'.toList.drop (j + nl.length)) = _
    rw [← hl, List.take_left]
theorem BufI.conv {w : World} {ps : Prs} {s : List UInt8} {R Bf : Nat} {W : World} {k j : Nat} (h : BufI w ps s R Bf W k j) (hR : R = (repT ps s).length) (hk : s.length ≤ k) : (convert 60 9 (.slice (some ⟨Bf, 0, none⟩) R R)).run Tryz.prog W = .ok (.string ⟨(repT ps s).toArray⟩) W := by
  obtain ⟨cur, h1, h2, h3, h4⟩ := h.buf
  rw [List.take_of_length_le hk] at h3 h4
  have hj : j = R := by omega
  rw [hj, List.take_of_length_le (by rw [Array.length_toList]; omega)] at h3
  have hs : (⟨(repT ps s).toArray⟩ : ByteArray).size = R := by rw [hR]; rfl
  have := Lib.run_convert_whole (P := Tryz.prog) W _ _ _ Tryz.underlying60 Tryz.underlying5 Tryz.underlying9 Bf 0 ⟨(repT ps s).toArray⟩ (fun i hi => by
    have hi' : i < (repT ps s).length := hi
    rw [Nat.zero_add]
    refine cell_of_heap h1 ?_
    rw [← Array.getElem?_toList, h3]
    simp [Lib.byteCells, hi']
    rfl) R
  rw [hs] at this
  exact this
set_option maxHeartbeats 8000000 in
set_option maxRecDepth 100000 in
theorem bsr_any (w : World) (T : Nat) (ps : Prs) (hT : TabF T ps w) (hnd : (ps.map Prod.fst).Nodup) (hpl : 1 ≤ ps.length ∧ ps.length ≤ 100) (hn : ∀ p ∈ ps, 2 ≤ p.2.length ∧ p.2.length ≤ 100) (s : List UInt8) (hl : s.length ≤ 1200000000) :
    Calls Tryz.prog 262 #[.pointer (some ⟨T, 0, none⟩), .string ⟨s.toArray⟩] w fun e w' => e = .returned (.string ⟨(repT ps s).toArray⟩) ∧ Below w.heap.size w w' := by
  obtain ⟨A, c, hsv, hcap, hks⟩ := hT.sv
  obtain ⟨g, rfl, hkc⟩ := hks hpl.1
  have HLL := repT_len_le ps (fun p hp => by have := hn p hp; omega)
  have HL := Lib.hid HLL
  have hrl := repT_length ps s hnd (fun p hp => by have := hn p hp; omega)
  have HRL := Lib.hid hrl
  have HT := Lib.hid hT
  have HK := Lib.hid hkc
  have HN := Lib.hid hn
  have HND := Lib.hid hnd
  have hnn := nil_neq
  have hsn := some_neq
  obtain ⟨np, hnp⟩ : ∃ n, n = ps.length := ⟨_, rfl⟩
  have HNP := Lib.hid hnp
  rw [← hnp] at hsv hcap hpl
  obtain ⟨n, hnl⟩ : ∃ n, n = s.length := ⟨_, rfl⟩
  have HNL := Lib.hid hnl
  have hsz : (⟨s.toArray⟩ : ByteArray).size = n := by rw [hnl]; rfl
  rw [← hnl] at hl
  clear hT hks hkc hn hrl HLL hnp hnl
  go_enter Tryz.func262, Tryz.ntmps262
  obtain ⟨R, hR⟩ : ∃ R, R = (repT ps s).length := ⟨_, rfl⟩
  have HR := Lib.hid hR
  have hRb : n ≤ R ∧ R ≤ 100 * n := by rw [hR, HNL.out]; exact HL.out s
  clear hR
  by_cases hcnt : np * 8 ≤ n
  · have t1 : decide ((np : Int) * 8 ≤ (n : Int)) = true := decide_eq_true (by omega)
    go_wp2_with fail
    go_loopw [5, 6, 32] (fun x y i wr => ∃ (k : Nat) (q : Bool), k ≤ np ∧ i = .int .i64 k ∧ x = .int .i64 (n + gain (ps.reverse.take k) s : Nat) ∧ y = .bool q ∧ Below w.heap.size w wr ∧ Hid (n + gain (ps.reverse.take k) s ≤ R) ∧ Hid (q = false → gain (ps.reverse.take k) s = 0)) (fun _ _ i _ => np - (intOf i).toNat)
    case atStart => exact ⟨0, false, Nat.zero_le _, rfl, rfl, rfl, Below.refl _ _, Lib.hid (by show n + 0 ≤ R; omega), Lib.hid (fun _ => rfl)⟩
    case round =>
      obtain ⟨k, q, hk, rfl, rfl, rfl, hbw, HB, HQ⟩ := hrel
      rcases Nat.lt_or_ge k np with hlt | hge
      · have hlt' : k < ps.length := by have := HNP.out; omega
        have hltr : k < ps.reverse.length := by simpa using hlt'
        have hcell := (hbw.cell (World.block_lt_of_cell? w _ (HK.out k hlt'))).trans (HK.out k hlt')
        have hTk := HT.out.below hbw
        have hlk := look_rev HND.out k hltr
        obtain ⟨g2, cap2, hc, _, _⟩ := hTk.yes _ _ hlk
        have hyl := HN.out ps.reverse[k] (List.mem_reverse.1 (List.getElem_mem _))
        have HS : Hid (gain (ps.reverse.take (k + 1)) s = gain (ps.reverse.take k) s + s.count ps.reverse[k].1 * (ps.reverse[k].2.length - 1)) := Lib.hid (by rw [List.take_succ_eq_append_getElem hltr, gain_snoc])
        have HB2 : Hid (n + gain (ps.reverse.take (k + 1)) s ≤ R) := Lib.hid (by
          have h1 := gain_le (l := ps.reverse) (k := k + 1) s
          rw [gain_perm (List.reverse_perm ps) s] at h1
          have h2 := HRL.out
          rw [← HR.out, ← HNL.out] at h2
          omega)
        obtain ⟨x, hx⟩ : ∃ x, x = ps.reverse[k].1 := ⟨_, rfl⟩
        obtain ⟨y, hy⟩ : ∃ y, y = ps.reverse[k].2 := ⟨_, rfl⟩
        rw [← hx, ← hy] at HS
        rw [← hx] at hcell hc
        rw [← hy] at hc hyl
        obtain ⟨gk, hgk⟩ : ∃ z, z = gain (ps.reverse.take k) s := ⟨_, rfl⟩
        rw [← hgk] at HB HQ HS ⊢
        obtain ⟨cn, hcn⟩ : ∃ z, z = s.count x := ⟨_, rfl⟩
        rw [← hcn] at HS
        have hcnb : cn ≤ n := by rw [hcn, HNL.out]; exact List.count_le_length
        have HC : Hid (∀ W, Calls Tryz.prog 106 #[.string ⟨s.toArray⟩, .string ⟨#[x]⟩] W fun e w' => e = .returned (.int .i64 cn) ∧ w' = W) := Lib.hid (fun W => by
          have := Tryz.strings_Count_one ⟨s.toArray⟩ x W
          rw [hcn]
          simpa [Lib.countByte] using this)
        have hcd : wr.drew.cell? ⟨T, x.toNat, none⟩ = some (.slice (some ⟨g2, 0, none⟩) y.length cap2) := hc
        have hby : ∀ h, ((⟨#[x]⟩ : ByteArray)[0]'h).toNat = x.toNat := fun _ => rfl
        have hxl : x.toNat < 256 := x.toNat_lt
        have hbd := hbw.drew
        clear hx hy hgk hcn hTk hlk
        by_cases hz : cn = 0
        · have tz : ((cn : Int) != 0) = false := by rw [bne_eq_false_iff_eq]; omega
          have HS0 : Hid (gain (ps.reverse.take (k + 1)) s = gk) := Lib.hid (by rw [HS.out, hz, Nat.zero_mul, Nat.add_zero])
          clear hz
          go_wp2_with (go_at_call 106; refine (HC.out _).mono ?_; rintro e' w' ⟨rfl, rfl⟩)
          all_goals go_roundw
          case rel => exact ⟨k + 1, q, by omega, by go_num, by rw [HS0.out]; congr 1, rfl, hbw, HB2, Lib.hid (fun e => by rw [HS0.out]; exact HQ.out e)⟩
          case measure => simp [intOf]; omega
        · have tz : ((cn : Int) != 0) = true := by rw [bne_iff_ne]; omega
          obtain ⟨pr, hpr⟩ : ∃ z, z = cn * (y.length - 1) := ⟨_, rfl⟩
          have hprI : (cn : Int) * ((y.length : Int) - 1) = (pr : Int) := by rw [hpr, Int.natCast_mul]; congr 1; omega
          have hprb : gk + pr ≤ 200000000000 := by
            have h1 := HB2.out
            rw [HS.out, ← hpr] at h1
            omega
          have hw1 : IntKind.i64.wrap ((cn : Int) * ((y.length : Int) - 1)) = (pr : Int) := by rw [hprI, IntKind.wrap_i64]; omega
          have HS1 : Hid (gain (ps.reverse.take (k + 1)) s = gk + pr) := Lib.hid (by rw [HS.out, hpr])
          clear hpr hz
          go_wp2_with (go_at_call 106; refine (HC.out _).mono ?_; rintro e' w' ⟨rfl, rfl⟩)
          go_region
          all_goals
            go_wp2_with fail
            go_roundw
            case rel => exact ⟨k + 1, true, by omega, by go_num, by rw [HS1.out]; congr 1; omega, rfl, hbd, HB2, Lib.hid (fun e => by cases e)⟩
            case measure => simp [intOf]; omega
      · obtain rfl : k = np := by omega
        have htk : ps.reverse.take k = ps.reverse := List.take_of_length_le (by have := HNP.out; simp; omega)
        rw [htk, gain_perm (List.reverse_perm ps) s] at HQ ⊢
        have hRg : n + gain ps s = R := by rw [HR.out, HRL.out, ← HNL.out]
        have HQ : Hid (q = false → repT ps s = s) := Lib.hid (fun e => gain_zero HN.out (HQ.out e))
        rw [hRg]
        clear hRg htk HB
        cases q with
        | false =>
          have HE := Lib.hid (HQ.out rfl)
          go_wp2_with fail
          go_ret
          exact ⟨by rw [HE.out]; rfl, hbw⟩
        | true =>
          clear HQ
          have hmk : ∀ W, (Instr.makeSlice 60 (.int .i64 (R : Int)) (.int .i64 (R : Int))).run Tryz.prog W = .ok (.slice (some ⟨W.heap.size, 0, none⟩) R R) (W.alloc (.cells (madeCells #[.int .u8 0] R) 5)) := fun W => make_bytes W R (by omega)
          obtain ⟨MC, hMC⟩ : ∃ MC, MC = madeCells #[Value.int .u8 0] R := ⟨_, rfl⟩
          have hMs : MC.size = R := by rw [hMC, size_madeCells]
          rw [← hMC] at hmk
          clear hMC
          obtain ⟨Bf, hBf⟩ : ∃ B, B = wr.heap.size := ⟨_, rfl⟩
          obtain ⟨W1, hW1⟩ : ∃ W1, W1 = wr.alloc (.cells MC 5) := ⟨_, rfl⟩
          have hb1 : Below w.heap.size w W1 := by rw [hW1]; exact hbw.alloc hbw.size _
          have hr1 : W1.heap[Bf]? = some (.cells MC 5 (0, 0)) := by rw [hW1, hBf]; exact heap_alloc_new _ _
          have hBw : w.heap.size ≤ Bf := by rw [hBf]; exact hbw.size
          have HI0 : Hid (BufI w ps s R Bf W1 0 0) := Lib.hid ⟨hb1, ⟨MC, hr1, hMs, by simp [repT, Lib.byteCells], by simp [repT]⟩, hBw⟩
          have HBw := Lib.hid hBw
          have HWE : Hid (wr.alloc (.cells MC 5) = W1) := Lib.hid hW1.symm
          have HBE : Hid (wr.heap.size = Bf) := Lib.hid hBf.symm
          clear hb1 hr1 hBw hW1 hBf hMs
          go_upto_region 22 with fail
          rw [HWE.out, HBE.out]
          clear hmk HWE HBE
          go_wp2_with fail
          go_loopw [13, 14] (fun y i wr => ∃ (k j : Nat), k ≤ n ∧ i = .int .i64 k ∧ y = .int .i64 j ∧ Hid (BufI w ps s R Bf wr k j)) (fun _ i _ => n - (intOf i).toNat)
          case atStart => exact ⟨0, 0, Nat.zero_le _, rfl, rfl, HI0⟩
          case round =>
            clear HI0 hbw
            obtain ⟨k, j, hk, rfl, rfl, HI⟩ := hrel
            rcases Nat.lt_or_ge k n with hlt | hge
            · have hlt' : k < s.length := by have := HNL.out; omega
              have HNxC := Lib.hid (fun (x : UInt8) (hx : x = s[k]) => HI.out.room HR.out hlt' hx)
              obtain ⟨x, hx⟩ : ∃ x, x = s[k] := ⟨_, rfl⟩
              have hby : ∀ h, ((⟨s.toArray⟩ : ByteArray)[k]'h).toNat = x.toNat := fun h => by rw [hx]; rfl
              have hxl : x.toNat < 256 := x.toNat_lt
              have hroom := HNxC.out x hx
              have HX := Lib.hid hx
              have hbk := HI.out.below
              have hTk := HT.out.below hbk
              clear hx HNxC
              cases hlk : ps.lookup x with
              | none =>
                have hc := hTk.no x hlk
                have he : (repE ps x) = [x] := by unfold repE; rw [hlk]; rfl
                rw [he] at hroom
                have hjR : j < R := by simp at hroom; omega
                obtain ⟨cur, hrow, hsz⟩ := HI.out.row
                have hcl : ∃ u, wr.cell? ⟨Bf, j, none⟩ = some u := ⟨cur[j]'(by omega), cell_of_heap hrow (by simp [hsz, hjR])⟩
                obtain ⟨u, hcl⟩ := hcl
                have hfz := frozen_of_heap (g := Bf) j hrow
                have HNx := Lib.hid (HI.out.put hlt' HX.out he hjR)
                clear hlk he hroom hTk hbk hrow
                go_wp2_with fail
                all_goals go_roundw
                case rel => exact ⟨k + 1, j + 1, by omega, by go_num, by go_num, HNx⟩
                case measure => simp [intOf]; omega
              | some nl =>
                have hnl : 2 ≤ nl.length ∧ nl.length ≤ 100 := look_len HN.out hlk
                have he : (repE ps x) = nl := by unfold repE; rw [hlk]; rfl
                rw [he] at hroom
                obtain ⟨g2, cap2, hc, hg2, hgc⟩ := hTk.yes x nl hlk
                have hTd := hTk.below (Below.refl _ wr).drew
                have hcd : wr.drew.cell? ⟨T, x.toNat, none⟩ = some (.slice (some ⟨g2, 0, none⟩) nl.length cap2) := hc
                obtain ⟨cur, hrow, hsz⟩ := HI.out.row
                have hrd : wr.drew.heap[Bf]? = some (.cells cur 5 (0, 0)) := hrow
                have hcp := run_copy_row (P := Tryz.prog) wr.drew 60 60 3 5 Bf j (R - j) (R - j) ⟨g2, 0, none⟩ nl.length cap2 cur 5 (Lib.byteCells nl) Tryz.underlying60 (by kernel_rfl) hrd (by rw [Lib.byteCells_length]; simp only [Nat.min_def]; rw [if_pos (by omega)]) (fun q v hq => by
                  have hq' : q < nl.length := by
                    rcases Nat.lt_or_ge q nl.length with h | h
                    · exact h
                    · rw [List.getElem?_eq_none (by rw [Lib.byteCells_length]; exact h)] at hq; cases hq
                  rw [add_mk, Nat.zero_add]
                  have := hgc q hq'
                  have hd : wr.drew.cell? ⟨g2, q, none⟩ = some (.int .u8 (nl[q].toNat : Int)) := this
                  rw [hd, ← hq]
                  simp [Lib.byteCells, hq']) (by rw [Lib.byteCells_length]; omega) (bytes_one _)
                rw [Lib.byteCells_length] at hcp
                have HNx := Lib.hid (HI.out.copy hlt' HX.out he hroom hrow)
                obtain ⟨W9, hW9⟩ : ∃ W9, W9 = wr.drew.setRow Bf (cur.toList.take j ++ Lib.byteCells nl ++ cur.toList.drop (j + nl.length)).toArray := ⟨_, rfl⟩
                rw [← hW9] at hcp HNx
                have hjb : (j : Int) ≤ (R : Int) := by omega
                have hsub : ((R : Int) - (j : Int)) = ((R - j : Nat) : Int) := by omega
                clear hlk he hTk hbk hrow hrd hgc hg2 hW9 hTd
                go_wp2_with fail
                go_region
                all_goals
                  go_wp2_with fail
                  go_roundw
                  case rel => exact ⟨k + 1, j + nl.length, by omega, by go_num, by go_num, HNx⟩
                  case measure => simp [intOf]; omega
            · obtain rfl : n = k := by omega
              have hb := HI.out.below
              have hcv := HI.out.conv HR.out (by have := HNL.out; omega)
              go_wp2_with fail
              go_ret
              exact ⟨rfl, hb⟩
  · have t1 : decide ((np : Int) * 8 ≤ (n : Int)) = false := decide_eq_false (by omega)
    go_wp2_with fail
    go_loop [5, 6, 10] (fun x y i => ∃ (k : Nat) (q : Bool), k ≤ n ∧ i = .int .i64 k ∧ x = .int .i64 (n - k + (repT ps (s.take k)).length : Nat) ∧ y = .bool q ∧ Hid (k ≤ (repT ps (s.take k)).length ∧ (repT ps (s.take k)).length ≤ 100 * k) ∧ Hid (q = false → repT ps (s.take k) = s.take k)) (fun _ _ i => n - (intOf i).toNat)
    case atStart => exact ⟨0, false, Nat.zero_le _, rfl, by simp [repT], rfl, Lib.hid (by simp [repT]), Lib.hid (fun _ => by simp [repT])⟩
    case round =>
      obtain ⟨k, q, hk, rfl, rfl, rfl, HB, HQ⟩ := hrel
      rcases Nat.lt_or_ge k n with hlt | hge
      · have hlt' : k < s.length := by have := HNL.out; omega
        obtain ⟨x, hx⟩ : ∃ x, x = s[k] := ⟨_, rfl⟩
        have hby : ∀ h, ((⟨s.toArray⟩ : ByteArray)[k]'h).toNat = x.toNat := fun h => by rw [hx]; rfl
        have hst : Hid (s.take (k + 1) = s.take k ++ [x]) := Lib.hid (by rw [hx, List.take_succ_eq_append_getElem hlt'])
        have hsn2 : Hid (repT ps (s.take (k + 1)) = repT ps (s.take k) ++ repE ps x) := Lib.hid (by rw [hst.out, repT_snoc])
        obtain ⟨L, hL⟩ : ∃ L, L = (repT ps (s.take k)).length := ⟨_, rfl⟩
        rw [← hL] at HB
        have HLk := Lib.hid hL
        have hLb := HB.out
        have hxl : x.toNat < 256 := x.toNat_lt
        rw [← hL]
        clear hx hL
        cases hlk : ps.lookup x with
        | none =>
          have hc := HT.out.no x hlk
          have HE : Hid (repE ps x = [x]) := Lib.hid (by unfold repE; rw [hlk]; rfl)
          clear hlk
          go_wp2_with fail
          all_goals go_round
          case rel => exact ⟨k + 1, q, by omega, by go_num, by rw [hsn2.out, HE.out, List.length_append, ← HLk.out]; simp; omega, rfl, Lib.hid (by rw [hsn2.out, HE.out, List.length_append, ← HLk.out]; simp; omega), Lib.hid (fun e => by rw [hsn2.out, HE.out, HQ.out e, hst.out])⟩
          case measure => simp [intOf]; omega
        | some nl =>
          obtain ⟨g2, cap2, hc, _, _⟩ := HT.out.yes x nl hlk
          have HE : Hid (repE ps x = nl) := Lib.hid (by unfold repE; rw [hlk]; rfl)
          have hnl : 2 ≤ nl.length ∧ nl.length ≤ 100 := look_len HN.out hlk
          clear hlk
          go_wp2_with fail
          all_goals go_round
          case rel => exact ⟨k + 1, true, by omega, by go_num, by rw [hsn2.out, HE.out, List.length_append, ← HLk.out]; congr 1; omega, rfl, Lib.hid (by rw [hsn2.out, HE.out, List.length_append, ← HLk.out]; omega), Lib.hid (fun e => by cases e)⟩
          case measure => simp [intOf]; omega
      · obtain rfl : n = k := by omega
        have hst : s.take n = s := List.take_of_length_le (by have := HNL.out; omega)
        rw [hst] at HQ ⊢
        rw [← HR.out]
        clear hst HB
        have hz : n - n + R = R := by omega
        rw [hz]
        clear hz
        obtain ⟨wr, hwr⟩ : ∃ wr, wr = w := ⟨_, rfl⟩
        have hbw : Below w.heap.size w wr := by rw [hwr]; exact Below.refl _ _
        rw [← hwr]
        clear hwr
        cases q with
        | false =>
          have HE := Lib.hid (HQ.out rfl)
          go_wp2_with fail
          go_ret
          exact ⟨by rw [HE.out]; rfl, hbw⟩
        | true =>
          clear HQ
          have hmk : ∀ W, (Instr.makeSlice 60 (.int .i64 (R : Int)) (.int .i64 (R : Int))).run Tryz.prog W = .ok (.slice (some ⟨W.heap.size, 0, none⟩) R R) (W.alloc (.cells (madeCells #[.int .u8 0] R) 5)) := fun W => make_bytes W R (by omega)
          obtain ⟨MC, hMC⟩ : ∃ MC, MC = madeCells #[Value.int .u8 0] R := ⟨_, rfl⟩
          have hMs : MC.size = R := by rw [hMC, size_madeCells]
          rw [← hMC] at hmk
          clear hMC
          obtain ⟨Bf, hBf⟩ : ∃ B, B = wr.heap.size := ⟨_, rfl⟩
          obtain ⟨W1, hW1⟩ : ∃ W1, W1 = wr.alloc (.cells MC 5) := ⟨_, rfl⟩
          have hb1 : Below w.heap.size w W1 := by rw [hW1]; exact hbw.alloc hbw.size _
          have hr1 : W1.heap[Bf]? = some (.cells MC 5 (0, 0)) := by rw [hW1, hBf]; exact heap_alloc_new _ _
          have hBw : w.heap.size ≤ Bf := by rw [hBf]; exact hbw.size
          have HI0 : Hid (BufI w ps s R Bf W1 0 0) := Lib.hid ⟨hb1, ⟨MC, hr1, hMs, by simp [repT, Lib.byteCells], by simp [repT]⟩, hBw⟩
          have HBw := Lib.hid hBw
          have HWE : Hid (wr.alloc (.cells MC 5) = W1) := Lib.hid hW1.symm
          have HBE : Hid (wr.heap.size = Bf) := Lib.hid hBf.symm
          clear hb1 hr1 hBw hW1 hBf hMs
          go_upto_region 22 with fail
          rw [HWE.out, HBE.out]
          clear hmk HWE HBE
          go_wp2_with fail
          go_loopw [13, 14] (fun y i wr => ∃ (k j : Nat), k ≤ n ∧ i = .int .i64 k ∧ y = .int .i64 j ∧ Hid (BufI w ps s R Bf wr k j)) (fun _ i _ => n - (intOf i).toNat)
          case atStart => exact ⟨0, 0, Nat.zero_le _, rfl, rfl, HI0⟩
          case round =>
            clear HI0 hbw
            obtain ⟨k, j, hk, rfl, rfl, HI⟩ := hrel
            rcases Nat.lt_or_ge k n with hlt | hge
            · have hlt' : k < s.length := by have := HNL.out; omega
              have HNxC := Lib.hid (fun (x : UInt8) (hx : x = s[k]) => HI.out.room HR.out hlt' hx)
              obtain ⟨x, hx⟩ : ∃ x, x = s[k] := ⟨_, rfl⟩
              have hby : ∀ h, ((⟨s.toArray⟩ : ByteArray)[k]'h).toNat = x.toNat := fun h => by rw [hx]; rfl
              have hxl : x.toNat < 256 := x.toNat_lt
              have hroom := HNxC.out x hx
              have HX := Lib.hid hx
              have hbk := HI.out.below
              have hTk := HT.out.below hbk
              clear hx HNxC
              cases hlk : ps.lookup x with
              | none =>
                have hc := hTk.no x hlk
                have he : (repE ps x) = [x] := by unfold repE; rw [hlk]; rfl
                rw [he] at hroom
                have hjR : j < R := by simp at hroom; omega
                obtain ⟨cur, hrow, hsz⟩ := HI.out.row
                have hcl : ∃ u, wr.cell? ⟨Bf, j, none⟩ = some u := ⟨cur[j]'(by omega), cell_of_heap hrow (by simp [hsz, hjR])⟩
                obtain ⟨u, hcl⟩ := hcl
                have hfz := frozen_of_heap (g := Bf) j hrow
                have HNx := Lib.hid (HI.out.put hlt' HX.out he hjR)
                clear hlk he hroom hTk hbk hrow
                go_wp2_with fail
                all_goals go_roundw
                case rel => exact ⟨k + 1, j + 1, by omega, by go_num, by go_num, HNx⟩
                case measure => simp [intOf]; omega
              | some nl =>
                have hnl : 2 ≤ nl.length ∧ nl.length ≤ 100 := look_len HN.out hlk
                have he : (repE ps x) = nl := by unfold repE; rw [hlk]; rfl
                rw [he] at hroom
                obtain ⟨g2, cap2, hc, hg2, hgc⟩ := hTk.yes x nl hlk
                have hTd := hTk.below (Below.refl _ wr).drew
                have hcd : wr.drew.cell? ⟨T, x.toNat, none⟩ = some (.slice (some ⟨g2, 0, none⟩) nl.length cap2) := hc
                obtain ⟨cur, hrow, hsz⟩ := HI.out.row
                have hrd : wr.drew.heap[Bf]? = some (.cells cur 5 (0, 0)) := hrow
                have hcp := run_copy_row (P := Tryz.prog) wr.drew 60 60 3 5 Bf j (R - j) (R - j) ⟨g2, 0, none⟩ nl.length cap2 cur 5 (Lib.byteCells nl) Tryz.underlying60 (by kernel_rfl) hrd (by rw [Lib.byteCells_length]; simp only [Nat.min_def]; rw [if_pos (by omega)]) (fun q v hq => by
                  have hq' : q < nl.length := by
                    rcases Nat.lt_or_ge q nl.length with h | h
                    · exact h
                    · rw [List.getElem?_eq_none (by rw [Lib.byteCells_length]; exact h)] at hq; cases hq
                  rw [add_mk, Nat.zero_add]
                  have := hgc q hq'
                  have hd : wr.drew.cell? ⟨g2, q, none⟩ = some (.int .u8 (nl[q].toNat : Int)) := this
                  rw [hd, ← hq]
                  simp [Lib.byteCells, hq']) (by rw [Lib.byteCells_length]; omega) (bytes_one _)
                rw [Lib.byteCells_length] at hcp
                have HNx := Lib.hid (HI.out.copy hlt' HX.out he hroom hrow)
                obtain ⟨W9, hW9⟩ : ∃ W9, W9 = wr.drew.setRow Bf (cur.toList.take j ++ Lib.byteCells nl ++ cur.toList.drop (j + nl.length)).toArray := ⟨_, rfl⟩
                rw [← hW9] at hcp HNx
                have hjb : (j : Int) ≤ (R : Int) := by omega
                have hsub : ((R : Int) - (j : Int)) = ((R - j : Nat) : Int) := by omega
                clear hlk he hTk hbk hrow hrd hgc hg2 hW9 hTd
                go_wp2_with fail
                go_region
                all_goals
                  go_wp2_with fail
                  go_roundw
                  case rel => exact ⟨k + 1, j + nl.length, by omega, by go_num, by go_num, HNx⟩
                  case measure => simp [intOf]; omega
            · obtain rfl : n = k := by omega
              have hb := HI.out.below
              have hcv := HI.out.conv HR.out (by have := HNL.out; omega)
              go_wp2_with fail
              go_ret
              exact ⟨rfl, hb⟩
end Go.Proofs.YtpfamfkdfbcooaaGreatDoor
/- format.escaped: a text with bytes replaced by texts. -/
namespace Go.Proofs.YtpfamfkdfbcooaaGreatDoor
open Go Go.RowKit Go.Proofs
theorem flatP_len : ∀ ps : Prs, (flatP ps).length = 2 * ps.length
  | [] => rfl
  | (c, n) :: ps => by simp only [flatP, List.length_cons, flatP_len ps]; omega
theorem flatP_at : ∀ (ps : Prs) (i : Nat) (h : i < ps.length), (flatP ps)[2 * i]? = some [ps[i].1] ∧ (flatP ps)[2 * i + 1]? = some ps[i].2
  | (c, n) :: ps, 0, _ => ⟨rfl, rfl⟩
  | (c, n) :: ps, i + 1, h => by
    have ih := flatP_at ps i (by simpa using h)
    have e : 2 * (i + 1) = 2 * i + 1 + 1 := by omega
    simp only [flatP, e, List.getElem?_cons_succ, List.getElem_cons_succ]
    exact ih
theorem TabF.keepB {T b : Nat} {ps : Prs} {W W' : World} {z : Int} {x1 x2 x3 x4 : Value} {t : TypeId} (h : TabF T ps W) (hb : W.heap[b]? = some (.cells #[.int .u32 z, x1, x2, x3, x4] t (0, 0))) (hp : 0 < ps.length) (hn : ∀ p ∈ ps, 2 ≤ p.2.length ∧ p.2.length ≤ 100) (hk : Keep (fun k => k = b) W W') : TabF T ps W' := by
  obtain ⟨A, c, h1, h2, h3⟩ := h.sv
  have hT : T ≠ b := by
    rintro rfl
    simp [World.cell?, hb] at h1
  have go : ∀ {k o : Nat} {u : Value}, k ≠ b → W.cell? ⟨k, o, none⟩ = some u → W'.cell? ⟨k, o, none⟩ = some u := fun hne hc => hk.cell hc hne
  have hb0 : W.cell? ⟨b, 0, none⟩ = some (.int .u32 z) := cell_of_heap hb rfl
  refine ⟨⟨A, c, go hT h1, h2, fun hp => ?_⟩, fun x hx => go hT (h.no x hx), fun x nl hx => ?_⟩
  · obtain ⟨g, e, hc⟩ := h3 hp
    have hg : g ≠ b := by
      rintro rfl
      have := hc 0 hp
      rw [hb0] at this
      cases this
    exact ⟨g, e, fun k hk' => go hg (hc k hk')⟩
  · obtain ⟨g, cap, a1, a2, a3⟩ := h.yes x nl hx
    have hl := look_len hn hx
    have hg : g ≠ b := by
      rintro rfl
      have := a3 0 (by omega)
      rw [hb0] at this
      injection this with this
      injection this with this _
      cases this
    exact ⟨g, cap, go hT a1, Nat.lt_of_lt_of_le a2 hk.size, fun q hq => go hg (a3 q hq)⟩
/-- A Replacer at block b that has been built. -/
def Built (b T : Nat) (ps : Prs) (W : World) (d st : Int) : Prop :=
  W.heap[b]? = some (.cells #[.int .u32 d, .int .i32 st, .int .u32 0, .iface 171 (.pointer (some ⟨T, 0, none⟩)), .slice none 0 0] 127 (0, 0)) ∧ TabF T ps W
set_option maxHeartbeats 2000000 in
set_option maxRecDepth 100000 in
theorem buildOnce_any (w0 : World) (b : Nat) (hb : w0.heap.size ≤ b) (W : World) (hW : Below w0.heap.size w0 W) (ps : Prs) (g c : Nat)
    (hrow : W.heap[b]? = some (.cells #[.int .u32 0, .int .i32 1, .int .u32 0, .nilIface, .slice (some ⟨g, 0, none⟩) (2 * ps.length) c] 127 (0, 0)))
    (hps : ∀ i (h : i < ps.length), W.cell? ⟨g, 2 * i, none⟩ = some (.string ⟨#[ps[i].1]⟩) ∧ W.cell? ⟨g, 2 * i + 1, none⟩ = some (.string ⟨ps[i].2.toArray⟩)) (hnd : (ps.map Prod.fst).Nodup) (hl : 1 ≤ ps.length) (hl5 : ps.length ≤ 100) (hn : ∀ p ∈ ps, 2 ≤ p.2.length ∧ p.2.length ≤ 100) :
    Calls Tryz.prog 94 #[.pointer (some ⟨b, 0, none⟩)] W fun e w' => e = .returned (.tuple #[]) ∧ ∃ T, Built b T ps w' 0 1 ∧ Below w0.heap.size w0 w' := by
  have hB := build_any b W ps g c (cell_of_heap hrow rfl) hps hnd hl hl5 hn
  have HB := Lib.hid hB
  have HN := Lib.hid hn
  have HR := Lib.hid hrow
  clear hB hps hn hrow
  go_enter Tryz.func94, Tryz.ntmps94
  go_wp2_with fail
  refine HB.out.mono ?_
  rintro e' w2 ⟨T, sv, cs, rfl, hI⟩
  have hb2 := hI.below
  have hr2 := hlBelow hb2 HR.out
  have hF := hI.fin
  have c3 := cell_of_heap (j := 3) hr2 rfl
  have z3 := frozen_of_heap 3 hr2
  obtain ⟨w3, hw3⟩ : ∃ w3, w3 = w2.setCell ⟨b, 3, none⟩ (.iface 171 (.pointer (some ⟨T, 0, none⟩))) := ⟨_, rfl⟩
  have hr3 : w3.heap[b]? = some (.cells #[.int .u32 0, .int .i32 1, .int .u32 0, .iface 171 (.pointer (some ⟨T, 0, none⟩)), .slice (some ⟨g, 0, none⟩) (2 * ps.length) c] 127 (0, 0)) := by
    rw [hw3]; have := Go.heap_setCell_same w2 b 3 _ _ (.iface 171 (.pointer (some ⟨T, 0, none⟩))) hr2; simpa using this
  have c4 := cell_of_heap (j := 4) hr3 rfl
  have z4 := frozen_of_heap 4 hr3
  have hF3 : TabF T ps w3 := by rw [hw3]; exact hF.keepB hr2 (by omega) HN.out ((Keep.refl (fun k => k = b) w2).set (p := ⟨b, 3, none⟩) (.inl rfl) _)
  have hb3 : Below w0.heap.size w0 w3 := by rw [hw3]; exact (hW.trans (hb2.mono hW.size)).setCell hb _
  obtain ⟨w4, hw4⟩ : ∃ w4, w4 = w3.setCell ⟨b, 4, none⟩ (.slice none 0 0) := ⟨_, rfl⟩
  have hr4 : w4.heap[b]? = some (.cells #[.int .u32 0, .int .i32 1, .int .u32 0, .iface 171 (.pointer (some ⟨T, 0, none⟩)), .slice none 0 0] 127 (0, 0)) := by
    rw [hw4]; have := Go.heap_setCell_same w3 b 4 _ _ (.slice none 0 0) hr3; simpa using this
  have hF4 : TabF T ps w4 := by rw [hw4]; exact hF3.keepB hr3 (by omega) HN.out ((Keep.refl (fun k => k = b) w3).set (p := ⟨b, 4, none⟩) (.inl rfl) _)
  have hb4 : Below w0.heap.size w0 w4 := by rw [hw4]; exact hb3.setCell hb _
  have HW3 := Lib.hid hw3
  have HW4 := Lib.hid hw4
  clear hw3 hw4 hF hF3 hI hb2 hr2 hr3 hb3
  go_upto_region 1 with fail
  rw [← HW3.out]
  go_wp2_with fail
  rw [← HW4.out]
  go_end0
  exact ⟨rfl, T, ⟨hr4, hF4⟩, hb4⟩
set_option maxHeartbeats 2000000 in
set_option maxRecDepth 100000 in
/-- Replace of a Replacer that is new. -/
theorem replace_any (w0 : World) (b : Nat) (hb : w0.heap.size ≤ b) (W : World) (hW : Below w0.heap.size w0 W) (ps : Prs) (g c : Nat) (hgb : g ≠ b)
    (hrow : W.heap[b]? = some (.cells #[.int .u32 0, .int .i32 0, .int .u32 0, .nilIface, .slice (some ⟨g, 0, none⟩) (2 * ps.length) c] 127 (0, 0)))
    (hps : ∀ i (h : i < ps.length), W.cell? ⟨g, 2 * i, none⟩ = some (.string ⟨#[ps[i].1]⟩) ∧ W.cell? ⟨g, 2 * i + 1, none⟩ = some (.string ⟨ps[i].2.toArray⟩)) (hnd : (ps.map Prod.fst).Nodup) (hl : 1 ≤ ps.length) (hl5 : ps.length ≤ 100) (hn : ∀ p ∈ ps, 2 ≤ p.2.length ∧ p.2.length ≤ 100)
    (s : List UInt8) (hs : s.length ≤ 1200000000) :
    Calls Tryz.prog 67 #[.pointer (some ⟨b, 0, none⟩), .string ⟨s.toArray⟩] W fun e w' => e = .returned (.string ⟨(repT ps s).toArray⟩) ∧ Below w0.heap.size w0 w' := by
  obtain ⟨W1, hW1⟩ : ∃ W1, W1 = W.setCell ⟨b, 1, none⟩ (.int .i32 1) := ⟨_, rfl⟩
  have hr1 : W1.heap[b]? = some (.cells #[.int .u32 0, .int .i32 1, .int .u32 0, .nilIface, .slice (some ⟨g, 0, none⟩) (2 * ps.length) c] 127 (0, 0)) := by
    rw [hW1]; have := Go.heap_setCell_same W b 1 _ _ (.int .i32 1) hrow; simpa using this
  have hk1 : Keep (fun k => k = b) W W1 := by rw [hW1]; exact (Keep.refl (fun k => k = b) W).set (p := ⟨b, 1, none⟩) (.inl rfl) _
  have hO := buildOnce_any w0 b hb W1 (by rw [hW1]; exact hW.setCell hb _) ps g c hr1 (fun i hi => ⟨hk1.cell (hps i hi).1 hgb, hk1.cell (hps i hi).2 hgb⟩) hnd hl hl5 hn
  rw [hW1] at hO
  have hD := do_first b W (fun w' => ∃ T, Built b T ps w' 0 1 ∧ Below w0.heap.size w0 w') (cell_of_heap hrow rfl) (cell_of_heap hrow rfl) (frozen_of_heap 1 hrow)
    (fun V ⟨T, ⟨hV, _⟩, _⟩ => ⟨cell_of_heap hV rfl, cell_of_heap hV rfl, frozen_of_heap 0 hV, frozen_of_heap 1 hV⟩) hO
  have HD := Lib.hid hD
  have HF : Hid (∀ V w' T, Built b T ps V 0 1 → Below w0.heap.size w0 V → w' = (V.drew.setCell ⟨b, 0, none⟩ (.int .u32 1)).setCell ⟨b, 1, none⟩ (.int .i32 0) →
      w'.cell? ⟨b, 3, none⟩ = some (.iface 171 (.pointer (some ⟨T, 0, none⟩))) ∧ Below w0.heap.size w0 w' ∧ TabF T ps w') := Lib.hid (fun V w' T ⟨hV, hF⟩ hbV e => by
    have hVd : V.drew.heap[b]? = some (.cells #[.int .u32 0, .int .i32 1, .int .u32 0, .iface 171 (.pointer (some ⟨T, 0, none⟩)), .slice none 0 0] 127 (0, 0)) := hV
    have h1 := Go.heap_setCell_same V.drew b 0 _ _ (.int .u32 1) hVd
    have h2 := Go.heap_setCell_same _ b 1 _ _ (.int .i32 0) h1
    have hk : Keep (fun k => k = b) V w' := by
      rw [e]
      exact (((Keep.of_below (S := fun k => k = b) (Below.refl _ V).drew)).set (p := ⟨b, 0, none⟩) (.inl rfl) _).set (p := ⟨b, 1, none⟩) (.inl rfl) _
    refine ⟨?_, ?_, hF.keepB hV (by omega) hn hk⟩
    · rw [e]; exact cell_of_heap (j := 3) h2 (by simp)
    · rw [e]; exact (hbV.drew.setCell hb _).setCell hb _)
  have HP : Hid (∀ V T, TabF T ps V → Calls Tryz.prog 262 #[.pointer (some ⟨T, 0, none⟩), .string ⟨s.toArray⟩] V fun e w' => e = .returned (.string ⟨(repT ps s).toArray⟩) ∧ Below V.heap.size V w') := Lib.hid (fun V T hV => bsr_any V T ps hV hnd ⟨hl, hl5⟩ hn s hs)
  have HRow := Lib.hid hrow
  clear hD hO hr1 hk1 hW1 hps hn hnd hrow
  have c0 := cell_of_heap (j := 0) HRow.out rfl
  go_enter Tryz.func67, Tryz.ntmps67
  go_wp2_with fail
  refine HD.out.mono ?_
  rintro e' w' ⟨rfl, V, ⟨T, hBu, hbV⟩, hw'⟩
  obtain ⟨c3, hb', hF'⟩ := HF.out V w' T hBu hbV hw'
  clear hw' hBu hbV c0
  go_wp2_with fail
  refine (HP.out w' T hF').mono ?_
  rintro e' w2 ⟨rfl, hb2⟩
  have hbe := hb'.trans (hb2.mono hb'.size)
  go_wp2_with fail
  go_ret
  exact ⟨rfl, hbe⟩
set_option maxHeartbeats 2000000 in
set_option maxRecDepth 100000 in
theorem newReplacer_any (w : World) (ps : Prs) (ad : Addr) (c : Nat) (hl : 1 ≤ ps.length) (hl5 : ps.length ≤ 100) (hps : ∀ j u, (strCs (flatP ps))[j]? = some u → w.cell? (ad.add j) = some u) :
    Calls Tryz.prog 66 #[.slice (some ad) (2 * ps.length) c] w fun e w' => ∃ b g c2, e = .returned (.pointer (some ⟨b, 0, none⟩)) ∧ w.heap.size ≤ b ∧ g ≠ b ∧ Below w.heap.size w w' ∧
      w'.heap[b]? = some (.cells #[.int .u32 0, .int .i32 0, .int .u32 0, .nilIface, .slice (some ⟨g, 0, none⟩) (2 * ps.length) c2] 127 (0, 0)) ∧
      ∀ i (h : i < ps.length), w'.cell? ⟨g, 2 * i, none⟩ = some (.string ⟨#[ps[i].1]⟩) ∧ w'.cell? ⟨g, 2 * i + 1, none⟩ = some (.string ⟨ps[i].2.toArray⟩) := by
  obtain ⟨n, hn⟩ : ∃ n, n = 2 * ps.length := ⟨_, rfl⟩
  have HN := Lib.hid hn
  have HP := Lib.hid hps
  have hnb : 2 ≤ n ∧ n ≤ 200 := by omega
  have hm0 : (((n : Int) % 2) == 1) = false := by rw [beq_eq_false_iff_ne]; omega
  rw [← hn]
  clear hn hps
  go_enter Tryz.func66, Tryz.ntmps66
  go_wp2_with (at_builtin; refine appGx (n := 0) (k := 0) (B := w.heap.size) (xs := []) (l := []) (w := w) (v := .slice none 0 0) eltStrs rfl _ _ rfl (strCs (flatP ps)) n c ad (by have := HN.out; simp [strCs, flatP_len]; omega) rfl rfl HP.out (strCs_one _) (AppG.start (OwnG.nil _ _ _ _) (Nat.le_refl _)) (by unfold maxLen; omega) (by omega) ?_; intro v2 w4 hA2; obtain ⟨A3, c3, rfl⟩ := hA2.own.shape; have HA := Lib.hid hA2; clear hA2)
  go_ret
  have hA := HA.out
  have hpos : 0 < (strCs (flatP ps)).length := by have := HN.out; simp [strCs, flatP_len]; omega
  obtain ⟨h1, h2, h3⟩ := hA.own.cells rfl
  obtain ⟨g, rfl, hgo, hc⟩ := h3 (by rw [List.nil_append]; exact hpos)
  have hglt := (hA.own.lt g hgo).2
  have hbl := hA.fresh
  refine ⟨w4.heap.size, g, c3, rfl, hbl.size, by omega, hbl.alloc hbl.size _, ?_, fun i hi => ?_⟩
  · have e : 0 + (0 + n) = n := by omega
    rw [e] at *
    exact heap_alloc_new _ _
  · obtain ⟨p1, p2⟩ := flatP_at ps i hi
    have go : ∀ {o : Nat} {u : Value} {ob : Obj}, w4.cell? ⟨g, o, none⟩ = some u → (w4.alloc ob).cell? ⟨g, o, none⟩ = some u := fun hcc => (Below.cell ((Below.refl _ w4).alloc (Nat.le_refl _) _) hglt).trans hcc
    refine ⟨go (hc _ _ ?_), go (hc _ _ ?_)⟩
    · show (List.map _ _)[_]? = _; rw [List.getElem?_map, p1]; rfl
    · show (List.map _ _)[_]? = _; rw [List.getElem?_map, p2]; rfl
set_option maxHeartbeats 2000000 in
set_option maxRecDepth 100000 in
/-- format.escaped. -/
theorem escaped_any (w : World) (ps : Prs) (ad : Addr) (c : Nat) (hnd : (ps.map Prod.fst).Nodup) (hl : 1 ≤ ps.length) (hl5 : ps.length ≤ 100) (hn : ∀ p ∈ ps, 2 ≤ p.2.length ∧ p.2.length ≤ 100) (hps : ∀ j u, (strCs (flatP ps))[j]? = some u → w.cell? (ad.add j) = some u) (s : List UInt8) (hs : s.length ≤ 1200000000) :
    Calls Tryz.prog 36 #[.string ⟨s.toArray⟩, .slice (some ad) (2 * ps.length) c] w fun e w' => e = .returned (.string ⟨(repT ps s).toArray⟩) ∧ Below w.heap.size w w' := by
  have HN := Lib.hid (newReplacer_any w ps ad c hl hl5 hps)
  have HR : Hid (∀ W b g c2, w.heap.size ≤ b → g ≠ b → Below w.heap.size w W → W.heap[b]? = some (.cells #[.int .u32 0, .int .i32 0, .int .u32 0, .nilIface, .slice (some ⟨g, 0, none⟩) (2 * ps.length) c2] 127 (0, 0)) →
      (∀ i (h : i < ps.length), W.cell? ⟨g, 2 * i, none⟩ = some (.string ⟨#[ps[i].1]⟩) ∧ W.cell? ⟨g, 2 * i + 1, none⟩ = some (.string ⟨ps[i].2.toArray⟩)) →
      Calls Tryz.prog 67 #[.pointer (some ⟨b, 0, none⟩), .string ⟨s.toArray⟩] W fun e w' => e = .returned (.string ⟨(repT ps s).toArray⟩) ∧ Below w.heap.size w w') := Lib.hid (fun W b g c2 hb hg hW hrow hcs => replace_any w b hb W hW ps g c2 hg hrow hcs hnd hl hl5 hn s hs)
  obtain ⟨n, hnn⟩ : ∃ n, n = 2 * ps.length := ⟨_, rfl⟩
  rw [← hnn] at HN HR ⊢
  clear hnd hn hps hnn hl hl5
  go_enter Tryz.func36, Tryz.ntmps36
  go_wp2_with fail
  refine HN.out.mono ?_
  rintro e' w2 ⟨b, g, c2, rfl, hb, hg, hbw, hrow, hcs⟩
  have HC := Lib.hid (HR.out w2 b g c2 hb hg hbw hrow hcs)
  clear hrow hcs
  go_wp2_with fail
  refine HC.out.mono ?_
  rintro e' w3 ⟨rfl, hb3⟩
  go_wp2_with fail
  go_ret
  exact ⟨rfl, hb3⟩
end Go.Proofs.YtpfamfkdfbcooaaGreatDoor
