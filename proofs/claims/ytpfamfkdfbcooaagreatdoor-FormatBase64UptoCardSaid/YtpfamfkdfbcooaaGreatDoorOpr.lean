/- In one text: Slices of any elements that a call has made itself.; The document's answer: Points.; The document's answer: Escape where nothing but ASCII is let by. -/
import Derived.Test.YtpfamfkdfbcooaaGreatDoorRf
import Derived.Laws.AppendOwnNone
import Derived.Lib.SlBytesRow
import Derived.Lib.BufferRead
set_option linter.unusedVariables false
set_option linter.unusedSimpArgs false
/- Slices of any elements that a call has made itself. -/
namespace Go.Proofs.YtpfamfkdfbcooaaGreatDoor
open Go Go.RowKit Go.Proofs

/-- S is a slice type: its elements are of type E, so many cells, so many bytes, with this zero. -/
structure Elt (S E : TypeId) (size bytes : Nat) (z : Value) : Prop where
  under : Tryz.prog.underlying S = some (.slice E)
  info : (Tryz.prog.info? E).map (fun i => (i.zero, i.size, i.bytes)) = some (some z, size, bytes)
  cells : z.cells.size = size
  pos : 0 < size
/-- v is a slice of n elements of the call's own (its block is B or later); its cells are xs. -/
def OwnG (E : TypeId) (size B : Nat) (w : World) (v : Value) (n : Nat) (xs : List Value) : Prop := w.ownsRow B E size v n xs
namespace OwnG
variable {E : TypeId} {size B n : Nat} {w w' : World} {v : Value} {xs : List Value}
theorem nil (E : TypeId) (size B : Nat) (w : World) : OwnG E size B w (.slice none 0 0) 0 [] := World.ownsRow_nil _ _ _ _
theorem keep {S : Nat → Prop} (h : OwnG E size B w v n xs) (hk : Keep S w w') (hn : ∀ k, v.ownBlock = some k → ¬ S k) : OwnG E size B w' v n xs := by
  refine ⟨h.1, ?_⟩
  rcases h.2 with hz | ⟨g, cap, cur, rfl, hb, hgg, rest⟩
  · exact .inl hz
  · refine .inr ⟨g, cap, cur, rfl, hb, ?_, rest⟩
    exact hk.heap hgg (hn g rfl)
theorem below (h : OwnG E size B w v n xs) (hb : Below w.heap.size w w') : OwnG E size B w' v n xs := h.keep (S := fun _ => False) (Keep.of_below hb) (fun _ _ h => h)
theorem alloc (h : OwnG E size B w v n xs) (o : Obj) : OwnG E size B (w.alloc o) v n xs := World.ownsRow.alloc h o
theorem lt (h : OwnG E size B w v n xs) : ∀ k, v.ownBlock = some k → B ≤ k ∧ k < w.heap.size := World.ownsRow.lt h
theorem mono (h : OwnG E size B w v n xs) {B' : Nat} (hB : B' ≤ B) : OwnG E size B' w v n xs := by
  refine ⟨h.1, ?_⟩
  rcases h.2 with hz | ⟨g, cap, cur, rfl, hb, hgg, rest⟩
  · exact .inl hz
  · exact .inr ⟨g, cap, cur, rfl, Nat.le_trans hB hb, hgg, rest⟩
theorem shape (h : OwnG E size B w v n xs) : ∃ A c, v = .slice A n c := by
  rcases h.2 with ⟨rfl, h0⟩ | ⟨g, cap, cur, rfl, _⟩
  · exact ⟨none, 0, by rw [h0]⟩
  · exact ⟨_, _, rfl⟩
theorem cells (h : OwnG E size B w v n xs) {A : Option Addr} {m c : Nat} (hv : v = .slice A m c) : m = n ∧ n ≤ c ∧ (0 < xs.length → ∃ g, A = some ⟨g, 0, none⟩ ∧ v.ownBlock = some g ∧ ∀ j u, xs[j]? = some u → w.cell? ⟨g, j, none⟩ = some u) := by
  rcases h.2 with ⟨rfl, h0⟩ | ⟨g, cap, cur, rfl, hb, hgg, hnc, hcm, hcs, htake⟩
  · injection hv with h1 h2 h3
    refine ⟨by omega, by omega, fun hx => ?_⟩
    have := h.1; rw [h0] at this; omega
  · injection hv with h1 h2 h3
    refine ⟨by omega, by omega, fun _ => ⟨g, h1.symm, rfl, fun j u hj => ?_⟩⟩
    simp only [World.cell?, hgg]
    rw [← htake] at hj
    rw [List.getElem?_take] at hj
    split at hj
    · rw [← Array.getElem?_toList, hj]; rfl
    · cases hj
theorem type_of (h : OwnG E size B w v n xs) : ∀ k, v.ownBlock = some k → ∃ cur, w.heap[k]? = some (.cells cur E (0, 0)) := by
  intro k hk
  rcases h.2 with ⟨rfl, _⟩ | ⟨g, cap, cur, rfl, _, hgg, _⟩
  · simp [Value.ownBlock] at hk
  · simp [Value.ownBlock] at hk; subst hk; exact ⟨cur, hgg⟩
end OwnG
/-- Since the world w, when v held n elements xs, m elements l have been appended; now v1 holds all, and nothing else of w has changed. -/
structure AppG (E : TypeId) (size B : Nat) (w : World) (v : Value) (n : Nat) (xs : List Value) (w1 : World) (v1 : Value) (m : Nat) (l : List Value) : Prop where
  own : OwnG E size B w1 v1 (n + m) (xs ++ l)
  keep : Keep (fun k => some k = v.ownBlock) w w1
  at_ : v1.ownBlock = v.ownBlock ∨ ∃ b, v1.ownBlock = some b ∧ w.heap.size ≤ b
  base : B ≤ w1.heap.size
namespace AppG
variable {E : TypeId} {size B n m m2 : Nat} {w w1 w2 : World} {v v1 v2 : Value} {xs l l2 : List Value}
theorem start (h : OwnG E size B w v n xs) (hB : B ≤ w.heap.size) : AppG E size B w v n xs w v 0 [] := ⟨by rw [List.append_nil]; exact h, Keep.refl _ _, .inl rfl, hB⟩
theorem next (h : AppG E size B w v n xs w1 v1 m l) (ho : OwnG E size B w2 v2 (n + m + m2) ((xs ++ l) ++ l2)) (hg : w1.grownBy w2 v1.ownBlock) (hat : v2.ownBlock = v1.ownBlock ∨ ∃ b, v2.ownBlock = some b ∧ w1.heap.size ≤ b) : AppG E size B w v n xs w2 v2 (m + m2) (l ++ l2) := by
  refine ⟨by rw [← List.append_assoc, ← Nat.add_assoc]; exact ho, h.keep.trans (Keep.of_grown hg) ?_, ?_, Nat.le_trans h.base hg.size⟩
  · intro i hi he
    rcases h.at_ with h1 | ⟨b, h1, h2⟩
    · exact he.trans h1
    · have : i = b := by rw [h1] at he; exact Option.some.inj he
      omega
  · rcases hat with h1 | ⟨b, h1, h2⟩
    · rw [h1]; exact h.at_
    · exact .inr ⟨b, h1, Nat.le_trans h.keep.size h2⟩
theorem below (h : AppG E size B w v n xs w1 v1 m l) (hb : Below w1.heap.size w1 w2) : AppG E size B w v n xs w2 v1 m l :=
  ⟨h.own.below hb, h.keep.trans (S' := fun _ => False) (Keep.of_below hb) (fun _ _ h => h.elim), h.at_, Nat.le_trans h.base hb.size⟩
/-- Where there was no row yet, nothing at all has changed. -/
theorem fresh (h : AppG E size B w (.slice none 0 0) n xs w1 v1 m l) : Below w.heap.size w w1 :=
  h.keep.below (Nat.le_refl _) (fun k _ e => by cases e)
theorem at_new (h : AppG E size B w (.slice none 0 0) n xs w1 v1 m l) : ∀ k, v1.ownBlock = some k → w.heap.size ≤ k := by
  intro k hk
  rcases h.at_ with h1 | ⟨b, h1, h2⟩
  · rw [h1] at hk; cases hk
  · rw [h1] at hk; injection hk with hk; omega
end AppG
section
variable {ops : Array Oper} {rest : List Oper} {o : Oper} {a : Act} {Q : Exit → Act → World → Prop} {S E : TypeId} {size bytes : Nat} {z : Value}
theorem appGx {B n : Nat} {w : World} {v : Value} {xs l : List Value} {k : Nat} {W : World} {v1 : Value} (HE : Elt S E size bytes z) (hgd : o.guard = none) (s x : Operand) (ho : o.op = .call { callee := .builtin .append, args := #[s, x], argTypes := #[S, S] })
    (l2 : List Value) (m c : Nat) (ad : Addr) (hm : l2.length = m * size) (hs : a.eval s = v1) (hx : a.eval x = .slice (some ad) m c) (hc : ∀ j u, l2[j]? = some u → W.cell? (ad.add j) = some u) (h1 : ∀ u ∈ l2, u.oneCell' = true)
    (hA : AppG E size B w v n xs W v1 k l) (hl : n + k + m ≤ maxLen) (hb : (n + k + m) * bytes ≤ 140737488355328)
    (h : ∀ v2 w2, AppG E size B w v n xs w2 v2 (k + m) (l ++ l2) → wpList Tryz.prog ops Q rest (a.put o.dst v2) w2) :
    wpList Tryz.prog ops Q (o :: rest) a W := by
  obtain ⟨i0, hi, hz0, hz1, hz2⟩ := info_parts HE.info
  refine wpList_append_own_at W hgd s x S ho B E i0 z size bytes HE.under hi hz0 hz1 hz2 HE.cells HE.pos v1 (n + k) (xs ++ l) hs hA.own ad m c l2 hx hm hc h1 hl hb hA.base ?_
  intro v2 w2 hown hg _ hat
  refine h v2 w2 (hA.next hown hg ?_)
  rcases hat with hat | hat
  · exact .inl hat
  · exact .inr ⟨_, hat, Nat.le_refl _⟩
theorem appGn {B n : Nat} {w : World} {v : Value} {xs l : List Value} {k : Nat} {W : World} {v1 : Value} (HE : Elt S E size bytes z) (hgd : o.guard = none) (s x : Operand) (ho : o.op = .call { callee := .builtin .append, args := #[s, x], argTypes := #[S, S] })
    (l2 : List Value) (m c : Nat) (arr : Array Value) (T : TypeId) (hm : l2.length = m * size) (hs : a.eval s = v1) (hx : a.eval x = .slice (some ⟨W.heap.size, 0, none⟩) m c) (harr : arr.toList = l2) (h1 : ∀ u ∈ l2, u.oneCell' = true)
    (hA : AppG E size B w v n xs W v1 k l) (hl : n + k + m ≤ maxLen) (hb : (n + k + m) * bytes ≤ 140737488355328)
    (h : ∀ v2 w2, AppG E size B w v n xs w2 v2 (k + m) (l ++ l2) → wpList Tryz.prog ops Q rest (a.put o.dst v2) w2) :
    wpList Tryz.prog ops Q (o :: rest) a (W.alloc (.cells arr T)) := by
  refine appGx HE hgd s x ho l2 m c _ hm hs hx ?_ h1 (hA.below ((Below.refl _ _).alloc (Nat.le_refl _) _)) hl hb h
  intro j u hu
  have hc := heap_alloc_new W (.cells arr T)
  have ha : (⟨W.heap.size, 0, none⟩ : Addr).add j = ⟨W.heap.size, j, none⟩ := by unfold Addr.add; split <;> simp_all
  rw [ha]
  simp only [World.cell?, hc]
  rw [← Array.getElem?_toList, harr, hu]
  rfl
end
/-- A slice of so many cells, wherever it lies: l are the cells. -/
def At (w : World) (A : Option Addr) (m c : Nat) (l : List Value) : Prop := (A = none → m = 0 ∧ c = 0 ∧ l = []) ∧ ∀ ad, A = some ad → ∀ j u, l[j]? = some u → w.cell? (ad.add j) = some u
section
variable {ops : Array Oper} {rest : List Oper} {o : Oper} {a : Act} {Q : Exit → Act → World → Prop} {S E : TypeId} {size bytes : Nat} {z : Value}
theorem appGs {B n : Nat} {w : World} {v : Value} {xs l : List Value} {k : Nat} {W : World} {v1 : Value} (HE : Elt S E size bytes z) (hgd : o.guard = none) (s x : Operand) (ho : o.op = .call { callee := .builtin .append, args := #[s, x], argTypes := #[S, S] })
    (l2 : List Value) (m c : Nat) (A : Option Addr) (hm : l2.length = m * size) (hs : a.eval s = v1) (hx : a.eval x = .slice A m c) (hc : At W A m c l2) (h1 : ∀ u ∈ l2, u.oneCell' = true)
    (hA : AppG E size B w v n xs W v1 k l) (hl : n + k + m ≤ maxLen) (hb : (n + k + m) * bytes ≤ 140737488355328)
    (h : ∀ v2 w2, AppG E size B w v n xs w2 v2 (k + m) (l ++ l2) → wpList Tryz.prog ops Q rest (a.put o.dst v2) w2) :
    wpList Tryz.prog ops Q (o :: rest) a W := by
  cases A with
  | some ad => exact appGx HE hgd s x ho l2 m c ad hm hs hx (hc.2 ad rfl) h1 hA hl hb h
  | none =>
    obtain ⟨rfl, rfl, rfl⟩ := hc.1 rfl
    obtain ⟨i0, hi, hz0, hz1, hz2⟩ := info_parts HE.info
    refine wpList_append_own_none hgd s x S ho B E i0 size HE.under hi v1 (n + k) (xs ++ l) hs hA.own hx ?_
    have := h v1 W (by simpa using hA)
    exact this
end
theorem add_mk (g o j : Nat) : (⟨g, o, none⟩ : Addr).add j = ⟨g, o + j, none⟩ := by unfold Addr.add; split <;> simp_all
theorem eltInts : Elt 100 3 1 8 (.int .i64 0) := ⟨Tryz.underlying100, by kernel_rfl, rfl, by decide⟩
theorem eltStrs : Elt 25 9 1 16 (.string ⟨#[]⟩) := ⟨Tryz.underlying25, by kernel_rfl, rfl, by decide⟩
def strCs (l : List (List UInt8)) : List Value := l.map fun s => Value.string ⟨s.toArray⟩
def intCs (l : List Nat) : List Value := l.map fun n : Nat => Value.int .i64 (n : Int)
theorem strCs_one (l : List (List UInt8)) : ∀ u ∈ strCs l, u.oneCell' = true := by
  intro u hu
  obtain ⟨s, _, rfl⟩ := List.mem_map.1 hu
  rfl
theorem intCs_one (l : List Nat) : ∀ u ∈ intCs l, u.oneCell' = true := by
  intro u hu
  obtain ⟨s, _, rfl⟩ := List.mem_map.1 hu
  rfl
end Go.Proofs.YtpfamfkdfbcooaaGreatDoor
/- The document's answer: Points. -/
namespace Go.Proofs.YtpfamfkdfbcooaaGreatDoor
open Go Go.RowKit Go.Proofs
def ptsFrom (s : ByteArray) : Nat → Nat → List Nat
  | 0, _ => []
  | f + 1, p => if p < s.size then (Utf8.decode s p).1 :: ptsFrom s f (p + (Utf8.decode s p).2) else []
def ptsT (s : ByteArray) : List Nat := ptsFrom s s.size 0
theorem ints_snoc {B : Nat} {w : World} {v : Value} {n : Nat} {xs : List Value} (acc : List Nat) (c : Nat) : ∀ W V, AppG 3 1 B w v n xs W V (acc.length + 1) (intCs acc ++ [.int .i64 (c : Int)]) → AppG 3 1 B w v n xs W V (acc ++ [c]).length (intCs (acc ++ [c])) := by
  intro W V h
  simpa [intCs] using h
set_option maxHeartbeats 1000000 in
set_option maxRecDepth 100000 in
theorem points_any (s : ByteArray) (w : World) (hm : s.size < 999999000) :
    Calls Tryz.prog 79 #[.string s] w fun e w' => ∃ v', e = .returned v' ∧ AppG 3 1 w.heap.size w (.slice none 0 0) 0 [] w' v' (ptsT s).length (intCs (ptsT s)) := by
  obtain ⟨r, hr⟩ : ∃ r, r = ptsT s := ⟨_, rfl⟩
  rw [← hr]
  have HR : Hid ([] ++ ptsFrom s s.size 0 = r) := Lib.hid (by rw [hr]; rfl)
  clear hr
  have hA0 := AppG.start (OwnG.nil 3 1 w.heap.size w) (Nat.le_refl _)
  go_enter Tryz.func79, Tryz.ntmps79
  go_wp2_with fail
  go_loopw [3, 4] (fun v i wr => ∃ (pos fuel : Nat) (acc : List Nat), i = .int .i64 pos ∧ AppG 3 1 w.heap.size w (.slice none 0 0) 0 [] wr v acc.length (intCs acc) ∧ Hid (acc ++ ptsFrom s fuel pos = r) ∧ s.size ≤ pos + fuel ∧ pos ≤ s.size + 4 ∧ acc.length ≤ pos) (fun _ i _ => s.size - (intOf i).toNat)
  case atStart => exact ⟨0, s.size, [], rfl, hA0, HR, by omega, by omega, by simp⟩
  case round =>
    clear hA0 HR
    obtain ⟨pos, fuel, acc, rfl, hA, HV, hf, hp4, hal⟩ := hrel
    rcases Nat.lt_or_ge pos s.size with hlt | hge
    · obtain ⟨f, rfl⟩ : ∃ f, fuel = f + 1 := ⟨fuel - 1, by omega⟩
      have hP := fun W => piece_any s pos W hlt (by omega)
      have hw1 := width_pos s pos hlt
      have hw4 := decode_width s pos
      have hv : (acc ++ [(Utf8.decode s pos).1]) ++ ptsFrom s f (pos + (Utf8.decode s pos).2) = r := by rw [← HV.out, ptsFrom, if_pos hlt]; simp
      unfold pieceV at hP
      obtain ⟨c, hc⟩ : ∃ c, c = (Utf8.decode s pos).1 := ⟨_, rfl⟩
      obtain ⟨n, hn⟩ : ∃ n, n = (Utf8.decode s pos).2 := ⟨_, rfl⟩
      rw [← hc, ← hn] at hP hv
      rw [← hn] at hw1 hw4
      have HP := Lib.hid hP
      have HV2 := Lib.hid hv
      have hnext := ints_snoc (B := w.heap.size) (w := w) (v := .slice none 0 0) (n := 0) (xs := []) acc c
      clear hP hv hc hn HV
      go_wp2_with fail
      refine (HP.out _).mono ?_
      rintro e' _ ⟨rfl, rfl⟩
      go_wp2_with (at_builtin; refine appGn eltInts rfl _ _ rfl [.int .i64 (c : Int)] 1 1 _ _ rfl rfl rfl rfl (by simp [Value.oneCell']) hA (by unfold maxLen; omega) (by omega) ?_; intro v2 w2 hA2; have hF := hnext _ _ hA2; clear hA2)
      all_goals go_roundw
      case rel => exact ⟨pos + n, f, _, by go_num, hF, HV2, by omega, by omega, by simp; omega⟩
      case measure => simp [intOf]; omega
    · have HV2 : Hid (acc = r) := Lib.hid (by
        rw [← HV.out]
        cases fuel with
        | zero => simp [ptsFrom]
        | succ f => rw [ptsFrom, if_neg (by omega), List.append_nil])
      go_wp2_with fail
      go_ret
      exact ⟨_, rfl, by rw [← HV2.out]; exact hA⟩
end Go.Proofs.YtpfamfkdfbcooaaGreatDoor
/- The document's answer: Escape where nothing but ASCII is let by. -/
namespace Go.Proofs.YtpfamfkdfbcooaaGreatDoor
open Go Go.RowKit Go.Proofs
theorem convOwn {B : Nat} {w : World} {v : Value} {bs : List UInt8} (h : OwnB B w v bs) : (convert 60 9 v).run Tryz.prog w = .ok (.string ⟨bs.toArray⟩) w := by
  have hO : OwnG 5 1 B w v bs.length (Lib.byteCells bs) := h
  rcases h.2 with ⟨rfl, h0⟩ | ⟨g, cap, cur, rfl, hb, hgg, hnc, hcm, hcs, htake⟩
  · have : bs = [] := List.eq_nil_of_length_eq_zero h0
    subst this
    exact Lib.run_convert_nil_bytes w _ _ _ 0 Tryz.underlying60 Tryz.underlying5 Tryz.underlying9
  · refine Lib.run_convert_whole w _ _ _ Tryz.underlying60 Tryz.underlying5 Tryz.underlying9 g 0 ⟨bs.toArray⟩ ?_ cap
    intro i hi
    have hi' : i < bs.length := hi
    obtain ⟨_, _, hx⟩ := hO.cells rfl
    obtain ⟨g', hg', _, hx2⟩ := hx (by rw [Lib.byteCells_length]; omega)
    injection hg' with hg'
    injection hg' with hg' _ _
    subst hg'
    rw [Nat.zero_add]
    exact hx2 i _ (by simp [Lib.byteCells, hi']; rfl)
theorem App.rebase {B : Nat} {w w2 w1 : World} {v1 : Value} {l : List UInt8} (hb : Below w.heap.size w w2) (h : App B w2 (.slice none 0 0) [] w1 v1 l) : App B w (.slice none 0 0) [] w1 v1 l :=
  ⟨h.own, (Keep.of_below hb).trans h.keep (fun _ _ e => e), by
    rcases h.at_ with h1 | ⟨b, h1, h2⟩
    · exact .inl h1
    · exact .inr ⟨b, h1, Nat.le_trans hb.size h2⟩, h.base⟩
theorem App.fresh {B : Nat} {w w1 : World} {v1 : Value} {l : List UInt8} (h : App B w (.slice none 0 0) [] w1 v1 l) : Below w.heap.size w w1 :=
  h.keep.below (Nat.le_refl _) (fun k _ e => by cases e)
theorem escFrom_pts (s : ByteArray) : ∀ f p, escFrom s f p = (ptsFrom s f p).flatMap escR
  | 0, _ => rfl
  | f + 1, p => by
    rw [escFrom, ptsFrom]
    split
    · rw [List.flatMap_cons, escFrom_pts s f]
    · rfl
theorem escA_pts (q : List UInt8) : escA q = (ptsT ⟨q.toArray⟩).flatMap escR := escFrom_pts _ _ _
theorem ptsFrom_len (s : ByteArray) : ∀ f p, (ptsFrom s f p).length ≤ s.size - p
  | 0, _ => Nat.zero_le _
  | f + 1, p => by
    rw [ptsFrom]
    split
    · rename_i h
      have h1 := width_pos s p h
      have h2 := ptsFrom_len s f (p + (Utf8.decode s p).2)
      rw [List.length_cons]; omega
    · exact Nat.zero_le _
theorem ptsFrom_le (s : ByteArray) : ∀ f p, ∀ x ∈ ptsFrom s f p, x ≤ 2097151
  | 0, _ => by simp [ptsFrom]
  | f + 1, p => by
    rw [ptsFrom]
    split
    · intro x hx
      rcases List.mem_cons.1 hx with rfl | hx
      · exact decode_le2 s p
      · exact ptsFrom_le s f _ x hx
    · simp
theorem flatMap_escR_length (l : List Nat) : (l.flatMap escR).length ≤ 12 * l.length := by
  induction l with
  | nil => simp
  | cons a l ih =>
    have := escR_length a
    rw [List.flatMap_cons, List.length_append, List.length_cons]
    omega
end Go.Proofs.YtpfamfkdfbcooaaGreatDoor
