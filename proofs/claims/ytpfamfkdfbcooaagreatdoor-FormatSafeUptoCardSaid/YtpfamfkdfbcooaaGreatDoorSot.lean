/- In one text: The document's answer: Sorted: texts by their bytes.; The document's answer: Sorted, walked. -/
import Derived.Test.YtpfamfkdfbcooaaGreatDoorOpr
import Derived.Deep.QuietTactic
import Derived.BigQuiet
set_option linter.unusedVariables false
set_option linter.unusedSimpArgs false
/- The document's answer: Sorted: texts by their bytes. -/
namespace Go.Proofs.YtpfamfkdfbcooaaGreatDoor
open Go Go.RowKit Go.Proofs
abbrev Txt := List UInt8
/-- Go's <= of two texts. -/
def leS (a b : Txt) : Bool := Op.bytesLess a b || (a == b)
def mergeT : Nat → List Txt → List Txt → List Txt
  | 0, _, _ => []
  | f + 1, a, b =>
    match a, b with
    | [], [] => []
    | x :: a, [] => x :: mergeT f a []
    | [], y :: b => y :: mergeT f [] b
    | x :: a, y :: b => if leS x y = true then x :: mergeT f a (y :: b) else y :: mergeT f (x :: a) b
def sortT : Nat → List Txt → List Txt
  | 0, l => l
  | f + 1, l => if l.length < 2 then l else mergeT l.length (sortT f (l.take (l.length / 2))) (sortT f (l.drop (l.length / 2)))
theorem mergeT_len : ∀ (f : Nat) (a b : List Txt), a.length + b.length ≤ f → (mergeT f a b).length = a.length + b.length
  | 0, a, b, h => by rw [mergeT, List.length_nil]; omega
  | f + 1, [], [], _ => rfl
  | f + 1, x :: a, [], h => by
    simp only [List.length_cons, List.length_nil] at h
    have := mergeT_len f a [] (by simp only [List.length_nil]; omega)
    simp only [mergeT, List.length_cons, List.length_nil] at this ⊢
    omega
  | f + 1, [], y :: b, h => by
    simp only [List.length_cons, List.length_nil] at h
    have := mergeT_len f [] b (by simp only [List.length_nil]; omega)
    simp only [mergeT, List.length_cons, List.length_nil] at this ⊢
    omega
  | f + 1, x :: a, y :: b, h => by
    simp only [List.length_cons] at h
    rw [mergeT]
    split
    · rw [List.length_cons, mergeT_len f a (y :: b) (by simp only [List.length_cons]; omega)]; simp only [List.length_cons]; omega
    · rw [List.length_cons, mergeT_len f (x :: a) b (by simp only [List.length_cons]; omega)]; simp only [List.length_cons]; omega
theorem sortT_len : ∀ (f : Nat) (l : List Txt), (sortT f l).length = l.length
  | 0, _ => rfl
  | f + 1, l => by
    rw [sortT]
    split
    · rfl
    · rw [mergeT_len _ _ _ (by rw [sortT_len f, sortT_len f, List.length_take, List.length_drop]; omega), sortT_len f, sortT_len f, List.length_take, List.length_drop]; omega
theorem sortT_short (f : Nat) (l : List Txt) (h : l.length < 2) : sortT f l = l := by
  cases f with
  | zero => rfl
  | succ f => rw [sortT, if_pos h]
/-- A slice of texts, wherever it lies. -/
def StrSl (w : World) (v : Value) (l : List Txt) : Prop := ∃ A c, v = .slice A l.length c ∧ l.length ≤ c ∧ At w A l.length c (strCs l)
theorem At.keep {S : Nat → Prop} {w w' : World} {A : Option Addr} {m c : Nat} {l : List Value} (h : At w A m c l) (hk : Keep S w w') (hn : ∀ ad, A = some ad → ¬ S ad.block) : At w' A m c l := by
  refine ⟨h.1, fun ad ha j u hu => ?_⟩
  have h1 := h.2 ad ha j u hu
  have hb : (ad.add j).block = ad.block := by unfold Addr.add; split <;> rfl
  have hlt := World.block_lt_of_cell? w _ h1
  rw [hb] at hlt
  exact (World.cell?_of_block (w := w) (a := ad.add j) (by rw [hb]; exact hk.block ad.block hlt (hn ad ha))).trans h1
theorem At.below {w w' : World} {A : Option Addr} {m c : Nat} {l : List Value} (h : At w A m c l) (hb : Below w.heap.size w w') : At w' A m c l := by
  refine ⟨h.1, fun ad ha j u hu => ?_⟩
  have h1 := h.2 ad ha j u hu
  exact (World.cell?_of_block (w := w) (a := ad.add j) (hb.block _ (World.block_lt_of_cell? w _ h1))).trans h1
theorem StrSl.below {w w' : World} {v : Value} {l : List Txt} (h : StrSl w v l) (hb : Below w.heap.size w w') : StrSl w' v l := by
  obtain ⟨A, c, h1, h2, h3⟩ := h
  exact ⟨A, c, h1, h2, h3.below hb⟩
theorem OwnG.strSl {B : Nat} {w : World} {v : Value} {l : List Txt} (h : OwnG 9 1 B w v l.length (strCs l)) : StrSl w v l := by
  rcases h.2 with ⟨rfl, h0⟩ | ⟨g, cap, cur, rfl, hb, hgg, hnc, hcm, hcs, htake⟩
  · have : l = [] := List.eq_nil_of_length_eq_zero h0
    subst this
    exact ⟨none, 0, rfl, Nat.le_refl _, fun _ => ⟨rfl, rfl, rfl⟩, fun ad h => by cases h⟩
  · refine ⟨some ⟨g, 0, none⟩, cap, rfl, hnc, fun h => by (cases h), fun ad had j u hu => ?_⟩
    injection had with had
    subst had
    obtain ⟨_, _, hx⟩ := OwnG.cells h rfl
    have hj : j < (strCs l).length := by
      rcases Nat.lt_or_ge j (strCs l).length with h' | h'
      · exact h'
      · rw [List.getElem?_eq_none h'] at hu; cases hu
    obtain ⟨g', hg', _, hx2⟩ := hx (by omega)
    injection hg' with hg'
    injection hg' with hg' _ _
    subst hg'
    rw [add_mk, Nat.zero_add]
    exact hx2 j u hu
theorem AppG.below_of {E : TypeId} {size B n m B0 : Nat} {w w0 w1 : World} {v v1 : Value} {xs l : List Value} (h : AppG E size B w0 v n xs w1 v1 m l) (hb : Below B0 w w0) (hB : B0 ≤ w.heap.size) (hv : ∀ k, v.ownBlock = some k → B0 ≤ k) : Below B0 w w1 :=
  hb.trans (h.keep.below (Nat.le_trans hB hb.size) (fun k hk e => by have := hv k e.symm; omega))
theorem elemStr : Tryz.prog.elem 25 = 9 := by kernel_rfl
theorem undStr : Tryz.prog.underlying 25 = some (.slice (Tryz.prog.elem 25)) := by rw [elemStr]; exact Tryz.underlying25
theorem sizeStr (W : World) : (sizeOf (Tryz.prog.elem 25)).run Tryz.prog W = .ok 1 W := by kernel_rfl
theorem slice_hi (W : World) (ad : Addr) (n c h : Nat) (hc : h ≤ c) : (Instr.slice 25 (.slice (some ad) n c) none (some (.int .i64 (h : Int))) none).run Tryz.prog W = .ok (.slice (some ad) h c) W := by
  rw [run_slice_h W 25 _ _ _ undStr .i64 _ (by omega) (by omega), sizeStr]
  simp [Result.andThen, sliced, Addr.add]
theorem slice_lo (W : World) (ad : Addr) (n c h : Nat) (hn : h ≤ n) (hc : h < c) : (Instr.slice 25 (.slice (some ad) n c) (some (.int .i64 (h : Int))) none none).run Tryz.prog W = .ok (.slice (some (ad.add h)) (n - h) (c - h)) W := by
  rw [run_slice_l W 25 _ _ _ undStr .i64 _ (by omega) (by omega), sizeStr]
  have : ¬ c = h := by omega
  simp [Result.andThen, sliced, this]
theorem add_add (a : Addr) (i j : Nat) : (a.add i).add j = a.add (i + j) := by
  unfold Addr.add
  by_cases hi : i = 0
  · subst hi; simp
  · by_cases hj : j = 0
    · subst hj; simp [hi]
    · have : ¬ i + j = 0 := by omega
      simp [hi, hj, this, Nat.add_assoc]
theorem At.take {w : World} {ad : Addr} {m c h : Nat} {l : List Txt} (hA : At w (some ad) m c (strCs l)) (h1 : h ≤ l.length) : At w (some ad) (l.take h).length c (strCs (l.take h)) := by
  refine ⟨fun e => (by cases e), fun ad' e j u hu => ?_⟩
  refine hA.2 ad' e j u ?_
  unfold strCs at hu ⊢
  rw [List.getElem?_map, List.getElem?_take] at hu
  split at hu
  · rw [List.getElem?_map]; exact hu
  · cases hu
theorem At.drop {w : World} {ad : Addr} {m c c' h : Nat} {l : List Txt} (hA : At w (some ad) m c (strCs l)) (h1 : h ≤ l.length) : At w (some (ad.add h)) (l.drop h).length c' (strCs (l.drop h)) := by
  refine ⟨fun e => (by cases e), fun ad' e j u hu => ?_⟩
  injection e with e
  subst e
  rw [add_add]
  refine hA.2 ad rfl (h + j) u ?_
  unfold strCs at hu ⊢
  rw [List.getElem?_map, List.getElem?_drop] at hu
  rw [List.getElem?_map]; exact hu
set_option maxHeartbeats 1000000 in
set_option maxRecDepth 100000 in
theorem sorted_short (l : List Txt) (h : l.length < 2) (v : Value) (w : World) (hS : StrSl w v l) :
    Calls Tryz.prog 85 #[v] w fun e w' => ∃ v', e = .returned v' ∧ OwnG 9 1 w.heap.size w' v' l.length (strCs l) ∧ Below w.heap.size w w' := by
  obtain ⟨A, c, rfl, hc, hAt⟩ := hS
  have t1 : decide ((l.length : Int) < 2) = true := decide_eq_true (by omega)
  have hb0 : Below w.heap.size w (w.alloc (.cells #[] 9)) := (Below.refl _ _).alloc (Nat.le_refl _) _
  have hO : OwnG 9 1 w.heap.size (w.alloc (.cells #[] 9)) (.slice (some ⟨w.heap.size, 0, none⟩) 0 0) 0 [] := World.ownsRow_made w #[] 0 (Nat.le_refl _) (by decide) (by simp)
  have hA0 := AppG.start hO (by simp)
  have hAt1 := hAt.below hb0
  have hfin : ∀ w2 v2, AppG 9 1 w.heap.size (w.alloc (.cells #[] 9)) (.slice (some ⟨w.heap.size, 0, none⟩) 0 0) 0 [] w2 v2 (0 + l.length) ([] ++ strCs l) → OwnG 9 1 w.heap.size w2 v2 l.length (strCs l) ∧ Below w.heap.size w w2 := by
    intro w2 v2 hA
    refine ⟨by have := hA.own; simpa using this, hA.below_of hb0 (Nat.le_refl _) (fun k hk => ?_)⟩
    simp [Value.ownBlock] at hk
    omega
  have hlen : (strCs l).length = l.length * 1 := by simp [strCs]
  have h1 := strCs_one l
  obtain ⟨n, hn⟩ : ∃ n, n = l.length := ⟨_, rfl⟩
  rw [← hn] at t1 hAt1 hfin hlen h ⊢
  clear hn hAt hb0 hO hc
  go_enter Tryz.func85, Tryz.ntmps85
  go_wp2_with (at_builtin; refine appGs eltStrs rfl _ _ rfl (strCs l) n c A hlen rfl rfl hAt1 h1 hA0 (by unfold maxLen; omega) (by omega) ?_; intro v2 w2 hA2; have hF := hfin _ _ hA2; clear hA2)
  go_ret
  exact ⟨_, rfl, hF⟩
end Go.Proofs.YtpfamfkdfbcooaaGreatDoor
/- The document's answer: Sorted, walked. -/
namespace Go.Proofs.YtpfamfkdfbcooaaGreatDoor
open Go Go.RowKit Go.Proofs
theorem strs_snoc {B : Nat} {w : World} {v : Value} {n : Nat} {xs : List Value} (acc : List Txt) (c : Txt) : ∀ W V, AppG 9 1 B w v n xs W V (acc.length + 1) (strCs acc ++ [.string ⟨c.toArray⟩]) → AppG 9 1 B w v n xs W V (acc ++ [c]).length (strCs (acc ++ [c])) := by
  intro W V h
  simpa [strCs] using h
theorem drop_cons {α : Type} (l : List α) (i : Nat) (h : i < l.length) : l.drop i = l[i] :: l.drop (i + 1) := List.drop_eq_getElem_cons h
theorem mergeT_x (f : Nat) (x : Txt) (a : List Txt) : mergeT (f + 1) (x :: a) [] = x :: mergeT f a [] := rfl
theorem mergeT_y (f : Nat) (y : Txt) (b : List Txt) : mergeT (f + 1) [] (y :: b) = y :: mergeT f [] b := rfl
theorem mergeT_xy (f : Nat) (x y : Txt) (a b : List Txt) (h : leS x y = true) : mergeT (f + 1) (x :: a) (y :: b) = x :: mergeT f a (y :: b) := by rw [mergeT, if_pos h]
theorem mergeT_yx (f : Nat) (x y : Txt) (a b : List Txt) (h : leS x y = false) : mergeT (f + 1) (x :: a) (y :: b) = y :: mergeT f (x :: a) b := by rw [mergeT, if_neg (by rw [h]; decide)]
theorem mergeT_end (f : Nat) : mergeT f [] [] = [] := by cases f <;> rfl
set_option maxHeartbeats 4000000 in
set_option maxRecDepth 100000 in
theorem sorted_any : ∀ (f : Nat) (l : List Txt) (v : Value) (w : World), l.length ≤ f + 1 → l.length ≤ 1048576 → StrSl w v l →
    Calls Tryz.prog 85 #[v] w fun e w' => ∃ v', e = .returned v' ∧ OwnG 9 1 w.heap.size w' v' (sortT f l).length (strCs (sortT f l)) ∧ Below w.heap.size w w' := by
  intro f
  induction f with
  | zero => intro l v w h _ hS; exact sorted_short l (by omega) v w hS
  | succ f ih =>
    intro l v w hf hm hS
    by_cases h2 : l.length < 2
    · rw [sortT_short _ _ h2]; exact sorted_short l h2 v w hS
    obtain ⟨A, c, rfl, hc, hAt⟩ := hS
    cases A with
    | none => exact absurd (hAt.1 rfl).2.2 (by intro h; have := congrArg List.length h; simp [strCs] at this; subst this; simp at h2)
    | some ad =>
    obtain ⟨n, hn⟩ : ∃ n, n = l.length := ⟨_, rfl⟩
    obtain ⟨h, hh⟩ : ∃ h, h = n / 2 := ⟨_, rfl⟩
    have hM : sortT (f + 1) l = mergeT n (sortT f (l.take h)) (sortT f (l.drop h)) := by rw [sortT, if_neg h2, hh, hn]
    have hSa : StrSl w (.slice (some ad) h c) (l.take h) := ⟨some ad, c, by rw [List.length_take, Nat.min_eq_left (by omega)], by rw [List.length_take]; omega, hAt.take (by omega)⟩
    have hSb : StrSl w (.slice (some (ad.add h)) (n - h) (c - h)) (l.drop h) := ⟨some (ad.add h), c - h, by rw [List.length_drop, hn], by rw [List.length_drop]; omega, hAt.drop (by omega)⟩
    have ihA := ih (l.take h) _ w (by rw [List.length_take]; omega) (by rw [List.length_take]; omega) hSa
    have ihB := fun W hS => ih (l.drop h) (.slice (some (ad.add h)) (n - h) (c - h)) W (by rw [List.length_drop]; omega) (by rw [List.length_drop]; omega) hS
    have hla : (sortT f (l.take h)).length = h := by rw [sortT_len, List.length_take]; omega
    have hlb : (sortT f (l.drop h)).length = n - h := by rw [sortT_len, List.length_drop, hn]
    rw [hM]
    rw [← hn] at hc ⊢
    obtain ⟨a, ha⟩ : ∃ a, a = sortT f (l.take h) := ⟨_, rfl⟩
    obtain ⟨b, hb⟩ : ∃ b, b = sortT f (l.drop h) := ⟨_, rfl⟩
    rw [← ha] at ihA hla ⊢
    rw [← hb] at ihB hlb ⊢
    obtain ⟨M, hMM⟩ : ∃ M, M = mergeT n a b := ⟨_, rfl⟩
    rw [← hMM]
    have HM : Hid ([] ++ mergeT n (a.drop 0) (b.drop 0) = M) := Lib.hid (by rw [hMM]; rfl)
    have hs1 := fun W => slice_hi W ad n c h (by omega)
    have hs2 := fun W => slice_lo W ad n c h (by omega) (by omega)
    have hdiv : (n : Int) / 2 = (h : Int) := by omega
    have t1 : decide ((n : Int) < 2) = false := decide_eq_false (by omega)
    have hh1 : h ≤ n := by omega
    have hn2 : n ≤ 1048576 := by omega
    have hh0 : 0 < h := by omega
    have hhn : h < n := by omega
    have HA := Lib.hid ihA
    have HB := Lib.hid ihB
    have HLA := Lib.hid hla
    have HLB := Lib.hid hlb
    clear ihA ihB ih hM hMM ha hb hn hh hSa hAt hf hm h2 hla hlb
    go_enter Tryz.func85, Tryz.ntmps85
    go_wp2_with fail
    refine HA.out.mono ?_
    rintro e' w1 ⟨va, rfl, hOa, hb1⟩
    have hSb1 := hSb.below hb1
    clear hSb
    go_wp2_with fail
    refine (HB.out w1 hSb1).mono ?_
    rintro e' w2 ⟨vb, rfl, hOb, hb2⟩
    have hOa2 := hOa.below hb2
    have hb12 := hb1.trans (hb2.mono hb1.size)
    clear hOa hb1 hSb1 hs1 hs2 hdiv HA HB t1
    obtain ⟨Aa, ca, rfl⟩ := hOa2.shape
    obtain ⟨Ab, cb, rfl⟩ := hOb.shape
    obtain ⟨-, -, hxa⟩ := hOa2.cells rfl
    obtain ⟨-, -, hxb⟩ := hOb.cells rfl
    obtain ⟨ga, rfl, -, hca⟩ := hxa (by have := HLA.out; simp [strCs]; omega)
    obtain ⟨gb, rfl, -, hcb⟩ := hxb (by have := HLB.out; simp [strCs]; omega)
    have HCA := Lib.hid hca
    have HCB := Lib.hid hcb
    obtain ⟨na, hna⟩ : ∃ na, na = a.length := ⟨_, rfl⟩
    obtain ⟨nb, hnb⟩ : ∃ nb, nb = b.length := ⟨_, rfl⟩
    rw [← hna, ← hnb]
    have hsum : na + nb = n := by have := HLA.out; have := HLB.out; omega
    have HNA := Lib.hid hna
    have HNB := Lib.hid hnb
    clear hxa hxb hca hcb hOa2 hOb HLA HLB hna hnb hb2
    have hA0 := AppG.start (OwnG.nil 9 1 w.heap.size w2) hb12.size
    go_wp2_with fail
    go_loopw [5, 6, 7] (fun v i k wr => ∃ (i' k' fu : Nat) (acc : List Txt), i = .int .i64 i' ∧ k = .int .i64 k' ∧ i' ≤ na ∧ k' ≤ nb ∧ na + nb ≤ fu + i' + k' ∧ AppG 9 1 w.heap.size w2 (.slice none 0 0) 0 [] wr v acc.length (strCs acc) ∧ Hid (acc ++ mergeT fu (a.drop i') (b.drop k') = M) ∧ acc.length = i' + k') (fun _ i k _ => (na - (intOf i).toNat) + (nb - (intOf k).toNat))
    case atStart => exact ⟨0, 0, n, [], rfl, rfl, Nat.zero_le _, Nat.zero_le _, by omega, hA0, HM, rfl⟩
    case round =>
      clear hA0 HM
      obtain ⟨i, k, fu, acc, rfl, rfl, hi, hk, hfu, hA, HV, hal⟩ := hrel
      have hd := fun nq => hA.below (below_drewN (Below.refl _ _) nq)
      rcases Nat.lt_or_ge i na with hia | hia
      · have hia' : i < a.length := by have := HNA.out; omega
        obtain ⟨x, hx⟩ : ∃ x, x = a[i] := ⟨_, rfl⟩
        have hda := drop_cons a i hia'
        rw [← hx] at hda
        have hcx := HCA.out i (.string ⟨x.toArray⟩) (by simp [strCs, hia', hx])
        have hcx2 := hA.keep.cell hcx (fun e => by cases e)
        obtain ⟨f2, rfl⟩ : ∃ f2, fu = f2 + 1 := ⟨fu - 1, by omega⟩
        have hnx := strs_snoc (B := w.heap.size) (w := w2) (v := .slice none 0 0) (n := 0) (xs := []) acc x
        clear hcx hx hia'
        rcases Nat.lt_or_ge k nb with hkb | hkb
        · have hkb' : k < b.length := by have := HNB.out; omega
          obtain ⟨y, hy⟩ : ∃ y, y = b[k] := ⟨_, rfl⟩
          have hdb := drop_cons b k hkb'
          rw [← hy] at hdb
          have hcy := HCB.out k (.string ⟨y.toArray⟩) (by simp [strCs, hkb', hy])
          have hcy2 := hA.keep.cell hcy (fun e => by cases e)
          have hny := strs_snoc (B := w.heap.size) (w := w2) (v := .slice none 0 0) (n := 0) (xs := []) acc y
          clear hcy hy hkb'
          have tk1 : ((k : Int) == (nb : Int)) = false := by rw [beq_eq_false_iff_ne]; omega
          have tk2 : (k == nb) = false := by rw [beq_eq_false_iff_ne]; omega
          have tk3 : decide (k = nb) = false := decide_eq_false (by omega)
          have hl : leS x y = (Op.bytesLess x y || (x == y)) := rfl
          cases h1 : Op.bytesLess x y with
          | true =>
            rw [h1, Bool.true_or] at hl
            have HV2 : Hid ((acc ++ [x]) ++ mergeT f2 (a.drop (i + 1)) (b.drop k) = M) := Lib.hid (by rw [← HV.out, hda, hdb, mergeT_xy f2 x y _ _ hl]; simp)
            clear HV hda hdb hny hA hl
            go_wp2_with fail
            go_quiet (fail)
            have hA := hd nq
            go_wp2_with (at_builtin; refine appGn eltStrs rfl _ _ rfl [.string ⟨x.toArray⟩] 1 1 _ _ rfl rfl rfl rfl (by simp [Value.oneCell']) hA (by unfold maxLen; omega) (by omega) ?_; intro v3 w3 hA3; have hF := hnx _ _ hA3; clear hA3)
            all_goals go_roundw
            case rel => exact ⟨i + 1, k, f2, _, by go_num, rfl, by omega, by omega, by omega, hF, HV2, by simp; omega⟩
            case measure => simp [intOf]; omega
          | false =>
          rw [h1, Bool.false_or] at hl
          cases h2 : (x == y) with
          | true =>
            rw [h2] at hl
            have HV2 : Hid ((acc ++ [x]) ++ mergeT f2 (a.drop (i + 1)) (b.drop k) = M) := Lib.hid (by rw [← HV.out, hda, hdb, mergeT_xy f2 x y _ _ hl]; simp)
            clear HV hda hdb hny hA hl
            go_wp2_with fail
            go_quiet (fail)
            have hA := hd nq
            go_wp2_with (at_builtin; refine appGn eltStrs rfl _ _ rfl [.string ⟨x.toArray⟩] 1 1 _ _ rfl rfl rfl rfl (by simp [Value.oneCell']) hA (by unfold maxLen; omega) (by omega) ?_; intro v3 w3 hA3; have hF := hnx _ _ hA3; clear hA3)
            all_goals go_roundw
            case rel => exact ⟨i + 1, k, f2, _, by go_num, rfl, by omega, by omega, by omega, hF, HV2, by simp; omega⟩
            case measure => simp [intOf]; omega
          | false =>
            rw [h2] at hl
            have HV2 : Hid ((acc ++ [y]) ++ mergeT f2 (a.drop i) (b.drop (k + 1)) = M) := Lib.hid (by rw [← HV.out, hda, hdb, mergeT_yx f2 x y _ _ hl]; simp)
            clear HV hda hdb hnx hA hl
            go_wp2_with fail
            go_quiet (fail)
            have hA := hd nq
            go_wp2_with (at_builtin; refine appGn eltStrs rfl _ _ rfl [.string ⟨y.toArray⟩] 1 1 _ _ rfl rfl rfl rfl (by simp [Value.oneCell']) hA (by unfold maxLen; omega) (by omega) ?_; intro v3 w3 hA3; have hF := hny _ _ hA3; clear hA3)
            all_goals go_roundw
            case rel => exact ⟨i, k + 1, f2, _, rfl, by go_num, by omega, by omega, by omega, hF, HV2, by simp; omega⟩
            case measure => simp [intOf]; omega
        · obtain rfl : k = nb := by omega
          have HV2 : Hid ((acc ++ [x]) ++ mergeT f2 (a.drop (i + 1)) (b.drop k) = M) := Lib.hid (by
            have hdb : b.drop k = [] := List.drop_eq_nil_of_le (by have := HNB.out; omega)
            rw [← HV.out, hda, hdb, mergeT_x]; simp)
          clear HV hda hA
          go_wp2_with fail
          go_quiet (fail)
          have hA := hd nq
          go_wp2_with (at_builtin; refine appGn eltStrs rfl _ _ rfl [.string ⟨x.toArray⟩] 1 1 _ _ rfl rfl rfl rfl (by simp [Value.oneCell']) hA (by unfold maxLen; omega) (by omega) ?_; intro v3 w3 hA3; have hF := hnx _ _ hA3; clear hA3)
          all_goals go_roundw
          case rel => exact ⟨i + 1, k, f2, _, by go_num, rfl, by omega, by omega, by omega, hF, HV2, by simp; omega⟩
          case measure => simp [intOf]; omega
      · obtain rfl : i = na := by omega
        have hda : a.drop i = [] := List.drop_eq_nil_of_le (by have := HNA.out; omega)
        rcases Nat.lt_or_ge k nb with hkb | hkb
        · have hkb' : k < b.length := by have := HNB.out; omega
          obtain ⟨y, hy⟩ : ∃ y, y = b[k] := ⟨_, rfl⟩
          have hdb := drop_cons b k hkb'
          rw [← hy] at hdb
          have hcy := HCB.out k (.string ⟨y.toArray⟩) (by simp [strCs, hkb', hy])
          have hcy2 := hA.keep.cell hcy (fun e => by cases e)
          have hny := strs_snoc (B := w.heap.size) (w := w2) (v := .slice none 0 0) (n := 0) (xs := []) acc y
          clear hcy hy hkb'
          have tk1 : ((k : Int) == (nb : Int)) = false := by rw [beq_eq_false_iff_ne]; omega
          have tk2 : (k == nb) = false := by rw [beq_eq_false_iff_ne]; omega
          have tk3 : decide (k = nb) = false := decide_eq_false (by omega)
          obtain ⟨f2, rfl⟩ : ∃ f2, fu = f2 + 1 := ⟨fu - 1, by omega⟩
          have HV2 : Hid ((acc ++ [y]) ++ mergeT f2 (a.drop i) (b.drop (k + 1)) = M) := Lib.hid (by rw [← HV.out, hda, hdb, mergeT_y]; simp)
          clear HV hda hdb hA
          go_wp2_with fail
          go_quiet (fail)
          have hA := hd nq
          go_wp2_with (at_builtin; refine appGn eltStrs rfl _ _ rfl [.string ⟨y.toArray⟩] 1 1 _ _ rfl rfl rfl rfl (by simp [Value.oneCell']) hA (by unfold maxLen; omega) (by omega) ?_; intro v3 w3 hA3; have hF := hny _ _ hA3; clear hA3)
          all_goals go_roundw
          case rel => exact ⟨i, k + 1, f2, _, rfl, by go_num, by omega, by omega, by omega, hF, HV2, by simp; omega⟩
          case measure => simp [intOf]; omega
        · obtain rfl : k = nb := by omega
          have HE : Hid (acc = M) := Lib.hid (by
            have hdb : b.drop k = [] := List.drop_eq_nil_of_le (by have := HNB.out; omega)
            rw [← HV.out, hda, hdb, mergeT_end, List.append_nil])
          have hF1 := hA.own
          have hF2 := hb12.trans (hA.fresh.mono hb12.size)
          rw [Nat.zero_add, List.nil_append] at hF1
          clear HV hda hd hA
          go_wp2_with fail
          go_ret
          exact ⟨_, rfl, by rw [← HE.out]; exact hF1, hF2⟩
end Go.Proofs.YtpfamfkdfbcooaaGreatDoor
