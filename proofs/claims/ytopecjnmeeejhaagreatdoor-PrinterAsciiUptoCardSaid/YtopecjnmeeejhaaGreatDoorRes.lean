/- The document's answer: Escape where nothing but ASCII is let by. -/
import Derived.Test.YtopecjnmeeejhaaGreatDoorPts
import Derived.Lib.SlBytesRow
import Derived.Lib.BufferRead
set_option linter.unusedVariables false
set_option linter.unusedSimpArgs false
namespace Go.Proofs.YtopecjnmeeejhaaGreatDoor
open Go Go.RowKit Go.Proofs
theorem convOwn {B : Nat} {w : World} {v : Value} {bs : List UInt8} (h : OwnB B w v bs) : (convert 42 9 v).run Tryz.prog w = .ok (.string ⟨bs.toArray⟩) w := by
  have hO : OwnG 5 1 B w v bs.length (Lib.byteCells bs) := h
  rcases h.2 with ⟨rfl, h0⟩ | ⟨g, cap, cur, rfl, hb, hgg, hnc, hcm, hcs, htake⟩
  · have : bs = [] := List.eq_nil_of_length_eq_zero h0
    subst this
    exact Lib.run_convert_nil_bytes w _ _ _ 0 Tryz.underlying42 Tryz.underlying5 Tryz.underlying9
  · refine Lib.run_convert_whole w _ _ _ Tryz.underlying42 Tryz.underlying5 Tryz.underlying9 g 0 ⟨bs.toArray⟩ ?_ cap
    intro i hi
    have hi' : i < bs.length := hi
    obtain ⟨_, _, hx⟩ := hO.cells rfl
    obtain ⟨g', hg', _, hx2⟩ := hx (by rw [Lib.byteCells_length]; omega)
    injection hg' with hg'
    injection hg' with hg' _ _
    subst hg'
    rw [Nat.zero_add]
    exact hx2 i _ (by simp [Lib.byteCells, hi']; rfl)
theorem App.rebase {B : Nat} {w w2 w1 : World} {v1 : Value} {l : List UInt8} (hb : Below w.heap.size w w2) (h : App B w2 (.slice none 0 0) [] w1 v1 l) : App B w (.slice none 0 0) [] w1 v1 l :=
  ⟨h.own, (Keep.of_below hb).trans h.keep (fun _ _ e => e), by
    rcases h.at_ with h1 | ⟨b, h1, h2⟩
    · exact .inl h1
    · exact .inr ⟨b, h1, Nat.le_trans hb.size h2⟩, h.base⟩
theorem App.fresh {B : Nat} {w w1 : World} {v1 : Value} {l : List UInt8} (h : App B w (.slice none 0 0) [] w1 v1 l) : Below w.heap.size w w1 :=
  h.keep.below (Nat.le_refl _) (fun k _ e => by cases e)
theorem escFrom_pts (s : ByteArray) : ∀ f p, escFrom s f p = (ptsFrom s f p).flatMap escR
  | 0, _ => rfl
  | f + 1, p => by
    rw [escFrom, ptsFrom]
    split
    · rw [List.flatMap_cons, escFrom_pts s f]
    · rfl
theorem escA_pts (q : List UInt8) : escA q = (ptsT ⟨q.toArray⟩).flatMap escR := escFrom_pts _ _ _
theorem ptsFrom_len (s : ByteArray) : ∀ f p, (ptsFrom s f p).length ≤ s.size - p
  | 0, _ => Nat.zero_le _
  | f + 1, p => by
    rw [ptsFrom]
    split
    · rename_i h
      have h1 := width_pos s p h
      have h2 := ptsFrom_len s f (p + (Utf8.decode s p).2)
      rw [List.length_cons]; omega
    · exact Nat.zero_le _
theorem ptsFrom_le (s : ByteArray) : ∀ f p, ∀ x ∈ ptsFrom s f p, x ≤ 2097151
  | 0, _ => by simp [ptsFrom]
  | f + 1, p => by
    rw [ptsFrom]
    split
    · intro x hx
      rcases List.mem_cons.1 hx with rfl | hx
      · exact decode_le2 s p
      · exact ptsFrom_le s f _ x hx
    · simp
theorem flatMap_escR_length (l : List Nat) : (l.flatMap escR).length ≤ 12 * l.length := by
  induction l with
  | nil => simp
  | cons a l ih =>
    have := escR_length a
    rw [List.flatMap_cons, List.length_append, List.length_cons]
    omega
set_option maxHeartbeats 2000000 in
set_option maxRecDepth 100000 in
theorem refEscape_ascii (w : World) (s : List UInt8) (hl : s.length ≤ 10000000) :
    Calls Tryz.prog 21 #[.string ⟨s.toArray⟩, .bool true] w fun e w' => ∃ v', e = .returned v' ∧ App w.heap.size w (.slice none 0 0) [] w' v' (escA (quoteT s)) := by
  have hq1 : (quoteT s).length ≤ 60000002 := by
    have := flatMap_length s
    unfold quoteT
    rw [List.length_cons, List.length_append, List.length_singleton]
    omega
  rw [escA_pts]
  obtain ⟨L, hL⟩ : ∃ L, L = ptsT ⟨(quoteT s).toArray⟩ := ⟨_, rfl⟩
  have hLl : L.length ≤ 60000002 := by
    have := ptsFrom_len ⟨(quoteT s).toArray⟩ (quoteT s).length 0
    have h2 : (⟨(quoteT s).toArray⟩ : ByteArray).size = (quoteT s).length := rfl
    rw [hL]; unfold ptsT; rw [h2] at this ⊢; omega
  have hLp : ∀ x ∈ L, x ≤ 2097151 := by rw [hL]; exact ptsFrom_le _ _ _
  have HQuote := refQuote_any w.heap.size w _ (OwnB.nil _ _) (Nat.le_refl _) s (by omega)
  obtain ⟨q, hq⟩ : ∃ q, q = quoteT s := ⟨_, rfl⟩
  rw [← hq] at hq1 hL HQuote ⊢
  rw [← hL]
  have HL := Lib.hid hL
  have HLP := Lib.hid hLp
  have HQ := Lib.hid HQuote
  clear hq hL hLp HQuote
  go_enter Tryz.func21, Tryz.ntmps21
  go_wp2_with fail
  refine HQ.out.mono ?_
  rintro e' w1 ⟨v1, rfl, hA⟩
  have hcv := convOwn hA.own
  rw [List.nil_append] at hcv
  have hb1 := hA.fresh
  clear hA HQ
  go_wp2_with fail
  refine (points_any ⟨q.toArray⟩ w1 (by show q.length < _; omega)).mono ?_
  rintro e' w2 ⟨v2, rfl, hP⟩
  rw [← HL.out] at hP
  clear hcv HL
  obtain ⟨A2, c2, rfl⟩ := hP.own.shape
  obtain ⟨-, -, hcell⟩ := hP.own.cells rfl
  have hb2 := hb1.trans (hP.fresh.mono hb1.size)
  have hz : 0 + L.length = L.length := Nat.zero_add _
  rw [hz] at hcell ⊢
  clear hP hz hb1
  have HC := Lib.hid hcell
  clear hcell
  have hA0 := App.start (OwnB.nil w.heap.size w2) hb2.size
  go_wp2_with fail
  go_loopw [6, 8] (fun b i wr => ∃ (k : Nat), k ≤ L.length ∧ i = .int .i64 k ∧ App w.heap.size w2 (.slice none 0 0) [] wr b ((L.take k).flatMap escR)) (fun _ i _ => L.length - (intOf i).toNat)
  case atStart => exact ⟨0, Nat.zero_le _, rfl, hA0⟩
  case round =>
    clear hA0
    obtain ⟨k, hk, rfl, hA⟩ := hrel
    rcases Nat.lt_or_ge k L.length with hlt | hge
    · obtain ⟨p, hp⟩ : ∃ p, p = L[k] := ⟨_, rfl⟩
      obtain ⟨P, hP⟩ : ∃ P, P = (L.take k).flatMap escR := ⟨_, rfl⟩
      have hnext : ∀ W V, App w.heap.size w2 (.slice none 0 0) [] W V (P ++ escR p) → App w.heap.size w2 (.slice none 0 0) [] W V ((L.take (k + 1)).flatMap escR) := by
        intro W V hh
        have e : (L.take (k + 1)).flatMap escR = P ++ escR p := by
          rw [List.take_succ_eq_append_getElem hlt, List.flatMap_append, hp, hP]; simp
        rw [e]; exact hh
      have hPl : P.length ≤ 12 * k := by
        have := flatMap_escR_length (L.take k)
        rw [List.length_take, Nat.min_eq_left hk] at this
        rw [hP]; exact this
      have hple : p ≤ 2097151 := HLP.out p (by rw [hp]; exact List.getElem_mem _)
      obtain ⟨g, rfl, -, hx⟩ := HC.out (by simp [intCs]; omega)
      have hcg := hx k (.int .i64 (p : Int)) (by simp [intCs, hlt, hp])
      have hcr := hA.keep.cell hcg (fun e => by cases e)
      rw [← hP] at hA
      clear hP hp hx hcg
      rcases Nat.lt_or_ge p 128 with h128 | h128
      · have HQ : Hid (escR p = [UInt8.ofNat p]) := Lib.hid (by unfold escR; rw [if_pos h128])
        have t1 : decide ((p : Int) < 128) = true := decide_eq_true (by omega)
        go_wp2_with (at_builtin; refine appN rfl _ _ rfl [UInt8.ofNat p] 1 _ rfl rfl rfl (by simp [Lib.byteCells]; omega) hA (by simp; omega) ?_; intro v3 w3 hA3; rw [← HQ.out] at hA3; have hF := hnext _ _ hA3; clear hA3)
        all_goals go_roundw
        case rel => exact ⟨k + 1, by omega, by go_num, hF⟩
        case measure => simp [intOf]; omega
      · have t1 : decide ((p : Int) < 128) = false := decide_eq_false (by omega)
        rcases Nat.lt_or_ge p 65536 with hs | hs
        · have HQ : Hid (escR p = unitT p) := Lib.hid (by unfold escR; rw [if_neg (by omega), if_neg (by omega)])
          have t2 : decide ((p : Int) < 65536) = true := decide_eq_true (by omega)
          go_wp2_with fail
          refine (refUnit_any w.heap.size w2 _ [] P _ _ hA p hs (by simp; omega)).mono ?_
          rintro e' w3 ⟨v3, rfl, hA3⟩
          rw [← HQ.out] at hA3
          have hF := hnext _ _ hA3
          clear hA3
          go_wp2_with fail
          all_goals go_roundw
          case rel => exact ⟨k + 1, by omega, by go_num, hF⟩
          case measure => simp [intOf]; omega
        · have HQ : Hid (escR p = unitT (55296 + (p - 65536) / 1024) ++ unitT (56320 + (p - 65536) % 1024)) := Lib.hid (by unfold escR; rw [if_neg (by omega), if_pos (by omega)])
          have t2 : decide ((p : Int) < 65536) = false := decide_eq_false (by omega)
          have hand : bits BinOp.and IntKind.i64 ((p : Int) - 65536) 1023 = (((p - 65536) % 1024 : Nat) : Int) := by
            have := and_low 10 (by omega) ((p : Int) - 65536)
            rw [show ((2 : Int) ^ 10 - 1) = 1023 from by decide, show ((2 : Int) ^ 10) = 1024 from by decide] at this
            rw [this]; omega
          obtain ⟨d, hd⟩ : ∃ d, d = (p - 65536) % 1024 := ⟨_, rfl⟩
          have hd1024 : d < 1024 := by omega
          obtain ⟨c, hc⟩ : ∃ c, c = 55296 + (p - 65536) / 1024 := ⟨_, rfl⟩
          have hci : (55296 : Int) + ((p : Int) - 65536) / 1024 = (c : Int) := by omega
          have hc2 : c < 65536 := by omega
          rw [← hd] at hand
          rw [← hc, ← hd] at HQ
          have HCI := Lib.hid hci
          clear hc hci hd
          go_wp2_with fail
          rw [HCI.out]
          refine (refUnit_any w.heap.size w2 _ [] P _ _ hA c hc2 (by simp; omega)).mono ?_
          rintro e' w3 ⟨v3, rfl, hA3⟩
          go_wp2_with fail
          rw [show (56320 : Int) + (d : Int) = ((56320 + d : Nat) : Int) from by omega]
          refine (refUnit_any w.heap.size w2 _ [] _ _ _ hA3 (56320 + d) (by omega) (by rw [List.length_append]; show 0 + (_ + 6) + 6 ≤ _; omega)).mono ?_
          rintro e' w4 ⟨v4, rfl, hA4⟩
          rw [List.append_assoc, ← HQ.out] at hA4
          have hF := hnext _ _ hA4
          clear hA3 hA4
          go_wp2_with fail
          all_goals go_roundw
          case rel => exact ⟨k + 1, by omega, by go_num, hF⟩
          case measure => simp [intOf]; omega
    · rw [List.take_of_length_le hge] at hA
      have hF := hA.rebase hb2
      clear hA
      go_wp2_with fail
      go_ret
      exact ⟨_, rfl, hF⟩
theorem refEscape_any (w : World) (s : List UInt8) (asc : Bool) (hl : s.length ≤ 10000000) :
    Calls Tryz.prog 21 #[.string ⟨s.toArray⟩, .bool asc] w fun e w' => ∃ v', e = .returned v' ∧ App w.heap.size w (.slice none 0 0) [] w' v' (escT s asc) := by
  cases asc with
  | false => exact refEscape_plain w s (by omega)
  | true => exact refEscape_ascii w s hl
end Go.Proofs.YtopecjnmeeejhaaGreatDoor
