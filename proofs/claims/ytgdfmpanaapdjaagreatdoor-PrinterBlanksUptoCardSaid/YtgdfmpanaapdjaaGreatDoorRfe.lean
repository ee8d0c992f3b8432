/- The document's answer: Quote. -/
import Derived.Test.YtgdfmpanaapdjaaGreatDoorRfd
import Derived.Deep.RegionLaw
set_option linter.unusedVariables false
set_option linter.unusedSimpArgs false
namespace Go.Proofs.YtgdfmpanaapdjaaGreatDoor
open Go Go.RowKit Go.Proofs
section
variable {ops : Array Oper} {o : Oper} {a : Act} {K : Act → World → Prop} {Q : Exit → Act → World → Prop} {E : Prop}
/-- append(v, b1, ..) at a step of a region that draws its order. -/
theorem stepN {B : Nat} {w : World} {v : Value} {bs l : List UInt8} {W : World} {v1 : Value} (hgd : o.guard = none) (s x : Operand) (ho : o.op = .call { callee := .builtin .append, args := #[s, x], argTypes := #[42, 42] })
    (l2 : List UInt8) (m : Nat) (arr : Array Value) (hm : m = l2.length) (hs : a.eval s = v1) (hx : a.eval x = .slice (some ⟨W.heap.size, 0, none⟩) m m) (harr : arr.toList = Lib.byteCells l2)
    (hA : App B w v bs W v1 l) (hl : bs.length + l.length + l2.length ≤ 140737488355328)
    (h : ∀ v2 w2, App B w v bs w2 v2 (l ++ l2) → K (a.put o.dst v2) w2) :
    if Region.wanted o (yielded ops a.tmps) = true then Oper.wp Tryz.prog o a (W.alloc (.cells arr 5)) K Q else E := by
  have hw : Region.wanted o (yielded ops a.tmps) = true := by simp [Region.wanted, hgd]
  rw [if_pos hw]
  obtain ⟨i0, hi, hz0, hz1, hz2⟩ := info_parts info_u8
  subst hm
  have hown := hA.own
  have hlen : (bs ++ l).length + l2.length ≤ 140737488355328 := by rw [List.length_append]; exact hl
  have hnews : ∀ j u, (Lib.byteCells l2)[j]? = some u → (W.alloc (.cells arr 5)).cell? ((⟨W.heap.size, 0, none⟩ : Addr).add j) = some u := by
    intro j u hu
    have hc := heap_alloc_new W (.cells arr 5)
    have ha : (⟨W.heap.size, 0, none⟩ : Addr).add j = ⟨W.heap.size, j, none⟩ := by unfold Addr.add; split <;> simp_all
    rw [ha]
    simp only [World.cell?, hc]
    rw [← Array.getElem?_toList, harr, hu]
    rfl
  obtain ⟨v', w', hr, h2, h3, _, h5⟩ := run_append_own_at (P := Tryz.prog) (W.alloc (.cells arr 5)) B 42 o.type 5 i0 (.int .u8 0) 1 1 Tryz.underlying42 hi hz0 hz1 hz2 rfl (by decide) v1 _ _ (hown.alloc _) ⟨W.heap.size, 0, none⟩ l2.length l2.length (Lib.byteCells l2) (by rw [Lib.byteCells_length]; omega) hnews (Lib.byteCells_one l2) (by unfold maxLen; omega) (by omega) (by have := hA.base; simp; omega)
  have hnx : App B w v bs w' v' (l ++ l2) := by
    refine hA.next (l2 := l2) ?_ (World.grownBy.trans (World.grownBy_alloc W _ _) h3) ?_
    · unfold OwnB; rw [List.length_append, Lib.byteCells_append]; exact h2
    · rcases h5 with hat | hat
      · exact .inl hat
      · exact .inr ⟨_, hat, by simp⟩
  unfold Oper.wp execOp
  simp only [ho, resolve, invoke, builtin, Sem.run_bind, Sem.run_pure, Result.andThen_ok, List.map_toArray, List.map_cons, List.map_nil, hs, hx, hr]
  exact h v' w' hnx
end
theorem and15n (n : Nat) (h : n < 256) : bits BinOp.and IntKind.u8 (n : Int) 15 = ((n % 16 : Nat) : Int) := and15' ⟨n, h⟩
set_option maxHeartbeats 4000000 in
set_option maxRecDepth 100000 in
theorem refQuote_any (B : Nat) (w : World) (v : Value) (HO : OwnB B w v []) (hB : B ≤ w.heap.size) (s : List UInt8) (hl : s.length ≤ 100000000) :
    Calls Tryz.prog 52 #[v, .string ⟨s.toArray⟩] w fun e w' => ∃ v', e = .returned v' ∧ App B w v [] w' v' (quoteT s) := by
  have hA00 := App.start HO hB
  go_enter Tryz.func52, Tryz.ntmps52
  go_wp2_with (at_builtin; refine appN rfl _ _ rfl [34] 1 _ rfl rfl rfl rfl hA00 (by simp) ?_; intro v1 w1 hA01)
  clear hA00
  go_loopw [0, 6] (fun b i wr => ∃ (k : Nat), k ≤ s.length ∧ i = .int .i64 k ∧ App B w v [] wr b (34 :: (s.take k).flatMap qb)) (fun _ i _ => s.length - (intOf i).toNat)
  case atStart => exact ⟨0, Nat.zero_le _, rfl, hA01⟩
  case round =>
    clear hA01
    obtain ⟨k, hk, rfl, hA⟩ := hrel
    have hsz : (34 :: (s.take k).flatMap qb).length ≤ 1 + 6 * k := by
      have := flatMap_length (s.take k)
      rw [List.length_take, Nat.min_eq_left hk] at this
      simp only [List.length_cons]; omega
    rcases Nat.lt_or_ge k s.length with hlt | hge
    · obtain ⟨x, hx⟩ : ∃ x, x = s[k] := ⟨_, rfl⟩
      obtain ⟨P, hP⟩ : ∃ P, P = 34 :: (s.take k).flatMap qb := ⟨_, rfl⟩
      have hnext : ∀ W V, App B w v [] W V (P ++ qb x) → App B w v [] W V (34 :: (s.take (k + 1)).flatMap qb) := by
        intro W V hh
        have e : (34 :: (s.take (k + 1)).flatMap qb) = P ++ qb x := by
          rw [List.take_succ_eq_append_getElem hlt, List.flatMap_append, hx, hP]; simp
        rw [e]; exact hh
      rw [← hP] at hA hsz
      have hby : ∀ h, ((⟨s.toArray⟩ : ByteArray)[k]'h).toNat = x.toNat := fun h => by rw [hx]; rfl
      clear hP hx
      by_cases h34 : x = 34
      · subst h34
        have HQ : Hid (qb 34 = [92, 34]) := Lib.hid (by decide)
        have hby' : ∀ h, ((⟨s.toArray⟩ : ByteArray)[k]'h).toNat = 34 := hby
        clear hby
        go_wp2_with (at_builtin; refine appN rfl _ _ rfl [92, 34] 2 _ rfl rfl rfl rfl hA (by simp; omega) ?_; intro v2 w2 hA2; rw [← HQ.out] at hA2; have hF := hnext _ _ hA2; clear hA2)
        all_goals go_roundw
        case rel => exact ⟨k + 1, by omega, by go_num, hF⟩
        case measure => simp [intOf]; omega
      by_cases h92 : x = 92
      · subst h92
        have HQ : Hid (qb 92 = [92, 92]) := Lib.hid (by decide)
        have hby' : ∀ h, ((⟨s.toArray⟩ : ByteArray)[k]'h).toNat = 92 := hby
        clear hby
        go_wp2_with (at_builtin; refine appN rfl _ _ rfl [92, 92] 2 _ rfl rfl rfl rfl hA (by simp; omega) ?_; intro v2 w2 hA2; rw [← HQ.out] at hA2; have hF := hnext _ _ hA2; clear hA2)
        all_goals go_roundw
        case rel => exact ⟨k + 1, by omega, by go_num, hF⟩
        case measure => simp [intOf]; omega
      by_cases h8 : x = 8
      · subst h8
        have HQ : Hid (qb 8 = [92, 98]) := Lib.hid (by decide)
        have hby' : ∀ h, ((⟨s.toArray⟩ : ByteArray)[k]'h).toNat = 8 := hby
        clear hby
        go_wp2_with (at_builtin; refine appN rfl _ _ rfl [92, 98] 2 _ rfl rfl rfl rfl hA (by simp; omega) ?_; intro v2 w2 hA2; rw [← HQ.out] at hA2; have hF := hnext _ _ hA2; clear hA2)
        all_goals go_roundw
        case rel => exact ⟨k + 1, by omega, by go_num, hF⟩
        case measure => simp [intOf]; omega
      by_cases h12 : x = 12
      · subst h12
        have HQ : Hid (qb 12 = [92, 102]) := Lib.hid (by decide)
        have hby' : ∀ h, ((⟨s.toArray⟩ : ByteArray)[k]'h).toNat = 12 := hby
        clear hby
        go_wp2_with (at_builtin; refine appN rfl _ _ rfl [92, 102] 2 _ rfl rfl rfl rfl hA (by simp; omega) ?_; intro v2 w2 hA2; rw [← HQ.out] at hA2; have hF := hnext _ _ hA2; clear hA2)
        all_goals go_roundw
        case rel => exact ⟨k + 1, by omega, by go_num, hF⟩
        case measure => simp [intOf]; omega
      by_cases h10 : x = 10
      · subst h10
        have HQ : Hid (qb 10 = [92, 110]) := Lib.hid (by decide)
        have hby' : ∀ h, ((⟨s.toArray⟩ : ByteArray)[k]'h).toNat = 10 := hby
        clear hby
        go_wp2_with (at_builtin; refine appN rfl _ _ rfl [92, 110] 2 _ rfl rfl rfl rfl hA (by simp; omega) ?_; intro v2 w2 hA2; rw [← HQ.out] at hA2; have hF := hnext _ _ hA2; clear hA2)
        all_goals go_roundw
        case rel => exact ⟨k + 1, by omega, by go_num, hF⟩
        case measure => simp [intOf]; omega
      by_cases h13 : x = 13
      · subst h13
        have HQ : Hid (qb 13 = [92, 114]) := Lib.hid (by decide)
        have hby' : ∀ h, ((⟨s.toArray⟩ : ByteArray)[k]'h).toNat = 13 := hby
        clear hby
        go_wp2_with (at_builtin; refine appN rfl _ _ rfl [92, 114] 2 _ rfl rfl rfl rfl hA (by simp; omega) ?_; intro v2 w2 hA2; rw [← HQ.out] at hA2; have hF := hnext _ _ hA2; clear hA2)
        all_goals go_roundw
        case rel => exact ⟨k + 1, by omega, by go_num, hF⟩
        case measure => simp [intOf]; omega
      by_cases h9 : x = 9
      · subst h9
        have HQ : Hid (qb 9 = [92, 116]) := Lib.hid (by decide)
        have hby' : ∀ h, ((⟨s.toArray⟩ : ByteArray)[k]'h).toNat = 9 := hby
        clear hby
        go_wp2_with (at_builtin; refine appN rfl _ _ rfl [92, 116] 2 _ rfl rfl rfl rfl hA (by simp; omega) ?_; intro v2 w2 hA2; rw [← HQ.out] at hA2; have hF := hnext _ _ hA2; clear hA2)
        all_goals go_roundw
        case rel => exact ⟨k + 1, by omega, by go_num, hF⟩
        case measure => simp [intOf]; omega
      obtain ⟨n, hn⟩ : ∃ n, n = x.toNat := ⟨_, rfl⟩
      have hn256 : n < 256 := by have := x.toNat_lt; omega
      have t34 : ((n : Int) == 34) = false := by rw [beq_eq_false_iff_ne]; intro h; apply h34; apply UInt8.toNat_inj.1; show x.toNat = 34; omega
      have t92 : ((n : Int) == 92) = false := by rw [beq_eq_false_iff_ne]; intro h; apply h92; apply UInt8.toNat_inj.1; show x.toNat = 92; omega
      have t8 : ((n : Int) == 8) = false := by rw [beq_eq_false_iff_ne]; intro h; apply h8; apply UInt8.toNat_inj.1; show x.toNat = 8; omega
      have t12 : ((n : Int) == 12) = false := by rw [beq_eq_false_iff_ne]; intro h; apply h12; apply UInt8.toNat_inj.1; show x.toNat = 12; omega
      have t10 : ((n : Int) == 10) = false := by rw [beq_eq_false_iff_ne]; intro h; apply h10; apply UInt8.toNat_inj.1; show x.toNat = 10; omega
      have t13 : ((n : Int) == 13) = false := by rw [beq_eq_false_iff_ne]; intro h; apply h13; apply UInt8.toNat_inj.1; show x.toNat = 13; omega
      have t9 : ((n : Int) == 9) = false := by rw [beq_eq_false_iff_ne]; intro h; apply h9; apply UInt8.toNat_inj.1; show x.toNat = 9; omega
      rw [← hn] at hby
      have hqx : qb x = if 32 ≤ n ∧ n ≠ 127 then [x] else [92, 117, 48, 48, hexd (n / 16), hexd (n % 16)] := by
        unfold qb
        rw [if_neg h34, if_neg h92, if_neg h8, if_neg h12, if_neg h10, if_neg h13, if_neg h9, ← hn]
        have e : x ≠ 127 ↔ n ≠ 127 := by
          rw [hn]
          exact ⟨fun h h2 => h (UInt8.toNat_inj.1 h2), fun h h2 => h (by rw [h2]; rfl)⟩
        by_cases h : 32 ≤ n ∧ n ≠ 127
        · rw [if_pos h, if_pos ⟨h.1, e.2 h.2⟩]
        · rw [if_neg h, if_neg (fun h2 => h ⟨h2.1, e.1 h2.2⟩)]
      have HN := Lib.hid hn
      clear hn h34 h92 h8 h12 h10 h13 h9
      obtain ⟨lo, hlo⟩ : ∃ m, m = n % 16 := ⟨_, rfl⟩
      have hand := and15n n hn256
      obtain ⟨hi4, hhi4⟩ : ∃ m, m = n / 16 := ⟨_, rfl⟩
      have hdiv : (n : Int) / 16 = (hi4 : Int) := by omega
      have hilt : (hi4 : Int) < 16 := by omega
      have hlot : (lo : Int) < 16 := by omega
      have hxl := hex_at hi4 (by omega)
      have hxr := hex_at lo (by omega)
      rw [← hhi4] at hqx
      clear hhi4
      rw [← hlo] at hand hqx
      have hlo16 : lo < 16 := by omega
      clear hlo
      rcases Nat.lt_or_ge n 32 with hs | hs
      · have HQ : Hid (qb x = [92, 117, 48, 48, hexd hi4, hexd lo]) := Lib.hid (by rw [hqx, if_neg (by omega)])
        clear hqx
        have t32 : decide ((n : Int) < 32) = true := decide_eq_true (by omega)
        go_wp2_with fail
        have hA := hA.below (Below.refl _ _).drew
        go_region_law ((refine stepN rfl (.tmp 72) (.tmp 81) rfl [92, 117, 48, 48, hexd hi4, hexd lo] 6 _ rfl (by simp [Act.eval, Act.put]) (by simp [Act.eval, Act.put]) rfl hA (by simp; omega) ?_; intro v2 w2 hA2; rw [← HQ.out] at hA2; have hF := hnext _ _ hA2; clear hA2))
        all_goals
          go_wp2_with fail
          go_roundw
          case rel => exact ⟨k + 1, by omega, by go_num, hF⟩
          case measure => simp [intOf]; omega
      have t32 : decide ((n : Int) < 32) = false := decide_eq_false (by omega)
      by_cases h127 : n = 127
      · have HQ : Hid (qb x = [92, 117, 48, 48, hexd hi4, hexd lo]) := Lib.hid (by rw [hqx, if_neg (by omega)])
        have t127 : ((n : Int) == 127) = true := by rw [beq_iff_eq]; omega
        clear hqx h127
        go_wp2_with fail
        have hA := hA.below (Below.refl _ _).drew
        go_region_law ((refine stepN rfl (.tmp 72) (.tmp 81) rfl [92, 117, 48, 48, hexd hi4, hexd lo] 6 _ rfl (by simp [Act.eval, Act.put]) (by simp [Act.eval, Act.put]) rfl hA (by simp; omega) ?_; intro v2 w2 hA2; rw [← HQ.out] at hA2; have hF := hnext _ _ hA2; clear hA2))
        all_goals
          go_wp2_with fail
          go_roundw
          case rel => exact ⟨k + 1, by omega, by go_num, hF⟩
          case measure => simp [intOf]; omega
      · have HQ : Hid (qb x = [x]) := Lib.hid (by rw [hqx, if_pos ⟨hs, h127⟩])
        have t127 : ((n : Int) == 127) = false := by rw [beq_eq_false_iff_ne]; omega
        clear hqx hxl hxr
        go_wp2_with (at_builtin; refine appN rfl _ _ rfl [x] 1 _ rfl rfl rfl (by rw [HN.out]; rfl) hA (by simp; omega) ?_; intro v2 w2 hA2; rw [← HQ.out] at hA2; have hF := hnext _ _ hA2; clear hA2)
        all_goals go_roundw
        case rel => exact ⟨k + 1, by omega, by go_num, hF⟩
        case measure => simp [intOf]; omega
    · have HF : Hid (quoteT s = (34 :: (s.take k).flatMap qb) ++ [34]) := Lib.hid (by rw [List.take_of_length_le hge]; rfl)
      obtain ⟨P, hP⟩ : ∃ P, P = 34 :: (s.take k).flatMap qb := ⟨_, rfl⟩
      rw [← hP] at HF hA hsz
      clear hP
      go_wp2_with (at_builtin; refine appN rfl _ _ rfl [34] 1 _ rfl rfl rfl rfl hA (by simp; omega) ?_; intro v2 w2 hA2; rw [← HF.out] at hA2)
      go_ret
      exact ⟨_, rfl, hA2⟩
end Go.Proofs.YtgdfmpanaapdjaaGreatDoor
