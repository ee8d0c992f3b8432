/- value.quote: a string's text. -/
import Derived.Test.YtopecjnmeeejhaaGreatDoorBls
import Derived.Test.YtopecjnmeeejhaaGreatDoorNuv
import Derived.LoopTactic
import Derived.Handy
set_option linter.unusedVariables false
set_option linter.unusedSimpArgs false
namespace Go.Proofs.YtopecjnmeeejhaaGreatDoor
open Go Go.RowKit Go.Proofs

def hexd (n : Nat) : UInt8 := [48, 49, 50, 51, 52, 53, 54, 55, 56, 57, 97, 98, 99, 100, 101, 102].getD n 48
/-- A byte within a string's text. -/
def qb (c : UInt8) : List UInt8 :=
  if c = 34 then [92, c] else if c = 92 then [92, c] else if c = 8 then [92, 98] else if c = 12 then [92, 102] else if c = 10 then [92, 110] else if c = 13 then [92, 114] else if c = 9 then [92, 116]
  else if 32 ≤ c.toNat ∧ c ≠ 127 then [c] else [92, 117, 48, 48, hexd (c.toNat / 16), hexd (c.toNat % 16)]
def quoteT (s : List UInt8) : List UInt8 := 34 :: (s.flatMap qb ++ [34])
theorem hex_at (j : Nat) (hj : j < 16) (h : j < ByteArray.size ⟨#[48, 49, 50, 51, 52, 53, 54, 55, 56, 57, 97, 98, 99, 100, 101, 102]⟩) : ((⟨#[48, 49, 50, 51, 52, 53, 54, 55, 56, 57, 97, 98, 99, 100, 101, 102]⟩ : ByteArray)[j]'h).toNat = (hexd j).toNat := by
  have key : ∀ j : Fin 16, ((⟨#[48, 49, 50, 51, 52, 53, 54, 55, 56, 57, 97, 98, 99, 100, 101, 102]⟩ : ByteArray)[j.val]'j.isLt).toNat = (hexd j.val).toNat := by decide
  exact key ⟨j, hj⟩
theorem qb_length (c : UInt8) : (qb c).length ≤ 6 := by
  unfold qb
  repeat' split
  all_goals simp
theorem flatMap_length (s : List UInt8) : (s.flatMap qb).length ≤ 6 * s.length := by
  induction s with
  | nil => simp
  | cons x s ih => have := qb_length x; simp only [List.flatMap_cons, List.length_append, List.length_cons]; omega
section
variable {b : Nat} {T : TypeId} {rest : List Value} {w : World} {v : Value} {bs : List UInt8}
set_option maxHeartbeats 4000000 in
set_option maxRecDepth 100000 in
theorem quote_any (hF : Fits T rest.length) (h : Bw b T rest w v bs) (s : List UInt8) (hl : bs.length + 6 * s.length + 2 ≤ 140737488355328) :
    Calls Tryz.prog 170 #[.pointer (some ⟨b, 0, none⟩), .string ⟨s.toArray⟩] w fun e w' => e = .returned (.tuple #[]) ∧ ∃ v', BApp b T w v bs w' v' (quoteT s) rest := by
  go_enter Tryz.func170, Tryz.ntmps170
  go_wp2_with fail
  refine (writeByte_any hF h 34 34 rfl (by omega)).mono ?_
  rintro e' w1 ⟨rfl, v1, hA⟩
  go_wp2_with fail
  go_loopw [10] (fun i wr => ∃ (k : Nat) (vk : Value), k ≤ s.length ∧ i = .int .i64 k ∧ BApp b T w v bs wr vk (34 :: (s.take k).flatMap qb) rest) (fun i _ => s.length - (intOf i).toNat)
  case atStart => exact ⟨0, v1, Nat.zero_le _, rfl, hA⟩
  case round =>
    clear hA
    obtain ⟨k, vk, hk, rfl, hA⟩ := hrel
    have hsz : (34 :: (s.take k).flatMap qb).length ≤ 1 + 6 * k := by
      have := flatMap_length (s.take k)
      rw [List.length_take, Nat.min_eq_left hk] at this
      simp only [List.length_cons]; omega
    rcases Nat.lt_or_ge k s.length with hlt | hge
    · obtain ⟨x, hx⟩ : ∃ x, x = s[k] := ⟨_, rfl⟩
      obtain ⟨P, hP⟩ : ∃ P, P = 34 :: (s.take k).flatMap qb := ⟨_, rfl⟩
      have hnext : ∀ W V l, l = P ++ qb x → BApp b T w v bs W V l rest → BApp b T w v bs W V (34 :: (s.take (k + 1)).flatMap qb) rest := by
        intro W V l el hh
        have e : (34 :: (s.take (k + 1)).flatMap qb) = P ++ qb x := by
          rw [List.take_succ_eq_append_getElem hlt, List.flatMap_append, hx, hP]; simp
        rw [e, ← el]; exact hh
      rw [← hP] at hA hsz
      have hby : ∀ h, ((⟨s.toArray⟩ : ByteArray)[k]'h).toNat = x.toNat := fun h => by rw [hx]; rfl
      clear hP hx
      have hA0 := hA
      clear hA
      by_cases h34 : x = 34
      · subst h34
        have hq : qb 34 = [92, 34] := by decide
        have hby' : ∀ h, ((⟨s.toArray⟩ : ByteArray)[k]'h).toNat = 34 := hby
        clear hby
        go_wp2_with fail
        refine (writeByte_any hF hA0.now 92 92 (by first | rfl | (simp; done)) (by simp only [List.length_append, List.length_cons, List.length_nil]; omega)).mono ?_
        rintro e' w1 ⟨rfl, v1, hB⟩
        have hA1 := hA0.join hB
        go_wp2_with fail
        refine (writeByte_any hF hA1.now 34 34 (by first | rfl | (simp; done)) (by simp only [List.length_append, List.length_cons, List.length_nil]; omega)).mono ?_
        rintro e' w2 ⟨rfl, v2, hB⟩
        have hA2 := hA1.join hB
        go_wp2_with fail
        all_goals go_roundw
        case rel => exact ⟨k + 1, v2, by omega, by go_num, hnext _ _ _ (by rw [hq]; first | done | simp) hA2⟩
        case measure => simp [intOf]; omega
      by_cases h92 : x = 92
      · subst h92
        have hq : qb 92 = [92, 92] := by decide
        have hby' : ∀ h, ((⟨s.toArray⟩ : ByteArray)[k]'h).toNat = 92 := hby
        clear hby
        go_wp2_with fail
        refine (writeByte_any hF hA0.now 92 92 (by first | rfl | (simp; done)) (by simp only [List.length_append, List.length_cons, List.length_nil]; omega)).mono ?_
        rintro e' w1 ⟨rfl, v1, hB⟩
        have hA1 := hA0.join hB
        go_wp2_with fail
        refine (writeByte_any hF hA1.now 92 92 (by first | rfl | (simp; done)) (by simp only [List.length_append, List.length_cons, List.length_nil]; omega)).mono ?_
        rintro e' w2 ⟨rfl, v2, hB⟩
        have hA2 := hA1.join hB
        go_wp2_with fail
        all_goals go_roundw
        case rel => exact ⟨k + 1, v2, by omega, by go_num, hnext _ _ _ (by rw [hq]; first | done | simp) hA2⟩
        case measure => simp [intOf]; omega
      by_cases h8 : x = 8
      · subst h8
        have hq : qb 8 = [92, 98] := by decide
        have hby' : ∀ h, ((⟨s.toArray⟩ : ByteArray)[k]'h).toNat = 8 := hby
        clear hby
        go_wp2_with fail
        refine (writeString_any hF hA0.now [92, 98] (by simp only [List.length_append, List.length_cons, List.length_nil]; omega)).mono ?_
        rintro e' w1 ⟨rfl, v1, hB⟩
        have hA1 := hA0.join hB
        go_wp2_with fail
        all_goals go_roundw
        case rel => exact ⟨k + 1, v1, by omega, by go_num, hnext _ _ _ (by rw [hq]; first | done | simp) hA1⟩
        case measure => simp [intOf]; omega
      by_cases h12 : x = 12
      · subst h12
        have hq : qb 12 = [92, 102] := by decide
        have hby' : ∀ h, ((⟨s.toArray⟩ : ByteArray)[k]'h).toNat = 12 := hby
        clear hby
        go_wp2_with fail
        refine (writeString_any hF hA0.now [92, 102] (by simp only [List.length_append, List.length_cons, List.length_nil]; omega)).mono ?_
        rintro e' w1 ⟨rfl, v1, hB⟩
        have hA1 := hA0.join hB
        go_wp2_with fail
        all_goals go_roundw
        case rel => exact ⟨k + 1, v1, by omega, by go_num, hnext _ _ _ (by rw [hq]; first | done | simp) hA1⟩
        case measure => simp [intOf]; omega
      by_cases h10 : x = 10
      · subst h10
        have hq : qb 10 = [92, 110] := by decide
        have hby' : ∀ h, ((⟨s.toArray⟩ : ByteArray)[k]'h).toNat = 10 := hby
        clear hby
        go_wp2_with fail
        refine (writeString_any hF hA0.now [92, 110] (by simp only [List.length_append, List.length_cons, List.length_nil]; omega)).mono ?_
        rintro e' w1 ⟨rfl, v1, hB⟩
        have hA1 := hA0.join hB
        go_wp2_with fail
        all_goals go_roundw
        case rel => exact ⟨k + 1, v1, by omega, by go_num, hnext _ _ _ (by rw [hq]; first | done | simp) hA1⟩
        case measure => simp [intOf]; omega
      by_cases h13 : x = 13
      · subst h13
        have hq : qb 13 = [92, 114] := by decide
        have hby' : ∀ h, ((⟨s.toArray⟩ : ByteArray)[k]'h).toNat = 13 := hby
        clear hby
        go_wp2_with fail
        refine (writeString_any hF hA0.now [92, 114] (by simp only [List.length_append, List.length_cons, List.length_nil]; omega)).mono ?_
        rintro e' w1 ⟨rfl, v1, hB⟩
        have hA1 := hA0.join hB
        go_wp2_with fail
        all_goals go_roundw
        case rel => exact ⟨k + 1, v1, by omega, by go_num, hnext _ _ _ (by rw [hq]; first | done | simp) hA1⟩
        case measure => simp [intOf]; omega
      by_cases h9 : x = 9
      · subst h9
        have hq : qb 9 = [92, 116] := by decide
        have hby' : ∀ h, ((⟨s.toArray⟩ : ByteArray)[k]'h).toNat = 9 := hby
        clear hby
        go_wp2_with fail
        refine (writeString_any hF hA0.now [92, 116] (by simp only [List.length_append, List.length_cons, List.length_nil]; omega)).mono ?_
        rintro e' w1 ⟨rfl, v1, hB⟩
        have hA1 := hA0.join hB
        go_wp2_with fail
        all_goals go_roundw
        case rel => exact ⟨k + 1, v1, by omega, by go_num, hnext _ _ _ (by rw [hq]; first | done | simp) hA1⟩
        case measure => simp [intOf]; omega
      obtain ⟨n, hn⟩ : ∃ n, n = x.toNat := ⟨_, rfl⟩
      have hn256 : n < 256 := by have := x.toNat_lt; omega
      have t34 : ((n : Int) == 34) = false := by rw [beq_eq_false_iff_ne]; intro h; apply h34; apply UInt8.toNat_inj.1; show x.toNat = 34; omega
      have t92 : ((n : Int) == 92) = false := by rw [beq_eq_false_iff_ne]; intro h; apply h92; apply UInt8.toNat_inj.1; show x.toNat = 92; omega
      have t8 : ((n : Int) == 8) = false := by rw [beq_eq_false_iff_ne]; intro h; apply h8; apply UInt8.toNat_inj.1; show x.toNat = 8; omega
      have t12 : ((n : Int) == 12) = false := by rw [beq_eq_false_iff_ne]; intro h; apply h12; apply UInt8.toNat_inj.1; show x.toNat = 12; omega
      have t10 : ((n : Int) == 10) = false := by rw [beq_eq_false_iff_ne]; intro h; apply h10; apply UInt8.toNat_inj.1; show x.toNat = 10; omega
      have t13 : ((n : Int) == 13) = false := by rw [beq_eq_false_iff_ne]; intro h; apply h13; apply UInt8.toNat_inj.1; show x.toNat = 13; omega
      have t9 : ((n : Int) == 9) = false := by rw [beq_eq_false_iff_ne]; intro h; apply h9; apply UInt8.toNat_inj.1; show x.toNat = 9; omega
      rw [← hn] at hby
      have hqx : qb x = if 32 ≤ n ∧ n ≠ 127 then [x] else [92, 117, 48, 48, hexd (n / 16), hexd (n % 16)] := by
        unfold qb
        rw [if_neg h34, if_neg h92, if_neg h8, if_neg h12, if_neg h10, if_neg h13, if_neg h9, ← hn]
        have e : x ≠ 127 ↔ n ≠ 127 := by
          rw [hn]
          exact ⟨fun h h2 => h (UInt8.toNat_inj.1 h2), fun h h2 => h (by rw [h2]; rfl)⟩
        by_cases h : 32 ≤ n ∧ n ≠ 127
        · rw [if_pos h, if_pos ⟨h.1, e.2 h.2⟩]
        · rw [if_neg h, if_neg (fun h2 => h ⟨h2.1, e.1 h2.2⟩)]
      have HN := Lib.hid hn
      clear hn h34 h92 h8 h12 h10 h13 h9
      have hxl := hex_at (n / 16) (by omega)
      have hxr := hex_at (n % 16) (by omega)
      rcases Nat.lt_or_ge n 32 with hs | hs
      · have hq : qb x = [92, 117, 48, 48, hexd (n / 16), hexd (n % 16)] := by rw [hqx, if_neg (by omega)]
        clear hqx
        go_wp2_with fail
        refine (writeString_any hF hA0.now [92, 117, 48, 48] (by simp only [List.length_append, List.length_cons, List.length_nil]; omega)).mono ?_
        rintro e' w1 ⟨rfl, v1, hB⟩
        have hA1 := hA0.join hB
        go_wp2_with fail
        refine (writeByte_any hF hA1.now _ (hexd (n / 16)) rfl (by simp only [List.length_append, List.length_cons, List.length_nil]; omega)).mono ?_
        rintro e' w2 ⟨rfl, v2, hB⟩
        have hA2 := hA1.join hB
        go_wp2_with fail
        refine (writeByte_any hF hA2.now _ (hexd (n % 16)) rfl (by simp only [List.length_append, List.length_cons, List.length_nil]; omega)).mono ?_
        rintro e' w3 ⟨rfl, v3, hB⟩
        have hA3 := hA2.join hB
        go_wp2_with fail
        all_goals go_roundw
        case rel => exact ⟨k + 1, v3, by omega, by go_num, hnext _ _ _ (by rw [hq]; first | done | simp) hA3⟩
        case measure => simp [intOf]; omega
      by_cases h127 : n = 127
      · subst h127
        have hq : qb x = [92, 117, 48, 48, 55, 102] := by rw [hqx, if_neg (by omega)]; decide
        clear hqx hxl hxr
        go_wp2_with fail
        refine (writeString_any hF hA0.now [92, 117, 48, 48] (by simp only [List.length_append, List.length_cons, List.length_nil]; omega)).mono ?_
        rintro e' w1 ⟨rfl, v1, hB⟩
        have hA1 := hA0.join hB
        go_wp2_with fail
        refine (writeByte_any hF hA1.now _ 55 rfl (by simp only [List.length_append, List.length_cons, List.length_nil]; omega)).mono ?_
        rintro e' w2 ⟨rfl, v2, hB⟩
        have hA2 := hA1.join hB
        go_wp2_with fail
        refine (writeByte_any hF hA2.now _ 102 rfl (by simp only [List.length_append, List.length_cons, List.length_nil]; omega)).mono ?_
        rintro e' w3 ⟨rfl, v3, hB⟩
        have hA3 := hA2.join hB
        go_wp2_with fail
        all_goals go_roundw
        case rel => exact ⟨k + 1, v3, by omega, by go_num, hnext _ _ _ (by rw [hq]; first | done | simp) hA3⟩
        case measure => simp [intOf]; omega
      · have hq : qb x = [x] := by rw [hqx, if_pos ⟨hs, h127⟩]
        clear hqx hxl hxr
        have t127 : ((n : Int) != 127) = true := by rw [bne_iff_ne]; omega
        go_wp2_with fail
        refine (writeByte_any hF hA0.now n x (by rw [HN.out]) (by simp only [List.length_append, List.length_cons, List.length_nil]; omega)).mono ?_
        rintro e' w1 ⟨rfl, v1, hB⟩
        have hA1 := hA0.join hB
        go_wp2_with fail
        all_goals go_roundw
        case rel => exact ⟨k + 1, v1, by omega, by go_num, hnext _ _ _ (by rw [hq]; first | done | simp) hA1⟩
        case measure => simp [intOf]; omega
    · have hfin : quoteT s = (34 :: (s.take k).flatMap qb) ++ [34] := by rw [List.take_of_length_le hge]; rfl
      have HF := Lib.hid hfin
      clear hfin
      have hA0 := hA
      clear hA
      obtain ⟨P, hP⟩ : ∃ P, P = 34 :: (s.take k).flatMap qb := ⟨_, rfl⟩
      rw [← hP] at HF hA0 hsz
      clear hP
      go_wp2_with fail
      refine (writeByte_any hF hA0.now 34 34 rfl (by simp only [List.length_append, List.length_cons, List.length_nil]; omega)).mono ?_
      rintro e' w3 ⟨rfl, v3, hB⟩
      have hA1 := hA0.join hB
      rw [← HF.out] at hA1
      go_wp2_with fail
      go_end0
      exact ⟨rfl, v3, hA1⟩
end
end Go.Proofs.YtopecjnmeeejhaaGreatDoor
