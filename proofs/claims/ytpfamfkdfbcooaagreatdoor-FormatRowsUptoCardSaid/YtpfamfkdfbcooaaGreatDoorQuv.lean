/- In one text: value.quote: a string's text.; value.write and value.Text of what is no array and no object.; printer.sheet: put, token, loose, line.; printer.sheet: token, loose, line; the colours.; printer.Escape: the unit \uXXXX. -/
import Derived.Test.YtpfamfkdfbcooaaGreatDoorBls
import Derived.Test.YtpfamfkdfbcooaaGreatDoorNuv
import Derived.LoopTactic
import Derived.Handy
import Derived.Lib.OthersKept
import Derived.BigCall
import Derived.Laws.DeepBits32
set_option linter.unusedVariables false
set_option linter.unusedSimpArgs false
/- value.quote: a string's text. -/
namespace Go.Proofs.YtpfamfkdfbcooaaGreatDoor
open Go Go.RowKit Go.Proofs

def hexd (n : Nat) : UInt8 := [48, 49, 50, 51, 52, 53, 54, 55, 56, 57, 97, 98, 99, 100, 101, 102].getD n 48
/-- A byte within a string's text. -/
def qb (c : UInt8) : List UInt8 :=
  if c = 34 then [92, c] else if c = 92 then [92, c] else if c = 8 then [92, 98] else if c = 12 then [92, 102] else if c = 10 then [92, 110] else if c = 13 then [92, 114] else if c = 9 then [92, 116]
  else if 32 ≤ c.toNat ∧ c ≠ 127 then [c] else [92, 117, 48, 48, hexd (c.toNat / 16), hexd (c.toNat % 16)]
def quoteT (s : List UInt8) : List UInt8 := 34 :: (s.flatMap qb ++ [34])
theorem hex_at (j : Nat) (hj : j < 16) (h : j < ByteArray.size ⟨#[48, 49, 50, 51, 52, 53, 54, 55, 56, 57, 97, 98, 99, 100, 101, 102]⟩) : ((⟨#[48, 49, 50, 51, 52, 53, 54, 55, 56, 57, 97, 98, 99, 100, 101, 102]⟩ : ByteArray)[j]'h).toNat = (hexd j).toNat := by
  have key : ∀ j : Fin 16, ((⟨#[48, 49, 50, 51, 52, 53, 54, 55, 56, 57, 97, 98, 99, 100, 101, 102]⟩ : ByteArray)[j.val]'j.isLt).toNat = (hexd j.val).toNat := by decide
  exact key ⟨j, hj⟩
theorem qb_length (c : UInt8) : (qb c).length ≤ 6 := by
  unfold qb
  repeat' split
  all_goals simp
theorem flatMap_length (s : List UInt8) : (s.flatMap qb).length ≤ 6 * s.length := by
  induction s with
  | nil => simp
  | cons x s ih => have := qb_length x; simp only [List.flatMap_cons, List.length_append, List.length_cons]; omega
section
variable {b : Nat} {T : TypeId} {rest : List Value} {w : World} {v : Value} {bs : List UInt8}
set_option maxHeartbeats 4000000 in
set_option maxRecDepth 100000 in
theorem quote_any (hF : Fits T rest.length) (h : Bw b T rest w v bs) (s : List UInt8) (hl : bs.length + 6 * s.length + 2 ≤ 140737488355328) :
    Calls Tryz.prog 91 #[.pointer (some ⟨b, 0, none⟩), .string ⟨s.toArray⟩] w fun e w' => e = .returned (.tuple #[]) ∧ ∃ v', BApp b T w v bs w' v' (quoteT s) rest := by
  go_enter Tryz.func91, Tryz.ntmps91
  go_wp2_with fail
  refine (writeByte_any hF h 34 34 rfl (by omega)).mono ?_
  rintro e' w1 ⟨rfl, v1, hA⟩
  go_wp2_with fail
  go_loopw [10] (fun i wr => ∃ (k : Nat) (vk : Value), k ≤ s.length ∧ i = .int .i64 k ∧ BApp b T w v bs wr vk (34 :: (s.take k).flatMap qb) rest) (fun i _ => s.length - (intOf i).toNat)
  case atStart => exact ⟨0, v1, Nat.zero_le _, rfl, hA⟩
  case round =>
    clear hA
    obtain ⟨k, vk, hk, rfl, hA⟩ := hrel
    have hsz : (34 :: (s.take k).flatMap qb).length ≤ 1 + 6 * k := by
      have := flatMap_length (s.take k)
      rw [List.length_take, Nat.min_eq_left hk] at this
      simp only [List.length_cons]; omega
    rcases Nat.lt_or_ge k s.length with hlt | hge
    · obtain ⟨x, hx⟩ : ∃ x, x = s[k] := ⟨_, rfl⟩
      obtain ⟨P, hP⟩ : ∃ P, P = 34 :: (s.take k).flatMap qb := ⟨_, rfl⟩
      have hnext : ∀ W V l, l = P ++ qb x → BApp b T w v bs W V l rest → BApp b T w v bs W V (34 :: (s.take (k + 1)).flatMap qb) rest := by
        intro W V l el hh
        have e : (34 :: (s.take (k + 1)).flatMap qb) = P ++ qb x := by
          rw [List.take_succ_eq_append_getElem hlt, List.flatMap_append, hx, hP]; simp
        rw [e, ← el]; exact hh
      rw [← hP] at hA hsz
      have hby : ∀ h, ((⟨s.toArray⟩ : ByteArray)[k]'h).toNat = x.toNat := fun h => by rw [hx]; rfl
      clear hP hx
      have hA0 := hA
      clear hA
      by_cases h34 : x = 34
      · subst h34
        have hq : qb 34 = [92, 34] := by decide
        have hby' : ∀ h, ((⟨s.toArray⟩ : ByteArray)[k]'h).toNat = 34 := hby
        clear hby
        go_wp2_with fail
        refine (writeByte_any hF hA0.now 92 92 (by first | rfl | (simp; done)) (by simp only [List.length_append, List.length_cons, List.length_nil]; omega)).mono ?_
        rintro e' w1 ⟨rfl, v1, hB⟩
        have hA1 := hA0.join hB
        go_wp2_with fail
        refine (writeByte_any hF hA1.now 34 34 (by first | rfl | (simp; done)) (by simp only [List.length_append, List.length_cons, List.length_nil]; omega)).mono ?_
        rintro e' w2 ⟨rfl, v2, hB⟩
        have hA2 := hA1.join hB
        go_wp2_with fail
        all_goals go_roundw
        case rel => exact ⟨k + 1, v2, by omega, by go_num, hnext _ _ _ (by rw [hq]; first | done | simp) hA2⟩
        case measure => simp [intOf]; omega
      by_cases h92 : x = 92
      · subst h92
        have hq : qb 92 = [92, 92] := by decide
        have hby' : ∀ h, ((⟨s.toArray⟩ : ByteArray)[k]'h).toNat = 92 := hby
        clear hby
        go_wp2_with fail
        refine (writeByte_any hF hA0.now 92 92 (by first | rfl | (simp; done)) (by simp only [List.length_append, List.length_cons, List.length_nil]; omega)).mono ?_
        rintro e' w1 ⟨rfl, v1, hB⟩
        have hA1 := hA0.join hB
        go_wp2_with fail
        refine (writeByte_any hF hA1.now 92 92 (by first | rfl | (simp; done)) (by simp only [List.length_append, List.length_cons, List.length_nil]; omega)).mono ?_
        rintro e' w2 ⟨rfl, v2, hB⟩
        have hA2 := hA1.join hB
        go_wp2_with fail
        all_goals go_roundw
        case rel => exact ⟨k + 1, v2, by omega, by go_num, hnext _ _ _ (by rw [hq]; first | done | simp) hA2⟩
        case measure => simp [intOf]; omega
      by_cases h8 : x = 8
      · subst h8
        have hq : qb 8 = [92, 98] := by decide
        have hby' : ∀ h, ((⟨s.toArray⟩ : ByteArray)[k]'h).toNat = 8 := hby
        clear hby
        go_wp2_with fail
        refine (writeString_any hF hA0.now [92, 98] (by simp only [List.length_append, List.length_cons, List.length_nil]; omega)).mono ?_
        rintro e' w1 ⟨rfl, v1, hB⟩
        have hA1 := hA0.join hB
        go_wp2_with fail
        all_goals go_roundw
        case rel => exact ⟨k + 1, v1, by omega, by go_num, hnext _ _ _ (by rw [hq]; first | done | simp) hA1⟩
        case measure => simp [intOf]; omega
      by_cases h12 : x = 12
      · subst h12
        have hq : qb 12 = [92, 102] := by decide
        have hby' : ∀ h, ((⟨s.toArray⟩ : ByteArray)[k]'h).toNat = 12 := hby
        clear hby
        go_wp2_with fail
        refine (writeString_any hF hA0.now [92, 102] (by simp only [List.length_append, List.length_cons, List.length_nil]; omega)).mono ?_
        rintro e' w1 ⟨rfl, v1, hB⟩
        have hA1 := hA0.join hB
        go_wp2_with fail
        all_goals go_roundw
        case rel => exact ⟨k + 1, v1, by omega, by go_num, hnext _ _ _ (by rw [hq]; first | done | simp) hA1⟩
        case measure => simp [intOf]; omega
      by_cases h10 : x = 10
      · subst h10
        have hq : qb 10 = [92, 110] := by decide
        have hby' : ∀ h, ((⟨s.toArray⟩ : ByteArray)[k]'h).toNat = 10 := hby
        clear hby
        go_wp2_with fail
        refine (writeString_any hF hA0.now [92, 110] (by simp only [List.length_append, List.length_cons, List.length_nil]; omega)).mono ?_
        rintro e' w1 ⟨rfl, v1, hB⟩
        have hA1 := hA0.join hB
        go_wp2_with fail
        all_goals go_roundw
        case rel => exact ⟨k + 1, v1, by omega, by go_num, hnext _ _ _ (by rw [hq]; first | done | simp) hA1⟩
        case measure => simp [intOf]; omega
      by_cases h13 : x = 13
      · subst h13
        have hq : qb 13 = [92, 114] := by decide
        have hby' : ∀ h, ((⟨s.toArray⟩ : ByteArray)[k]'h).toNat = 13 := hby
        clear hby
        go_wp2_with fail
        refine (writeString_any hF hA0.now [92, 114] (by simp only [List.length_append, List.length_cons, List.length_nil]; omega)).mono ?_
        rintro e' w1 ⟨rfl, v1, hB⟩
        have hA1 := hA0.join hB
        go_wp2_with fail
        all_goals go_roundw
        case rel => exact ⟨k + 1, v1, by omega, by go_num, hnext _ _ _ (by rw [hq]; first | done | simp) hA1⟩
        case measure => simp [intOf]; omega
      by_cases h9 : x = 9
      · subst h9
        have hq : qb 9 = [92, 116] := by decide
        have hby' : ∀ h, ((⟨s.toArray⟩ : ByteArray)[k]'h).toNat = 9 := hby
        clear hby
        go_wp2_with fail
        refine (writeString_any hF hA0.now [92, 116] (by simp only [List.length_append, List.length_cons, List.length_nil]; omega)).mono ?_
        rintro e' w1 ⟨rfl, v1, hB⟩
        have hA1 := hA0.join hB
        go_wp2_with fail
        all_goals go_roundw
        case rel => exact ⟨k + 1, v1, by omega, by go_num, hnext _ _ _ (by rw [hq]; first | done | simp) hA1⟩
        case measure => simp [intOf]; omega
      obtain ⟨n, hn⟩ : ∃ n, n = x.toNat := ⟨_, rfl⟩
      have hn256 : n < 256 := by have := x.toNat_lt; omega
      have t34 : ((n : Int) == 34) = false := by rw [beq_eq_false_iff_ne]; intro h; apply h34; apply UInt8.toNat_inj.1; show x.toNat = 34; omega
      have t92 : ((n : Int) == 92) = false := by rw [beq_eq_false_iff_ne]; intro h; apply h92; apply UInt8.toNat_inj.1; show x.toNat = 92; omega
      have t8 : ((n : Int) == 8) = false := by rw [beq_eq_false_iff_ne]; intro h; apply h8; apply UInt8.toNat_inj.1; show x.toNat = 8; omega
      have t12 : ((n : Int) == 12) = false := by rw [beq_eq_false_iff_ne]; intro h; apply h12; apply UInt8.toNat_inj.1; show x.toNat = 12; omega
      have t10 : ((n : Int) == 10) = false := by rw [beq_eq_false_iff_ne]; intro h; apply h10; apply UInt8.toNat_inj.1; show x.toNat = 10; omega
      have t13 : ((n : Int) == 13) = false := by rw [beq_eq_false_iff_ne]; intro h; apply h13; apply UInt8.toNat_inj.1; show x.toNat = 13; omega
      have t9 : ((n : Int) == 9) = false := by rw [beq_eq_false_iff_ne]; intro h; apply h9; apply UInt8.toNat_inj.1; show x.toNat = 9; omega
      rw [← hn] at hby
      have hqx : qb x = if 32 ≤ n ∧ n ≠ 127 then [x] else [92, 117, 48, 48, hexd (n / 16), hexd (n % 16)] := by
        unfold qb
        rw [if_neg h34, if_neg h92, if_neg h8, if_neg h12, if_neg h10, if_neg h13, if_neg h9, ← hn]
        have e : x ≠ 127 ↔ n ≠ 127 := by
          rw [hn]
          exact ⟨fun h h2 => h (UInt8.toNat_inj.1 h2), fun h h2 => h (by rw [h2]; rfl)⟩
        by_cases h : 32 ≤ n ∧ n ≠ 127
        · rw [if_pos h, if_pos ⟨h.1, e.2 h.2⟩]
        · rw [if_neg h, if_neg (fun h2 => h ⟨h2.1, e.1 h2.2⟩)]
      have HN := Lib.hid hn
      clear hn h34 h92 h8 h12 h10 h13 h9
      have hxl := hex_at (n / 16) (by omega)
      have hxr := hex_at (n % 16) (by omega)
      rcases Nat.lt_or_ge n 32 with hs | hs
      · have hq : qb x = [92, 117, 48, 48, hexd (n / 16), hexd (n % 16)] := by rw [hqx, if_neg (by omega)]
        clear hqx
        go_wp2_with fail
        refine (writeString_any hF hA0.now [92, 117, 48, 48] (by simp only [List.length_append, List.length_cons, List.length_nil]; omega)).mono ?_
        rintro e' w1 ⟨rfl, v1, hB⟩
        have hA1 := hA0.join hB
        go_wp2_with fail
        refine (writeByte_any hF hA1.now _ (hexd (n / 16)) rfl (by simp only [List.length_append, List.length_cons, List.length_nil]; omega)).mono ?_
        rintro e' w2 ⟨rfl, v2, hB⟩
        have hA2 := hA1.join hB
        go_wp2_with fail
        refine (writeByte_any hF hA2.now _ (hexd (n % 16)) rfl (by simp only [List.length_append, List.length_cons, List.length_nil]; omega)).mono ?_
        rintro e' w3 ⟨rfl, v3, hB⟩
        have hA3 := hA2.join hB
        go_wp2_with fail
        all_goals go_roundw
        case rel => exact ⟨k + 1, v3, by omega, by go_num, hnext _ _ _ (by rw [hq]; first | done | simp) hA3⟩
        case measure => simp [intOf]; omega
      by_cases h127 : n = 127
      · subst h127
        have hq : qb x = [92, 117, 48, 48, 55, 102] := by rw [hqx, if_neg (by omega)]; decide
        clear hqx hxl hxr
        go_wp2_with fail
        refine (writeString_any hF hA0.now [92, 117, 48, 48] (by simp only [List.length_append, List.length_cons, List.length_nil]; omega)).mono ?_
        rintro e' w1 ⟨rfl, v1, hB⟩
        have hA1 := hA0.join hB
        go_wp2_with fail
        refine (writeByte_any hF hA1.now _ 55 rfl (by simp only [List.length_append, List.length_cons, List.length_nil]; omega)).mono ?_
        rintro e' w2 ⟨rfl, v2, hB⟩
        have hA2 := hA1.join hB
        go_wp2_with fail
        refine (writeByte_any hF hA2.now _ 102 rfl (by simp only [List.length_append, List.length_cons, List.length_nil]; omega)).mono ?_
        rintro e' w3 ⟨rfl, v3, hB⟩
        have hA3 := hA2.join hB
        go_wp2_with fail
        all_goals go_roundw
        case rel => exact ⟨k + 1, v3, by omega, by go_num, hnext _ _ _ (by rw [hq]; first | done | simp) hA3⟩
        case measure => simp [intOf]; omega
      · have hq : qb x = [x] := by rw [hqx, if_pos ⟨hs, h127⟩]
        clear hqx hxl hxr
        have t127 : ((n : Int) != 127) = true := by rw [bne_iff_ne]; omega
        go_wp2_with fail
        refine (writeByte_any hF hA0.now n x (by rw [HN.out]) (by simp only [List.length_append, List.length_cons, List.length_nil]; omega)).mono ?_
        rintro e' w1 ⟨rfl, v1, hB⟩
        have hA1 := hA0.join hB
        go_wp2_with fail
        all_goals go_roundw
        case rel => exact ⟨k + 1, v1, by omega, by go_num, hnext _ _ _ (by rw [hq]; first | done | simp) hA1⟩
        case measure => simp [intOf]; omega
    · have hfin : quoteT s = (34 :: (s.take k).flatMap qb) ++ [34] := by rw [List.take_of_length_le hge]; rfl
      have HF := Lib.hid hfin
      clear hfin
      have hA0 := hA
      clear hA
      obtain ⟨P, hP⟩ : ∃ P, P = 34 :: (s.take k).flatMap qb := ⟨_, rfl⟩
      rw [← hP] at HF hA0 hsz
      clear hP
      go_wp2_with fail
      refine (writeByte_any hF hA0.now 34 34 rfl (by simp only [List.length_append, List.length_cons, List.length_nil]; omega)).mono ?_
      rintro e' w3 ⟨rfl, v3, hB⟩
      have hA1 := hA0.join hB
      rw [← HF.out] at hA1
      go_wp2_with fail
      go_end0
      exact ⟨rfl, v3, hA1⟩
end
end Go.Proofs.YtpfamfkdfbcooaaGreatDoor
/- value.write and value.Text of what is no array and no object. -/
namespace Go.Proofs.YtpfamfkdfbcooaaGreatDoor
open Go Go.RowKit Go.Proofs

/-- The text of a value that has no parts. -/
def plainT (k : Nat) (num : Nat) (s : List UInt8) : List UInt8 :=
  if k = 0 then [110, 117, 108, 108] else if k = 1 then [102, 97, 108, 115, 101] else if k = 2 then [116, 114, 117, 101] else if k = 3 then numT num else quoteT s
theorem bodyT_length (d : List UInt8) (e : Int) (h0 : 1 ≤ d.length) (h1 : d.length ≤ 20) (h2 : -400 ≤ e) (h3 : e ≤ 400) : (bodyT d e).length ≤ 1000 := by
  unfold bodyT
  split
  · exact powT_length d e h1 h2 h3
  · split
    · simp; omega
    · split
      · simp; omega
      · simp; omega
theorem numT_length (b : Nat) : (numT b).length ≤ 1001 := by
  unfold numT
  split
  · simp
  · have h1 : (if 9223372036854775808 ≤ b then [45] else ([] : List UInt8)).length ≤ 1 := by split <;> simp
    rw [List.length_append]
    suffices h2 : (if b % 9223372036854775808 = 0 then [48] else bodyT (digT (if b % 9223372036854775808 = 9218868437227405312 then 9218868437227405311 else b % 9223372036854775808)).1 (digT (if b % 9223372036854775808 = 9218868437227405312 then 9218868437227405311 else b % 9223372036854775808)).2).length ≤ 1000 by omega
    split
    · simp
    · obtain ⟨a, ha⟩ : ∃ a, a = (if b % 9223372036854775808 = 9218868437227405312 then 9218868437227405311 else b % 9223372036854775808) := ⟨_, rfl⟩
      rw [← ha]
      obtain ⟨_, p1, p2, p3, p4⟩ := digT_bounds a (by rw [ha]; split <;> omega) (by rw [ha]; split <;> omega)
      exact bodyT_length _ _ p1 p2 (by omega) (by omega)
theorem plainT_length (k num : Nat) (s : List UInt8) : (plainT k num s).length ≤ 6 * s.length + 1001 := by
  have h1 := numT_length num
  have h2 := flatMap_length s
  have h3 : (quoteT s).length ≤ 6 * s.length + 2 := by
    unfold quoteT
    rw [List.length_cons, List.length_append, List.length_singleton]
    omega
  unfold plainT
  split
  · show 4 ≤ _; omega
  · split
    · show 5 ≤ _; omega
    · split
      · show 4 ≤ _; omega
      · split <;> omega
theorem quoteT_pos (s : List UInt8) : quoteT s ≠ [] := by simp [quoteT]
theorem numT_pos (b : Nat) : numT b ≠ [] := by
  unfold numT bodyT powT
  split
  · simp
  · split
    · simp
    · intro h
      have := (List.append_eq_nil_iff.1 h).2
      revert this
      split
      · simp
      · obtain ⟨a, ha⟩ : ∃ a, a = (if b % 9223372036854775808 = 9218868437227405312 then 9218868437227405311 else b % 9223372036854775808) := ⟨_, rfl⟩
        rw [← ha]
        obtain ⟨_, p1, p2, p3, p4⟩ := digT_bounds a (by rw [ha]; split <;> omega) (by rw [ha]; split <;> omega)
        split
        · simp
        · split
          · intro h; have := (List.append_eq_nil_iff.1 h).1; rw [this] at p1; simp at p1
          · split <;> simp
theorem plainT_pos (k num : Nat) (s : List UInt8) : plainT k num s ≠ [] := by
  unfold plainT
  repeat' split
  all_goals first | exact numT_pos num | exact quoteT_pos s | simp
section
variable {b : Nat} {T : TypeId} {rest : List Value} {w : World} {v : Value} {bs : List UInt8}
set_option maxRecDepth 100000 in
theorem write_any (hF : Fits T rest.length) (h : Bw b T rest w v bs) (TW : Tabs w) (hb : 12 ≤ b) (k : Nat) (hk : k ≤ 4) (num : Nat) (hn : num < 18446744073709551616) (s : List UInt8) (L K : Value) (hL : ∃ a n c, L = .slice a n c) (hK : ∃ a n c, K = .slice a n c) (hl : bs.length + 6 * s.length + 1002 ≤ 140737488355328) :
    Calls Tryz.prog 64 #[.pointer (some ⟨b, 0, none⟩), .agg #[.int .i64 k, .float .f64 num, .string ⟨s.toArray⟩, L, K]] w fun e w' => e = .returned (.tuple #[]) ∧ ∃ v', BApp b T w v bs w' v' (plainT k num s) rest := by
  obtain ⟨a1, n1, c1, rfl⟩ := hL
  obtain ⟨a2, n2, c2, rfl⟩ := hK
  have h5 : k = 0 ∨ k = 1 ∨ k = 2 ∨ k = 3 ∨ k = 4 := by omega
  have start : ∀ o : Obj, BApp b T w v bs (w.alloc o) v [] rest := fun o => (BApp.start h).below ((Below.refl _ _).alloc (Nat.le_refl _) o)
  have now : ∀ o : Obj, Bw b T rest (w.alloc o) v bs := fun o => by have := (start o).now; rwa [List.append_nil] at this
  have join : ∀ (o : Obj) (w1 : World) (v1 : Value) (l : List UInt8), BApp b T (w.alloc o) v bs w1 v1 l rest → BApp b T w v bs w1 v1 l rest := fun o w1 v1 l hh => by
    have := (start o).join (l2 := l) (by rw [List.append_nil]; exact hh)
    exact this
  have tabs : ∀ o : Obj, Tabs (w.alloc o) := fun o => TW.next ((Below.refl _ _).alloc (Nat.le_refl _) o)
  rcases h5 with rfl | rfl | rfl | rfl | rfl
  · go_enter Tryz.func64, Tryz.ntmps64
    go_wp2_with fail
    refine (writeString_any hF (now _) [110, 117, 108, 108] (by simp; omega)).mono ?_
    rintro e' w1 ⟨rfl, v1, hB⟩
    have hR := join _ _ _ _ hB
    go_wp2_with fail
    go_end0
    exact ⟨rfl, v1, hR⟩
  · go_enter Tryz.func64, Tryz.ntmps64
    go_wp2_with fail
    refine (writeString_any hF (now _) [102, 97, 108, 115, 101] (by simp; omega)).mono ?_
    rintro e' w1 ⟨rfl, v1, hB⟩
    have hR := join _ _ _ _ hB
    go_wp2_with fail
    go_end0
    exact ⟨rfl, v1, hR⟩
  · go_enter Tryz.func64, Tryz.ntmps64
    go_wp2_with fail
    refine (writeString_any hF (now _) [116, 114, 117, 101] (by simp; omega)).mono ?_
    rintro e' w1 ⟨rfl, v1, hB⟩
    have hR := join _ _ _ _ hB
    go_wp2_with fail
    go_end0
    exact ⟨rfl, v1, hR⟩
  · have hq : plainT 3 num s = numT num := rfl
    have hnl := numT_length num
    rw [hq]
    clear hq
    go_enter Tryz.func64, Tryz.ntmps64
    go_wp2_with fail
    refine (text_any num hn _ (tabs _)).mono ?_
    rintro e' w1 ⟨rfl, hb1⟩
    have hS := (start _).below hb1
    have hN := hS.now
    rw [List.append_nil] at hN
    go_wp2_with fail
    refine (writeString_any hF hN (numT num) (by omega)).mono ?_
    rintro e' w2 ⟨rfl, v1, hB⟩
    have hR := hS.join (l2 := numT num) (by rw [List.append_nil]; exact hB)
    go_wp2_with fail
    go_end0
    exact ⟨rfl, v1, hR⟩
  · go_enter Tryz.func64, Tryz.ntmps64
    go_wp2_with fail
    refine (quote_any hF (now _) s (by omega)).mono ?_
    rintro e' w1 ⟨rfl, v1, hB⟩
    have hR := join _ _ _ _ hB
    go_wp2_with fail
    go_end0
    exact ⟨rfl, v1, hR⟩
end
theorem bw_new (w : World) : Bw w.heap.size 80 [] (w.alloc (.cells #[.pointer none, .slice none 0 0] 80)) (.slice none 0 0) [] :=
  ⟨⟨.pointer none, heap_alloc_new w _, .inl rfl⟩, OwnB.nil _ _, by decide⟩
set_option maxHeartbeats 2000000 in
set_option maxRecDepth 100000 in
theorem valueText_any (w : World) (TW : Tabs w) (k : Nat) (hk : k ≤ 4) (num : Nat) (hn : num < 18446744073709551616) (s : List UInt8) (L K : Value) (hL : ∃ a n c, L = .slice a n c) (hK : ∃ a n c, K = .slice a n c) (hl : s.length ≤ 100000000) :
    Calls Tryz.prog 35 #[.agg #[.int .i64 k, .float .f64 num, .string ⟨s.toArray⟩, L, K]] w fun e w' => e = .returned (.string ⟨(plainT k num s).toArray⟩) ∧ Below w.heap.size w w' := by
  obtain ⟨a1, n1, c1, rfl⟩ := hL
  obtain ⟨a2, n2, c2, rfl⟩ := hK
  have hw12 := TW.size
  go_enter Tryz.func35, Tryz.ntmps35
  go_wp2_with fail
  obtain ⟨W1, hW1⟩ : ∃ W1, W1 = w.alloc (.cells #[.int .i64 k, .float .f64 num, .string ⟨s.toArray⟩, .slice a1 n1 c1, .slice a2 n2 c2] 27) := ⟨_, rfl⟩
  have hb1 : Below w.heap.size w W1 := by rw [hW1]; exact (Below.refl _ _).alloc (Nat.le_refl _) _
  have hs1 : W1.heap.size = w.heap.size + 1 := by rw [hW1]; simp
  rw [← hW1, ← hs1]
  clear hW1
  have hB := bw_new W1
  have hb2 : Below W1.heap.size W1 (W1.alloc (.cells #[.pointer none, .slice none 0 0] 80)) := (Below.refl _ _).alloc (Nat.le_refl _) _
  have T2 := (TW.next hb1).next hb2
  have hbw := Below.also hb1 hb2
  obtain ⟨W2, hW2⟩ : ∃ W2, W2 = W1.alloc (.cells #[.pointer none, .slice none 0 0] 80) := ⟨_, rfl⟩
  rw [← hW2] at hB hb2 T2 hbw ⊢
  clear hW2
  refine (write_any (rest := []) fits_builder hB T2 (by omega) k hk num hn s _ _ ⟨_, _, _, rfl⟩ ⟨_, _, _, rfl⟩ (by simp; omega)).mono ?_
  rintro e' w3 ⟨rfl, v3, hA⟩
  have hN := hA.now
  rw [List.nil_append] at hN
  have hbw3 : Below w.heap.size w w3 := hbw.trans (hA.keep.below hbw.size (fun j hj => by
    intro hh
    rcases hh with hh | hh
    · omega
    · cases hh))
  clear hA hb2 hB
  rw [hs1] at hN
  go_wp2_with fail
  refine (string_any hN (plainT_pos k num s)).mono ?_
  rintro e' w4 ⟨rfl, hb4⟩
  have hbw4 : Below w.heap.size w w4 := hbw3.trans (hb4.mono (by omega))
  go_wp2_with fail
  go_ret
  exact ⟨rfl, hbw4⟩
end Go.Proofs.YtpfamfkdfbcooaaGreatDoor
/- printer.sheet: put, token, loose, line. -/
namespace Go.Proofs.YtpfamfkdfbcooaaGreatDoor
open Go Go.RowKit Go.Proofs

/-- A style. -/
structure Sty where
  ind : Nat
  tab : Bool
  srt : Bool
  asc : Bool
  col : Bool
def Sty.cells (S : Sty) (full : Bool) : List Value := [.int .i64 S.ind, .bool S.tab, .bool S.srt, .bool S.asc, .bool S.col, .bool full]
/-- What stands on a sheet, and whether it is full. -/
abbrev St := List UInt8 × Bool
def putS (st : St) (s : List UInt8) : St := if st.2 = true ∨ 16777216 < st.1.length + s.length then (st.1, true) else (st.1 ++ s, false)
theorem putS_length (st : St) (s : List UInt8) (h : st.1.length ≤ 16777216) : (putS st s).1.length ≤ 16777216 := by
  unfold putS
  split
  · exact h
  · simp only [List.length_append]; omega
section
variable {b : Nat} {S : Sty} {w : World} {v : Value} {st : St}
theorem Bw.cellAt {T : TypeId} {rest : List Value} {bs : List UInt8} (h : Bw b T rest w v bs) (i : Nat) : w.cell? ⟨b, i + 2, none⟩ = rest[i]? := by
  obtain ⟨p, hp, _⟩ := h.heap
  rw [Lib.cell_of_heap hp]
  simp
theorem Bw.frozenAt {T : TypeId} {rest : List Value} {bs : List UInt8} (h : Bw b T rest w v bs) (i : Nat) : w.frozen? ⟨b, i, none⟩ = false := by
  obtain ⟨p, hp, _⟩ := h.heap
  exact Lib.frozen_of_heap hp i
end
end Go.Proofs.YtpfamfkdfbcooaaGreatDoor
/- printer.sheet: token, loose, line; the colours. -/
namespace Go.Proofs.YtpfamfkdfbcooaaGreatDoor
open Go Go.RowKit Go.Proofs

def Sty.loose (S : Sty) : Bool := S.tab || decide (0 < S.ind)
def tokT (S : Sty) (s c : List UInt8) : List UInt8 := if S.col = true then [27, 91] ++ c ++ [109] ++ s ++ [27, 91, 48, 109] else s
def tokS (S : Sty) (st : St) (s c : List UInt8) : St := putS st (tokT S s c)
def lineS (S : Sty) (st : St) (n : Nat) : St := if S.loose = true then putS st (10 :: (if S.tab = true then List.replicate n 9 else List.replicate (S.ind * n) 32)) else st
theorem rep_any (x : UInt8) (c : Nat) (w : World) (hc : c ≤ 1000000000) :
    Calls Tryz.prog 114 #[.string ⟨#[x]⟩, .int .i64 c] w fun e w' => e = .returned (.string ⟨(List.replicate c x).toArray⟩) ∧ Below w.heap.size w w' := by
  refine (Tryz.strings_Repeat ⟨#[x]⟩ c w (by omega) (by show 1 * c ≤ _; omega)).mono ?_
  rintro e w' ⟨rfl, hb⟩
  refine ⟨?_, hb⟩
  show Ending.returned (.string ⟨(Lib.repeatL [x] c).toArray⟩) = _
  rw [repeatL_replicate]
section
variable {b : Nat} {S : Sty} {w : World} {v : Value} {st : St}
end
end Go.Proofs.YtpfamfkdfbcooaaGreatDoor
/- printer.Escape: the unit \uXXXX. -/
namespace Go.Proofs.YtpfamfkdfbcooaaGreatDoor
open Go Go.RowKit Go.Proofs

def unitT (r : Nat) : List UInt8 := [92, 117, hexd (r / 4096 % 16), hexd (r / 256 % 16), hexd (r / 16 % 16), hexd (r % 16)]
theorem and_low32 (k : Nat) (hk : k < 31) (s : Int) : bits BinOp.and IntKind.i32 s ((2 : Int) ^ k - 1) = s % (2 : Int) ^ k := by
  have hp : (2 : Nat) ^ k < 2 ^ 31 := Nat.pow_lt_pow_right (by omega) hk
  have hp0 : 0 < (2 : Nat) ^ k := Nat.pow_pos (by omega)
  have e2 : (2 : Int) ^ k = ((2 ^ k : Nat) : Int) := by simp
  rw [e2]
  show IntKind.i32.wrap ((BitVec.ofInt 32 s &&& BitVec.ofInt 32 (((2 ^ k : Nat) : Int) - 1)).toNat : Int) = _
  rw [BitVec.toNat_and, BitVec.toNat_ofInt, BitVec.toNat_ofInt]
  have hb : (((2 ^ k : Nat) : Int) - 1) % ((2 ^ 32 : Nat) : Int) = ((2 ^ k - 1 : Nat) : Int) := by
    rw [Int.emod_eq_of_lt (by omega) (by omega)]; omega
  rw [hb, Int.toNat_natCast, Nat.and_two_pow_sub_one_eq_mod]
  have hd : (2 : Nat) ^ k ∣ 2 ^ 32 := Nat.pow_dvd_pow 2 (by omega)
  have hm : ((s % ((2 ^ 32 : Nat) : Int)).toNat % 2 ^ k : Nat) = (s % ((2 ^ k : Nat) : Int)).toNat := by
    have h3 : 0 ≤ s % ((2 ^ 32 : Nat) : Int) := Int.emod_nonneg _ (by simp)
    have h4 : 0 ≤ s % ((2 ^ k : Nat) : Int) := Int.emod_nonneg _ (by omega)
    have : ((((s % ((2 ^ 32 : Nat) : Int)).toNat % 2 ^ k : Nat)) : Int) = s % ((2 ^ k : Nat) : Int) := by
      rw [Int.natCast_emod, Int.toNat_of_nonneg h3, Int.emod_emod_of_dvd _ (Int.natCast_dvd_natCast.2 hd)]
    omega
  rw [hm]
  have h4 : 0 ≤ s % ((2 ^ k : Nat) : Int) := Int.emod_nonneg _ (by omega)
  have h5 : s % ((2 ^ k : Nat) : Int) < ((2 ^ k : Nat) : Int) := Int.emod_lt_of_pos _ (by omega)
  rw [Int.toNat_of_nonneg h4]
  simp only [IntKind.wrap, IntKind.bits, IntKind.signed]
  simp
  omega
theorem and15 (x : Nat) (d : Nat) (h : x % 16 = d) : bits BinOp.and IntKind.i32 (x : Int) 15 = (d : Int) := by
  have := and_low32 4 (by omega) (x : Int)
  rw [show ((2 : Int) ^ 4 - 1) = 15 from by decide, show ((2 : Int) ^ 4) = 16 from by decide] at this
  rw [this]; omega
section
variable {b : Nat} {w : World} {v : Value} {bs : List UInt8}
end
end Go.Proofs.YtpfamfkdfbcooaaGreatDoor
