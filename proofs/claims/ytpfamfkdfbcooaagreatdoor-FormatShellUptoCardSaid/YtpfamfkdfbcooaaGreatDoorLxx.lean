/- In one text: colanderlaw13.shell: the words of a text as a shell reads them.; colanderlaw13.cells: the cells of a row of csv and of tsv. -/
import Derived.Test.YtpfamfkdfbcooaaGreatDoorRac
import Derived.Test.YtpfamfkdfbcooaaGreatDoorOpr
import Derived.Test.YtpfamfkdfbcooaaGreatDoorFsq
import Derived.Test.YtpfamfkdfbcooaaGreatDoorKpt
import Derived.Test.YtpfamfkdfbcooaaGreatDoorSam
set_option linter.unusedVariables false
set_option linter.unusedSimpArgs false
/- colanderlaw13.shell: the words of a text as a shell reads them. -/
namespace Go.Proofs.YtpfamfkdfbcooaaGreatDoor
open Go Go.RowKit Go.Proofs
/-- What is left to be read: L is what comes of it in the end. -/
def ShF (inn word : Bool) (ws : List UInt8) (os : List (List UInt8)) (t : List UInt8) (L : List (List UInt8)) : Prop := (shL inn word ws t).map (fun p => (os ++ p.1, p.2)) = some (L, true)
theorem ShF.in_ {inn word : Bool} {ws os c r L} (h : ShF inn word ws os (c :: r) L) (hi : inn = true) (hc : c ≠ 39) : ShF inn word (ws ++ [c]) os r L := by
  unfold ShF at h ⊢
  rw [shL_in _ _ _ _ _ ⟨hi, hc⟩] at h
  exact h
theorem ShF.quote {inn word : Bool} {ws os r L} (h : ShF inn word ws os (39 :: r) L) : ShF (!inn) true ws os r L := by
  unfold ShF at h ⊢
  rw [shL_39] at h
  exact h
theorem ShF.back {word : Bool} {ws os x r L} (h : ShF false word ws os (92 :: x :: r) L) : ShF false true (ws ++ [x]) os r L := by
  unfold ShF at h ⊢
  rw [shL_92] at h
  exact h
theorem ShF.back_end {word : Bool} {ws os L} (h : ShF false word ws os [92] L) : False := by
  unfold ShF at h
  simp [shL] at h
theorem ShF.blank {word : Bool} {ws os r L} (h : ShF false word ws os (32 :: r) L) : ShF false false [] (os ++ if word = true then [ws] else []) r L := by
  unfold ShF at h ⊢
  rw [shL_32] at h
  rw [← h]
  cases shL false false [] r <;> simp
theorem ShF.other {word : Bool} {ws os c r L} (h : ShF false word ws os (c :: r) L) (h1 : c ≠ 39) (h2 : c ≠ 92) (h3 : c ≠ 32) : False := by
  unfold ShF at h
  cases r with
  | nil => simp [shL, h1, h3] at h
  | cons x r => simp [shL, h1, h2, h3] at h
theorem ShF.end_ {inn word : Bool} {ws os L} (h : ShF inn word ws os [] L) : inn = false ∧ L = os ++ (if word = true then [ws] else []) := by
  unfold ShF at h
  simp [shL] at h
  exact ⟨h.2, h.1.symm⟩
theorem row_ne {w : World} {B B2 : Nat} {vo vw : Value} {n : Nat} {xs : List Value} {ws : List UInt8} (ho : OwnG 9 1 B w vo n xs) (hw : OwnB B2 w vw ws) : ∀ k, vo.ownBlock = some k → ¬ (some k = vw.ownBlock) := by
  intro k hk e
  obtain ⟨cur, hc⟩ := ho.type_of k hk
  exact hw.ne_of_type hc (by decide) e.symm
/-- Bytes are appended to a word: what was found so far stays. -/
theorem row_byte {W w w2 : World} {B : Nat} {vo vw v2 : Value} {n : Nat} {xs : List Value} {ws l : List UInt8} (hb : Below B W w) (hBW : B ≤ w.heap.size) (ho : OwnG 9 1 B w vo n xs) (hw : OwnB B w vw ws) (hA : App B w vw ws w2 v2 l) :
    Below B W w2 ∧ OwnG 9 1 B w2 vo n xs ∧ OwnB B w2 v2 (ws ++ l) :=
  ⟨hb.trans (hA.keep.below hBW (fun k hk e => by have := (hw.lt k e.symm).1; omega)), ho.keep hA.keep (row_ne ho hw), hA.own⟩
/-- A word is appended to the row. -/
theorem row_word {W w w2 : World} {B : Nat} {vo vw v2 : Value} {n m : Nat} {xs l : List Value} {ws : List UInt8} (hb : Below B W w) (hBW : B ≤ w.heap.size) (ho : OwnG 9 1 B w vo n xs) (hw : OwnB B w vw ws) (hA : AppG 9 1 B w vo n xs w2 v2 m l) :
    Below B W w2 ∧ OwnG 9 1 B w2 v2 (n + m) (xs ++ l) ∧ OwnB B w2 vw ws :=
  ⟨hb.trans (hA.keep.below hBW (fun k hk e => by have := (ho.lt k e.symm).1; omega)), hA.own, hw.keep hA.keep (fun k hk e => row_ne ho hw k e.symm hk.symm)⟩
theorem row_texts {w : World} {B : Nat} {A : Option Addr} {c : Nat} {L : List (List UInt8)} (h : OwnG 9 1 B w (.slice A L.length c) L.length (strCs L)) : KeyAt w A L := by
  intro i hi
  obtain ⟨_, _, h2⟩ := h.cells rfl
  obtain ⟨g, hg, _, hc⟩ := h2 (by simp [strCs]; omega)
  exact ⟨_, hg, by rw [add_mk, Nat.zero_add]; exact hc i _ (by simp [strCs, hi])⟩
set_option maxHeartbeats 8000000 in
set_option maxRecDepth 100000 in
theorem shell_any (w : World) (s : List UInt8) (L : List (List UInt8)) (hs : s.length ≤ 140000000) (hF : ShF false false [] [] s L) :
    Calls Tryz.prog 24 #[.string ⟨s.toArray⟩] w fun e w' => ∃ A c, e = .returned (.tuple #[.slice A L.length c, .bool true]) ∧ Below w.heap.size w w' ∧ KeyAt w' A L := by
  obtain ⟨n, hn⟩ : ∃ n, n = s.length := ⟨_, rfl⟩
  have hsz : (⟨s.toArray⟩ : ByteArray).size = n := hn.symm
  have HF0 := Lib.hid hF
  have HN := Lib.hid hn
  rw [← hn] at hs
  clear hF hn
  go_enter Tryz.func24, Tryz.ntmps24
  go_wp2_with fail
  go_loopw [4, 5, 6, 7, 8] (fun vo vw qi qw ii wr => ∃ (k : Nat) (inn word : Bool) (ws : List UInt8) (os : List (List UInt8)), k ≤ n ∧ ii = .int .i64 k ∧ qi = .bool inn ∧ qw = .bool word ∧ ws.length ≤ k ∧ os.length ≤ k ∧ Hid (ShF inn word ws os (s.drop k) L) ∧ Below w.heap.size w wr ∧ w.heap.size ≤ wr.heap.size ∧ OwnB w.heap.size wr vw ws ∧ OwnG 9 1 w.heap.size wr vo os.length (strCs os)) (fun vo vw qi qw ii _ => n - (intOf ii).toNat)
  case atStart => exact ⟨0, false, false, [], [], Nat.zero_le _, rfl, rfl, rfl, by simp, by simp, HF0, Below.refl _ _, Nat.le_refl _, OwnB.nil _ _, OwnG.nil _ _ _ _⟩
  case round =>
    clear HF0
    obtain ⟨k, inn, word, ws, os, hk, rfl, rfl, rfl, hwl, hol, HV, hb, hBs, HW, HO⟩ := hrel
    rcases Nat.lt_or_ge k n with hlt | hge
    · have hkl : k < s.length := by have := HN.out; omega
      obtain ⟨c, hc⟩ : ∃ c, c = s[k] := ⟨_, rfl⟩
      have hds := drop_cons s k hkl
      rw [← hc] at hds
      have hby : ∀ h, ((⟨s.toArray⟩ : ByteArray)[k]'h).toNat = c.toNat := fun h => by rw [hc]; rfl
      have hv := HV.out
      rw [hds] at hv
      have HDS := Lib.hid hds
      clear HV hc hds
      have hcn : ∀ x : UInt8, c ≠ x → ((c.toNat : Int) == (x.toNat : Int)) = false := fun x hx => by
        rw [beq_eq_false_iff_ne]; intro e; exact hx (UInt8.toNat_inj.1 (by omega))
      have hA0 := App.start HW hBs
      by_cases c39 : c = 39
      · subst c39
        have HV2 := Lib.hid hv.quote
        clear hv hcn hA0
        cases inn with
        | true =>
          go_wp2_with fail
          all_goals go_roundw
          case rel => exact ⟨k + 1, _, true, ws, os, by omega, by go_num, rfl, rfl, by omega, by omega, HV2, hb, hBs, HW, HO⟩
          case measure => simp [intOf]; omega
        | false =>
          go_wp2_with fail
          all_goals go_roundw
          case rel => exact ⟨k + 1, _, true, ws, os, by omega, by go_num, rfl, rfl, by omega, by omega, HV2, hb, hBs, HW, HO⟩
          case measure => simp [intOf]; omega
      · have t39 := hcn 39 c39
        rw [show ((39 : UInt8).toNat : Int) = 39 from rfl] at t39
        cases inn with
        | true =>
          have HV2 := Lib.hid (hv.in_ rfl c39)
          clear hv hcn
          go_wp2_with (at_builtin; refine appN rfl _ _ rfl [c] 1 _ rfl rfl rfl rfl hA0 (by simp; omega) ?_; intro v2 w2 hA2; have hR := Lib.hid (row_byte hb hBs HO HW hA2); clear hA2 hA0)
          all_goals go_roundw
          case rel => exact ⟨k + 1, true, word, _, os, by omega, by go_num, rfl, rfl, by simp; omega, by omega, HV2, hR.out.1, hR.out.1.size, hR.out.2.2, hR.out.2.1⟩
          case measure => simp [intOf]; omega
        | false =>
          by_cases c92 : c = 92
          · subst c92
            rcases Nat.lt_or_ge (k + 1) n with hlt2 | hge2
            · have hkl2 : k + 1 < s.length := by have := HN.out; omega
              obtain ⟨x, hx⟩ : ∃ x, x = s[k + 1] := ⟨_, rfl⟩
              have hds2 := drop_cons s (k + 1) hkl2
              rw [← hx] at hds2
              have hbx : ∀ h, ((⟨s.toArray⟩ : ByteArray)[k + 1]'h).toNat = x.toNat := fun h => by rw [hx]; rfl
              rw [hds2] at hv
              have HV2 := Lib.hid hv.back
              have t1 : decide ((k : Int) + 1 < (n : Int)) = true := decide_eq_true (by omega)
              clear hv hx hds2 hcn
              go_wp2_with (at_builtin; refine appN rfl _ _ rfl [x] 1 _ rfl rfl rfl rfl hA0 (by simp; omega) ?_; intro v2 w2 hA2; have hR := Lib.hid (row_byte hb hBs HO HW hA2); clear hA2 hA0)
              all_goals go_roundw
              case rel => exact ⟨k + 1 + 1, false, true, _, os, by omega, by go_num, rfl, rfl, by simp; omega, by omega, HV2, hR.out.1, hR.out.1.size, hR.out.2.2, hR.out.2.1⟩
              case measure => simp [intOf]; omega
            · rw [List.drop_eq_nil_of_le (by have := HN.out; omega)] at hv
              exact hv.back_end.elim
          · have t92 := hcn 92 c92
            rw [show ((92 : UInt8).toNat : Int) = 92 from rfl] at t92
            by_cases c32 : c = 32
            · subst c32
              have HV2 := Lib.hid hv.blank
              clear hv hcn
              cases word with
              | false =>
                go_wp2_with fail
                all_goals go_roundw
                case rel => exact ⟨k + 1, false, false, [], os, by omega, by go_num, rfl, rfl, by simp, by omega, by simpa using HV2, hb, hBs, OwnB.nil _ _, HO⟩
                case measure => simp [intOf]; omega
              | true =>
                have kc := own_text HW
                have hG0 := AppG.start HO hBs
                go_wp2_with (at_builtin; refine appGn eltStrs rfl _ _ rfl [.string ⟨ws.toArray⟩] 1 1 _ _ rfl rfl rfl rfl (by simp [Value.oneCell']) hG0 (by unfold maxLen; omega) (by omega) ?_; intro v2 w2 hA2; have hR := Lib.hid (row_word hb hBs HO HW hA2); clear hA2 hG0)
                all_goals go_roundw
                case rel => exact ⟨k + 1, false, false, [], os ++ [ws], by omega, by go_num, rfl, rfl, by simp, by simp; omega, by simpa using HV2, hR.out.1, hR.out.1.size, OwnB.nil _ _, by simpa [strCs] using hR.out.2.1⟩
                case measure => simp [intOf]; omega
            · exact (hv.other c39 c92 c32).elim
    · have hdr : s.drop k = [] := List.drop_eq_nil_of_le (by have := HN.out; omega)
      have hv := HV.out
      rw [hdr] at hv
      obtain ⟨rfl, hLe⟩ := hv.end_
      have HLE := Lib.hid hLe
      clear HV hv hdr hLe
      cases word with
      | false =>
        obtain ⟨A, c, rfl⟩ := HO.shape
        have HKey : Hid (KeyAt wr A L ∧ L.length = os.length) := Lib.hid (by
          have e : L = os := by simpa using HLE.out
          rw [e]; exact ⟨row_texts HO, rfl⟩)
        clear HW HO
        go_wp2_with fail
        go_ret2
        exact ⟨A, c, by rw [HKey.out.2]; first | done | rfl, hb, HKey.out.1⟩
      | true =>
        have kc := own_text HW
        have hG0 := AppG.start HO hBs
        go_wp2_with (at_builtin; refine appGn eltStrs rfl _ _ rfl [.string ⟨ws.toArray⟩] 1 1 _ _ rfl rfl rfl rfl (by simp [Value.oneCell']) hG0 (by unfold maxLen; omega) (by omega) ?_; intro v2 w2 hA2; obtain ⟨A, c, rfl⟩ := hA2.own.shape; have hR := Lib.hid (row_word hb hBs HO HW hA2); clear hA2 hG0)
        have HKey : Hid (KeyAt w2 A L ∧ L.length = os.length + (0 + 1)) := Lib.hid (by
          have e : L = os ++ [ws] := by simpa using HLE.out
          have h := hR.out.2.1
          rw [e]
          refine ⟨row_texts (B := w.heap.size) (c := c) ?_, by simp⟩
          simpa [strCs] using h)
        go_ret2
        exact ⟨A, ⟨c, by rw [HKey.out.2]; first | done | rfl⟩, hR.out.1, HKey.out.1⟩
end Go.Proofs.YtpfamfkdfbcooaaGreatDoor
/- colanderlaw13.cells: the cells of a row of csv and of tsv. -/
namespace Go.Proofs.YtpfamfkdfbcooaaGreatDoor
open Go Go.RowKit Go.Proofs
theorem tsvL_end (w : List UInt8) : tsvL w [92] = [w ++ [92]] := by simp [tsvL]
theorem csvL_two (w s : List UInt8) : csvL true w (34 :: 34 :: s) = csvL true (w ++ [34]) s := by rw [csvL, if_pos ⟨rfl, rfl, rfl⟩]
set_option maxHeartbeats 16000000 in
set_option maxRecDepth 100000 in
theorem cells_csv (w : World) (s : List UInt8) (L : List (List UInt8)) (hs : s.length ≤ 140000000) (hF : csvL false [] s = L) :
    Calls Tryz.prog 25 #[.string ⟨s.toArray⟩, .bool true] w fun e w' => ∃ A c, e = .returned (.slice A L.length c) ∧ Below w.heap.size w w' ∧ KeyAt w' A L := by
  obtain ⟨n, hn⟩ : ∃ n, n = s.length := ⟨_, rfl⟩
  have hsz : (⟨s.toArray⟩ : ByteArray).size = n := hn.symm
  have HF0 : Hid (([] : List (List UInt8)) ++ (csvL false [] (s.drop 0)) = L) := Lib.hid (by rw [List.drop_zero]; exact hF)
  have HN := Lib.hid hn
  rw [← hn] at hs
  clear hF hn
  go_enter Tryz.func25, Tryz.ntmps25
  go_wp2_with fail
  go_loopw [5, 6, 7, 8] (fun vo vw qi ii wr => ∃ (k : Nat) (inn : Bool) (ws : List UInt8) (os : List (List UInt8)), k ≤ n ∧ ii = .int .i64 k ∧ qi = .bool inn ∧ ws.length ≤ k ∧ os.length ≤ k ∧ Hid (os ++ csvL inn ws (s.drop k) = L) ∧ Below w.heap.size w wr ∧ w.heap.size ≤ wr.heap.size ∧ OwnB w.heap.size wr vw ws ∧ OwnG 9 1 w.heap.size wr vo os.length (strCs os)) (fun vo vw qi ii _ => n - (intOf ii).toNat)
  case atStart => exact ⟨0, false, [], [], Nat.zero_le _, rfl, rfl, by simp, by simp, HF0, Below.refl _ _, Nat.le_refl _, OwnB.nil _ _, OwnG.nil _ _ _ _⟩
  case round =>
    clear HF0
    obtain ⟨k, inn, ws, os, hk, rfl, rfl, hwl, hol, HV, hb, hBs, HW, HO⟩ := hrel
    rcases Nat.lt_or_ge k n with hlt | hge
    · have hkl : k < s.length := by have := HN.out; omega
      obtain ⟨c, hc⟩ : ∃ c, c = s[k] := ⟨_, rfl⟩
      have hds := drop_cons s k hkl
      rw [← hc] at hds
      have hby : ∀ h, ((⟨s.toArray⟩ : ByteArray)[k]'h).toNat = c.toNat := fun h => by rw [hc]; rfl
      have hv := HV.out
      rw [hds] at hv
      clear HV hc hds
      have hcn : ∀ x : UInt8, c ≠ x → ((c.toNat : Int) == (x.toNat : Int)) = false := fun x hx => by
        rw [beq_eq_false_iff_ne]; intro e; exact hx (UInt8.toNat_inj.1 (by omega))
      have hA0 := App.start HW hBs
      by_cases c34 : c = 34
      · subst c34
        clear hcn
        have hcn : True := trivial
        cases inn with
        | false =>
          have HV2 : Hid (os ++ csvL true ws (s.drop (k + 1)) = L) := Lib.hid (by rw [csvL_34 false ws _ (.inl rfl)] at hv; exact hv)
          clear hv hcn hA0
          go_wp2_with fail
          all_goals go_roundw
          case rel => exact ⟨k + 1, true, ws, os, by omega, by go_num, rfl, by omega, by omega, HV2, hb, hBs, HW, HO⟩
          case measure => simp [intOf]; omega
        | true =>
          rcases Nat.lt_or_ge (k + 1) n with hlt2 | hge2
          · have hkl2 : k + 1 < s.length := by have := HN.out; omega
            obtain ⟨x, hx⟩ : ∃ x, x = s[k + 1] := ⟨_, rfl⟩
            have hds2 := drop_cons s (k + 1) hkl2
            rw [← hx] at hds2
            have hbx : ∀ h, ((⟨s.toArray⟩ : ByteArray)[k + 1]'h).toNat = x.toNat := fun h => by rw [hx]; rfl
            have t1 : decide ((k : Int) + 1 < (n : Int)) = true := decide_eq_true (by omega)
            have hv2 := hv
            rw [hds2] at hv2
            clear hx
            by_cases x34 : x = 34
            · subst x34
              have HV2 : Hid (os ++ csvL true (ws ++ [34]) (s.drop (k + 1 + 1)) = L) := Lib.hid (by rw [csvL_two] at hv2; exact hv2)
              clear hv hv2 hds2 hcn
              go_wp2_with (at_builtin; refine appN rfl _ _ rfl [34] 1 _ rfl rfl rfl rfl hA0 (by simp; omega) ?_; intro v2 w2 hA2; have hR := Lib.hid (row_byte hb hBs HO HW hA2); clear hA2 hA0)
              all_goals go_roundw
              case rel => exact ⟨k + 1 + 1, true, _, os, by omega, by go_num, rfl, by simp; omega, by omega, HV2, hR.out.1, hR.out.1.size, hR.out.2.2, hR.out.2.1⟩
              case measure => simp [intOf]; omega
            · have u34 : ((x.toNat : Int) == 34) = false := by rw [beq_eq_false_iff_ne]; intro e; exact x34 (UInt8.toNat_inj.1 (by show x.toNat = 34; omega))
              have HV2 : Hid (os ++ csvL false ws (s.drop (k + 1)) = L) := Lib.hid (by rw [csvL_34 true ws _ (.inr (by rw [hds2]; simp [x34]))] at hv; exact hv)
              clear hv hv2 hds2 hcn hA0
              go_wp2_with fail
              all_goals go_roundw
              case rel => exact ⟨k + 1, false, ws, os, by omega, by go_num, rfl, by omega, by omega, HV2, hb, hBs, HW, HO⟩
              case measure => simp [intOf]; omega
          · have hdr2 : s.drop (k + 1) = [] := List.drop_eq_nil_of_le (by have := HN.out; omega)
            have t1 : decide ((k : Int) + 1 < (n : Int)) = false := decide_eq_false (by omega)
            have HV2 : Hid (os ++ csvL false ws (s.drop (k + 1)) = L) := Lib.hid (by rw [csvL_34 true ws _ (.inr (by rw [hdr2]; simp))] at hv; exact hv)
            clear hv hdr2 hcn hA0
            go_wp2_with fail
            all_goals go_roundw
            case rel => exact ⟨k + 1, false, ws, os, by omega, by go_num, rfl, by omega, by omega, HV2, hb, hBs, HW, HO⟩
            case measure => simp [intOf]; omega
      · have t34 := hcn 34 c34
        rw [show ((34 : UInt8).toNat : Int) = 34 from rfl] at t34
        cases inn with
        | true =>
          have HV2 : Hid (os ++ csvL true (ws ++ [c]) (s.drop (k + 1)) = L) := Lib.hid (by rw [csvL_plain true ws c _ c34 (by simp)] at hv; exact hv)
          clear hv hcn
          go_wp2_with (at_builtin; refine appN rfl _ _ rfl [c] 1 _ rfl rfl rfl rfl hA0 (by simp; omega) ?_; intro v2 w2 hA2; have hR := Lib.hid (row_byte hb hBs HO HW hA2); clear hA2 hA0)
          all_goals go_roundw
          case rel => exact ⟨k + 1, true, _, os, by omega, by go_num, rfl, by simp; omega, by omega, HV2, hR.out.1, hR.out.1.size, hR.out.2.2, hR.out.2.1⟩
          case measure => simp [intOf]; omega
        | false =>
          by_cases c44 : c = 44
          · subst c44
            have HV2 : Hid ((os ++ [ws]) ++ csvL false [] (s.drop (k + 1)) = L) := Lib.hid (by rw [csvL_44] at hv; rw [← hv]; simp)
            clear hv hcn hA0
            have kc := own_text HW
            have hG0 := AppG.start HO hBs
            go_wp2_with (at_builtin; refine appGn eltStrs rfl _ _ rfl [.string ⟨ws.toArray⟩] 1 1 _ _ rfl rfl rfl rfl (by simp [Value.oneCell']) hG0 (by unfold maxLen; omega) (by omega) ?_; intro v2 w2 hA2; have hR := Lib.hid (row_word hb hBs HO HW hA2); clear hA2 hG0)
            all_goals go_roundw
            case rel => exact ⟨k + 1, false, [], os ++ [ws], by omega, by go_num, rfl, by simp, by simp; omega, HV2, hR.out.1, hR.out.1.size, OwnB.nil _ _, by simpa [strCs] using hR.out.2.1⟩
            case measure => simp [intOf]; omega
          · have t44 := hcn 44 c44
            rw [show ((44 : UInt8).toNat : Int) = 44 from rfl] at t44
            have HV2 : Hid (os ++ csvL false (ws ++ [c]) (s.drop (k + 1)) = L) := Lib.hid (by rw [csvL_plain false ws c _ c34 (by simp [c44])] at hv; exact hv)
            clear hv hcn
            go_wp2_with (at_builtin; refine appN rfl _ _ rfl [c] 1 _ rfl rfl rfl rfl hA0 (by simp; omega) ?_; intro v2 w2 hA2; have hR := Lib.hid (row_byte hb hBs HO HW hA2); clear hA2 hA0)
            all_goals go_roundw
            case rel => exact ⟨k + 1, false, _, os, by omega, by go_num, rfl, by simp; omega, by omega, HV2, hR.out.1, hR.out.1.size, hR.out.2.2, hR.out.2.1⟩
            case measure => simp [intOf]; omega
    · have hdr : s.drop k = [] := List.drop_eq_nil_of_le (by have := HN.out; omega)
      have hv := HV.out
      rw [hdr, csvL] at hv
      have HLE := Lib.hid hv.symm
      clear HV hv hdr
      have kc := own_text HW
      have hG0 := AppG.start HO hBs
      go_wp2_with (at_builtin; refine appGn eltStrs rfl _ _ rfl [.string ⟨ws.toArray⟩] 1 1 _ _ rfl rfl rfl rfl (by simp [Value.oneCell']) hG0 (by unfold maxLen; omega) (by omega) ?_; intro v2 w2 hA2; obtain ⟨A, c, rfl⟩ := hA2.own.shape; have hR := Lib.hid (row_word hb hBs HO HW hA2); clear hA2 hG0)
      have HKey : Hid (KeyAt w2 A L ∧ L.length = os.length + (0 + 1)) := Lib.hid (by
        have h := hR.out.2.1
        rw [HLE.out]
        refine ⟨row_texts (B := w.heap.size) (c := c) ?_, by simp⟩
        simpa [strCs] using h)
      go_ret
      exact ⟨A, c, by rw [HKey.out.2]; first | done | rfl, hR.out.1, HKey.out.1⟩
set_option maxHeartbeats 16000000 in
set_option maxRecDepth 100000 in
theorem cells_tsv (w : World) (s : List UInt8) (L : List (List UInt8)) (hs : s.length ≤ 140000000) (hF : tsvL [] s = L) :
    Calls Tryz.prog 25 #[.string ⟨s.toArray⟩, .bool false] w fun e w' => ∃ A c, e = .returned (.slice A L.length c) ∧ Below w.heap.size w w' ∧ KeyAt w' A L := by
  obtain ⟨n, hn⟩ : ∃ n, n = s.length := ⟨_, rfl⟩
  have hsz : (⟨s.toArray⟩ : ByteArray).size = n := hn.symm
  have HF0 : Hid (([] : List (List UInt8)) ++ (tsvL [] (s.drop 0)) = L) := Lib.hid (by rw [List.drop_zero]; exact hF)
  have HN := Lib.hid hn
  rw [← hn] at hs
  clear hF hn
  go_enter Tryz.func25, Tryz.ntmps25
  go_wp2_with fail
  go_loopw [5, 6, 7, 8] (fun vo vw qi ii wr => ∃ (k : Nat) (ws : List UInt8) (os : List (List UInt8)), k ≤ n ∧ ii = .int .i64 k ∧ qi = .bool false ∧ ws.length ≤ k ∧ os.length ≤ k ∧ Hid (os ++ tsvL ws (s.drop k) = L) ∧ Below w.heap.size w wr ∧ w.heap.size ≤ wr.heap.size ∧ OwnB w.heap.size wr vw ws ∧ OwnG 9 1 w.heap.size wr vo os.length (strCs os)) (fun vo vw qi ii _ => n - (intOf ii).toNat)
  case atStart => exact ⟨0, [], [], Nat.zero_le _, rfl, rfl, by simp, by simp, HF0, Below.refl _ _, Nat.le_refl _, OwnB.nil _ _, OwnG.nil _ _ _ _⟩
  case round =>
    clear HF0
    obtain ⟨k, ws, os, hk, rfl, rfl, hwl, hol, HV, hb, hBs, HW, HO⟩ := hrel
    rcases Nat.lt_or_ge k n with hlt | hge
    · have hkl : k < s.length := by have := HN.out; omega
      obtain ⟨c, hc⟩ : ∃ c, c = s[k] := ⟨_, rfl⟩
      have hds := drop_cons s k hkl
      rw [← hc] at hds
      have hby : ∀ h, ((⟨s.toArray⟩ : ByteArray)[k]'h).toNat = c.toNat := fun h => by rw [hc]; rfl
      have hv := HV.out
      rw [hds] at hv
      clear HV hc hds
      have hcn : ∀ x : UInt8, c ≠ x → ((c.toNat : Int) == (x.toNat : Int)) = false := fun x hx => by
        rw [beq_eq_false_iff_ne]; intro e; exact hx (UInt8.toNat_inj.1 (by omega))
      have hA0 := App.start HW hBs
      by_cases c92 : c = 92
      · subst c92
        clear hcn
        have hcn : True := trivial
        rcases Nat.lt_or_ge (k + 1) n with hlt2 | hge2
        · have hkl2 : k + 1 < s.length := by have := HN.out; omega
          obtain ⟨x, hx⟩ : ∃ x, x = s[k + 1] := ⟨_, rfl⟩
          have hds2 := drop_cons s (k + 1) hkl2
          rw [← hx] at hds2
          have hbx : ∀ h, ((⟨s.toArray⟩ : ByteArray)[k + 1]'h).toNat = x.toNat := fun h => by rw [hx]; rfl
          have t1 : decide ((k : Int) + 1 < (n : Int)) = true := decide_eq_true (by omega)
          have hv2 := hv
          rw [hds2] at hv2
          clear hx
          have HT := Lib.hid (turned_any wr x)
          have HV2 : Hid (os ++ tsvL (ws ++ [turnedB x]) (s.drop (k + 1 + 1)) = L) := Lib.hid (by rw [tsvL_92] at hv2; exact hv2)
          clear hv hv2 hds2 hcn
          go_wp2_with fail
          refine HT.out.mono ?_
          rintro e' w3 ⟨rfl, rfl⟩
          go_wp2_with (at_builtin; refine appN rfl _ _ rfl [turnedB x] 1 _ rfl rfl rfl rfl hA0 (by simp; omega) ?_; intro v2 w2 hA2; have hR := Lib.hid (row_byte hb hBs HO HW hA2); clear hA2 hA0)
          all_goals go_roundw
          case rel => exact ⟨k + 1 + 1, _, os, by omega, by go_num, rfl, by simp; omega, by omega, HV2, hR.out.1, hR.out.1.size, hR.out.2.2, hR.out.2.1⟩
          case measure => simp [intOf]; omega
        · have hdr2 : s.drop (k + 1) = [] := List.drop_eq_nil_of_le (by have := HN.out; omega)
          have t1 : decide ((k : Int) + 1 < (n : Int)) = false := decide_eq_false (by omega)
          have HV2 : Hid (os ++ tsvL (ws ++ [92]) (s.drop (k + 1)) = L) := Lib.hid (by rw [hdr2, tsvL_end] at hv; rw [hdr2, tsvL]; exact hv)
          clear hv hdr2 hcn
          go_wp2_with (at_builtin; refine appN rfl _ _ rfl [92] 1 _ rfl rfl rfl rfl hA0 (by simp; omega) ?_; intro v2 w2 hA2; have hR := Lib.hid (row_byte hb hBs HO HW hA2); clear hA2 hA0)
          all_goals go_roundw
          case rel => exact ⟨k + 1, _, os, by omega, by go_num, rfl, by simp; omega, by omega, HV2, hR.out.1, hR.out.1.size, hR.out.2.2, hR.out.2.1⟩
          case measure => simp [intOf]; omega
      · have t92 := hcn 92 c92
        rw [show ((92 : UInt8).toNat : Int) = 92 from rfl] at t92
        by_cases c9 : c = 9
        · subst c9
          have HV2 : Hid ((os ++ [ws]) ++ tsvL [] (s.drop (k + 1)) = L) := Lib.hid (by rw [tsvL_9] at hv; rw [← hv]; simp)
          clear hv hcn hA0
          have kc := own_text HW
          have hG0 := AppG.start HO hBs
          go_wp2_with (at_builtin; refine appGn eltStrs rfl _ _ rfl [.string ⟨ws.toArray⟩] 1 1 _ _ rfl rfl rfl rfl (by simp [Value.oneCell']) hG0 (by unfold maxLen; omega) (by omega) ?_; intro v2 w2 hA2; have hR := Lib.hid (row_word hb hBs HO HW hA2); clear hA2 hG0)
          all_goals go_roundw
          case rel => exact ⟨k + 1, [], os ++ [ws], by omega, by go_num, rfl, by simp, by simp; omega, HV2, hR.out.1, hR.out.1.size, OwnB.nil _ _, by simpa [strCs] using hR.out.2.1⟩
          case measure => simp [intOf]; omega
        · have t9 := hcn 9 c9
          rw [show ((9 : UInt8).toNat : Int) = 9 from rfl] at t9
          have HV2 : Hid (os ++ tsvL (ws ++ [c]) (s.drop (k + 1)) = L) := Lib.hid (by rw [tsvL_plain ws c _ c92 c9] at hv; exact hv)
          clear hv hcn
          go_wp2_with (at_builtin; refine appN rfl _ _ rfl [c] 1 _ rfl rfl rfl rfl hA0 (by simp; omega) ?_; intro v2 w2 hA2; have hR := Lib.hid (row_byte hb hBs HO HW hA2); clear hA2 hA0)
          all_goals go_roundw
          case rel => exact ⟨k + 1, _, os, by omega, by go_num, rfl, by simp; omega, by omega, HV2, hR.out.1, hR.out.1.size, hR.out.2.2, hR.out.2.1⟩
          case measure => simp [intOf]; omega
    · have hdr : s.drop k = [] := List.drop_eq_nil_of_le (by have := HN.out; omega)
      have hv := HV.out
      rw [hdr, tsvL] at hv
      have HLE := Lib.hid hv.symm
      clear HV hv hdr
      have kc := own_text HW
      have hG0 := AppG.start HO hBs
      go_wp2_with (at_builtin; refine appGn eltStrs rfl _ _ rfl [.string ⟨ws.toArray⟩] 1 1 _ _ rfl rfl rfl rfl (by simp [Value.oneCell']) hG0 (by unfold maxLen; omega) (by omega) ?_; intro v2 w2 hA2; obtain ⟨A, c, rfl⟩ := hA2.own.shape; have hR := Lib.hid (row_word hb hBs HO HW hA2); clear hA2 hG0)
      have HKey : Hid (KeyAt w2 A L ∧ L.length = os.length + (0 + 1)) := Lib.hid (by
        have h := hR.out.2.1
        rw [HLE.out]
        refine ⟨row_texts (B := w.heap.size) (c := c) ?_, by simp⟩
        simpa [strCs] using h)
      go_ret
      exact ⟨A, c, by rw [HKey.out.2]; first | done | rfl, hR.out.1, HKey.out.1⟩
end Go.Proofs.YtpfamfkdfbcooaaGreatDoor
