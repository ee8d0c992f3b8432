/- printer.Escape by its contract. -/
import Derived.Test.YticaihfcnbehpaaGreatDoorQuv
set_option linter.unusedVariables false
set_option linter.unusedSimpArgs false
namespace Go.Proofs.YticaihfcnbehpaaGreatDoor
open Go Go.RowKit Go.Proofs

def escR (r : Nat) : List UInt8 := if r < 128 then [UInt8.ofNat r] else if 65535 < r then unitT (55296 + (r - 65536) / 1024) ++ unitT (56320 + (r - 65536) % 1024) else unitT r
def escFrom (s : ByteArray) : Nat → Nat → List UInt8
  | 0, _ => []
  | f + 1, p => if p < s.size then escR (Utf8.decode s p).1 ++ escFrom s f (p + (Utf8.decode s p).2) else []
def escA (q : List UInt8) : List UInt8 := escFrom ⟨q.toArray⟩ q.length 0
def escT (s : List UInt8) (asc : Bool) : List UInt8 := if asc = true then escA (quoteT s) else quoteT s
theorem width_pos (s : ByteArray) (pos : Nat) (h : pos < s.size) : 1 ≤ (Utf8.decode s pos).2 := by
  by_cases ha : (s[pos]'h).toNat < 128
  · rw [decode_ascii s pos h ha]
    exact Nat.le_refl _
  · exact (decode_high s pos h (by omega)).2
theorem decode_le2 (s : ByteArray) (pos : Nat) : (Utf8.decode s pos).1 ≤ 2097151 := by
  have hb : ∀ k, (s.get! (pos + k)).toNat < 256 := fun k => (s.get! (pos + k)).toNat_lt
  have h0 := hb 0; have h1 := hb 1; have h2 := hb 2; have h3 := hb 3
  simp only [Utf8.decode]
  repeat' split
  all_goals simp_all [Utf8.runeError]
  all_goals omega
theorem escR_length (r : Nat) : (escR r).length ≤ 12 := by
  unfold escR unitT
  repeat' split
  all_goals simp
theorem escR_pos (r : Nat) : escR r ≠ [] := by
  unfold escR unitT
  repeat' split
  all_goals simp
theorem keep_iterAt (w : World) (k : Nat) (s : ByteArray) (pos : Nat) : Keep (fun j => j = k) w (w.iterAt k s pos) :=
  ⟨rfl, rfl, rfl, by rw [Lib.iterAt_size]; exact Nat.le_refl _, fun j _ hj => Lib.iterAt_other w k j s pos hj⟩
theorem Bw.iter_ne {b : Nat} {T : TypeId} {rest : List Value} {w : World} {v : Value} {bs : List UInt8} (h : Bw b T rest w v bs) {k : Nat} {s : ByteArray} {pos : Nat} (hk : w.heap[k]? = some (.stringIter s pos)) : v.ownBlock ≠ some k ∧ b ≠ k := by
  refine ⟨fun e => ?_, fun e => ?_⟩
  · obtain ⟨cur, hc⟩ := h.own.type_of k e
    rw [hk] at hc
    cases hc
  · subst e
    obtain ⟨p, hp, _⟩ := h.heap
    rw [hk] at hp
    cases hp
theorem Bw.iterAt {b : Nat} {T : TypeId} {rest : List Value} {w : World} {v : Value} {bs : List UInt8} (h : Bw b T rest w v bs) {k : Nat} {s : ByteArray} {pos : Nat} (hk : w.heap[k]? = some (.stringIter s pos)) (pos' : Nat) : Bw b T rest (w.iterAt k s pos') v bs :=
  h.keep (keep_iterAt w k s pos') (h.iter_ne hk).2 (fun j hj e => (h.iter_ne hk).1 (by rw [hj, e]))
theorem BApp.iter {b : Nat} {T : TypeId} {rest : List Value} {w w' : World} {v v' : Value} {bs l : List UInt8} (hB : BApp b T w v bs w' v' l rest) (h : Bw b T rest w v bs) {k : Nat} {s : ByteArray} {pos : Nat} (hk : w.heap[k]? = some (.stringIter s pos)) : w'.heap[k]? = some (.stringIter s pos) :=
  hB.keep.heap hk (fun e => by
    rcases e with e | e
    · exact (h.iter_ne hk).2 e.symm
    · exact (h.iter_ne hk).1 e.symm)
theorem strVal (s : List UInt8) : Value.agg #[.int .i64 4, .float .f64 0, .string ⟨s.toArray⟩, .slice none 0 0, .slice none 0 0] = .agg #[.int .i64 ((4 : Nat) : Int), .float .f64 0, .string ⟨s.toArray⟩, .slice none 0 0, .slice none 0 0] := rfl
set_option maxRecDepth 100000 in
theorem escape_plain (w : World) (TW : Tabs w) (s : List UInt8) (hl : s.length ≤ 10000000) :
    Calls Tryz.prog 13 #[.string ⟨s.toArray⟩, .bool false] w fun e w' => e = .returned (.string ⟨(quoteT s).toArray⟩) ∧ Below w.heap.size w w' := by
  go_enter Tryz.func13, Tryz.ntmps13
  go_wp2_with fail
  refine (valueText_any _ TW 4 (by omega) 0 (by omega) s _ _ ⟨_, _, _, rfl⟩ ⟨_, _, _, rfl⟩ (by omega)).mono ?_
  rintro e' w1 ⟨rfl, hb1⟩
  go_wp2_with fail
  go_ret
  exact ⟨rfl, hb1⟩
set_option maxHeartbeats 1000000 in
set_option maxRecDepth 100000 in
theorem escape_ascii (w : World) (TW : Tabs w) (s : List UInt8) (hl : s.length ≤ 10000000) :
    Calls Tryz.prog 13 #[.string ⟨s.toArray⟩, .bool true] w fun e w' => e = .returned (.string ⟨(escA (quoteT s)).toArray⟩) ∧ Below w.heap.size w w' := by
  have hq0 : plainT 4 0 s = quoteT s := rfl
  have hq1 : (quoteT s).length ≤ 60000002 := by
    have := flatMap_length s
    unfold quoteT
    rw [List.length_cons, List.length_append, List.length_singleton]
    omega
  have HQ := Lib.hid hq0
  clear hq0
  obtain ⟨E, hEE⟩ : ∃ E, E = escA (quoteT s) := ⟨_, rfl⟩
  rw [← hEE]
  have HE := Lib.hid hEE
  have hE0 : E ≠ [] := by
    rw [hEE]
    have hp : 0 < (⟨(quoteT s).toArray⟩ : ByteArray).size := by show 0 < (quoteT s).length; simp [quoteT]
    have hr := escR_pos (Utf8.decode ⟨(quoteT s).toArray⟩ 0).1
    obtain ⟨m, hm⟩ : ∃ m, (quoteT s).length = m + 1 := ⟨(quoteT s).length - 1, by simp [quoteT]⟩
    unfold escA
    rw [hm, escFrom, if_pos hp]
    intro h
    exact hr (List.append_eq_nil_iff.1 h).1
  clear hEE
  go_enter Tryz.func13, Tryz.ntmps13
  go_wp2_with fail
  refine (valueText_any _ TW 4 (by omega) 0 (by omega) s _ _ ⟨_, _, _, rfl⟩ ⟨_, _, _, rfl⟩ (by omega)).mono ?_
  rintro e' w1 ⟨rfl, hb1⟩
  rw [HQ.out]
  obtain ⟨q, hq⟩ : ∃ q, q = quoteT s := ⟨_, rfl⟩
  rw [← hq] at hq1 HE ⊢
  clear hq HQ
  have hB0 := bw_new w1
  go_wp2_with fail
  obtain ⟨B1, hB1⟩ : ∃ B1, B1 = w1.heap.size := ⟨_, rfl⟩
  have hw1 : w.heap.size ≤ B1 := by rw [hB1]; exact hb1.size
  have hst : Bw B1 49 [] ((w1.alloc (.cells #[.pointer none, .slice none 0 0] 49)).iter ⟨q.toArray⟩ 0) (.slice none 0 0) [] ∧ ((w1.alloc (.cells #[.pointer none, .slice none 0 0] 49)).iter ⟨q.toArray⟩ 0).heap[B1 + 1]? = some (.stringIter ⟨q.toArray⟩ 0) ∧ Below w.heap.size w ((w1.alloc (.cells #[.pointer none, .slice none 0 0] 49)).iter ⟨q.toArray⟩ 0) := by
    rw [hB1]
    refine ⟨hB0.below (show Below _ _ (World.alloc _ (.stringIter ⟨q.toArray⟩ 0)) from (Below.refl _ _).alloc (Nat.le_refl _) _), ?_, ?_⟩
    · have := World.iter_heap (w1.alloc (.cells #[.pointer none, .slice none 0 0] 49)) ⟨q.toArray⟩ 0
      simpa using this
    · exact (show Below _ _ (World.alloc _ (.stringIter ⟨q.toArray⟩ 0)) from (hb1.alloc (by exact hb1.size) _).alloc (by have := hb1.size; simp; omega) _)
  rw [← hB1]
  clear hB0 hb1
  have HST := Lib.hid hst
  have HB1 := Lib.hid hB1
  clear hst hB1
  obtain ⟨qb', hqb⟩ : ∃ Q : ByteArray, Q = ⟨q.toArray⟩ := ⟨_, rfl⟩
  have hqs : qb'.size = q.length := by rw [hqb]; rfl
  have hE : escA q = escFrom qb' qb'.size 0 := by rw [hqs, hqb]; rfl
  rw [hE] at HE
  rw [← hqb] at HST ⊢
  have hqs' : qb'.size ≤ 60000002 := by omega
  clear hE hqb hqs hq1
  have HEE : Hid (escFrom qb' qb'.size 0 = E) := Lib.hid HE.out.symm
  go_loopw [] (fun wr => ∃ (pos fuel : Nat) (acc : List UInt8) (vk : Value), Bw B1 49 [] wr vk acc ∧ wr.heap[B1 + 1]? = some (.stringIter qb' pos) ∧ Below w.heap.size w wr ∧ acc ++ escFrom qb' fuel pos = escFrom qb' qb'.size 0 ∧ qb'.size ≤ pos + fuel ∧ acc.length ≤ 12 * pos) (fun wr => qb'.size - wr.iterPos (B1 + 1))
  case atStart => exact ⟨0, qb'.size, [], _, HST.out.1, HST.out.2.1, HST.out.2.2, rfl, by omega, by simp⟩
  case round =>
    obtain ⟨pos, fuel, acc, vk, hI, hit, hbw, hacc, hfu, hal⟩ := hrel
    by_cases hp : pos < qb'.size
    · have hnx : ∀ ty, (Instr.next (.pointer (some ⟨B1 + 1, 0, none⟩)) true ty).run Tryz.prog wr = _ := fun ty => Lib.run_next_any_at wr (B1 + 1) qb' pos ty hit hp
      have hwd := width_pos qb' pos hp
      have hd1 := decode_le2 qb' pos
      have hI2 := hI.iterAt hit (pos + (Utf8.decode qb' pos).2)
      have hit2 := Lib.iterAt_heap wr (B1 + 1) qb' pos (pos + (Utf8.decode qb' pos).2) hit
      have hbw2 := Lib.below_iterAt hbw (k := B1 + 1) (by omega) qb' (pos + (Utf8.decode qb' pos).2)
      obtain ⟨f, rfl⟩ : ∃ f, fuel = f + 1 := ⟨fuel - 1, by omega⟩
      have hstep : escFrom qb' (f + 1) pos = escR (Utf8.decode qb' pos).1 ++ escFrom qb' f (pos + (Utf8.decode qb' pos).2) := by rw [escFrom, if_pos hp]
      rw [hstep] at hacc
      obtain ⟨r, hr⟩ : ∃ r, r = (Utf8.decode qb' pos).1 := ⟨_, rfl⟩
      obtain ⟨n, hn⟩ : ∃ n, n = (Utf8.decode qb' pos).2 := ⟨_, rfl⟩
      rw [← hr] at hnx hacc hd1
      rw [← hn] at hnx hI2 hit2 hbw2 hacc hwd
      obtain ⟨W2, hW2⟩ : ∃ W2, W2 = wr.iterAt (B1 + 1) qb' (pos + n) := ⟨_, rfl⟩
      rw [← hW2] at hnx hI2 hit2 hbw2
      have HACC := Lib.hid hacc
      have HIT := Lib.hid hit2
      clear hacc hr hn hW2 hstep hit2
      have hfin : ∀ (w3 : World) (v3 : Value), BApp B1 49 W2 vk acc w3 v3 (escR r) [] → Bw B1 49 [] w3 v3 (acc ++ escR r) ∧ w3.heap[B1 + 1]? = some (.stringIter qb' (pos + n)) ∧ Below w.heap.size w w3 ∧ (acc ++ escR r) ++ escFrom qb' f (pos + n) = escFrom qb' qb'.size 0 ∧ qb'.size ≤ (pos + n) + f ∧ (acc ++ escR r).length ≤ 12 * (pos + n) := by
        intro w3 v3 hA
        refine ⟨hA.now, hA.iter hI2 HIT.out, hbw2.trans (hA.keep.below hbw2.size (fun k hk => ?_)), by rw [List.append_assoc]; exact HACC.out, by omega, ?_⟩
        · rintro (e | e)
          · omega
          · have := (hI2.own.lt k e.symm).1; omega
        · have := escR_length r; rw [List.length_append]; omega
      rcases Nat.lt_or_ge r 128 with h128 | h128
      · have he : escR r = [UInt8.ofNat r] := by unfold escR; rw [if_pos h128]
        rw [he] at hfin
        clear he
        go_wp2_with fail
        refine (writeByte_any (rest := []) fits_builder hI2 r (UInt8.ofNat r) (by rw [UInt8.toNat_ofNat', Nat.mod_eq_of_lt (by omega)]) (by omega)).mono ?_
        rintro e' w3 ⟨rfl, v3, hA⟩
        have hF := hfin w3 v3 hA
        clear hA
        have hF2 := Lib.hid hF.2.1
        go_wp2_with fail
        all_goals go_roundw
        case rel => exact ⟨pos + n, f, _, v3, hF⟩
        case measure =>
          simp only [World.iterPos, hF2.out, hit]
          omega
      · rcases Nat.lt_or_ge 65535 r with hbig | hbig
        · have he : escR r = unitT (55296 + (r - 65536) / 1024) ++ unitT (56320 + (r - 65536) % 1024) := by unfold escR; rw [if_neg (by omega), if_pos hbig]
          rw [he] at hfin
          clear he
          have hand : bits BinOp.and IntKind.i32 ((r : Int) - 65536) 1023 = (((r - 65536) % 1024 : Nat) : Int) := by
            have := and_low32 10 (by omega) ((r : Int) - 65536)
            rw [show ((2 : Int) ^ 10 - 1) = 1023 from by decide, show ((2 : Int) ^ 10) = 1024 from by decide] at this
            rw [this]; omega
          obtain ⟨d, hd⟩ : ∃ d, d = (r - 65536) % 1024 := ⟨_, rfl⟩
          have hd1024 : d < 1024 := by omega
          rw [← hd] at hand hfin
          obtain ⟨c, hc⟩ : ∃ c, c = 55296 + (r - 65536) / 1024 := ⟨_, rfl⟩
          have hci : (55296 : Int) + ((r : Int) - 65536) / 1024 = (c : Int) := by omega
          have hc2 : c < 65536 := by omega
          rw [← hc] at hfin
          have HCI := Lib.hid hci
          clear hd hc hci
          go_wp2_with fail
          rw [HCI.out]
          refine (unit_any hI2 c hc2 (by omega)).mono ?_
          rintro e' w3 ⟨rfl, v3, hA⟩
          go_wp2_with fail
          rw [show (56320 : Int) + (d : Int) = ((56320 + d : Nat) : Int) from by omega]
          refine (unit_any hA.now (56320 + d) (by omega) (by rw [List.length_append]; show _ + 6 + 6 ≤ _; omega)).mono ?_
          rintro e' w4 ⟨rfl, v4, hA4⟩
          have hF := hfin w4 v4 (hA.join hA4)
          clear hA hA4
          have hF2 := Lib.hid hF.2.1
          go_wp2_with fail
          all_goals go_roundw
          case rel => exact ⟨pos + n, f, _, v4, hF⟩
          case measure =>
            simp only [World.iterPos, hF2.out, hit]
            omega
        · have he : escR r = unitT r := by unfold escR; rw [if_neg (by omega), if_neg (by omega)]
          rw [he] at hfin
          clear he
          go_wp2_with fail
          refine (unit_any hI2 r (by omega) (by omega)).mono ?_
          rintro e' w3 ⟨rfl, v3, hA⟩
          have hF := hfin w3 v3 hA
          clear hA
          have hF2 := Lib.hid hF.2.1
          go_wp2_with fail
          all_goals go_roundw
          case rel => exact ⟨pos + n, f, _, v3, hF⟩
          case measure =>
            simp only [World.iterPos, hF2.out, hit]
            omega
    · have hnx : ∀ ty, (Instr.next (.pointer (some ⟨B1 + 1, 0, none⟩)) true ty).run Tryz.prog wr = _ := fun ty => Lib.run_next_end_at wr (B1 + 1) qb' pos ty hit hp
      have hend : acc = E := by
        rw [← HEE.out, ← hacc]
        cases fuel with
        | zero => simp [escFrom]
        | succ f => rw [escFrom, if_neg hp, List.append_nil]
      rw [hend] at hI
      clear hend hacc
      go_wp2_with fail
      refine (string_any hI hE0).mono ?_
      rintro e' w3 ⟨rfl, hb3⟩
      have hbw3 := hbw.trans (hb3.mono hw1)
      go_wp2_with fail
      go_ret
      exact ⟨rfl, hbw3⟩
theorem escape_any (w : World) (TW : Tabs w) (s : List UInt8) (asc : Bool) (hl : s.length ≤ 10000000) :
    Calls Tryz.prog 13 #[.string ⟨s.toArray⟩, .bool asc] w fun e w' => e = .returned (.string ⟨(escT s asc).toArray⟩) ∧ Below w.heap.size w w' := by
  cases asc with
  | false => exact escape_plain w TW s hl
  | true => exact escape_ascii w TW s hl
end Go.Proofs.YticaihfcnbehpaaGreatDoor
