/- printer.sheet.value's second closure, where keys are not sorted. -/
import Derived.Test.YtopecjnmeeejhaaGreatDoorTre
import Derived.Deep.RegionHeld3
set_option linter.unusedVariables false
set_option linter.unusedSimpArgs false
namespace Go.Proofs.YtopecjnmeeejhaaGreatDoor
open Go Go.RowKit Go.Proofs
theorem escFrom_length (s : ByteArray) : ∀ f p, (escFrom s f p).length ≤ 12 * f
  | 0, _ => by simp [escFrom]
  | f + 1, p => by
    have := escR_length (Utf8.decode s p).1
    have := escFrom_length s f (p + (Utf8.decode s p).2)
    rw [escFrom]
    split
    · rw [List.length_append]; omega
    · simp
theorem escT_length (s : List UInt8) (asc : Bool) (h : s.length ≤ 1048576) : (escT s asc).length ≤ 900000000 := by
  have h2 := flatMap_length s
  have h3 : (quoteT s).length ≤ 6 * s.length + 2 := by
    unfold quoteT
    rw [List.length_cons, List.length_append, List.length_singleton]
    omega
  have h4 := escFrom_length ⟨(quoteT s).toArray⟩ (quoteT s).length 0
  unfold escT escA
  split <;> omega
theorem after_new (w w' : World) (t : TypeId) (x0 x1 x2 x3 x4 : Value) (h : w' = w.alloc (.cells #[x0, x1, x2, x3, x4] t)) :
    Below w.heap.size w w' ∧ w'.cell? ⟨w.heap.size, 0, none⟩ = some x0 ∧ w'.cell? ⟨w.heap.size, 1, none⟩ = some x1 ∧ w'.cell? ⟨w.heap.size, 2, none⟩ = some x2 ∧ w'.cell? ⟨w.heap.size, 3, none⟩ = some x3 ∧ w'.cell? ⟨w.heap.size, 4, none⟩ = some x4 := by
  subst h
  refine ⟨(Below.refl _ _).alloc (Nat.le_refl _) _, ?_, ?_, ?_, ?_, ?_⟩ <;> · rw [World.cell?_alloc_new]; rfl
theorem one5 (kk : Int) (nn : Nat) (ss : ByteArray) (A3 A4 : Option Addr) (n3 e3 n4 e4 : Nat) : (#[Value.int .i64 kk, Value.float .f64 nn, Value.string ss, Value.slice A3 n3 e3, Value.slice A4 n4 e4].all (·.oneCell')) = true := by simp [Value.oneCell']
theorem setRow_new (w : World) (cs cs' : Array Value) (t : TypeId) : (w.alloc (.cells cs t)).setRow w.heap.size cs' = w.alloc (.cells cs' t) := by
  have : (w.alloc (.cells cs t)).heap = w.heap.push (.cells cs t) := rfl
  unfold World.setRow
  simp only [this]
  show ({ w with heap := _ } : World) = { w with heap := w.heap.push (.cells cs' t) }
  congr 1
  apply Array.ext
  · simp
  · intro i h1 h2
    simp only [Array.getElem_modify, Array.getElem_push]
    simp at h1
    by_cases hi : i = w.heap.size
    · subst hi; simp
    · simp [Ne.symm hi, show i < w.heap.size by omega]
section
variable {b : Nat} {S : Sty} {w : World} {v : Value} {st : St}
set_option maxHeartbeats 1000000 in
set_option maxRecDepth 100000 in
theorem value2_any (h : Sh b S w v st) (hS : S.srt = false) (w0 : World) (T0 : Tabs w0) (hb : w0.heap.size ≤ b) (h0 : Below w0.heap.size w0 w) (d : Nat) (t : Tr) (c1 c4 c2 c3 i n cc n2 cc2 lvl : Nat) (ad ad2 : Addr) (key : List UInt8) (kk : Int) (nn : Nat) (ss : ByteArray) (A3 A4 : Option Addr) (n3 e3 n4 e4 : Nat) (hin : i < n) (hin2 : i < n2) (hlv : lvl + 1 + d ≤ 900000) (hk : key.length ≤ 1048576)
    (h1 : w.cell? ⟨c1, 0, none⟩ = some (.pointer (some ⟨b, 0, none⟩))) (h2 : w.cell? ⟨c2, 3, none⟩ = some (.slice (some ad) n cc)) (h3 : w.cell? ⟨c3, 0, none⟩ = some (.int .i64 lvl)) (h4 : w.cell? ⟨c4, 0, none⟩ = some (.slice (some ad2) n2 cc2))
    (hd1 : c1 ≠ b ∧ v.ownBlock ≠ some c1) (hd2 : c2 ≠ b ∧ v.ownBlock ≠ some c2) (hd3 : c3 ≠ b ∧ v.ownBlock ≠ some c3) (hd4 : c4 ≠ b ∧ v.ownBlock ≠ some c4)
    (hkey : w0.cell? (ad2.add i) = some (.string ⟨key.toArray⟩)) (hc5 : Cells5 w0 (ad.add (i * 5)) (.int .i64 kk) (.float .f64 nn) (.string ss) (.slice A3 n3 e3) (.slice A4 n4 e4)) (hV : Vals S w0 d t (.int .i64 kk) (.float .f64 nn) (.string ss) (.slice A3 n3 e3) (.slice A4 n4 e4)) :
    Calls Tryz.prog 112 #[.int .i64 i, .pointer (some ⟨c1, 0, none⟩), .pointer (some ⟨c4, 0, none⟩), .pointer (some ⟨c2, 0, none⟩), .pointer (some ⟨c3, 0, none⟩)] w fun e w' => e = .returned (.tuple #[]) ∧ ∃ v', SStep b S w v w' v' (pv S d t (lvl + 1) (keyS S st key)) := by
  have hkw : w.cell? (ad2.add i) = some (.string ⟨key.toArray⟩) := (h0.cell (World.block_lt_of_cell? w0 _ hkey)).trans hkey
  have hasc := h.cAsc
  have TW : Tabs w := T0.next h0
  have hlen := escT_length key S.asc hk
  have K1 : ∀ W, Below w.heap.size w W → W.cell? ⟨c1, 0, none⟩ = some (.pointer (some ⟨b, 0, none⟩)) ∧ W.cell? ⟨c4, 0, none⟩ = some (.slice (some ad2) n2 cc2) ∧ W.cell? (ad2.add i) = some (.string ⟨key.toArray⟩) ∧ W.cell? ⟨b, 5, none⟩ = some (.bool S.asc) := fun W hb => ⟨(hb.cell (World.block_lt_of_cell? w _ h1)).trans h1, (hb.cell (World.block_lt_of_cell? w _ h4)).trans h4, (hb.cell (World.block_lt_of_cell? w _ hkw)).trans hkw, (hb.cell (World.block_lt_of_cell? w _ hasc)).trans hasc⟩
  have K2 : ∀ W W' v' st', Below w.heap.size w W → SStep b S W v W' v' st' → W'.cell? ⟨c1, 0, none⟩ = some (.pointer (some ⟨b, 0, none⟩)) ∧ W'.cell? ⟨c4, 0, none⟩ = some (.slice (some ad2) n2 cc2) ∧ W'.cell? (ad2.add i) = some (.string ⟨key.toArray⟩) ∧ W'.cell? ⟨b, 5, none⟩ = some (.bool S.asc) := fun W W' v' st' hbW hA => by
    obtain ⟨k1, k2, k3, k4⟩ := K1 W hbW
    refine ⟨hA.cell (h.below hbW) k1 hd1.1 hd1.2, hA.cell (h.below hbW) k2 hd4.1 hd4.2, ?_, hA.now.cAsc⟩
    have hlt : (ad2.add i).block < w0.heap.size := World.block_lt_of_cell? w0 _ hkey
    have hbl := hA.keep.block (ad2.add i).block (by have := h0.size; have := hbW.size; omega) (fun e => by
      rcases e with e | e
      · omega
      · have := (h.bw.own.lt _ e.symm).1; omega)
    exact (World.cell?_of_block hbl).trans k3
  go_enter Tryz.func112, Tryz.ntmps112
  go_wp2_with fail
  go_region_held3 (fun W => W.cell? ⟨c1, 0, none⟩ = some (.pointer (some ⟨b, 0, none⟩)) ∧ W.cell? ⟨c4, 0, none⟩ = some (.slice (some ad2) n2 cc2) ∧ W.cell? (ad2.add i) = some (.string ⟨key.toArray⟩) ∧ W.cell? ⟨b, 5, none⟩ = some (.bool S.asc))
    (first | exact K1 _ (Below.refl _ _).drew | exact K1 _ hbx | exact K2 _ _ _ _ hbx hA)
    (first | (go_at_call 20; refine (escape_any _ (TW.below (Nat.le_refl _) (Below.refl _ _).drew) key S.asc (by omega)).mono ?_; rintro e' w1 ⟨rfl, hb1⟩; have hbx := Below.also (Below.refl _ _).drew hb1) | (go_at_call 113; refine (token_any (h.below hbx) (escT key S.asc) [51, 52, 59, 49] hlen (by decide)).mono ?_; rintro e' w2 ⟨rfl, v2, hA⟩))
  have hE : SStep b S w v w2 v2 (tokS S st (escT key S.asc) [51, 52, 59, 49]) := ((SStep.start h).below hbx).join hA
  obtain ⟨s1, hs1⟩ : ∃ s, s = tokS S st (escT key S.asc) [51, 52, 59, 49] := ⟨_, rfl⟩
  obtain ⟨s2, hs2⟩ : ∃ s, s = tokS S s1 [58] sgn := ⟨_, rfl⟩
  have hkS : keyS S st key = if S.loose = true then putS s2 [32] else s2 := by rw [hs2, hs1]; rfl
  rw [← hs1] at hE
  have HK := Lib.hid hkS
  have HS2 := Lib.hid hs2
  clear hA hs1 hs2 hkS K1 K2 hb1 hbx hlen
  have HV := Lib.hid hV
  clear hV
  have k1 := hE.cell h h1 hd1.1 hd1.2
  go_wp2_with fail
  refine (token_any hE.now [58] sgn (by decide) (by decide)).mono ?_
  rintro e' w3 ⟨rfl, v3, hA⟩
  rw [← HS2.out] at hA
  have hE := hE.join hA
  clear hA k1
  have k1 := hE.cell h h1 hd1.1 hd1.2
  go_wp2_with fail
  refine (loose_any hE.now).mono ?_
  rintro e' _ ⟨rfl, rfl⟩
  have tail : ∀ (W : World) (V : Value) (s3 : St), SStep b S w v W V s3 → s3 = keyS S st key → True := fun _ _ _ _ _ => trivial
  clear tail
  cases hL : S.loose with
  | false =>
    have HK2 : Hid (keyS S st key = s2) := Lib.hid (by rw [HK.out, hL, if_neg (by decide)])
    clear hL
    have k2 := hE.cell h h2 hd2.1 hd2.2
    have k3 := hE.cell h h3 hd3.1 hd3.2
    rw [← HK2.out] at hE
    have h00 := hE.below0 h hb h0
    obtain ⟨g0, g1, g2, g3, g4⟩ := hc5.below h00
    have hsrt := hE.now.cSrt
    rw [hS] at hsrt
    go_wp2_with (refine wpList_store_row rfl 27 (.tmp 6) (.tmp 29) rfl _ #[.int .i64 kk, .float .f64 nn, .string ss, .slice A3 n3 e3, .slice A4 n4 e4] rfl rfl 27 #[.int .i64 0, .float .f64 0, .string ⟨#[]⟩, .slice none 0 0, .slice none 0 0] (heap_alloc_new _ _) (by kernel_rfl) rfl (one5 kk nn ss A3 A4 n3 e3 n4 e4) ?_; rw [setRow_new]; obtain ⟨W5, hW5⟩ : ∃ W5, W5 = World.alloc w3 (.cells #[.int .i64 kk, .float .f64 nn, .string ss, .slice A3 n3 e3, .slice A4 n4 e4] 27) := ⟨_, rfl⟩; rw [← hW5]; have A5 := after_new _ _ _ _ _ _ _ _ hW5; clear hW5; obtain ⟨hb5, e0, e1, e2, e3', e4'⟩ := A5; have q1 := (hb5.cell (World.block_lt_of_cell? _ _ k1)).trans k1; have q3 := (hb5.cell (World.block_lt_of_cell? _ _ k3)).trans k3; have qs := (hb5.cell (World.block_lt_of_cell? _ _ hsrt)).trans hsrt; clear k1 k2 k3 hsrt g0 g1 g2 g3 g4)
    have hE5 := hE.below hb5
    refine (HV.out b W5 _ _ (lvl + 1) _ (by first | omega | (rw [IntKind.wrap_i64]; omega)) (by omega) hb (hE5.below0 h hb h0) hE5.now).mono ?_
    rintro e' w6 ⟨rfl, v6, hA⟩
    have hF := hE5.join hA
    go_wp2_with fail
    go_end0
    exact ⟨rfl, v6, hF⟩
  | true =>
    have HK2 : Hid (keyS S st key = putS s2 [32]) := Lib.hid (by rw [HK.out, hL, if_pos rfl])
    clear hL
    go_wp2_with fail
    refine (put_any hE.now [32] (by decide)).mono ?_
    rintro e' w4 ⟨rfl, v4, hA⟩
    have hE := hE.join hA
    clear hA k1
    have k1 := hE.cell h h1 hd1.1 hd1.2
    have k2 := hE.cell h h2 hd2.1 hd2.2
    have k3 := hE.cell h h3 hd3.1 hd3.2
    rw [← HK2.out] at hE
    have h00 := hE.below0 h hb h0
    obtain ⟨g0, g1, g2, g3, g4⟩ := hc5.below h00
    have hsrt := hE.now.cSrt
    rw [hS] at hsrt
    go_wp2_with (refine wpList_store_row rfl 27 (.tmp 6) (.tmp 29) rfl _ #[.int .i64 kk, .float .f64 nn, .string ss, .slice A3 n3 e3, .slice A4 n4 e4] rfl rfl 27 #[.int .i64 0, .float .f64 0, .string ⟨#[]⟩, .slice none 0 0, .slice none 0 0] (heap_alloc_new _ _) (by kernel_rfl) rfl (one5 kk nn ss A3 A4 n3 e3 n4 e4) ?_; rw [setRow_new]; obtain ⟨W5, hW5⟩ : ∃ W5, W5 = World.alloc w4 (.cells #[.int .i64 kk, .float .f64 nn, .string ss, .slice A3 n3 e3, .slice A4 n4 e4] 27) := ⟨_, rfl⟩; rw [← hW5]; have A5 := after_new _ _ _ _ _ _ _ _ hW5; clear hW5; obtain ⟨hb5, e0, e1, e2, e3', e4'⟩ := A5; have q1 := (hb5.cell (World.block_lt_of_cell? _ _ k1)).trans k1; have q3 := (hb5.cell (World.block_lt_of_cell? _ _ k3)).trans k3; have qs := (hb5.cell (World.block_lt_of_cell? _ _ hsrt)).trans hsrt; clear k1 k2 k3 hsrt g0 g1 g2 g3 g4)
    have hE5 := hE.below hb5
    refine (HV.out b W5 _ _ (lvl + 1) _ (by first | omega | (rw [IntKind.wrap_i64]; omega)) (by omega) hb (hE5.below0 h hb h0) hE5.now).mono ?_
    rintro e' w6 ⟨rfl, v6, hA⟩
    have hF := hE5.join hA
    go_wp2_with fail
    go_end0
    exact ⟨rfl, v6, hF⟩
end
end Go.Proofs.YtopecjnmeeejhaaGreatDoor
