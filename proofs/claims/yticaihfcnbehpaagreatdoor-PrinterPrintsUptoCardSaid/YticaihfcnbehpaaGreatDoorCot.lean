/- In one text: printer.Colour.; Values as trees; printer.sheet.value where keys are not sorted.; printer.sheet.value's second closure, where keys are not sorted. -/
import Derived.Test.YticaihfcnbehpaaGreatDoorMan
import Derived.StillTailTactics
import Derived.Deep.RegionHeld3
set_option linter.unusedVariables false
set_option linter.unusedSimpArgs false
/- printer.Colour. -/
namespace Go.Proofs.YticaihfcnbehpaaGreatDoor
open Go Go.RowKit Go.Proofs
set_option maxHeartbeats 1000000 in
set_option maxRecDepth 100000 in
theorem colour_any (w : World) (k : Nat) (hk : k ≤ 6) (num : Nat) (s : ByteArray) (L K : Value) (hL : ∃ a n c, L = .slice a n c) (hK : ∃ a n c, K = .slice a n c) :
    Calls Tryz.prog 14 #[.agg #[.int .i64 k, .float .f64 num, .string s, L, K]] w fun e w' => e = .returned (.string ⟨(colT k).toArray⟩) ∧ Below w.heap.size w w' := by
  obtain ⟨a1, n1, c1, rfl⟩ := hL
  obtain ⟨a2, n2, c2, rfl⟩ := hK
  have h5 : k = 0 ∨ k = 1 ∨ k = 2 ∨ k = 3 ∨ k = 4 ∨ k = 5 ∨ k = 6 := by omega
  rcases h5 with rfl | rfl | rfl | rfl | rfl | rfl | rfl
  all_goals
    go_enter Tryz.func14, Tryz.ntmps14
    go_wp2_with fail
    go_ret
    exact ⟨rfl, by repeat (first | exact Below.refl _ _ | exact Nat.le_refl _ | refine Below.alloc ?_ (by simp) _)⟩
end Go.Proofs.YticaihfcnbehpaaGreatDoor
/- Values as trees; printer.sheet.value where keys are not sorted. -/
namespace Go.Proofs.YticaihfcnbehpaaGreatDoor
open Go Go.RowKit Go.Proofs

/-- A value as a tree. -/
inductive Tr where
  | mk (k : Int) (num : Nat) (str : List UInt8) (keys : List (List UInt8)) (list : List Tr)
instance : Inhabited Tr := ⟨.mk 0 0 [] [] []⟩
/-- Five cells from an address on. -/
def Cells5 (w : World) (a : Addr) (x0 x1 x2 x3 x4 : Value) : Prop :=
  w.cell? a = some x0 ∧ w.cell? ⟨a.block, a.off + 1, none⟩ = some x1 ∧ w.cell? ⟨a.block, a.off + 2, none⟩ = some x2 ∧ w.cell? ⟨a.block, a.off + 3, none⟩ = some x3 ∧ w.cell? ⟨a.block, a.off + 4, none⟩ = some x4
/-- A tree of fewer than d levels stands in the world as the five parts of a value. -/
def Rep : Nat → World → Tr → Value → Value → Value → Value → Value → Prop
  | 0, _, _, _, _, _, _, _ => False
  | d + 1, w, .mk k num str keys list, x0, x1, x2, x3, x4 =>
    x0 = .int .i64 k ∧ x1 = .float .f64 num ∧ x2 = .string ⟨str.toArray⟩ ∧ num < 18446744073709551616 ∧ str.length ≤ 1048576 ∧ list.length ≤ 1048576 ∧ keys.length ≤ 1048576 ∧
    ∃ A c A2 c2, x3 = .slice A list.length c ∧ x4 = .slice A2 keys.length c2 ∧
      (∀ i (h : i < list.length), ∃ ad, A = some ad ∧ ∃ y0 y1 y2 y3 y4, Cells5 w (ad.add (i * 5)) y0 y1 y2 y3 y4 ∧ Rep d w list[i] y0 y1 y2 y3 y4) ∧
      (∀ i (h : i < keys.length), keys[i].length ≤ 1048576 ∧ ∃ ad, A2 = some ad ∧ w.cell? (ad.add i) = some (.string ⟨keys[i].toArray⟩)) ∧ keys.length ≤ c2 ∧ list.length ≤ c ∧ (A2 = none → c2 = 0) ∧ (A = none → c = 0)
/-- It may be printed: kinds are kinds, an object has as many keys as values. -/
def Okp : Nat → Tr → Prop
  | 0, _ => False
  | d + 1, .mk k _ _ keys list => 0 ≤ k ∧ k ≤ 6 ∧ (k = 6 → keys.length = list.length) ∧ ∀ i (h : i < list.length), Okp d list[i]
def keyS (S : Sty) (st : St) (key : List UInt8) : St :=
  if S.loose = true then putS (tokS S (tokS S st (escT key S.asc) [51, 52, 59, 49]) [58] sgn) [32] else tokS S (tokS S st (escT key S.asc) [51, 52, 59, 49]) [58] sgn
/-- What a value's writing makes of a sheet. -/
def pv (S : Sty) : Nat → Tr → Nat → St → St
  | 0, _, _, st => st
  | d + 1, .mk k num str keys list, lvl, st =>
    if k = 5 then manyS S lvl (fun i st => pv S d (list.getD i default) (lvl + 1) st) [91] [93] list.length st
    else if k = 6 then manyS S lvl (fun i st => pv S d (list.getD i default) (lvl + 1) (keyS S st (keys.getD i []))) [123] [125] keys.length st
    else tokS S st (if k = 4 then escT str S.asc else plainT k.toNat num str) (colT k.toNat)
theorem Cells5.below {w w' : World} {a : Addr} {x0 x1 x2 x3 x4 : Value} (h : Cells5 w a x0 x1 x2 x3 x4) (hb : Below w.heap.size w w') : Cells5 w' a x0 x1 x2 x3 x4 := by
  have hl : a.block < w.heap.size := World.block_lt_of_cell? w a h.1
  exact ⟨(hb.cell hl).trans h.1, (hb.cell (p := ⟨a.block, _, none⟩) hl).trans h.2.1, (hb.cell (p := ⟨a.block, _, none⟩) hl).trans h.2.2.1, (hb.cell (p := ⟨a.block, _, none⟩) hl).trans h.2.2.2.1, (hb.cell (p := ⟨a.block, _, none⟩) hl).trans h.2.2.2.2⟩
/-- What p.value is claimed to do of a tree, at whatever place. -/
def Vals (S : Sty) (w0 : World) (d : Nat) (t : Tr) (y0 y1 y2 y3 y4 : Value) : Prop :=
  ∀ (b : Nat) (w : World) (v : Value) (st : St) (lvl : Nat) (x : Int), x = (lvl : Int) → lvl + d ≤ 900000 → w0.heap.size ≤ b → Below w0.heap.size w0 w → Sh b S w v st →
    Calls Tryz.prog 15 #[.pointer (some ⟨b, 0, none⟩), .agg #[y0, y1, y2, y3, y4], .int .i64 x] w fun e w' => e = .returned (.tuple #[]) ∧ ∃ v', SStep b S w v w' v' (pv S d t lvl st)
section
variable {b : Nat} {S : Sty} {w : World} {v : Value} {st : St}
theorem SStep.below0 {w0 w1 : World} {v1 : Value} {s1 : St} (h : SStep b S w v w1 v1 s1) (hs : Sh b S w v st) (hb : w0.heap.size ≤ b) (h0 : Below w0.heap.size w0 w) : Below w0.heap.size w0 w1 :=
  h0.trans (h.keep.below h0.size (fun k hk e => by
    rcases e with e | e
    · omega
    · have := (hs.bw.own.lt k e.symm).1; omega))
theorem SStep.cell {w1 : World} {v1 : Value} {s1 : St} (h : SStep b S w v w1 v1 s1) (hs : Sh b S w v st) {k o : Nat} {u : Value} (hc : w.cell? ⟨k, o, none⟩ = some u) (h1 : k ≠ b) (h2 : v.ownBlock ≠ some k) : w1.cell? ⟨k, o, none⟩ = some u :=
  h.keep.cell hc (fun e => by
    rcases e with e | e
    · exact h1 e
    · exact h2 e.symm)
set_option maxHeartbeats 1000000 in
set_option maxRecDepth 100000 in
theorem value1_any (h : Sh b S w v st) (w0 : World) (hb : w0.heap.size ≤ b) (h0 : Below w0.heap.size w0 w) (d : Nat) (t : Tr) (c1 c2 c3 i n cc lvl : Nat) (ad : Addr) (y0 y1 y2 y3 y4 : Value) (hin : i < n) (hlv : lvl + 1 + d ≤ 900000)
    (h1 : w.cell? ⟨c1, 0, none⟩ = some (.pointer (some ⟨b, 0, none⟩))) (h2 : w.cell? ⟨c2, 3, none⟩ = some (.slice (some ad) n cc)) (h3 : w.cell? ⟨c3, 0, none⟩ = some (.int .i64 lvl))
    (hc5 : Cells5 w0 (ad.add (i * 5)) y0 y1 y2 y3 y4) (hV : Vals S w0 d t y0 y1 y2 y3 y4) :
    Calls Tryz.prog 29 #[.int .i64 i, .pointer (some ⟨c1, 0, none⟩), .pointer (some ⟨c2, 0, none⟩), .pointer (some ⟨c3, 0, none⟩)] w fun e w' => e = .returned (.tuple #[]) ∧ ∃ v', SStep b S w v w' v' (pv S d t (lvl + 1) st) := by
  have hC := fun (x : Int) (hx : x = ((lvl + 1 : Nat) : Int)) => hV b w.drew v st (lvl + 1) x hx (by omega) hb h0.drew (h.below (Below.refl _ _).drew)
  obtain ⟨g0, g1, g2, g3, g4⟩ := hc5.below h0
  have HC := Lib.hid hC
  clear hC hV hc5
  go_enter Tryz.func29, Tryz.ntmps29
  go_wp2_with fail
  go_still_tail 8, (by kernel_rfl)
  change wpList _ _ _ _ _ w.drew
  go_wp2_with fail
  refine (HC.out _ (by first | omega | (rw [IntKind.wrap_i64]; omega))).mono ?_
  rintro e' w1 ⟨rfl, v1, hA⟩
  have hF := ((SStep.start h).below (Below.refl _ _).drew).join hA
  go_wp2_with fail
  go_end0
  exact ⟨rfl, v1, hF⟩
end
end Go.Proofs.YticaihfcnbehpaaGreatDoor
/- printer.sheet.value's second closure, where keys are not sorted. -/
namespace Go.Proofs.YticaihfcnbehpaaGreatDoor
open Go Go.RowKit Go.Proofs
theorem escFrom_length (s : ByteArray) : ∀ f p, (escFrom s f p).length ≤ 12 * f
  | 0, _ => by simp [escFrom]
  | f + 1, p => by
    have := escR_length (Utf8.decode s p).1
    have := escFrom_length s f (p + (Utf8.decode s p).2)
    rw [escFrom]
    split
    · rw [List.length_append]; omega
    · simp
theorem escT_length (s : List UInt8) (asc : Bool) (h : s.length ≤ 1048576) : (escT s asc).length ≤ 900000000 := by
  have h2 := flatMap_length s
  have h3 : (quoteT s).length ≤ 6 * s.length + 2 := by
    unfold quoteT
    rw [List.length_cons, List.length_append, List.length_singleton]
    omega
  have h4 := escFrom_length ⟨(quoteT s).toArray⟩ (quoteT s).length 0
  unfold escT escA
  split <;> omega
theorem after_new (w w' : World) (t : TypeId) (x0 x1 x2 x3 x4 : Value) (h : w' = w.alloc (.cells #[x0, x1, x2, x3, x4] t)) :
    Below w.heap.size w w' ∧ w'.cell? ⟨w.heap.size, 0, none⟩ = some x0 ∧ w'.cell? ⟨w.heap.size, 1, none⟩ = some x1 ∧ w'.cell? ⟨w.heap.size, 2, none⟩ = some x2 ∧ w'.cell? ⟨w.heap.size, 3, none⟩ = some x3 ∧ w'.cell? ⟨w.heap.size, 4, none⟩ = some x4 := by
  subst h
  refine ⟨(Below.refl _ _).alloc (Nat.le_refl _) _, ?_, ?_, ?_, ?_, ?_⟩ <;> · rw [World.cell?_alloc_new]; rfl
theorem one5 (kk : Int) (nn : Nat) (ss : ByteArray) (A3 A4 : Option Addr) (n3 e3 n4 e4 : Nat) : (#[Value.int .i64 kk, Value.float .f64 nn, Value.string ss, Value.slice A3 n3 e3, Value.slice A4 n4 e4].all (·.oneCell')) = true := by simp [Value.oneCell']
theorem setRow_new (w : World) (cs cs' : Array Value) (t : TypeId) : (w.alloc (.cells cs t)).setRow w.heap.size cs' = w.alloc (.cells cs' t) := by
  have : (w.alloc (.cells cs t)).heap = w.heap.push (.cells cs t) := rfl
  unfold World.setRow
  simp only [this]
  show ({ w with heap := _ } : World) = { w with heap := w.heap.push (.cells cs' t) }
  congr 1
  apply Array.ext
  · simp
  · intro i h1 h2
    simp only [Array.getElem_modify, Array.getElem_push]
    simp at h1
    by_cases hi : i = w.heap.size
    · subst hi; simp
    · simp [Ne.symm hi, show i < w.heap.size by omega]
section
variable {b : Nat} {S : Sty} {w : World} {v : Value} {st : St}
set_option maxHeartbeats 1000000 in
set_option maxRecDepth 100000 in
theorem value2_any (h : Sh b S w v st) (hS : S.srt = false) (w0 : World) (T0 : Tabs w0) (hb : w0.heap.size ≤ b) (h0 : Below w0.heap.size w0 w) (d : Nat) (t : Tr) (c1 c4 c2 c3 i n cc n2 cc2 lvl : Nat) (ad ad2 : Addr) (key : List UInt8) (kk : Int) (nn : Nat) (ss : ByteArray) (A3 A4 : Option Addr) (n3 e3 n4 e4 : Nat) (hin : i < n) (hin2 : i < n2) (hlv : lvl + 1 + d ≤ 900000) (hk : key.length ≤ 1048576)
    (h1 : w.cell? ⟨c1, 0, none⟩ = some (.pointer (some ⟨b, 0, none⟩))) (h2 : w.cell? ⟨c2, 3, none⟩ = some (.slice (some ad) n cc)) (h3 : w.cell? ⟨c3, 0, none⟩ = some (.int .i64 lvl)) (h4 : w.cell? ⟨c4, 0, none⟩ = some (.slice (some ad2) n2 cc2))
    (hd1 : c1 ≠ b ∧ v.ownBlock ≠ some c1) (hd2 : c2 ≠ b ∧ v.ownBlock ≠ some c2) (hd3 : c3 ≠ b ∧ v.ownBlock ≠ some c3) (hd4 : c4 ≠ b ∧ v.ownBlock ≠ some c4)
    (hkey : w0.cell? (ad2.add i) = some (.string ⟨key.toArray⟩)) (hc5 : Cells5 w0 (ad.add (i * 5)) (.int .i64 kk) (.float .f64 nn) (.string ss) (.slice A3 n3 e3) (.slice A4 n4 e4)) (hV : Vals S w0 d t (.int .i64 kk) (.float .f64 nn) (.string ss) (.slice A3 n3 e3) (.slice A4 n4 e4)) :
    Calls Tryz.prog 31 #[.int .i64 i, .pointer (some ⟨c1, 0, none⟩), .pointer (some ⟨c4, 0, none⟩), .pointer (some ⟨c2, 0, none⟩), .pointer (some ⟨c3, 0, none⟩)] w fun e w' => e = .returned (.tuple #[]) ∧ ∃ v', SStep b S w v w' v' (pv S d t (lvl + 1) (keyS S st key)) := by
  have hkw : w.cell? (ad2.add i) = some (.string ⟨key.toArray⟩) := (h0.cell (World.block_lt_of_cell? w0 _ hkey)).trans hkey
  have hasc := h.cAsc
  have TW : Tabs w := T0.next h0
  have hlen := escT_length key S.asc hk
  have K1 : ∀ W, Below w.heap.size w W → W.cell? ⟨c1, 0, none⟩ = some (.pointer (some ⟨b, 0, none⟩)) ∧ W.cell? ⟨c4, 0, none⟩ = some (.slice (some ad2) n2 cc2) ∧ W.cell? (ad2.add i) = some (.string ⟨key.toArray⟩) ∧ W.cell? ⟨b, 5, none⟩ = some (.bool S.asc) := fun W hb => ⟨(hb.cell (World.block_lt_of_cell? w _ h1)).trans h1, (hb.cell (World.block_lt_of_cell? w _ h4)).trans h4, (hb.cell (World.block_lt_of_cell? w _ hkw)).trans hkw, (hb.cell (World.block_lt_of_cell? w _ hasc)).trans hasc⟩
  have K2 : ∀ W W' v' st', Below w.heap.size w W → SStep b S W v W' v' st' → W'.cell? ⟨c1, 0, none⟩ = some (.pointer (some ⟨b, 0, none⟩)) ∧ W'.cell? ⟨c4, 0, none⟩ = some (.slice (some ad2) n2 cc2) ∧ W'.cell? (ad2.add i) = some (.string ⟨key.toArray⟩) ∧ W'.cell? ⟨b, 5, none⟩ = some (.bool S.asc) := fun W W' v' st' hbW hA => by
    obtain ⟨k1, k2, k3, k4⟩ := K1 W hbW
    refine ⟨hA.cell (h.below hbW) k1 hd1.1 hd1.2, hA.cell (h.below hbW) k2 hd4.1 hd4.2, ?_, hA.now.cAsc⟩
    have hlt : (ad2.add i).block < w0.heap.size := World.block_lt_of_cell? w0 _ hkey
    have hbl := hA.keep.block (ad2.add i).block (by have := h0.size; have := hbW.size; omega) (fun e => by
      rcases e with e | e
      · omega
      · have := (h.bw.own.lt _ e.symm).1; omega)
    exact (World.cell?_of_block hbl).trans k3
  go_enter Tryz.func31, Tryz.ntmps31
  go_wp2_with fail
  go_region_held3 (fun W => W.cell? ⟨c1, 0, none⟩ = some (.pointer (some ⟨b, 0, none⟩)) ∧ W.cell? ⟨c4, 0, none⟩ = some (.slice (some ad2) n2 cc2) ∧ W.cell? (ad2.add i) = some (.string ⟨key.toArray⟩) ∧ W.cell? ⟨b, 5, none⟩ = some (.bool S.asc))
    (first | exact K1 _ (Below.refl _ _).drew | exact K1 _ hbx | exact K2 _ _ _ _ hbx hA)
    (first | (go_at_call 13; refine (escape_any _ (TW.below (Nat.le_refl _) (Below.refl _ _).drew) key S.asc (by omega)).mono ?_; rintro e' w1 ⟨rfl, hb1⟩; have hbx := Below.also (Below.refl _ _).drew hb1) | (go_at_call 32; refine (token_any (h.below hbx) (escT key S.asc) [51, 52, 59, 49] hlen (by decide)).mono ?_; rintro e' w2 ⟨rfl, v2, hA⟩))
  have hE : SStep b S w v w2 v2 (tokS S st (escT key S.asc) [51, 52, 59, 49]) := ((SStep.start h).below hbx).join hA
  obtain ⟨s1, hs1⟩ : ∃ s, s = tokS S st (escT key S.asc) [51, 52, 59, 49] := ⟨_, rfl⟩
  obtain ⟨s2, hs2⟩ : ∃ s, s = tokS S s1 [58] sgn := ⟨_, rfl⟩
  have hkS : keyS S st key = if S.loose = true then putS s2 [32] else s2 := by rw [hs2, hs1]; rfl
  rw [← hs1] at hE
  have HK := Lib.hid hkS
  have HS2 := Lib.hid hs2
  clear hA hs1 hs2 hkS K1 K2 hb1 hbx hlen
  have HV := Lib.hid hV
  clear hV
  have k1 := hE.cell h h1 hd1.1 hd1.2
  go_wp2_with fail
  refine (token_any hE.now [58] sgn (by decide) (by decide)).mono ?_
  rintro e' w3 ⟨rfl, v3, hA⟩
  rw [← HS2.out] at hA
  have hE := hE.join hA
  clear hA k1
  have k1 := hE.cell h h1 hd1.1 hd1.2
  go_wp2_with fail
  refine (loose_any hE.now).mono ?_
  rintro e' _ ⟨rfl, rfl⟩
  have tail : ∀ (W : World) (V : Value) (s3 : St), SStep b S w v W V s3 → s3 = keyS S st key → True := fun _ _ _ _ _ => trivial
  clear tail
  cases hL : S.loose with
  | false =>
    have HK2 : Hid (keyS S st key = s2) := Lib.hid (by rw [HK.out, hL, if_neg (by decide)])
    clear hL
    have k2 := hE.cell h h2 hd2.1 hd2.2
    have k3 := hE.cell h h3 hd3.1 hd3.2
    rw [← HK2.out] at hE
    have h00 := hE.below0 h hb h0
    obtain ⟨g0, g1, g2, g3, g4⟩ := hc5.below h00
    have hsrt := hE.now.cSrt
    rw [hS] at hsrt
    go_wp2_with (refine wpList_store_row rfl 27 (.tmp 6) (.tmp 29) rfl _ #[.int .i64 kk, .float .f64 nn, .string ss, .slice A3 n3 e3, .slice A4 n4 e4] rfl rfl 27 #[.int .i64 0, .float .f64 0, .string ⟨#[]⟩, .slice none 0 0, .slice none 0 0] (heap_alloc_new _ _) (by kernel_rfl) rfl (one5 kk nn ss A3 A4 n3 e3 n4 e4) ?_; rw [setRow_new]; obtain ⟨W5, hW5⟩ : ∃ W5, W5 = World.alloc w3 (.cells #[.int .i64 kk, .float .f64 nn, .string ss, .slice A3 n3 e3, .slice A4 n4 e4] 27) := ⟨_, rfl⟩; rw [← hW5]; have A5 := after_new _ _ _ _ _ _ _ _ hW5; clear hW5; obtain ⟨hb5, e0, e1, e2, e3', e4'⟩ := A5; have q1 := (hb5.cell (World.block_lt_of_cell? _ _ k1)).trans k1; have q3 := (hb5.cell (World.block_lt_of_cell? _ _ k3)).trans k3; have qs := (hb5.cell (World.block_lt_of_cell? _ _ hsrt)).trans hsrt; clear k1 k2 k3 hsrt g0 g1 g2 g3 g4)
    have hE5 := hE.below hb5
    refine (HV.out b W5 _ _ (lvl + 1) _ (by first | omega | (rw [IntKind.wrap_i64]; omega)) (by omega) hb (hE5.below0 h hb h0) hE5.now).mono ?_
    rintro e' w6 ⟨rfl, v6, hA⟩
    have hF := hE5.join hA
    go_wp2_with fail
    go_end0
    exact ⟨rfl, v6, hF⟩
  | true =>
    have HK2 : Hid (keyS S st key = putS s2 [32]) := Lib.hid (by rw [HK.out, hL, if_pos rfl])
    clear hL
    go_wp2_with fail
    refine (put_any hE.now [32] (by decide)).mono ?_
    rintro e' w4 ⟨rfl, v4, hA⟩
    have hE := hE.join hA
    clear hA k1
    have k1 := hE.cell h h1 hd1.1 hd1.2
    have k2 := hE.cell h h2 hd2.1 hd2.2
    have k3 := hE.cell h h3 hd3.1 hd3.2
    rw [← HK2.out] at hE
    have h00 := hE.below0 h hb h0
    obtain ⟨g0, g1, g2, g3, g4⟩ := hc5.below h00
    have hsrt := hE.now.cSrt
    rw [hS] at hsrt
    go_wp2_with (refine wpList_store_row rfl 27 (.tmp 6) (.tmp 29) rfl _ #[.int .i64 kk, .float .f64 nn, .string ss, .slice A3 n3 e3, .slice A4 n4 e4] rfl rfl 27 #[.int .i64 0, .float .f64 0, .string ⟨#[]⟩, .slice none 0 0, .slice none 0 0] (heap_alloc_new _ _) (by kernel_rfl) rfl (one5 kk nn ss A3 A4 n3 e3 n4 e4) ?_; rw [setRow_new]; obtain ⟨W5, hW5⟩ : ∃ W5, W5 = World.alloc w4 (.cells #[.int .i64 kk, .float .f64 nn, .string ss, .slice A3 n3 e3, .slice A4 n4 e4] 27) := ⟨_, rfl⟩; rw [← hW5]; have A5 := after_new _ _ _ _ _ _ _ _ hW5; clear hW5; obtain ⟨hb5, e0, e1, e2, e3', e4'⟩ := A5; have q1 := (hb5.cell (World.block_lt_of_cell? _ _ k1)).trans k1; have q3 := (hb5.cell (World.block_lt_of_cell? _ _ k3)).trans k3; have qs := (hb5.cell (World.block_lt_of_cell? _ _ hsrt)).trans hsrt; clear k1 k2 k3 hsrt g0 g1 g2 g3 g4)
    have hE5 := hE.below hb5
    refine (HV.out b W5 _ _ (lvl + 1) _ (by first | omega | (rw [IntKind.wrap_i64]; omega)) (by omega) hb (hE5.below0 h hb h0) hE5.now).mono ?_
    rintro e' w6 ⟨rfl, v6, hA⟩
    have hF := hE5.join hA
    go_wp2_with fail
    go_end0
    exact ⟨rfl, v6, hF⟩
end
end Go.Proofs.YticaihfcnbehpaaGreatDoor
