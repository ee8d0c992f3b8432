/- printer.sheet: token, loose, line; the colours. -/
import Derived.Test.YtopecjnmeeejhaaGreatDoorSht
set_option linter.unusedVariables false
set_option linter.unusedSimpArgs false
namespace Go.Proofs.YtopecjnmeeejhaaGreatDoor
open Go Go.RowKit Go.Proofs

def Sty.loose (S : Sty) : Bool := S.tab || decide (0 < S.ind)
def tokT (S : Sty) (s c : List UInt8) : List UInt8 := if S.col = true then [27, 91] ++ c ++ [109] ++ s ++ [27, 91, 48, 109] else s
def tokS (S : Sty) (st : St) (s c : List UInt8) : St := putS st (tokT S s c)
def lineS (S : Sty) (st : St) (n : Nat) : St := if S.loose = true then putS st (10 :: (if S.tab = true then List.replicate n 9 else List.replicate (S.ind * n) 32)) else st
theorem rep_any (x : UInt8) (c : Nat) (w : World) (hc : c ≤ 1000000000) :
    Calls Tryz.prog 101 #[.string ⟨#[x]⟩, .int .i64 c] w fun e w' => e = .returned (.string ⟨(List.replicate c x).toArray⟩) ∧ Below w.heap.size w w' := by
  refine (Tryz.strings_Repeat ⟨#[x]⟩ c w (by omega) (by show 1 * c ≤ _; omega)).mono ?_
  rintro e w' ⟨rfl, hb⟩
  refine ⟨?_, hb⟩
  show Ending.returned (.string ⟨(Lib.repeatL [x] c).toArray⟩) = _
  rw [repeatL_replicate]
section
variable {b : Nat} {S : Sty} {w : World} {v : Value} {st : St}
set_option maxRecDepth 100000 in
theorem token_any (h : Sh b S w v st) (s c : List UInt8) (hs : s.length ≤ 900000000) (hc : c.length ≤ 1000) :
    Calls Tryz.prog 113 #[.pointer (some ⟨b, 0, none⟩), .string ⟨s.toArray⟩, .string ⟨c.toArray⟩] w fun e w' => e = .returned (.tuple #[]) ∧ ∃ v', SStep b S w v w' v' (tokS S st s c) := by
  have hcol := h.cCol
  unfold tokS tokT
  cases hC : S.col with
  | false =>
    rw [hC] at hcol
    rw [if_neg (by decide)]
    clear hC
    go_enter Tryz.func113, Tryz.ntmps113
    go_wp2_with fail
    refine (put_any h s (by omega)).mono ?_
    rintro e' w1 ⟨rfl, v1, hA⟩
    go_wp2_with fail
    go_end0
    exact ⟨rfl, v1, hA⟩
  | true =>
    rw [hC] at hcol
    rw [if_pos rfl]
    clear hC
    have hx : (({ data := #[27, 91] } : ByteArray) ++ { data := c.toArray } ++ { data := #[109] } ++ { data := s.toArray } ++ { data := #[27, 91, 48, 109] }) = ⟨([27, 91] ++ c ++ [109] ++ s ++ [27, 91, 48, 109]).toArray⟩ := by
      simp only [show (⟨#[27, 91]⟩ : ByteArray) = ⟨[27, 91].toArray⟩ from rfl, show (⟨#[109]⟩ : ByteArray) = ⟨[109].toArray⟩ from rfl, show (⟨#[27, 91, 48, 109]⟩ : ByteArray) = ⟨[27, 91, 48, 109].toArray⟩ from rfl, ba_append]
    have HX := Lib.hid hx
    clear hx
    go_enter Tryz.func113, Tryz.ntmps113
    go_wp2_with fail
    rw [HX.out]
    refine (put_any h _ (by simp; omega)).mono ?_
    rintro e' w1 ⟨rfl, v1, hA⟩
    go_wp2_with fail
    go_end0
    exact ⟨rfl, v1, hA⟩
set_option maxRecDepth 100000 in
theorem loose_any (h : Sh b S w v st) :
    Calls Tryz.prog 114 #[.pointer (some ⟨b, 0, none⟩)] w fun e w' => e = .returned (.bool S.loose) ∧ w = w' := by
  have htab := h.cTab
  have hind := h.cInd
  unfold Sty.loose
  cases hT : S.tab with
  | true =>
    rw [hT] at htab
    clear h hT
    go_enter Tryz.func114, Tryz.ntmps114
    go_wp2_with fail
    go_ret
    exact ⟨rfl, rfl⟩
  | false =>
    rw [hT] at htab
    have hd : decide ((0 : Int) < (S.ind : Int)) = decide (0 < S.ind) := by rw [decide_eq_decide]; omega
    clear h hT
    go_enter Tryz.func114, Tryz.ntmps114
    go_wp2_with fail
    go_ret
    exact ⟨by simp, rfl⟩
set_option maxRecDepth 100000 in
theorem line_any (h : Sh b S w v st) (hi : S.ind ≤ 7) (n : Nat) (hn : n ≤ 10000000) :
    Calls Tryz.prog 162 #[.pointer (some ⟨b, 0, none⟩), .int .i64 n] w fun e w' => e = .returned (.tuple #[]) ∧ ∃ v', SStep b S w v w' v' (lineS S st n) := by
  unfold lineS
  have hL := loose_any h
  have htab := h.cTab
  have hind := h.cInd
  obtain ⟨d, hd⟩ : ∃ d, d = S.ind := ⟨_, rfl⟩
  rw [← hd] at hi hind ⊢
  have hdn : d * n ≤ 70000000 := by
    have := Nat.mul_le_mul hi hn
    omega
  cases hT : S.loose with
  | false =>
    rw [hT] at hL
    rw [if_neg (by decide)]
    have HL := Lib.hid hL
    clear hL hT hd htab hind
    go_enter Tryz.func162, Tryz.ntmps162
    go_wp2_with fail
    refine HL.out.mono ?_
    rintro e' _ ⟨rfl, rfl⟩
    go_wp2_with fail
    refine bodyPost_ret (results_none rfl _ _ _) rfl ?_
    exact ⟨rfl, v, SStep.start h⟩
  | true =>
    rw [hT] at hL
    rw [if_pos rfl]
    have HL := Lib.hid hL
    clear hL hT hd
    obtain ⟨c, hc⟩ : ∃ c, c = d * n := ⟨_, rfl⟩
    have hci : IntKind.i64.wrap ((d : Int) * (n : Int)) = (c : Int) := by rw [IntKind.wrap_i64, hc, Int.natCast_mul]; omega
    rw [← hc] at hdn ⊢
    have HC : Hid ((d : Int) * (n : Int) = (c : Int)) := Lib.hid (by rw [hc, Int.natCast_mul])
    clear hc
    cases hT : S.tab with
    | false =>
      rw [hT] at htab
      rw [if_neg (by decide)]
      clear hT
      have hR1 := fun W => rep_any 32 c W (by omega)
      obtain ⟨R, hR⟩ : ∃ R, R = List.replicate c (32 : UInt8) := ⟨_, rfl⟩
      have hRl : R.length ≤ 70000000 := by rw [hR, List.length_replicate]; exact hdn
      rw [← hR] at hR1 ⊢
      clear hR
      have hx : (({ data := #[10] } : ByteArray) ++ { data := R.toArray }) = ⟨(10 :: R).toArray⟩ := by
        rw [show (⟨#[10]⟩ : ByteArray) = ⟨[10].toArray⟩ from rfl, ba_append]; rfl
      have HX := Lib.hid hx
      clear hx
      go_enter Tryz.func162, Tryz.ntmps162
      go_wp2_with fail
      refine HL.out.mono ?_
      rintro e' _ ⟨rfl, rfl⟩
      go_wp2_with fail
      refine (hR1 _).mono ?_
      rintro e' w1 ⟨rfl, hb1⟩
      have h1 := h.below hb1
      have htab1 := hb1.cell (p := ⟨b, 3, none⟩) h.lt
      rw [htab] at htab1
      go_wp2_with fail
      rw [HX.out]
      refine (put_any h1 _ (by rw [List.length_cons]; omega)).mono ?_
      rintro e' w2 ⟨rfl, v1, hA⟩
      have hF := ((SStep.start h).below hb1).join hA
      go_wp2_with fail
      go_end0
      exact ⟨rfl, v1, hF⟩
    | true =>
      rw [hT] at htab
      rw [if_pos rfl]
      clear hT
      have hR0 := fun W => rep_any 32 c W (by omega)
      obtain ⟨R0, hR⟩ : ∃ R, R = List.replicate c (32 : UInt8) := ⟨_, rfl⟩
      have hR0l : R0.length ≤ 70000000 := by rw [hR, List.length_replicate]; exact hdn
      rw [← hR] at hR0
      clear hR
      have hR1 := fun W => rep_any 9 n W (by omega)
      obtain ⟨R, hR⟩ : ∃ R, R = List.replicate n (9 : UInt8) := ⟨_, rfl⟩
      have hRl : R.length ≤ 70000000 := by rw [hR, List.length_replicate]; omega
      rw [← hR] at hR1 ⊢
      clear hR
      have hx : (({ data := #[10] } : ByteArray) ++ { data := R.toArray }) = ⟨(10 :: R).toArray⟩ := by
        rw [show (⟨#[10]⟩ : ByteArray) = ⟨[10].toArray⟩ from rfl, ba_append]; rfl
      have HX := Lib.hid hx
      clear hx
      go_enter Tryz.func162, Tryz.ntmps162
      go_wp2_with fail
      refine HL.out.mono ?_
      rintro e' _ ⟨rfl, rfl⟩
      go_wp2_with fail
      refine (hR0 _).mono ?_
      rintro e' w1 ⟨rfl, hb1⟩
      have h1 := h.below hb1
      have htab1 := hb1.cell (p := ⟨b, 3, none⟩) h.lt
      rw [htab] at htab1
      go_wp2_with fail
      refine (hR1 _).mono ?_
      rintro e' w2 ⟨rfl, hb2⟩
      have h2 := h1.below hb2
      go_wp2_with fail
      rw [HX.out]
      refine (put_any h2 _ (by rw [List.length_cons]; omega)).mono ?_
      rintro e' w3 ⟨rfl, v1, hA⟩
      have hF := (((SStep.start h).below hb1).below hb2).join hA
      go_wp2_with fail
      go_end0
      exact ⟨rfl, v1, hF⟩
end
end Go.Proofs.YtopecjnmeeejhaaGreatDoor
