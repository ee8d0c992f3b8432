/- The document's answer: Points. -/
import Derived.Test.YtopecjnmeeejhaaGreatDoorOwn
set_option linter.unusedVariables false
set_option linter.unusedSimpArgs false
namespace Go.Proofs.YtopecjnmeeejhaaGreatDoor
open Go Go.RowKit Go.Proofs
def ptsFrom (s : ByteArray) : Nat → Nat → List Nat
  | 0, _ => []
  | f + 1, p => if p < s.size then (Utf8.decode s p).1 :: ptsFrom s f (p + (Utf8.decode s p).2) else []
def ptsT (s : ByteArray) : List Nat := ptsFrom s s.size 0
theorem ints_snoc {B : Nat} {w : World} {v : Value} {n : Nat} {xs : List Value} (acc : List Nat) (c : Nat) : ∀ W V, AppG 3 1 B w v n xs W V (acc.length + 1) (intCs acc ++ [.int .i64 (c : Int)]) → AppG 3 1 B w v n xs W V (acc ++ [c]).length (intCs (acc ++ [c])) := by
  intro W V h
  simpa [intCs] using h
set_option maxHeartbeats 1000000 in
set_option maxRecDepth 100000 in
theorem points_any (s : ByteArray) (w : World) (hm : s.size < 999999000) :
    Calls Tryz.prog 64 #[.string s] w fun e w' => ∃ v', e = .returned v' ∧ AppG 3 1 w.heap.size w (.slice none 0 0) 0 [] w' v' (ptsT s).length (intCs (ptsT s)) := by
  obtain ⟨r, hr⟩ : ∃ r, r = ptsT s := ⟨_, rfl⟩
  rw [← hr]
  have HR : Hid ([] ++ ptsFrom s s.size 0 = r) := Lib.hid (by rw [hr]; rfl)
  clear hr
  have hA0 := AppG.start (OwnG.nil 3 1 w.heap.size w) (Nat.le_refl _)
  go_enter Tryz.func64, Tryz.ntmps64
  go_wp2_with fail
  go_loopw [3, 4] (fun v i wr => ∃ (pos fuel : Nat) (acc : List Nat), i = .int .i64 pos ∧ AppG 3 1 w.heap.size w (.slice none 0 0) 0 [] wr v acc.length (intCs acc) ∧ Hid (acc ++ ptsFrom s fuel pos = r) ∧ s.size ≤ pos + fuel ∧ pos ≤ s.size + 4 ∧ acc.length ≤ pos) (fun _ i _ => s.size - (intOf i).toNat)
  case atStart => exact ⟨0, s.size, [], rfl, hA0, HR, by omega, by omega, by simp⟩
  case round =>
    clear hA0 HR
    obtain ⟨pos, fuel, acc, rfl, hA, HV, hf, hp4, hal⟩ := hrel
    rcases Nat.lt_or_ge pos s.size with hlt | hge
    · obtain ⟨f, rfl⟩ : ∃ f, fuel = f + 1 := ⟨fuel - 1, by omega⟩
      have hP := fun W => piece_any s pos W hlt (by omega)
      have hw1 := width_pos s pos hlt
      have hw4 := decode_width s pos
      have hv : (acc ++ [(Utf8.decode s pos).1]) ++ ptsFrom s f (pos + (Utf8.decode s pos).2) = r := by rw [← HV.out, ptsFrom, if_pos hlt]; simp
      unfold pieceV at hP
      obtain ⟨c, hc⟩ : ∃ c, c = (Utf8.decode s pos).1 := ⟨_, rfl⟩
      obtain ⟨n, hn⟩ : ∃ n, n = (Utf8.decode s pos).2 := ⟨_, rfl⟩
      rw [← hc, ← hn] at hP hv
      rw [← hn] at hw1 hw4
      have HP := Lib.hid hP
      have HV2 := Lib.hid hv
      have hnext := ints_snoc (B := w.heap.size) (w := w) (v := .slice none 0 0) (n := 0) (xs := []) acc c
      clear hP hv hc hn HV
      go_wp2_with fail
      refine (HP.out _).mono ?_
      rintro e' _ ⟨rfl, rfl⟩
      go_wp2_with (at_builtin; refine appGn eltInts rfl _ _ rfl [.int .i64 (c : Int)] 1 1 _ _ rfl rfl rfl rfl (by simp [Value.oneCell']) hA (by unfold maxLen; omega) (by omega) ?_; intro v2 w2 hA2; have hF := hnext _ _ hA2; clear hA2)
      all_goals go_roundw
      case rel => exact ⟨pos + n, f, _, by go_num, hF, HV2, by omega, by omega, by simp; omega⟩
      case measure => simp [intOf]; omega
    · have HV2 : Hid (acc = r) := Lib.hid (by
        rw [← HV.out]
        cases fuel with
        | zero => simp [ptsFrom]
        | succ f => rw [ptsFrom, if_neg (by omega), List.append_nil])
      go_wp2_with fail
      go_ret
      exact ⟨_, rfl, by rw [← HV2.out]; exact hA⟩
end Go.Proofs.YtopecjnmeeejhaaGreatDoor
