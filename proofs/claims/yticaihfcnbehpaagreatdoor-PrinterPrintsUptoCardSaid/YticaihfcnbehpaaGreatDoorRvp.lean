/- In one text: The document's printer: value of every tree.; The document's printer: Print.; colanderlaw05.PrinterPrints, walked: for every value, every style it returns true. -/
import Derived.Test.YticaihfcnbehpaaGreatDoorRux
import Derived.Test.YticaihfcnbehpaaGreatDoorRuy
import Derived.Test.YticaihfcnbehpaaGreatDoorRu0
import Derived.Test.YticaihfcnbehpaaGreatDoorRu1
import Derived.Test.YticaihfcnbehpaaGreatDoorRu2
import Derived.Test.YticaihfcnbehpaaGreatDoorRu3
import Derived.Test.YticaihfcnbehpaaGreatDoorOkd
import Derived.Test.YticaihfcnbehpaaGreatDoorSam
import Derived.Test.YticaihfcnbehpaaGreatDoorCpc
set_option linter.unusedVariables false
set_option linter.unusedSimpArgs false
/- The document's printer: value of every tree. -/
namespace Go.Proofs.YticaihfcnbehpaaGreatDoor
open Go Go.RowKit Go.Proofs
/-- The list of what is printed. -/
def styL (S : Sty) (d : Nat) (keys : List Txt) (list : List Tr) : List Tr := if S.srt = true then (sortT keys.length keys).map fun y => srtT d (list.getD (atT keys y).toNat default) else list
def styK (S : Sty) (keys : List Txt) : List Txt := if S.srt = true then sortT keys.length keys else keys
theorem styK_len (S : Sty) (keys : List Txt) : (styK S keys).length = keys.length := by
  unfold styK; split
  · exact sortT_len _ _
  · rfl
theorem styK_mem (S : Sty) (keys : List Txt) (y : Txt) (h : y ∈ styK S keys) : y ∈ keys := by
  unfold styK at h; split at h
  · exact (sortT_perm _ _).mem_iff.1 h
  · exact h
theorem ftx_obj (S : Sty) (d num : Nat) (str : List UInt8) (keys : List Txt) (list : List Tr) (lvl : Nat) :
    ftx S (d + 1) (styT S (d + 1) (.mk 6 num str keys list)) lvl = mtx S lvl (fun i => ktx S ((styK S keys).getD i []) ++ ftx S d ((styL S d keys list).getD i default) (lvl + 1)) [123] [125] keys.length := by
  unfold styT styK styL
  by_cases h : S.srt = true
  · rw [if_pos h, if_pos h, if_pos h, srtT, if_neg (by decide), if_pos rfl, ftx, if_neg (by decide), if_pos rfl, sortT_len]
  · rw [if_neg h, if_neg h, if_neg h, ftx, if_neg (by decide), if_pos rfl]
/-- Where the i-th printed key stands, and what is printed of it. -/
theorem sty_at (S : Sty) (d : Nat) (keys : List Txt) (list : List Tr) (hn : keys.Nodup) (hl : keys.length = list.length) (i : Nat) (hi : i < (styK S keys).length) :
    ∃ j, ∃ hj : j < list.length, atT keys (styK S keys)[i] = (j : Int) ∧ (styL S d keys list).getD i default = styT S d list[j] := by
  have hm := styK_mem S keys _ (List.getElem_mem hi)
  obtain ⟨j, hj, e1, e2⟩ := atT_mem keys _ hm
  refine ⟨j, by omega, e1, ?_⟩
  have hi' : i < keys.length := by rw [← styK_len S keys]; exact hi
  by_cases h : S.srt = true
  · have hK : styK S keys = sortT keys.length keys := by unfold styK; rw [if_pos h]
    have hL : styL S d keys list = (sortT keys.length keys).map fun y => srtT d (list.getD (atT keys y).toNat default) := by unfold styL; rw [if_pos h]
    have hi2 : i < (sortT keys.length keys).length := by rw [sortT_len]; exact hi'
    have e3 : (styK S keys)[i] = (sortT keys.length keys)[i] := by simp only [hK]
    rw [e3] at e1
    rw [hL, List.getD_eq_getElem?_getD, List.getElem?_map, List.getElem?_eq_getElem hi2]
    simp only [Option.map_some, Option.getD_some]
    rw [e1, Int.toNat_natCast, List.getD_eq_getElem?_getD, List.getElem?_eq_getElem (by omega : j < list.length), Option.getD_some]
    unfold styT; rw [if_pos h]
  · have hK : styK S keys = keys := by unfold styK; rw [if_neg h]
    have hL : styL S d keys list = list := by unfold styL; rw [if_neg h]
    have e3 : (styK S keys)[i] = keys[i] := by simp only [hK]
    rw [e3, atT_nodup hn i hi'] at e1
    have : i = j := by omega
    subst this
    rw [hL, List.getD_eq_getElem?_getD, List.getElem?_eq_getElem (by omega : i < list.length), Option.getD_some]
    unfold styT; rw [if_neg h]
def arrL (S : Sty) (d : Nat) (list : List Tr) : List Tr := if S.srt = true then list.map (srtT d) else list
theorem ftx_arr (S : Sty) (d num : Nat) (str : List UInt8) (keys : List Txt) (list : List Tr) (lvl : Nat) :
    ftx S (d + 1) (styT S (d + 1) (.mk 5 num str keys list)) lvl = mtx S lvl (fun i => ftx S d ((arrL S d list).getD i default) (lvl + 1)) [91] [93] list.length := by
  unfold styT arrL
  by_cases h : S.srt = true
  · rw [if_pos h, if_pos h, srtT, if_pos rfl, ftx, if_pos rfl, List.length_map]
  · rw [if_neg h, if_neg h, ftx, if_pos rfl]
theorem arr_at (S : Sty) (d : Nat) (list : List Tr) (i : Nat) (hi : i < list.length) : (arrL S d list).getD i default = styT S d list[i] := by
  unfold arrL styT
  by_cases h : S.srt = true
  · rw [if_pos h, if_pos h, List.getD_eq_getElem?_getD, List.getElem?_map, List.getElem?_eq_getElem hi]; rfl
  · rw [if_neg h, if_neg h, List.getD_eq_getElem?_getD, List.getElem?_eq_getElem hi]; rfl
theorem sty_leaf (S : Sty) (d : Nat) (k : Int) (num : Nat) (str : List UInt8) (keys : List Txt) (list : List Tr) (h5 : k ≠ 5) (h6 : k ≠ 6) : styT S (d + 1) (.mk k num str keys list) = .mk k num str keys list := by
  unfold styT
  split
  · rw [srtT, if_neg h5, if_neg h6]
  · rfl
set_option maxHeartbeats 8000000 in
set_option maxRecDepth 100000 in
theorem rvalue_arr (S : Sty) (hi : S.ind ≤ 7) (w0 : World) (d : Nat) (num : Nat) (str : List UInt8) (keys : List Txt) (list : List Tr) (x0 x1 x2 x3 x4 : Value)
    (ih : ∀ (t : Tr) (y0 y1 y2 y3 y4 : Value), Rep d w0 t y0 y1 y2 y3 y4 → Okp d t → Dst d t → RVals S w0 d (styT S d t) y0 y1 y2 y3 y4)
    (hR : Rep (d + 1) w0 (.mk 5 num str keys list) x0 x1 x2 x3 x4) (hO : Okp (d + 1) (.mk 5 num str keys list)) (hD : Dst (d + 1) (.mk 5 num str keys list)) : RVals S w0 (d + 1) (styT S (d + 1) (.mk 5 num str keys list)) x0 x1 x2 x3 x4 := by
  obtain ⟨rfl, rfl, rfl, hnum, hstr, hll, hkl, A, c, A2, c2, rfl, rfl, hL, hK, _⟩ := hR
  obtain ⟨_, _, _, hOl⟩ := hO
  obtain ⟨_, hDl⟩ := hD
  intro b w v st lvl x hx hlv hb h0 h
  subst hx
  rw [ftx_arr]
  obtain ⟨f, hf⟩ : ∃ f : Nat → List UInt8, f = fun i => ftx S d ((arrL S d list).getD i default) (lvl + 1) := ⟨_, rfl⟩
  rw [← hf]
  obtain ⟨W1, hW1⟩ : ∃ W1, W1 = w.alloc (.cells #[.int .i64 5, .float .f64 num, .string ⟨str.toArray⟩, .slice A list.length c, .slice A2 keys.length c2] 27) := ⟨_, rfl⟩
  obtain ⟨hbw, e0, e1, e2, e3, e4⟩ := after_new _ _ _ _ _ _ _ _ hW1
  have hS1 : RStep b S w v W1 v st := (RStep.start h).below hbw
  have hM := rmany_arr hS1.now hi w0 hb (hS1.below0 h hb h0) d num ⟨str.toArray⟩ A A2 list.length c keys.length c2 lvl hll (by omega) f (fun i hin => by
    obtain ⟨ad, rfl, y0, y1, y2, y3, y4, hc5, hRi⟩ := hL i hin
    obtain ⟨kk, nn, ss, A3, n3, e3', A4, n4, e4', rfl, rfl, rfl, rfl, rfl⟩ := rep_shape hRi
    refine ⟨ad, rfl, kk, nn, ss, A3, n3, e3', A4, n4, e4', hc5, fun w' v' st' x hx hb' hr => ?_⟩
    have := ih list[i] _ _ _ _ _ hRi (hOl i hin) (hDl i hin) b w' v' st' (lvl + 1) x hx (by omega) hb hb' hr
    rw [hf]
    show Calls _ _ _ _ (RP b S w' v' st' (ftx S d ((arrL S d list).getD i default) (lvl + 1)))
    rw [arr_at S d list i hin]
    exact this)
  have HM := Lib.hid hM
  have HS1 := Lib.hid hS1
  have HW1 := Lib.hid hW1
  obtain ⟨nl, hnl⟩ : ∃ n, n = list.length := ⟨_, rfl⟩
  obtain ⟨nk, hnk⟩ : ∃ n, n = keys.length := ⟨_, rfl⟩
  clear hM hL hK hOl hDl ih hS1 hf h0 hb h hbw hW1
  go_enter Tryz.func17, Tryz.ntmps17
  go_upto_region 7 with fail
  rw [← HW1.out]
  go_wp2_with fail
  refine HM.out.mono ?_
  rintro e' w2 ⟨rfl, v2, s2, hA, hF⟩
  have hE := HS1.out.join hA
  go_wp2_with fail
  go_end0
  exact ⟨rfl, v2, s2, hE, hF⟩
set_option maxHeartbeats 8000000 in
set_option maxRecDepth 100000 in
theorem rvalue_obj (S : Sty) (hi : S.ind ≤ 7) (w0 : World) (d : Nat) (num : Nat) (str : List UInt8) (keys : List Txt) (list : List Tr) (x0 x1 x2 x3 x4 : Value)
    (ih : ∀ (t : Tr) (y0 y1 y2 y3 y4 : Value), Rep d w0 t y0 y1 y2 y3 y4 → Okp d t → Dst d t → RVals S w0 d (styT S d t) y0 y1 y2 y3 y4)
    (hR : Rep (d + 1) w0 (.mk 6 num str keys list) x0 x1 x2 x3 x4) (hO : Okp (d + 1) (.mk 6 num str keys list)) (hD : Dst (d + 1) (.mk 6 num str keys list)) : RVals S w0 (d + 1) (styT S (d + 1) (.mk 6 num str keys list)) x0 x1 x2 x3 x4 := by
  have hR0 := hR
  obtain ⟨rfl, rfl, rfl, hnum, hstr, hll, hkl, A, c, A2, c2, rfl, rfl, hL, hK, _⟩ := hR
  obtain ⟨_, _, hOk, hOl⟩ := hO
  obtain ⟨hnd, hDl⟩ := hD
  have hkn := hOk rfl
  intro b w v st lvl x hx hlv hb h0 h
  subst hx
  rw [ftx_obj]
  obtain ⟨K, hKK⟩ : ∃ K, K = styK S keys := ⟨_, rfl⟩
  have hKl : K.length = list.length := by rw [hKK, styK_len, hkn]
  obtain ⟨g, hg⟩ : ∃ g : Nat → List UInt8, g = fun i => ftx S d ((styL S d keys list).getD i default) (lvl + 1) := ⟨_, rfl⟩
  have hfe : (fun i => ktx S ((styK S keys).getD i []) ++ ftx S d ((styL S d keys list).getD i default) (lvl + 1)) = fun i => ktx S (K.getD i []) ++ g i := by rw [hKK, hg]
  rw [hfe, hkn]
  obtain ⟨W1, hW1⟩ : ∃ W1, W1 = w.alloc (.cells #[.int .i64 6, .float .f64 num, .string ⟨str.toArray⟩, .slice A list.length c, .slice A2 keys.length c2] 27) := ⟨_, rfl⟩
  obtain ⟨hbw, e0, e1, e2, e3, e4⟩ := after_new _ _ _ _ _ _ _ _ hW1
  have hS1 : RStep b S w v W1 v st := (RStep.start h).below hbw
  have hB01 := hS1.below0 h hb h0
  have hKlen : ∀ i (h : i < K.length), K[i].length ≤ 1048576 := fun i hiK => by
    have hm : K[i] ∈ keys := styK_mem S keys _ (by rw [← hKK]; exact List.getElem_mem hiK)
    obtain ⟨j, hj, e⟩ := List.getElem_of_mem hm
    rw [← e]; exact (hK j hj).1
  have hrow : ∀ i, i < list.length → ∃ ad, A = some ad ∧ ∃ (kk : Int) (nn : Nat) (ss : ByteArray) (A3 : Option Addr) (n3 e3 : Nat) (A4 : Option Addr) (n4 e4 : Nat), Cells5 w0 (ad.add (i * 5)) (.int .i64 kk) (.float .f64 nn) (.string ss) (.slice A3 n3 e3) (.slice A4 n4 e4) := fun i hin => by
    obtain ⟨ad, rfl, y0, y1, y2, y3, y4, hc5, hRi⟩ := hL i hin
    obtain ⟨kk, nn, ss, A3, n3, e3', A4, n4, e4', rfl, rfl, rfl, rfl, rfl⟩ := rep_shape hRi
    exact ⟨ad, rfl, kk, nn, ss, A3, n3, e3', A4, n4, e4', hc5⟩
  have hget : ∀ i (h : i < K.length), GetsAt w0 b S lvl list.length c c2 num ⟨str.toArray⟩ A A2 K[i] (g i) := fun i hiK => by
    obtain ⟨j, hj, e1, e2⟩ := sty_at S d keys list hnd hkn i (by rw [← hKK]; exact hiK)
    have hiKe : K[i] = (styK S keys)[i]'(by rw [← hKK]; exact hiK) := by simp only [hKK]
    intro W hbW
    have hG := refGet_any0 d w0 W hbW 6 num str keys list _ _ _ _ _ K[i] hR0 j hj (by rw [hiKe]; exact e1)
    rw [hkn] at hG
    refine hG.mono ?_
    rintro e w' ⟨z0, z1, z2, z3, z4, hZ, rfl, hbz⟩
    have hV := ih list[j] _ _ _ _ _ hZ (hOl j hj) (hDl j hj)
    obtain ⟨kk, nn, ss, A3, n3, e3', A4, n4, e4', rfl, rfl, rfl, rfl, rfl⟩ := rep_shape hZ
    refine ⟨kk, nn, ss, A3, n3, e3', A4, n4, e4', rfl, hbz, fun w'' v' st' x hx hb' hr => ?_⟩
    have := hV b w'' v' st' (lvl + 1) x hx (by omega) hb hb' hr
    rw [hg]
    show Calls _ _ _ _ (RP b S w'' v' st' (ftx S d ((styL S d keys list).getD i default) (lvl + 1)))
    rw [e2]
    exact this
  have hM : Calls Tryz.prog 36 #[.pointer (some ⟨b, 0, none⟩), .agg #[.int .i64 6, .float .f64 num, .string ⟨str.toArray⟩, .slice A list.length c, .slice A2 list.length c2], .int .i64 lvl] W1 (RP b S W1 v st (mtx S lvl (fun i => ktx S (K.getD i []) ++ g i) [123] [125] list.length)) := by
    rcases Bool.eq_false_or_eq_true S.srt with hs | hs
    · refine rmany_obj1 hs hS1.now hi w0 hb hB01 num ⟨str.toArray⟩ A A2 list.length c c2 lvl hll (by omega) K hKl hKlen g hrow (fun h' => by rw [hs] at h'; cases h') (fun _ W hbW => ?_) hget
      have := refKeys_any (d + 1) W 6 num str keys list _ _ _ _ _ (hR0.below hbW)
      have hKs : sortT keys.length keys = K := by rw [hKK]; unfold styK; rw [if_pos hs]
      rw [hKs, hkn] at this
      exact this
    · refine rmany_obj0 hs hS1.now hi w0 hb hB01 num ⟨str.toArray⟩ A A2 list.length c c2 lvl hll (by omega) K hKl hKlen g hrow (fun _ i hiK => ?_) (fun h' => by rw [hs] at h'; cases h') hget
      have hKs : keys = K := by rw [hKK]; unfold styK; rw [if_neg (by rw [hs]; decide)]
      subst hKs
      exact (hK i hiK).2
  rw [hkn] at hW1
  have HM := Lib.hid hM
  have HS1 := Lib.hid hS1
  have HW1 := Lib.hid hW1
  rw [hkn] at e4
  obtain ⟨nl, hnl⟩ : ∃ n, n = list.length := ⟨_, rfl⟩
  obtain ⟨F, hF0⟩ : ∃ F, F = fun i => ktx S (K.getD i []) ++ g i := ⟨_, rfl⟩
  rw [← hF0] at HM ⊢
  clear hM hL hK hOl hDl ih hS1 h0 hb h hbw hW1 hrow hget hKlen hB01 hfe hKK hg hF0 hKl hR0 hkl hOk hnd
  go_enter Tryz.func17, Tryz.ntmps17
  go_upto_region 7 with fail
  rw [← HW1.out]
  go_wp2_with fail
  refine HM.out.mono ?_
  rintro e' w2 ⟨rfl, v2, s2, hA, hF⟩
  have hE := HS1.out.join hA
  go_wp2_with fail
  go_end0
  exact ⟨rfl, v2, s2, hE, hF⟩
theorem rvalue_tree (S : Sty) (hi : S.ind ≤ 7) (w0 : World) (T0 : Tabs w0) : ∀ (d : Nat) (t : Tr) (y0 y1 y2 y3 y4 : Value), Rep d w0 t y0 y1 y2 y3 y4 → Okp d t → Dst d t → RVals S w0 d (styT S d t) y0 y1 y2 y3 y4 := by
  intro d
  induction d with
  | zero => intro t _ _ _ _ _ h; exact h.elim
  | succ d ih =>
    intro t y0 y1 y2 y3 y4 hR hO hD
    cases t with
    | mk k num str keys list =>
      have hk : 0 ≤ k ∧ k ≤ 6 := ⟨hO.1, hO.2.1⟩
      have h7 : k = 0 ∨ k = 1 ∨ k = 2 ∨ k = 3 ∨ k = 4 ∨ k = 5 ∨ k = 6 := by omega
      rcases h7 with rfl | rfl | rfl | rfl | rfl | rfl | rfl
      · rw [sty_leaf S d _ num str keys list (by decide) (by decide)]; exact rvalue_0 S w0 T0 d num str keys list _ _ _ _ _ hR
      · rw [sty_leaf S d _ num str keys list (by decide) (by decide)]; exact rvalue_1 S w0 T0 d num str keys list _ _ _ _ _ hR
      · rw [sty_leaf S d _ num str keys list (by decide) (by decide)]; exact rvalue_2 S w0 T0 d num str keys list _ _ _ _ _ hR
      · rw [sty_leaf S d _ num str keys list (by decide) (by decide)]; exact rvalue_3 S w0 T0 d num str keys list _ _ _ _ _ hR
      · rw [sty_leaf S d _ num str keys list (by decide) (by decide)]; exact rvalue_4 S w0 T0 d num str keys list _ _ _ _ _ hR
      · exact rvalue_arr S hi w0 d num str keys list _ _ _ _ _ ih hR hO hD
      · exact rvalue_obj S hi w0 d num str keys list _ _ _ _ _ ih hR hO hD
end Go.Proofs.YticaihfcnbehpaaGreatDoor
/- The document's printer: Print. -/
namespace Go.Proofs.YticaihfcnbehpaaGreatDoor
open Go Go.RowKit Go.Proofs
theorem rn_new (S : Sty) (w : World) : Rn w.heap.size S (w.alloc (.cells #[.int .i64 S.ind, .bool S.tab, .bool S.srt, .bool S.asc, .bool S.col, .slice none 0 0, .bool false] 56)) (.slice none 0 0) ([], false) :=
  ⟨heap_alloc_new _ _, OwnB.nil _ _, Nat.zero_le _⟩
set_option maxHeartbeats 4000000 in
set_option maxRecDepth 100000 in
theorem refPrint_any (S : Sty) (hi : S.ind ≤ 7) (w : World) (T0 : Tabs w) (d : Nat) (hd : d ≤ 800000) (t : Tr) (y0 y1 y2 y3 y4 : Value) (hR : Rep (d + 1) w t y0 y1 y2 y3 y4) (hO : Okp (d + 1) t) (hD : Dst (d + 1) t) :
    Calls Tryz.prog 8 #[.agg #[y0, y1, y2, y3, y4], .agg #[.int .i64 S.ind, .bool S.tab, .bool S.srt, .bool S.asc, .bool S.col]] w fun e w' =>
      e = .returned (prV (ftx S (d + 1) (styT S (d + 1) t) 0)) ∧ Below w.heap.size w w' := by
  have hV := rvalue_tree S hi w T0 (d + 1) t y0 y1 y2 y3 y4 hR hO hD
  obtain ⟨kk, nn, ss, A3, n3, e3, A4, n4, e4, rfl, rfl, rfl, rfl, rfl⟩ := rep_shape hR
  obtain ⟨r, hr⟩ : ∃ r, r = ftx S (d + 1) (styT S (d + 1) t) 0 := ⟨_, rfl⟩
  rw [← hr]
  have HR := Lib.hid hr
  have HV := Lib.hid hV
  clear hV hR hO hr hD
  have t1 : decide ((S.ind : Int) < 0) = false := decide_eq_false (by omega)
  have t2 : decide ((7 : Int) < (S.ind : Int)) = false := decide_eq_false (by omega)
  go_enter Tryz.func8, Tryz.ntmps8
  go_wp2_with fail
  obtain ⟨W2, hW2⟩ : ∃ W2, W2 = (w.alloc (.cells #[.int .i64 kk, .float .f64 nn, .string ss, .slice A3 n3 e3, .slice A4 n4 e4] 27)).alloc (.cells #[.int .i64 S.ind, .bool S.tab, .bool S.srt, .bool S.asc, .bool S.col] 29) := ⟨_, rfl⟩
  have hsz : W2.heap.size = w.heap.size + 1 + 1 := by rw [hW2]; simp
  have hb2 : Below w.heap.size w W2 := by rw [hW2]; exact ((Below.refl _ _).alloc (Nat.le_refl _) _).alloc (by simp) _
  rw [← hW2]
  clear hW2
  have hsh := rn_new S W2
  obtain ⟨W3, hW3⟩ : ∃ W3, W3 = W2.alloc (.cells #[.int .i64 S.ind, .bool S.tab, .bool S.srt, .bool S.asc, .bool S.col, .slice none 0 0, .bool false] 56) := ⟨_, rfl⟩
  have hb3 : Below w.heap.size w W3 := by rw [hW3]; exact hb2.alloc hb2.size _
  rw [← hW3] at hsh ⊢
  clear hW3
  rw [hsz] at hsh
  clear hsz
  refine (HV.out (w.heap.size + 1 + 1) W3 _ _ 0 0 rfl (by omega) (by omega) hb3 hsh).mono ?_
  rintro e' w4 ⟨rfl, v4, s4, hA, hF⟩
  have hb4 := hA.below0 hsh (by omega) hb3
  have hN := hA.now
  rw [← HR.out] at hF
  have hF2 := hF.2 rfl
  clear hA hsh HV HR hb3 hb2 hF
  have hfull := hN.cellAt 6 (.bool s4.2) rfl
  have hsl := hN.cellAt 5 v4 rfl
  rcases Nat.lt_or_ge 16777216 r.length with hl | hl
  · have hs := hF2.2 (by simpa using hl)
    rw [hs] at hfull
    have HP : Hid (prV r = .tuple #[.string ⟨#[]⟩, .int .i64 171]) := Lib.hid (by unfold prV; rw [if_neg (by omega)])
    clear hN hF2 hl hs hsl
    go_wp2_with fail
    go_ret2
    exact ⟨by rw [HP.out]; rfl, hb4⟩
  · have hs := hF2.1 (by simpa using hl)
    have h2 : s4.2 = false := by rw [hs]
    have h1 : s4.1 = r := by rw [hs]; rfl
    rw [h2] at hfull
    have HP : Hid (prV r = .tuple #[.string ⟨r.toArray⟩, .int .i64 0]) := Lib.hid (by unfold prV; rw [if_pos hl])
    have hcv := convOwn hN.own
    rw [h1] at hcv
    clear hN hF2 hl hs h2 h1
    go_wp2_with fail
    go_ret2
    exact ⟨by rw [HP.out]; rfl, hb4⟩
set_option maxHeartbeats 1000000 in
set_option maxRecDepth 100000 in
theorem refPrint_bad (w : World) (ind : Int) (h : ind < 0 ∨ 7 < ind) (b1 b2 b3 b4 : Bool) (kk : Int) (nn : Nat) (ss : ByteArray) (A3 A4 : Option Addr) (n3 e3 n4 e4 : Nat) :
    Calls Tryz.prog 8 #[.agg #[.int .i64 kk, .float .f64 nn, .string ss, .slice A3 n3 e3, .slice A4 n4 e4], .agg #[.int .i64 ind, .bool b1, .bool b2, .bool b3, .bool b4]] w fun e w' => e = .returned (.tuple #[.string ⟨#[]⟩, .int .i64 2]) ∧ Below w.heap.size w w' := by
  have hB : ∀ o1 o2, Below w.heap.size w ((w.alloc o1).alloc o2) := fun o1 o2 => ((Below.refl _ _).alloc (Nat.le_refl _) _).alloc (by simp) _
  rcases h with h | h
  · have t1 : decide (ind < 0) = true := decide_eq_true h
    go_enter Tryz.func8, Tryz.ntmps8
    go_wp2_with fail
    go_ret2
    exact ⟨rfl, hB _ _⟩
  · have t1 : decide (ind < 0) = false := decide_eq_false (by omega)
    have t2 : decide (7 < ind) = true := decide_eq_true h
    go_enter Tryz.func8, Tryz.ntmps8
    go_wp2_with fail
    go_ret2
    exact ⟨rfl, hB _ _⟩
end Go.Proofs.YticaihfcnbehpaaGreatDoor
/- colanderlaw05.PrinterPrints, walked: for every value, every style it returns true. -/
namespace Go.Proofs.YticaihfcnbehpaaGreatDoor
open Go Go.RowKit Go.Proofs
/-- Both printers answer the same, in every style. -/
theorem both_prints (n : Int) (tab srt asc col : Bool) (d : Nat) (hd : d ≤ 800000) (t : Tr) (hO : Okp (d + 1) t) (hD : Dst (d + 1) t) :
    ∃ (a : Txt) (ea : Int), ∀ (W : World) (kk : Int) (nn : Nat) (ss : ByteArray) (A3 : Option Addr) (n3 e3 : Nat) (A4 : Option Addr) (n4 e4 : Nat), Tabs W → Rep (d + 1) W t (.int .i64 kk) (.float .f64 nn) (.string ss) (.slice A3 n3 e3) (.slice A4 n4 e4) →
      (Calls Tryz.prog 7 #[.agg #[.int .i64 kk, .float .f64 nn, .string ss, .slice A3 n3 e3, .slice A4 n4 e4], .agg #[.int .i64 n, .bool tab, .bool srt, .bool asc, .bool col]] W fun e w' => e = .returned (.tuple #[.string ⟨a.toArray⟩, .int .i64 ea]) ∧ Below W.heap.size W w') ∧
      (Calls Tryz.prog 8 #[.agg #[.int .i64 kk, .float .f64 nn, .string ss, .slice A3 n3 e3, .slice A4 n4 e4], .agg #[.int .i64 n, .bool tab, .bool srt, .bool asc, .bool col]] W fun e w' => e = .returned (.tuple #[.string ⟨a.toArray⟩, .int .i64 ea]) ∧ Below W.heap.size W w') := by
  by_cases hn : n < 0 ∨ 7 < n
  · exact ⟨[], 2, fun W kk nn ss A3 n3 e3 A4 n4 e4 _ _ => ⟨print_bad W n hn tab srt asc col kk nn ss A3 A4 n3 e3 n4 e4, refPrint_bad W n hn tab srt asc col kk nn ss A3 A4 n3 e3 n4 e4⟩⟩
  · obtain ⟨m, rfl⟩ : ∃ m : Nat, n = (m : Int) := ⟨n.toNat, by omega⟩
    obtain ⟨S, hS⟩ : ∃ S : Sty, S = { ind := m, tab := tab, srt := srt, asc := asc, col := col } := ⟨_, rfl⟩
    have hi : S.ind ≤ 7 := by rw [hS]; show m ≤ 7; omega
    have e0 : m = S.ind := by rw [hS]
    have e1 : tab = S.tab := by rw [hS]
    have e2 : srt = S.srt := by rw [hS]
    have e3 : asc = S.asc := by rw [hS]
    have e4 : col = S.col := by rw [hS]
    rw [e0, e1, e2, e3, e4]
    obtain ⟨o, ho⟩ : ∃ o, o = ftx S (d + 1) (styT S (d + 1) t) 0 := ⟨_, rfl⟩
    obtain ⟨a, ea, hp⟩ : ∃ (a : Txt) (ea : Int), prV o = .tuple #[.string ⟨a.toArray⟩, .int .i64 ea] := by
      unfold prV
      split
      · exact ⟨o, 0, rfl⟩
      · exact ⟨[], 171, rfl⟩
    refine ⟨a, ea, fun W kk nn ss A3 n3 e3 A4 n4 e4 hT hR => ⟨?_, ?_⟩⟩
    · have := print_any_s S hi W hT d hd t _ _ _ _ _ hR hO
      rw [printS_tx, ← ho, hp] at this
      exact this
    · have := refPrint_any S hi W hT d hd t _ _ _ _ _ hR hO hD
      rw [← ho, hp] at this
      exact this
set_option maxHeartbeats 8000000 in
set_option maxRecDepth 100000 in
theorem prints_walk (w : World) (TW : Tabs w) (n : Int) (tab srt asc col : Bool) (d : Nat) (hd : d ≤ 700000) (t : Tr) (y0 y1 y2 y3 y4 : Value) (hR : Rep d w t y0 y1 y2 y3 y4) :
    Calls Tryz.prog 3 #[.agg #[y0, y1, y2, y3, y4], .agg #[.int .i64 n, .bool tab, .bool srt, .bool asc, .bool col]] w fun e w' => e = .returned (.bool true) ∧ Below w.heap.size w w' := by
  cases d with
  | zero => exact hR.elim
  | succ d =>
  obtain ⟨kk, nn, ss, A3, n3, e3, A4, n4, e4, rfl, rfl, rfl, rfl, rfl⟩ := rep_shape hR
  have HR : Hid (∀ W, Below w.heap.size w W → Calls Tryz.prog 4 #[.agg #[.int .i64 kk, .float .f64 nn, .string ss, .slice A3 n3 e3, .slice A4 n4 e4]] W fun e w' => e = .returned (.bool (rightT 10000 t)) ∧ Below W.heap.size W w') := Lib.hid (fun W hb => right_any2 (d + 1) W t _ _ _ _ _ (hR.below hb))
  have HC : Hid (∀ W, Below w.heap.size w W → Calls Tryz.prog 6 #[.agg #[.int .i64 kk, .float .f64 nn, .string ss, .slice A3 n3 e3, .slice A4 n4 e4]] W fun e w' => CopyP (d + 1) t W e w') := Lib.hid (fun W hb => copy_any (d + 1) t W _ _ _ _ _ (hR.below hb))
  have HT : Hid (∀ W, Below w.heap.size w W → Tabs W) := Lib.hid (fun W hb => TW.next hb)
  have HRep : Hid (∀ W, Below w.heap.size w W → Rep (d + 1) W t (.int .i64 kk) (.float .f64 nn) (.string ss) (.slice A3 n3 e3) (.slice A4 n4 e4)) := Lib.hid (fun W hb => hR.below hb)
  have HH : Hid (∀ W, Below w.heap.size w W → Calls Tryz.prog 5 #[] W fun e w' => e = .returned (.bool true) ∧ Below W.heap.size W w') := Lib.hid (fun W hb => heads_any W (TW.next hb))
  have HS : Hid (∀ W, ∀ x0 x1 x2 x3 x4, Below w.heap.size w W → Rep (d + 1) W t x0 x1 x2 x3 x4 → Calls Tryz.prog 9 #[.agg #[x0, x1, x2, x3, x4], .agg #[.int .i64 kk, .float .f64 nn, .string ss, .slice A3 n3 e3, .slice A4 n4 e4]] W fun e w' => e = .returned (.bool true) ∧ Below W.heap.size W w') := Lib.hid (fun W x0 x1 x2 x3 x4 hb hx => same_any (d + 1) t W _ _ _ _ _ _ _ _ _ _ hx (hR.below hb))
  obtain ⟨B, hB⟩ : ∃ B, B = w.heap.size := ⟨_, rfl⟩
  obtain ⟨W1, hW1⟩ : ∃ W1, W1 = w.alloc (.cells #[.int .i64 kk, .float .f64 nn, .string ss, .slice A3 n3 e3, .slice A4 n4 e4] 27) := ⟨_, rfl⟩
  obtain ⟨hb01, a0, a1, a2, a3, a4⟩ := after_new _ _ _ _ _ _ _ _ hW1
  have hs1 : W1.heap.size = B + 1 := by rw [hW1, hB]; simp
  obtain ⟨W2, hW2⟩ : ∃ W2, W2 = W1.alloc (.cells #[.int .i64 n, .bool tab, .bool srt, .bool asc, .bool col] 29) := ⟨_, rfl⟩
  obtain ⟨hb12, c0, c1, c2, c3, c4⟩ := after_new _ _ _ _ _ _ _ _ hW2
  have hb2 : Below w.heap.size w W2 := hb01.trans (hb12.mono (by omega))
  rw [hs1] at c0 c1 c2 c3 c4
  rw [← hB] at a0 a1 a2 a3 a4
  have go2 : ∀ {a : Addr} {u : Value}, W1.cell? a = some u → W2.cell? a = some u := fun hc => (hb12.cell (World.block_lt_of_cell? W1 _ hc)).trans hc
  have far : ∀ {a : Addr} {u : Value} {W : World}, Below W2.heap.size W2 W → W2.cell? a = some u → W.cell? a = some u := fun hb hc => (hb.cell (World.block_lt_of_cell? W2 _ hc)).trans hc
  have VF : Hid (∀ W : World, Below W2.heap.size W2 W → W.cell? ⟨B, 0, none⟩ = some (.int .i64 kk) ∧ W.cell? ⟨B, 1, none⟩ = some (.float .f64 nn) ∧ W.cell? ⟨B, 2, none⟩ = some (.string ss) ∧ W.cell? ⟨B, 3, none⟩ = some (.slice A3 n3 e3) ∧ W.cell? ⟨B, 4, none⟩ = some (.slice A4 n4 e4)) := Lib.hid (fun W h => ⟨far h (go2 a0), far h (go2 a1), far h (go2 a2), far h (go2 a3), far h (go2 a4)⟩)
  have SF : Hid (∀ W : World, Below W2.heap.size W2 W → W.cell? ⟨B + 1, 0, none⟩ = some (.int .i64 n) ∧ W.cell? ⟨B + 1, 1, none⟩ = some (.bool tab) ∧ W.cell? ⟨B + 1, 2, none⟩ = some (.bool srt) ∧ W.cell? ⟨B + 1, 3, none⟩ = some (.bool asc) ∧ W.cell? ⟨B + 1, 4, none⟩ = some (.bool col)) := Lib.hid (fun W h => ⟨far h c0, far h c1, far h c2, far h c3, far h c4⟩)
  have hO := fun h => right_okp (d + 1) 10000 w t _ _ _ _ _ h hR
  have hDs := fun h => right_dst (d + 1) 10000 w t _ _ _ _ _ h hR
  have hP := fun h => both_prints n tab srt asc col d (by omega) t (hO h) (hDs h)
  obtain ⟨r, hr⟩ : ∃ r, r = rightT 10000 t := ⟨_, rfl⟩
  rw [← hr] at HR hP
  have HB := Lib.hid hB
  have HW2 : Hid (W2 = (w.alloc (.cells #[.int .i64 kk, .float .f64 nn, .string ss, .slice A3 n3 e3, .slice A4 n4 e4] 27)).alloc (.cells #[.int .i64 n, .bool tab, .bool srt, .bool asc, .bool col] 29)) := Lib.hid (by rw [hW2, hW1])
  clear hO hDs hr hR hW1 hW2 a0 a1 a2 a3 a4 c0 c1 c2 c3 c4 TW hd hb01 hb12 hs1 go2 far
  go_enter Tryz.func3, Tryz.ntmps3
  go_upto_region 1 with fail
  rw [← HW2.out, ← hB]
  clear HW2 hB
  obtain ⟨q0, q1, q2, q3, q4⟩ := VF.out W2 (Below.refl _ _)
  go_wp2_with fail
  refine (HR.out _ hb2).mono ?_
  rintro e' w3 ⟨rfl, hb3⟩
  have hw3 := hb2.trans (hb3.mono hb2.size)
  clear q0 q1 q2 q3 q4 HR
  cases r with
  | false =>
    clear hP
    go_wp2_with fail
    refine (HH.out _ hw3).mono ?_
    rintro e' w4 ⟨rfl, hb4⟩
    have hw4 := hw3.trans (hb4.mono hw3.size)
    go_wp2_with fail
    go_ret
    exact ⟨rfl, hw4⟩
  | true =>
    obtain ⟨a, ea, hPr⟩ := hP rfl
    have HPr := Lib.hid hPr
    clear hP hPr
    obtain ⟨q0, q1, q2, q3, q4⟩ := VF.out w3 hb3
    go_wp2_with fail
    refine (HC.out w3 hw3).mono ?_
    rintro e' w4 ⟨kz, nz, sz, C3, l3, h3, C4, l4, h4, hz, rfl, hb4⟩
    clear q0 q1 q2 q3 q4 HC
    obtain ⟨wc, hwcE⟩ : ∃ wc, wc = w4.alloc (.cells #[.int .i64 kz, .float .f64 nz, .string sz, .slice C3 l3 h3, .slice C4 l4 h4] 27) := ⟨_, rfl⟩
    have hb4c : Below w4.heap.size w4 wc := by rw [hwcE]; exact (Below.refl _ _).alloc (Nat.le_refl _) _
    have hrow : wc.heap[w4.heap.size]? = some (.cells #[.int .i64 kz, .float .f64 nz, .string sz, .slice C3 l3 h3, .slice C4 l4 h4] 27 (0, 0)) := by rw [hwcE]; exact heap_alloc_new _ _
    have hbc : Below w3.heap.size w3 wc := hb4.trans (hb4c.mono hb4.size)
    have hz := hz.rep.below hb4c
    have HWC := Lib.hid hwcE
    clear hwcE hb4c
    obtain ⟨g, hg⟩ : ∃ g, g = w4.heap.size := ⟨_, rfl⟩
    rw [← hg] at hrow
    have HG := Lib.hid hg
    clear hg
    have hwc := hw3.trans (hbc.mono hw3.size)
    have h2c := hb3.trans (hbc.mono hb3.size)
    obtain ⟨f0, f1, f2, f3, f4⟩ : wc.cell? ⟨g, 0, none⟩ = some (.int .i64 kz) ∧ wc.cell? ⟨g, 1, none⟩ = some (.float .f64 nz) ∧ wc.cell? ⟨g, 2, none⟩ = some (.string sz) ∧ wc.cell? ⟨g, 3, none⟩ = some (.slice C3 l3 h3) ∧ wc.cell? ⟨g, 4, none⟩ = some (.slice C4 l4 h4) := ⟨Go.Proofs.YticaihfcnbehpaaGreatDoor.cell_of_heap hrow rfl, Go.Proofs.YticaihfcnbehpaaGreatDoor.cell_of_heap hrow rfl, Go.Proofs.YticaihfcnbehpaaGreatDoor.cell_of_heap hrow rfl, Go.Proofs.YticaihfcnbehpaaGreatDoor.cell_of_heap hrow rfl, Go.Proofs.YticaihfcnbehpaaGreatDoor.cell_of_heap hrow rfl⟩
    have OF : Hid (∀ W, Below wc.heap.size wc W → W.cell? ⟨g, 0, none⟩ = some (.int .i64 kz) ∧ W.cell? ⟨g, 1, none⟩ = some (.float .f64 nz) ∧ W.cell? ⟨g, 2, none⟩ = some (.string sz) ∧ W.cell? ⟨g, 3, none⟩ = some (.slice C3 l3 h3) ∧ W.cell? ⟨g, 4, none⟩ = some (.slice C4 l4 h4)) := Lib.hid (fun W hb => ⟨(hb.cell (World.block_lt_of_cell? wc _ f0)).trans f0, (hb.cell (World.block_lt_of_cell? wc _ f1)).trans f1, (hb.cell (World.block_lt_of_cell? wc _ f2)).trans f2, (hb.cell (World.block_lt_of_cell? wc _ f3)).trans f3, (hb.cell (World.block_lt_of_cell? wc _ f4)).trans f4⟩)
    have HZ := Lib.hid hz
    obtain ⟨s0, s1, s2, s3, s4⟩ := SF.out wc h2c
    clear hrow hz hbc
    go_wp2_with (refine wpList_store_row rfl 27 (.tmp 5) (.tmp 15) rfl _ #[.int .i64 kz, .float .f64 nz, .string sz, .slice C3 l3 h3, .slice C4 l4 h4] rfl rfl 27 #[.int .i64 0, .float .f64 0, .string ⟨#[]⟩, .slice none 0 0, .slice none 0 0] (heap_alloc_new _ _) (by kernel_rfl) rfl (one5 _ _ _ _ _ _ _ _ _) ?_; rw [setRow_new, ← HWC.out, ← HG.out])
    refine (HPr.out wc _ _ _ _ _ _ _ _ _ (HT.out _ hwc) HZ.out).1.mono ?_
    rintro e' w5 ⟨rfl, hb5⟩
    have h25 := h2c.trans (hb5.mono h2c.size)
    have hw5 := hwc.trans (hb5.mono hwc.size)
    clear f0 f1 f2 f3 f4 s0 s1 s2 s3 s4
    obtain ⟨q0, q1, q2, q3, q4⟩ := VF.out w5 h25
    obtain ⟨s0, s1, s2, s3, s4⟩ := SF.out w5 h25
    go_wp2_with fail
    refine (HPr.out w5 _ _ _ _ _ _ _ _ _ (HT.out _ hw5) (HRep.out _ hw5)).2.mono ?_
    rintro e' w6 ⟨rfl, hb6⟩
    have h26 := h25.trans (hb6.mono h25.size)
    have hw6 := hw5.trans (hb6.mono hw5.size)
    have hc6 := hb5.trans (hb6.mono hb5.size)
    clear q0 q1 q2 q3 q4 s0 s1 s2 s3 s4 hb5 hb6 hw5 h25
    obtain ⟨q0, q1, q2, q3, q4⟩ := VF.out w6 h26
    obtain ⟨f0, f1, f2, f3, f4⟩ := OF.out w6 hc6
    have t1 : (a == a) = true := by simp
    have t2 : (ea == ea) = true := by simp
    go_wp2_with fail
    refine (HS.out w6 _ _ _ _ _ hw6 (HZ.out.below hc6)).mono ?_
    rintro e' w7 ⟨rfl, hb7⟩
    have hw7 := hw6.trans (hb7.mono hw6.size)
    clear q0 q1 q2 q3 q4 f0 f1 f2 f3 f4
    go_wp2_with fail
    refine (HH.out _ hw7).mono ?_
    rintro e' w8 ⟨rfl, hb8⟩
    have hw8 := hw7.trans (hb8.mono hw7.size)
    go_wp2_with fail
    go_ret
    exact ⟨rfl, hw8⟩
end Go.Proofs.YticaihfcnbehpaaGreatDoor
