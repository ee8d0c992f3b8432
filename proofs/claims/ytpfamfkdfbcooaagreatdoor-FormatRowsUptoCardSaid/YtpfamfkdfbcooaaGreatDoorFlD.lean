/- Contract of Go's fmtEFG at the format e, for what is not below 0. -/
import Derived.Test.YtpfamfkdfbcooaaGreatDoorFl
import Derived.Test.YtpfamfkdfbcooaaGreatDoorBytes
import Derived.Handy
set_option linter.unusedVariables false
set_option linter.unusedSimpArgs false
namespace Go.Proofs.YtpfamfkdfbcooaaGreatDoor
open Go Go.RowKit Go.Proofs

def FmtPost (B : Nat) (w : World) (v : Value) (bs : List UInt8) (t : List UInt8) (x : Ending) (w' : World) : Prop :=
  ∃ v', x = .returned v' ∧ App B w v bs w' v' t

set_option maxRecDepth 100000 in
set_option maxHeartbeats 1000000 in
theorem fmt_none (B : Nat) (w : World) (v : Value) (bs : List UInt8) (k : Nat) (dp : Int) (hd0 : -400 ≤ dp) (hd1 : dp ≤ 400) (HO : OwnB B w v bs) (hB : B ≤ w.heap.size) (hbs : bs.length ≤ 1000)  :
    Calls Tryz.prog 189 #[v, .bool false, .slice (some ⟨k, 0, none⟩) 32 32, .int .i64 dp, .int .i64 (0 : Nat), .int .i64 (0 : Nat), .int .u8 101, .bool true] w (FmtPost B w v bs (fmtT ([] : List UInt8) dp)) := by
  have HF : Hid (fmtT ([] : List UInt8) dp = [] ++ [48] ++ [101] ++ [43] ++ [48, 48]) := by
    refine Lib.hid ?_
    rfl
  have hA0 := App.start HO hB
  clear HO
  go_enter Tryz.func189, Tryz.ntmps189
  go_wp2_with (first
    | (at_builtin; refine appN rfl _ _ rfl [48] 1 _ rfl rfl rfl rfl (by assumption) (by simp; omega) ?_; intro v1 w1 hA1)
    | (at_builtin; refine appN rfl _ _ rfl [101] 1 _ rfl rfl rfl rfl (by assumption) (by simp; omega) ?_; intro v4 w4 hA4)
    | (at_builtin; refine appN rfl _ _ rfl [43] 1 _ rfl rfl rfl rfl (by assumption) (by simp; omega) ?_; intro v5 w5 hA5)
    | (at_builtin; refine appN rfl _ _ rfl [48, 48] 2 _ rfl rfl rfl rfl (by assumption) (by simp; omega) ?_; intro v6 w6 hA6))
  go_ret
  rw [HF.out]
  exact ⟨_, rfl, hA6⟩

set_option maxRecDepth 100000 in
set_option maxHeartbeats 1000000 in
theorem fmt_100 (B : Nat) (w : World) (v : Value) (bs : List UInt8) (k : Nat) (x : UInt8) (n : Nat) (HO : OwnB B w v bs) (hB : B ≤ w.heap.size) (hbs : bs.length ≤ 1000) (hn : n < 10)
    (hk : some k ≠ v.ownBlock) (hc : ∀ j (h : j < [x].length), w.cell? ⟨k, j, none⟩ = some (.int .u8 ([x][j].toNat : Int))) :
    Calls Tryz.prog 189 #[v, .bool false, .slice (some ⟨k, 0, none⟩) 32 32, .int .i64 ((n : Int) + 1), .int .i64 (1 : Nat), .int .i64 (0 : Nat), .int .u8 101, .bool true] w (FmtPost B w v bs (fmtT [x] ((n : Int) + 1))) := by
  have c0 := hc 0 (by simp)
  simp only [List.getElem_cons_zero] at c0
  have HF : Hid (fmtT [x] ((n : Int) + 1) = [] ++ [x] ++ [101] ++ [43] ++ [48, UInt8.ofNat (48 + n)]) := by
    refine Lib.hid ?_
    have hx : ((n : Int) + 1 - 1).natAbs = n := by omega
    unfold fmtT expT
    rw [if_neg (show ¬ [x] = [] from by simp), if_neg (show ¬ ((n : Int) + 1 - 1) < 0 from by omega), hx, if_pos hn]
    simp
  have hA0 := App.start HO hB
  clear hc hk HO
  go_enter Tryz.func189, Tryz.ntmps189
  go_wp2_with (first
    | (at_builtin; refine appN rfl _ _ rfl [x] 1 _ rfl rfl rfl rfl (by assumption) (by simp; omega) ?_; intro v1 w1 hA1)
    | (at_builtin; refine appN rfl _ _ rfl [101] 1 _ rfl rfl rfl rfl (by assumption) (by simp; omega) ?_; intro v4 w4 hA4)
    | (at_builtin; refine appN rfl _ _ rfl [43] 1 _ rfl rfl rfl rfl (by assumption) (by simp; omega) ?_; intro v5 w5 hA5)
    | (at_builtin; refine appN rfl _ _ rfl [48, UInt8.ofNat (48 + n)] 2 _ rfl rfl rfl (by simp [Lib.byteCells]; omega) (by assumption) (by simp; omega) ?_; intro v6 w6 hA6))
  go_ret
  rw [HF.out]
  exact ⟨_, rfl, hA6⟩

set_option maxRecDepth 100000 in
set_option maxHeartbeats 1000000 in
theorem fmt_101 (B : Nat) (w : World) (v : Value) (bs : List UInt8) (k : Nat) (x : UInt8) (n : Nat) (HO : OwnB B w v bs) (hB : B ≤ w.heap.size) (hbs : bs.length ≤ 1000) (hm : 10 ≤ n) (hn : n < 100)
    (hk : some k ≠ v.ownBlock) (hc : ∀ j (h : j < [x].length), w.cell? ⟨k, j, none⟩ = some (.int .u8 ([x][j].toNat : Int))) :
    Calls Tryz.prog 189 #[v, .bool false, .slice (some ⟨k, 0, none⟩) 32 32, .int .i64 ((n : Int) + 1), .int .i64 (1 : Nat), .int .i64 (0 : Nat), .int .u8 101, .bool true] w (FmtPost B w v bs (fmtT [x] ((n : Int) + 1))) := by
  have c0 := hc 0 (by simp)
  simp only [List.getElem_cons_zero] at c0
  have HF : Hid (fmtT [x] ((n : Int) + 1) = [] ++ [x] ++ [101] ++ [43] ++ [UInt8.ofNat (48 + n / 10), UInt8.ofNat (48 + n % 10)]) := by
    refine Lib.hid ?_
    have hx : ((n : Int) + 1 - 1).natAbs = n := by omega
    unfold fmtT expT
    rw [if_neg (show ¬ [x] = [] from by simp), if_neg (show ¬ ((n : Int) + 1 - 1) < 0 from by omega), hx, if_neg (show ¬ n < 10 from by omega), if_pos hn]
    simp
  have hA0 := App.start HO hB
  clear hc hk HO
  go_enter Tryz.func189, Tryz.ntmps189
  go_wp2_with (first
    | (at_builtin; refine appN rfl _ _ rfl [x] 1 _ rfl rfl rfl rfl (by assumption) (by simp; omega) ?_; intro v1 w1 hA1)
    | (at_builtin; refine appN rfl _ _ rfl [101] 1 _ rfl rfl rfl rfl (by assumption) (by simp; omega) ?_; intro v4 w4 hA4)
    | (at_builtin; refine appN rfl _ _ rfl [43] 1 _ rfl rfl rfl rfl (by assumption) (by simp; omega) ?_; intro v5 w5 hA5)
    | (at_builtin; refine appN rfl _ _ rfl [UInt8.ofNat (48 + n / 10), UInt8.ofNat (48 + n % 10)] 2 _ rfl rfl rfl (by simp [Lib.byteCells]; omega) (by assumption) (by simp; omega) ?_; intro v6 w6 hA6))
  go_ret
  rw [HF.out]
  exact ⟨_, rfl, hA6⟩

set_option maxRecDepth 100000 in
set_option maxHeartbeats 1000000 in
theorem fmt_102 (B : Nat) (w : World) (v : Value) (bs : List UInt8) (k : Nat) (x : UInt8) (n : Nat) (HO : OwnB B w v bs) (hB : B ≤ w.heap.size) (hbs : bs.length ≤ 1000) (hm : 100 ≤ n) (hn : n < 400)
    (hk : some k ≠ v.ownBlock) (hc : ∀ j (h : j < [x].length), w.cell? ⟨k, j, none⟩ = some (.int .u8 ([x][j].toNat : Int))) :
    Calls Tryz.prog 189 #[v, .bool false, .slice (some ⟨k, 0, none⟩) 32 32, .int .i64 ((n : Int) + 1), .int .i64 (1 : Nat), .int .i64 (0 : Nat), .int .u8 101, .bool true] w (FmtPost B w v bs (fmtT [x] ((n : Int) + 1))) := by
  have c0 := hc 0 (by simp)
  simp only [List.getElem_cons_zero] at c0
  have HF : Hid (fmtT [x] ((n : Int) + 1) = [] ++ [x] ++ [101] ++ [43] ++ [UInt8.ofNat (48 + n / 100), UInt8.ofNat (48 + n / 10 % 10), UInt8.ofNat (48 + n % 10)]) := by
    refine Lib.hid ?_
    have hx : ((n : Int) + 1 - 1).natAbs = n := by omega
    unfold fmtT expT
    rw [if_neg (show ¬ [x] = [] from by simp), if_neg (show ¬ ((n : Int) + 1 - 1) < 0 from by omega), hx, if_neg (show ¬ n < 10 from by omega), if_neg (show ¬ n < 100 from by omega)]
    simp
  have hA0 := App.start HO hB
  clear hc hk HO
  go_enter Tryz.func189, Tryz.ntmps189
  go_wp2_with (first
    | (at_builtin; refine appN rfl _ _ rfl [x] 1 _ rfl rfl rfl rfl (by assumption) (by simp; omega) ?_; intro v1 w1 hA1)
    | (at_builtin; refine appN rfl _ _ rfl [101] 1 _ rfl rfl rfl rfl (by assumption) (by simp; omega) ?_; intro v4 w4 hA4)
    | (at_builtin; refine appN rfl _ _ rfl [43] 1 _ rfl rfl rfl rfl (by assumption) (by simp; omega) ?_; intro v5 w5 hA5)
    | (at_builtin; refine appN rfl _ _ rfl [UInt8.ofNat (48 + n / 100), UInt8.ofNat (48 + n / 10 % 10), UInt8.ofNat (48 + n % 10)] 3 _ rfl rfl rfl (by simp [Lib.byteCells]; omega) (by assumption) (by simp; omega) ?_; intro v6 w6 hA6))
  go_ret
  rw [HF.out]
  exact ⟨_, rfl, hA6⟩

set_option maxRecDepth 100000 in
set_option maxHeartbeats 1000000 in
theorem fmt_110 (B : Nat) (w : World) (v : Value) (bs : List UInt8) (k : Nat) (x : UInt8) (n : Nat) (HO : OwnB B w v bs) (hB : B ≤ w.heap.size) (hbs : bs.length ≤ 1000) (hn0 : 1 ≤ n) (hn : n < 10)
    (hk : some k ≠ v.ownBlock) (hc : ∀ j (h : j < [x].length), w.cell? ⟨k, j, none⟩ = some (.int .u8 ([x][j].toNat : Int))) :
    Calls Tryz.prog 189 #[v, .bool false, .slice (some ⟨k, 0, none⟩) 32 32, .int .i64 (1 - (n : Int)), .int .i64 (1 : Nat), .int .i64 (0 : Nat), .int .u8 101, .bool true] w (FmtPost B w v bs (fmtT [x] (1 - (n : Int)))) := by
  have c0 := hc 0 (by simp)
  simp only [List.getElem_cons_zero] at c0
  have HF : Hid (fmtT [x] (1 - (n : Int)) = [] ++ [x] ++ [101] ++ [45] ++ [48, UInt8.ofNat (48 + n)]) := by
    refine Lib.hid ?_
    have hx : (1 - (n : Int) - 1).natAbs = n := by omega
    unfold fmtT expT
    rw [if_neg (show ¬ [x] = [] from by simp), if_pos (show (1 - (n : Int) - 1) < 0 from by omega), hx, if_pos hn]
    simp
  have hn1 : (1 : Int) - (n : Int) - 1 = -(n : Int) := by omega
  have hA0 := App.start HO hB
  clear hc hk HO
  go_enter Tryz.func189, Tryz.ntmps189
  go_wp2_with (first
    | (at_builtin; refine appN rfl _ _ rfl [x] 1 _ rfl rfl rfl rfl (by assumption) (by simp; omega) ?_; intro v1 w1 hA1)
    | (at_builtin; refine appN rfl _ _ rfl [101] 1 _ rfl rfl rfl rfl (by assumption) (by simp; omega) ?_; intro v4 w4 hA4)
    | (at_builtin; refine appN rfl _ _ rfl [45] 1 _ rfl rfl rfl rfl (by assumption) (by simp; omega) ?_; intro v5 w5 hA5)
    | (at_builtin; refine appN rfl _ _ rfl [48, UInt8.ofNat (48 + n)] 2 _ rfl rfl rfl (by simp [Lib.byteCells]; omega) (by assumption) (by simp; omega) ?_; intro v6 w6 hA6))
  go_ret
  rw [HF.out]
  exact ⟨_, rfl, hA6⟩

set_option maxRecDepth 100000 in
set_option maxHeartbeats 1000000 in
theorem fmt_111 (B : Nat) (w : World) (v : Value) (bs : List UInt8) (k : Nat) (x : UInt8) (n : Nat) (HO : OwnB B w v bs) (hB : B ≤ w.heap.size) (hbs : bs.length ≤ 1000) (hn0 : 1 ≤ n) (hm : 10 ≤ n) (hn : n < 100)
    (hk : some k ≠ v.ownBlock) (hc : ∀ j (h : j < [x].length), w.cell? ⟨k, j, none⟩ = some (.int .u8 ([x][j].toNat : Int))) :
    Calls Tryz.prog 189 #[v, .bool false, .slice (some ⟨k, 0, none⟩) 32 32, .int .i64 (1 - (n : Int)), .int .i64 (1 : Nat), .int .i64 (0 : Nat), .int .u8 101, .bool true] w (FmtPost B w v bs (fmtT [x] (1 - (n : Int)))) := by
  have c0 := hc 0 (by simp)
  simp only [List.getElem_cons_zero] at c0
  have HF : Hid (fmtT [x] (1 - (n : Int)) = [] ++ [x] ++ [101] ++ [45] ++ [UInt8.ofNat (48 + n / 10), UInt8.ofNat (48 + n % 10)]) := by
    refine Lib.hid ?_
    have hx : (1 - (n : Int) - 1).natAbs = n := by omega
    unfold fmtT expT
    rw [if_neg (show ¬ [x] = [] from by simp), if_pos (show (1 - (n : Int) - 1) < 0 from by omega), hx, if_neg (show ¬ n < 10 from by omega), if_pos hn]
    simp
  have hn1 : (1 : Int) - (n : Int) - 1 = -(n : Int) := by omega
  have hA0 := App.start HO hB
  clear hc hk HO
  go_enter Tryz.func189, Tryz.ntmps189
  go_wp2_with (first
    | (at_builtin; refine appN rfl _ _ rfl [x] 1 _ rfl rfl rfl rfl (by assumption) (by simp; omega) ?_; intro v1 w1 hA1)
    | (at_builtin; refine appN rfl _ _ rfl [101] 1 _ rfl rfl rfl rfl (by assumption) (by simp; omega) ?_; intro v4 w4 hA4)
    | (at_builtin; refine appN rfl _ _ rfl [45] 1 _ rfl rfl rfl rfl (by assumption) (by simp; omega) ?_; intro v5 w5 hA5)
    | (at_builtin; refine appN rfl _ _ rfl [UInt8.ofNat (48 + n / 10), UInt8.ofNat (48 + n % 10)] 2 _ rfl rfl rfl (by simp [Lib.byteCells]; omega) (by assumption) (by simp; omega) ?_; intro v6 w6 hA6))
  go_ret
  rw [HF.out]
  exact ⟨_, rfl, hA6⟩

set_option maxRecDepth 100000 in
set_option maxHeartbeats 1000000 in
theorem fmt_112 (B : Nat) (w : World) (v : Value) (bs : List UInt8) (k : Nat) (x : UInt8) (n : Nat) (HO : OwnB B w v bs) (hB : B ≤ w.heap.size) (hbs : bs.length ≤ 1000) (hn0 : 1 ≤ n) (hm : 100 ≤ n) (hn : n < 400)
    (hk : some k ≠ v.ownBlock) (hc : ∀ j (h : j < [x].length), w.cell? ⟨k, j, none⟩ = some (.int .u8 ([x][j].toNat : Int))) :
    Calls Tryz.prog 189 #[v, .bool false, .slice (some ⟨k, 0, none⟩) 32 32, .int .i64 (1 - (n : Int)), .int .i64 (1 : Nat), .int .i64 (0 : Nat), .int .u8 101, .bool true] w (FmtPost B w v bs (fmtT [x] (1 - (n : Int)))) := by
  have c0 := hc 0 (by simp)
  simp only [List.getElem_cons_zero] at c0
  have HF : Hid (fmtT [x] (1 - (n : Int)) = [] ++ [x] ++ [101] ++ [45] ++ [UInt8.ofNat (48 + n / 100), UInt8.ofNat (48 + n / 10 % 10), UInt8.ofNat (48 + n % 10)]) := by
    refine Lib.hid ?_
    have hx : (1 - (n : Int) - 1).natAbs = n := by omega
    unfold fmtT expT
    rw [if_neg (show ¬ [x] = [] from by simp), if_pos (show (1 - (n : Int) - 1) < 0 from by omega), hx, if_neg (show ¬ n < 10 from by omega), if_neg (show ¬ n < 100 from by omega)]
    simp
  have hn1 : (1 : Int) - (n : Int) - 1 = -(n : Int) := by omega
  have hA0 := App.start HO hB
  clear hc hk HO
  go_enter Tryz.func189, Tryz.ntmps189
  go_wp2_with (first
    | (at_builtin; refine appN rfl _ _ rfl [x] 1 _ rfl rfl rfl rfl (by assumption) (by simp; omega) ?_; intro v1 w1 hA1)
    | (at_builtin; refine appN rfl _ _ rfl [101] 1 _ rfl rfl rfl rfl (by assumption) (by simp; omega) ?_; intro v4 w4 hA4)
    | (at_builtin; refine appN rfl _ _ rfl [45] 1 _ rfl rfl rfl rfl (by assumption) (by simp; omega) ?_; intro v5 w5 hA5)
    | (at_builtin; refine appN rfl _ _ rfl [UInt8.ofNat (48 + n / 100), UInt8.ofNat (48 + n / 10 % 10), UInt8.ofNat (48 + n % 10)] 3 _ rfl rfl rfl (by simp [Lib.byteCells]; omega) (by assumption) (by simp; omega) ?_; intro v6 w6 hA6))
  go_ret
  rw [HF.out]
  exact ⟨_, rfl, hA6⟩

set_option maxRecDepth 100000 in
set_option maxHeartbeats 1000000 in
theorem fmt_200 (B : Nat) (w : World) (v : Value) (bs : List UInt8) (k : Nat) (x y : UInt8) (D : List UInt8) (hD : D.length ≤ 30) (n : Nat) (HO : OwnB B w v bs) (hB : B ≤ w.heap.size) (hbs : bs.length ≤ 1000) (hn : n < 10)
    (hk : some k ≠ v.ownBlock) (hc : ∀ j (h : j < (x :: y :: D).length), w.cell? ⟨k, j, none⟩ = some (.int .u8 ((x :: y :: D)[j].toNat : Int))) :
    Calls Tryz.prog 189 #[v, .bool false, .slice (some ⟨k, 0, none⟩) 32 32, .int .i64 ((n : Int) + 1), .int .i64 (D.length + 2 : Nat), .int .i64 (D.length + 1 : Nat), .int .u8 101, .bool true] w (FmtPost B w v bs (fmtT (x :: y :: D) ((n : Int) + 1))) := by
  have c0 := hc 0 (by simp)
  simp only [List.getElem_cons_zero] at c0
  have HC : Hid (∀ j (h : j < (y :: D).length), w.cell? ⟨k, 1 + j, none⟩ = some (.int .u8 ((y :: D)[j].toNat : Int))) := Lib.hid fun j h => by
    have h2 := hc (j + 1) (by simpa using h)
    simp only [List.getElem_cons_succ] at h2
    rw [show 1 + j = j + 1 from Nat.add_comm 1 j]
    exact h2
  have HK := Lib.hid hk
  have hmin : min ((D.length : Int) + 2) ((D.length : Int) + 1 + 1) = (D.length : Int) + 2 := by omega
  have HF : Hid (fmtT (x :: y :: D) ((n : Int) + 1) = [] ++ [x] ++ [46] ++ y :: D ++ [101] ++ [43] ++ [48, UInt8.ofNat (48 + n)]) := by
    refine Lib.hid ?_
    have hx : ((n : Int) + 1 - 1).natAbs = n := by omega
    unfold fmtT expT
    rw [if_neg (show ¬ (x :: y :: D) = [] from by simp), if_neg (show ¬ ((n : Int) + 1 - 1) < 0 from by omega), hx, if_pos hn]
    simp
  have hA0 := App.start HO hB
  clear hc hk HO
  go_enter Tryz.func189, Tryz.ntmps189
  go_wp2_with (first
    | (at_builtin; refine appN rfl _ _ rfl [x] 1 _ rfl rfl rfl rfl (by assumption) (by simp; omega) ?_; intro v1 w1 hA1)
    | (at_builtin; refine appN rfl _ _ rfl [46] 1 _ rfl rfl rfl rfl (by assumption) (by simp; omega) ?_; intro v2 w2 hA2)
    | (at_builtin; refine appO rfl _ _ rfl (y :: D) _ _ k 1 (by simp) rfl rfl HC.out HK.out (by assumption) (by simp; omega) ?_; intro v3 w3 hA3))
  refine wp_loop_rounds 1 ?_
  rw [rounds_succ]
  go_wp2_with (first
    | (at_builtin; refine appN rfl _ _ rfl [101] 1 _ rfl rfl rfl rfl (by assumption) (by simp; omega) ?_; intro v4 w4 hA4)
    | (at_builtin; refine appN rfl _ _ rfl [43] 1 _ rfl rfl rfl rfl (by assumption) (by simp; omega) ?_; intro v5 w5 hA5)
    | (at_builtin; refine appN rfl _ _ rfl [48, UInt8.ofNat (48 + n)] 2 _ rfl rfl rfl (by simp [Lib.byteCells]; omega) (by assumption) (by simp; omega) ?_; intro v6 w6 hA6))
  go_ret
  rw [HF.out]
  exact ⟨_, rfl, hA6⟩

set_option maxRecDepth 100000 in
set_option maxHeartbeats 1000000 in
theorem fmt_201 (B : Nat) (w : World) (v : Value) (bs : List UInt8) (k : Nat) (x y : UInt8) (D : List UInt8) (hD : D.length ≤ 30) (n : Nat) (HO : OwnB B w v bs) (hB : B ≤ w.heap.size) (hbs : bs.length ≤ 1000) (hm : 10 ≤ n) (hn : n < 100)
    (hk : some k ≠ v.ownBlock) (hc : ∀ j (h : j < (x :: y :: D).length), w.cell? ⟨k, j, none⟩ = some (.int .u8 ((x :: y :: D)[j].toNat : Int))) :
    Calls Tryz.prog 189 #[v, .bool false, .slice (some ⟨k, 0, none⟩) 32 32, .int .i64 ((n : Int) + 1), .int .i64 (D.length + 2 : Nat), .int .i64 (D.length + 1 : Nat), .int .u8 101, .bool true] w (FmtPost B w v bs (fmtT (x :: y :: D) ((n : Int) + 1))) := by
  have c0 := hc 0 (by simp)
  simp only [List.getElem_cons_zero] at c0
  have HC : Hid (∀ j (h : j < (y :: D).length), w.cell? ⟨k, 1 + j, none⟩ = some (.int .u8 ((y :: D)[j].toNat : Int))) := Lib.hid fun j h => by
    have h2 := hc (j + 1) (by simpa using h)
    simp only [List.getElem_cons_succ] at h2
    rw [show 1 + j = j + 1 from Nat.add_comm 1 j]
    exact h2
  have HK := Lib.hid hk
  have hmin : min ((D.length : Int) + 2) ((D.length : Int) + 1 + 1) = (D.length : Int) + 2 := by omega
  have HF : Hid (fmtT (x :: y :: D) ((n : Int) + 1) = [] ++ [x] ++ [46] ++ y :: D ++ [101] ++ [43] ++ [UInt8.ofNat (48 + n / 10), UInt8.ofNat (48 + n % 10)]) := by
    refine Lib.hid ?_
    have hx : ((n : Int) + 1 - 1).natAbs = n := by omega
    unfold fmtT expT
    rw [if_neg (show ¬ (x :: y :: D) = [] from by simp), if_neg (show ¬ ((n : Int) + 1 - 1) < 0 from by omega), hx, if_neg (show ¬ n < 10 from by omega), if_pos hn]
    simp
  have hA0 := App.start HO hB
  clear hc hk HO
  go_enter Tryz.func189, Tryz.ntmps189
  go_wp2_with (first
    | (at_builtin; refine appN rfl _ _ rfl [x] 1 _ rfl rfl rfl rfl (by assumption) (by simp; omega) ?_; intro v1 w1 hA1)
    | (at_builtin; refine appN rfl _ _ rfl [46] 1 _ rfl rfl rfl rfl (by assumption) (by simp; omega) ?_; intro v2 w2 hA2)
    | (at_builtin; refine appO rfl _ _ rfl (y :: D) _ _ k 1 (by simp) rfl rfl HC.out HK.out (by assumption) (by simp; omega) ?_; intro v3 w3 hA3))
  refine wp_loop_rounds 1 ?_
  rw [rounds_succ]
  go_wp2_with (first
    | (at_builtin; refine appN rfl _ _ rfl [101] 1 _ rfl rfl rfl rfl (by assumption) (by simp; omega) ?_; intro v4 w4 hA4)
    | (at_builtin; refine appN rfl _ _ rfl [43] 1 _ rfl rfl rfl rfl (by assumption) (by simp; omega) ?_; intro v5 w5 hA5)
    | (at_builtin; refine appN rfl _ _ rfl [UInt8.ofNat (48 + n / 10), UInt8.ofNat (48 + n % 10)] 2 _ rfl rfl rfl (by simp [Lib.byteCells]; omega) (by assumption) (by simp; omega) ?_; intro v6 w6 hA6))
  go_ret
  rw [HF.out]
  exact ⟨_, rfl, hA6⟩

set_option maxRecDepth 100000 in
set_option maxHeartbeats 1000000 in
theorem fmt_202 (B : Nat) (w : World) (v : Value) (bs : List UInt8) (k : Nat) (x y : UInt8) (D : List UInt8) (hD : D.length ≤ 30) (n : Nat) (HO : OwnB B w v bs) (hB : B ≤ w.heap.size) (hbs : bs.length ≤ 1000) (hm : 100 ≤ n) (hn : n < 400)
    (hk : some k ≠ v.ownBlock) (hc : ∀ j (h : j < (x :: y :: D).length), w.cell? ⟨k, j, none⟩ = some (.int .u8 ((x :: y :: D)[j].toNat : Int))) :
    Calls Tryz.prog 189 #[v, .bool false, .slice (some ⟨k, 0, none⟩) 32 32, .int .i64 ((n : Int) + 1), .int .i64 (D.length + 2 : Nat), .int .i64 (D.length + 1 : Nat), .int .u8 101, .bool true] w (FmtPost B w v bs (fmtT (x :: y :: D) ((n : Int) + 1))) := by
  have c0 := hc 0 (by simp)
  simp only [List.getElem_cons_zero] at c0
  have HC : Hid (∀ j (h : j < (y :: D).length), w.cell? ⟨k, 1 + j, none⟩ = some (.int .u8 ((y :: D)[j].toNat : Int))) := Lib.hid fun j h => by
    have h2 := hc (j + 1) (by simpa using h)
    simp only [List.getElem_cons_succ] at h2
    rw [show 1 + j = j + 1 from Nat.add_comm 1 j]
    exact h2
  have HK := Lib.hid hk
  have hmin : min ((D.length : Int) + 2) ((D.length : Int) + 1 + 1) = (D.length : Int) + 2 := by omega
  have HF : Hid (fmtT (x :: y :: D) ((n : Int) + 1) = [] ++ [x] ++ [46] ++ y :: D ++ [101] ++ [43] ++ [UInt8.ofNat (48 + n / 100), UInt8.ofNat (48 + n / 10 % 10), UInt8.ofNat (48 + n % 10)]) := by
    refine Lib.hid ?_
    have hx : ((n : Int) + 1 - 1).natAbs = n := by omega
    unfold fmtT expT
    rw [if_neg (show ¬ (x :: y :: D) = [] from by simp), if_neg (show ¬ ((n : Int) + 1 - 1) < 0 from by omega), hx, if_neg (show ¬ n < 10 from by omega), if_neg (show ¬ n < 100 from by omega)]
    simp
  have hA0 := App.start HO hB
  clear hc hk HO
  go_enter Tryz.func189, Tryz.ntmps189
  go_wp2_with (first
    | (at_builtin; refine appN rfl _ _ rfl [x] 1 _ rfl rfl rfl rfl (by assumption) (by simp; omega) ?_; intro v1 w1 hA1)
    | (at_builtin; refine appN rfl _ _ rfl [46] 1 _ rfl rfl rfl rfl (by assumption) (by simp; omega) ?_; intro v2 w2 hA2)
    | (at_builtin; refine appO rfl _ _ rfl (y :: D) _ _ k 1 (by simp) rfl rfl HC.out HK.out (by assumption) (by simp; omega) ?_; intro v3 w3 hA3))
  refine wp_loop_rounds 1 ?_
  rw [rounds_succ]
  go_wp2_with (first
    | (at_builtin; refine appN rfl _ _ rfl [101] 1 _ rfl rfl rfl rfl (by assumption) (by simp; omega) ?_; intro v4 w4 hA4)
    | (at_builtin; refine appN rfl _ _ rfl [43] 1 _ rfl rfl rfl rfl (by assumption) (by simp; omega) ?_; intro v5 w5 hA5)
    | (at_builtin; refine appN rfl _ _ rfl [UInt8.ofNat (48 + n / 100), UInt8.ofNat (48 + n / 10 % 10), UInt8.ofNat (48 + n % 10)] 3 _ rfl rfl rfl (by simp [Lib.byteCells]; omega) (by assumption) (by simp; omega) ?_; intro v6 w6 hA6))
  go_ret
  rw [HF.out]
  exact ⟨_, rfl, hA6⟩

set_option maxRecDepth 100000 in
set_option maxHeartbeats 1000000 in
theorem fmt_210 (B : Nat) (w : World) (v : Value) (bs : List UInt8) (k : Nat) (x y : UInt8) (D : List UInt8) (hD : D.length ≤ 30) (n : Nat) (HO : OwnB B w v bs) (hB : B ≤ w.heap.size) (hbs : bs.length ≤ 1000) (hn0 : 1 ≤ n) (hn : n < 10)
    (hk : some k ≠ v.ownBlock) (hc : ∀ j (h : j < (x :: y :: D).length), w.cell? ⟨k, j, none⟩ = some (.int .u8 ((x :: y :: D)[j].toNat : Int))) :
    Calls Tryz.prog 189 #[v, .bool false, .slice (some ⟨k, 0, none⟩) 32 32, .int .i64 (1 - (n : Int)), .int .i64 (D.length + 2 : Nat), .int .i64 (D.length + 1 : Nat), .int .u8 101, .bool true] w (FmtPost B w v bs (fmtT (x :: y :: D) (1 - (n : Int)))) := by
  have c0 := hc 0 (by simp)
  simp only [List.getElem_cons_zero] at c0
  have HC : Hid (∀ j (h : j < (y :: D).length), w.cell? ⟨k, 1 + j, none⟩ = some (.int .u8 ((y :: D)[j].toNat : Int))) := Lib.hid fun j h => by
    have h2 := hc (j + 1) (by simpa using h)
    simp only [List.getElem_cons_succ] at h2
    rw [show 1 + j = j + 1 from Nat.add_comm 1 j]
    exact h2
  have HK := Lib.hid hk
  have hmin : min ((D.length : Int) + 2) ((D.length : Int) + 1 + 1) = (D.length : Int) + 2 := by omega
  have HF : Hid (fmtT (x :: y :: D) (1 - (n : Int)) = [] ++ [x] ++ [46] ++ y :: D ++ [101] ++ [45] ++ [48, UInt8.ofNat (48 + n)]) := by
    refine Lib.hid ?_
    have hx : (1 - (n : Int) - 1).natAbs = n := by omega
    unfold fmtT expT
    rw [if_neg (show ¬ (x :: y :: D) = [] from by simp), if_pos (show (1 - (n : Int) - 1) < 0 from by omega), hx, if_pos hn]
    simp
  have hn1 : (1 : Int) - (n : Int) - 1 = -(n : Int) := by omega
  have hA0 := App.start HO hB
  clear hc hk HO
  go_enter Tryz.func189, Tryz.ntmps189
  go_wp2_with (first
    | (at_builtin; refine appN rfl _ _ rfl [x] 1 _ rfl rfl rfl rfl (by assumption) (by simp; omega) ?_; intro v1 w1 hA1)
    | (at_builtin; refine appN rfl _ _ rfl [46] 1 _ rfl rfl rfl rfl (by assumption) (by simp; omega) ?_; intro v2 w2 hA2)
    | (at_builtin; refine appO rfl _ _ rfl (y :: D) _ _ k 1 (by simp) rfl rfl HC.out HK.out (by assumption) (by simp; omega) ?_; intro v3 w3 hA3))
  refine wp_loop_rounds 1 ?_
  rw [rounds_succ]
  go_wp2_with (first
    | (at_builtin; refine appN rfl _ _ rfl [101] 1 _ rfl rfl rfl rfl (by assumption) (by simp; omega) ?_; intro v4 w4 hA4)
    | (at_builtin; refine appN rfl _ _ rfl [45] 1 _ rfl rfl rfl rfl (by assumption) (by simp; omega) ?_; intro v5 w5 hA5)
    | (at_builtin; refine appN rfl _ _ rfl [48, UInt8.ofNat (48 + n)] 2 _ rfl rfl rfl (by simp [Lib.byteCells]; omega) (by assumption) (by simp; omega) ?_; intro v6 w6 hA6))
  go_ret
  rw [HF.out]
  exact ⟨_, rfl, hA6⟩

set_option maxRecDepth 100000 in
set_option maxHeartbeats 1000000 in
theorem fmt_211 (B : Nat) (w : World) (v : Value) (bs : List UInt8) (k : Nat) (x y : UInt8) (D : List UInt8) (hD : D.length ≤ 30) (n : Nat) (HO : OwnB B w v bs) (hB : B ≤ w.heap.size) (hbs : bs.length ≤ 1000) (hn0 : 1 ≤ n) (hm : 10 ≤ n) (hn : n < 100)
    (hk : some k ≠ v.ownBlock) (hc : ∀ j (h : j < (x :: y :: D).length), w.cell? ⟨k, j, none⟩ = some (.int .u8 ((x :: y :: D)[j].toNat : Int))) :
    Calls Tryz.prog 189 #[v, .bool false, .slice (some ⟨k, 0, none⟩) 32 32, .int .i64 (1 - (n : Int)), .int .i64 (D.length + 2 : Nat), .int .i64 (D.length + 1 : Nat), .int .u8 101, .bool true] w (FmtPost B w v bs (fmtT (x :: y :: D) (1 - (n : Int)))) := by
  have c0 := hc 0 (by simp)
  simp only [List.getElem_cons_zero] at c0
  have HC : Hid (∀ j (h : j < (y :: D).length), w.cell? ⟨k, 1 + j, none⟩ = some (.int .u8 ((y :: D)[j].toNat : Int))) := Lib.hid fun j h => by
    have h2 := hc (j + 1) (by simpa using h)
    simp only [List.getElem_cons_succ] at h2
    rw [show 1 + j = j + 1 from Nat.add_comm 1 j]
    exact h2
  have HK := Lib.hid hk
  have hmin : min ((D.length : Int) + 2) ((D.length : Int) + 1 + 1) = (D.length : Int) + 2 := by omega
  have HF : Hid (fmtT (x :: y :: D) (1 - (n : Int)) = [] ++ [x] ++ [46] ++ y :: D ++ [101] ++ [45] ++ [UInt8.ofNat (48 + n / 10), UInt8.ofNat (48 + n % 10)]) := by
    refine Lib.hid ?_
    have hx : (1 - (n : Int) - 1).natAbs = n := by omega
    unfold fmtT expT
    rw [if_neg (show ¬ (x :: y :: D) = [] from by simp), if_pos (show (1 - (n : Int) - 1) < 0 from by omega), hx, if_neg (show ¬ n < 10 from by omega), if_pos hn]
    simp
  have hn1 : (1 : Int) - (n : Int) - 1 = -(n : Int) := by omega
  have hA0 := App.start HO hB
  clear hc hk HO
  go_enter Tryz.func189, Tryz.ntmps189
  go_wp2_with (first
    | (at_builtin; refine appN rfl _ _ rfl [x] 1 _ rfl rfl rfl rfl (by assumption) (by simp; omega) ?_; intro v1 w1 hA1)
    | (at_builtin; refine appN rfl _ _ rfl [46] 1 _ rfl rfl rfl rfl (by assumption) (by simp; omega) ?_; intro v2 w2 hA2)
    | (at_builtin; refine appO rfl _ _ rfl (y :: D) _ _ k 1 (by simp) rfl rfl HC.out HK.out (by assumption) (by simp; omega) ?_; intro v3 w3 hA3))
  refine wp_loop_rounds 1 ?_
  rw [rounds_succ]
  go_wp2_with (first
    | (at_builtin; refine appN rfl _ _ rfl [101] 1 _ rfl rfl rfl rfl (by assumption) (by simp; omega) ?_; intro v4 w4 hA4)
    | (at_builtin; refine appN rfl _ _ rfl [45] 1 _ rfl rfl rfl rfl (by assumption) (by simp; omega) ?_; intro v5 w5 hA5)
    | (at_builtin; refine appN rfl _ _ rfl [UInt8.ofNat (48 + n / 10), UInt8.ofNat (48 + n % 10)] 2 _ rfl rfl rfl (by simp [Lib.byteCells]; omega) (by assumption) (by simp; omega) ?_; intro v6 w6 hA6))
  go_ret
  rw [HF.out]
  exact ⟨_, rfl, hA6⟩

set_option maxRecDepth 100000 in
set_option maxHeartbeats 1000000 in
theorem fmt_212 (B : Nat) (w : World) (v : Value) (bs : List UInt8) (k : Nat) (x y : UInt8) (D : List UInt8) (hD : D.length ≤ 30) (n : Nat) (HO : OwnB B w v bs) (hB : B ≤ w.heap.size) (hbs : bs.length ≤ 1000) (hn0 : 1 ≤ n) (hm : 100 ≤ n) (hn : n < 400)
    (hk : some k ≠ v.ownBlock) (hc : ∀ j (h : j < (x :: y :: D).length), w.cell? ⟨k, j, none⟩ = some (.int .u8 ((x :: y :: D)[j].toNat : Int))) :
    Calls Tryz.prog 189 #[v, .bool false, .slice (some ⟨k, 0, none⟩) 32 32, .int .i64 (1 - (n : Int)), .int .i64 (D.length + 2 : Nat), .int .i64 (D.length + 1 : Nat), .int .u8 101, .bool true] w (FmtPost B w v bs (fmtT (x :: y :: D) (1 - (n : Int)))) := by
  have c0 := hc 0 (by simp)
  simp only [List.getElem_cons_zero] at c0
  have HC : Hid (∀ j (h : j < (y :: D).length), w.cell? ⟨k, 1 + j, none⟩ = some (.int .u8 ((y :: D)[j].toNat : Int))) := Lib.hid fun j h => by
    have h2 := hc (j + 1) (by simpa using h)
    simp only [List.getElem_cons_succ] at h2
    rw [show 1 + j = j + 1 from Nat.add_comm 1 j]
    exact h2
  have HK := Lib.hid hk
  have hmin : min ((D.length : Int) + 2) ((D.length : Int) + 1 + 1) = (D.length : Int) + 2 := by omega
  have HF : Hid (fmtT (x :: y :: D) (1 - (n : Int)) = [] ++ [x] ++ [46] ++ y :: D ++ [101] ++ [45] ++ [UInt8.ofNat (48 + n / 100), UInt8.ofNat (48 + n / 10 % 10), UInt8.ofNat (48 + n % 10)]) := by
    refine Lib.hid ?_
    have hx : (1 - (n : Int) - 1).natAbs = n := by omega
    unfold fmtT expT
    rw [if_neg (show ¬ (x :: y :: D) = [] from by simp), if_pos (show (1 - (n : Int) - 1) < 0 from by omega), hx, if_neg (show ¬ n < 10 from by omega), if_neg (show ¬ n < 100 from by omega)]
    simp
  have hn1 : (1 : Int) - (n : Int) - 1 = -(n : Int) := by omega
  have hA0 := App.start HO hB
  clear hc hk HO
  go_enter Tryz.func189, Tryz.ntmps189
  go_wp2_with (first
    | (at_builtin; refine appN rfl _ _ rfl [x] 1 _ rfl rfl rfl rfl (by assumption) (by simp; omega) ?_; intro v1 w1 hA1)
    | (at_builtin; refine appN rfl _ _ rfl [46] 1 _ rfl rfl rfl rfl (by assumption) (by simp; omega) ?_; intro v2 w2 hA2)
    | (at_builtin; refine appO rfl _ _ rfl (y :: D) _ _ k 1 (by simp) rfl rfl HC.out HK.out (by assumption) (by simp; omega) ?_; intro v3 w3 hA3))
  refine wp_loop_rounds 1 ?_
  rw [rounds_succ]
  go_wp2_with (first
    | (at_builtin; refine appN rfl _ _ rfl [101] 1 _ rfl rfl rfl rfl (by assumption) (by simp; omega) ?_; intro v4 w4 hA4)
    | (at_builtin; refine appN rfl _ _ rfl [45] 1 _ rfl rfl rfl rfl (by assumption) (by simp; omega) ?_; intro v5 w5 hA5)
    | (at_builtin; refine appN rfl _ _ rfl [UInt8.ofNat (48 + n / 100), UInt8.ofNat (48 + n / 10 % 10), UInt8.ofNat (48 + n % 10)] 3 _ rfl rfl rfl (by simp [Lib.byteCells]; omega) (by assumption) (by simp; omega) ?_; intro v6 w6 hA6))
  go_ret
  rw [HF.out]
  exact ⟨_, rfl, hA6⟩

end Go.Proofs.YtpfamfkdfbcooaaGreatDoor
