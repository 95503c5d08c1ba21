/- Several texts in one: SigAP. -/
import Derived.Test.YtapboamjpilckaaDoorP7
/- SignHolds: its regions. -/
namespace Go.Proofs.YtapboamjpilckaaDoor
open Go.RowKit
theorem op_store_blkS {P : Program} {o : Oper} {a : Act} {w0 w : World} {K : Act → World → Prop} {Q : Exit → Act → World → Prop} {L : List Res} (x y : Operand) (ty : TypeId) (ho : o.op = .store ty x y) (g : Nat) (hx : a.eval x = .pointer (some ⟨g, 0, none⟩)) (cs : Array Value) (hy : a.eval y = .agg cs)
    (t : TypeId) (old : Array Value) (S : Held w0 w (blkR g t old :: L)) (hi : (P.info? ty).map (·.size) = some cs.size) (hold : cs.size = old.size) (h1 : ∀ u, u ∈ cs.toList → u.oneCell' = true)
    (h : ∀ w', Held w0 w' (blkR g t cs :: L) → K (a.put o.dst undef) w') : o.wp P a w K Q := by
  refine op_store_part x y ty ho g 0 hx cs hy t old (S.at_ (l1 := [])) hi (by omega) h1 (fun w' h2 k2 => h w' (Held.setBlk (l1 := []) S ?_ k2))
  rw [set_all _ _ hold.symm] at h2
  exact h2
theorem cut_strT (t r : List UInt8) (w : World) : (Instr.sliceAt 9 (.string ⟨(t ++ r).toArray⟩) none (some (.int .i64 (t.length : Int))) none).run Tryd.prog w = .ok (.string ⟨t.toArray⟩) w := by
  rw [run_sliceAt_string w 9 _ _ _ _ Tryd.underlying9, run_slice_string_h w 9 ⟨(t ++ r).toArray⟩ Tryd.underlying9 .i64 (t.length : Int) (by omega) (by rw [Lib.size_eq]; show (t.length : Int) ≤ ((t ++ r).length : Int); rw [List.length_append]; omega)]
  congr 2
  apply ByteArray.ext
  rw [ByteArray.data_extract]
  simp
-- REG shl0
set_option maxRecDepth 100000 in
set_option maxHeartbeats 2000000 in
theorem shl_r0 {Q : Exit → Act → World → Prop} {a : Act} {w : World} (w0 : World) (ca : Array Value) (L : List Res) (S : Held w0 w L) (hsz : a.tmps.size = 161) (o0 : Sl a 0 (.agg ca))
    (hend : ∀ (a' : Act) (W : World), Same a a' [2, 4] → Sl a' 4 (.bool false) → (∃ g2, Sl a' 2 (.pointer (some ⟨g2, 0, none⟩)) ∧ Held w0 W (blkR g2 33 ca :: L)) → Q .normal a' W) : (Code.region 0 (opsOf 0 Tryd.f6).toArray false).wp Tryd.prog Q a w := by
  refine wp_region_lit (l := (opsOf 0 Tryd.f6)) ?_
  conv => arg 4; whnf
  unfold Sl at o0
  have S0 := Lib.hid (S.newBlk 33 ca)
  go_wp2_with fail
  try simp only [Act.put]
  exact hend _ _ (by repeat (first | (with_reducible refine same_set (by decide) ?_) | (with_reducible exact same_nil))) (by unfold Sl; first | (simp [hsz]; done) | (simp [hsz]; omega)) (⟨_, (by unfold Sl; simp [hsz]), S0.out⟩)
-- END shl0
-- REG shl1
set_option maxRecDepth 100000 in
set_option maxHeartbeats 2000000 in
theorem shl_r1 {Q : Exit → Act → World → Prop} {a : Act} {w : World} (LDw : LD w) (hsz : a.tmps.size = 161) 
    (hend : ∀ (a' : Act) (W : World), Same a a' [19, 20] → Sl a' 20 (.bool false) → (Kp [] w W) → Q .normal a' W) : (Code.region 1 (opsOf 1 Tryd.f6).toArray false).wp Tryd.prog Q a w := by
  refine wp_region_lit (l := (opsOf 1 Tryd.f6)) ?_
  conv => arg 4; whnf
  have HL := Lib.hid LDw
  clear LDw
  go_wp2_with fail
  refine (sknown_any w HL.out).mono ?_
  rintro e w1 ⟨rfl, k1⟩
  have k1 := Lib.hid k1
  go_wp2_with fail
  try simp only [Act.put]
  exact hend _ _ (by repeat (first | (with_reducible refine same_set (by decide) ?_) | (with_reducible exact same_nil))) (by unfold Sl; first | (simp [hsz]; done) | (simp [hsz]; omega)) (k1.out)
-- END shl1
-- REG shl3
set_option maxRecDepth 100000 in
set_option maxHeartbeats 2000000 in
theorem shl_r3 {Q : Exit → Act → World → Prop} {a : Act} {w : World} (LDw : LD w) (z : Int) (hz : -9223372036854775808 ≤ z ∧ z ≤ 9223372036854775807) (h : List UInt8) (hh : h.length = 32) (g2 : Nat) (hb : Blk w g2 33 (ptA z h)) (hsz : a.tmps.size = 161) (o2 : Sl a 2 (.pointer (some ⟨g2, 0, none⟩)))
    (hend : ∀ (a' : Act) (W : World), Same a a' [22, 23, 21, 24, 25, 5, 6] → Sl a' 6 (.int .i64 (chkN z [])) → (∃ g5, Sl a' 5 (.pointer (some ⟨g5, 0, none⟩)) ∧ Held w W [blkR g5 36 (newA z h)]) → Q .normal a' W) : (Code.region 3 (opsOf 3 Tryd.f6).toArray false).wp Tryd.prog Q a w := by
  refine wp_region_lit (l := (opsOf 3 Tryd.f6)) ?_
  conv => arg 4; whnf
  unfold Sl at o2
  have HL := Lib.hid LDw
  have HB := Lib.hid hb
  clear LDw hb
  have hz2 : Hid ((newA z h).size = 34) := Lib.hid (newA_size hh)
  have HO : Hid (∀ u, u ∈ (newA z h).toList → u.oneCell' = true) := Lib.hid (by unfold newA; split; · exact ntA_one rfl
                                                                                · exact ntA_one rfl)
  have hp2 : Hid ((ptA z h).size = 33) := Lib.hid (ptA_size hh)
  have HN := Lib.hid (fun V (k : Kp [] w V) => sgnew_any z hz h hh V (HL.out.kp k))
  generalize ptA z h = cp at *
  generalize newA z h = cn at *
  go_wp2_with (refine wpList_load_blk rfl 33 (.tmp 2) rfl g2 (by simp [Act.eval, Act.put, hsz, o2]) 33 _ HB.out _ Tryd.underlying33 rfl (by rw [hp2.out]; exact Tryd.infoPointP) ?_)
  refine (HN.out _ (Kp.refl _ _)).mono ?_
  rintro e w1 ⟨rfl, k1⟩
  have S1 := Lib.hid ((Held.of_kp k1).newBlk 36 zeroN)
  clear k1
  go_wp2_with (refine wpList_store_blk rfl 36 (.tmp 5) (.tmp 24) rfl w1.heap.size (by simp [Act.eval, Act.put, hsz]) cn (by simp [Act.eval, Act.put, hsz]) 36 _ (S1.out.at_ (l1 := [])) (by rw [hz2.out]; exact Tryd.infoNote) (by rw [hz2.out]; rfl) HO.out ?_; intro w7 b7 k7; have S7 := Lib.hid (Held.setBlk (l1 := []) S1.out b7 k7); clear b7 k7)
  try simp only [Act.put]
  exact hend _ _ (by repeat (first | (with_reducible refine same_set (by decide) ?_) | (with_reducible exact same_nil))) (by unfold Sl; first | (simp [hsz]; done) | (simp [hsz]; omega)) (⟨_, (by unfold Sl; simp [hsz]), S7.out⟩)
-- END shl3
-- REG shl22
set_option maxRecDepth 100000 in
set_option maxHeartbeats 2000000 in
theorem shl_r22 {Q : Exit → Act → World → Prop} {a : Act} {w : World} (LDw : LD w) (z : Int) (hz : -9223372036854775808 ≤ z ∧ z ≤ 9223372036854775807) (h : List UInt8) (hh : h.length = 32) (g2 : Nat) (hb : Blk w g2 33 (ptA z h)) (hsz : a.tmps.size = 161) (o2 : Sl a 2 (.pointer (some ⟨g2, 0, none⟩)))
    (hend : ∀ (a' : Act) (W : World), Same a a' [116, 117, 115, 118, 119, 15, 16] → Sl a' 16 (.int .i64 (chkN z [])) → (∃ g5, Sl a' 15 (.pointer (some ⟨g5, 0, none⟩)) ∧ Held w W [blkR g5 36 (newA z h)]) → Q .normal a' W) : (Code.region 22 (opsOf 22 Tryd.f6).toArray false).wp Tryd.prog Q a w := by
  refine wp_region_lit (l := (opsOf 22 Tryd.f6)) ?_
  conv => arg 4; whnf
  unfold Sl at o2
  have HL := Lib.hid LDw
  have HB := Lib.hid hb
  clear LDw hb
  have hz2 : Hid ((newA z h).size = 34) := Lib.hid (newA_size hh)
  have HO : Hid (∀ u, u ∈ (newA z h).toList → u.oneCell' = true) := Lib.hid (by unfold newA; split; · exact ntA_one rfl
                                                                                · exact ntA_one rfl)
  have hp2 : Hid ((ptA z h).size = 33) := Lib.hid (ptA_size hh)
  have HN := Lib.hid (fun V (k : Kp [] w V) => sgnew_any z hz h hh V (HL.out.kp k))
  generalize ptA z h = cp at *
  generalize newA z h = cn at *
  go_wp2_with (refine wpList_load_blk rfl 33 (.tmp 2) rfl g2 (by simp [Act.eval, Act.put, hsz, o2]) 33 _ HB.out _ Tryd.underlying33 rfl (by rw [hp2.out]; exact Tryd.infoPointP) ?_)
  refine (HN.out _ (Kp.refl _ _)).mono ?_
  rintro e w1 ⟨rfl, k1⟩
  have S1 := Lib.hid ((Held.of_kp k1).newBlk 36 zeroN)
  clear k1
  go_wp2_with (refine wpList_store_blk rfl 36 (.tmp 15) (.tmp 118) rfl w1.heap.size (by simp [Act.eval, Act.put, hsz]) cn (by simp [Act.eval, Act.put, hsz]) 36 _ (S1.out.at_ (l1 := [])) (by rw [hz2.out]; exact Tryd.infoNote) (by rw [hz2.out]; rfl) HO.out ?_; intro w7 b7 k7; have S7 := Lib.hid (Held.setBlk (l1 := []) S1.out b7 k7); clear b7 k7)
  try simp only [Act.put]
  exact hend _ _ (by repeat (first | (with_reducible refine same_set (by decide) ?_) | (with_reducible exact same_nil))) (by unfold Sl; first | (simp [hsz]; done) | (simp [hsz]; omega)) (⟨_, (by unfold Sl; simp [hsz]), S7.out⟩)
-- END shl22
-- REG shl4
set_option maxRecDepth 100000 in
set_option maxHeartbeats 2000000 in
theorem shl_r4 {Q : Exit → Act → World → Prop} {a : Act} {w : World} (x : Int) (hsz : a.tmps.size = 161) (o6 : Sl a 6 (.int .i64 x))
    (hend : ∀ (a' : Act), Same a a' [26, 27, 28] → Sl a' 28 (.bool (x != 0)) → Q .normal a' (w)) : (Code.region 4 (opsOf 4 Tryd.f6).toArray false).wp Tryd.prog Q a w := by
  refine wp_region_lit (l := (opsOf 4 Tryd.f6)) ?_
  conv => arg 4; whnf
  unfold Sl at o6
  go_wp2_with fail
  refine (lnum_any x w).mono ?_
  rintro e w1 ⟨rfl, rfl⟩
  go_wp2_with fail
  try simp only [Act.put]
  exact hend _ (by repeat (first | (with_reducible refine same_set (by decide) ?_) | (with_reducible exact same_nil))) (by unfold Sl; first | (simp [hsz]; done) | (simp [hsz]; omega))
-- END shl4
-- REG shl11
set_option maxRecDepth 100000 in
set_option maxHeartbeats 2000000 in
theorem shl_r11 {Q : Exit → Act → World → Prop} {a : Act} {w : World} (x : Int) (hsz : a.tmps.size = 161) (o10 : Sl a 10 (.int .i64 x))
    (hend : ∀ (a' : Act), Same a a' [51, 52, 53] → Sl a' 53 (.bool (x != 0)) → Q .normal a' (w)) : (Code.region 11 (opsOf 11 Tryd.f6).toArray false).wp Tryd.prog Q a w := by
  refine wp_region_lit (l := (opsOf 11 Tryd.f6)) ?_
  conv => arg 4; whnf
  unfold Sl at o10
  go_wp2_with fail
  refine (lnum_any x w).mono ?_
  rintro e w1 ⟨rfl, rfl⟩
  go_wp2_with fail
  try simp only [Act.put]
  exact hend _ (by repeat (first | (with_reducible refine same_set (by decide) ?_) | (with_reducible exact same_nil))) (by unfold Sl; first | (simp [hsz]; done) | (simp [hsz]; omega))
-- END shl11
-- REG shl19
set_option maxRecDepth 100000 in
set_option maxHeartbeats 2000000 in
theorem shl_r19 {Q : Exit → Act → World → Prop} {a : Act} {w : World} (x : Int) (hsz : a.tmps.size = 161) (o12 : Sl a 12 (.int .i64 x))
    (hend : ∀ (a' : Act), Same a a' [107, 108, 109] → Sl a' 109 (.bool (x != 8)) → Q .normal a' (w)) : (Code.region 19 (opsOf 19 Tryd.f6).toArray false).wp Tryd.prog Q a w := by
  refine wp_region_lit (l := (opsOf 19 Tryd.f6)) ?_
  conv => arg 4; whnf
  unfold Sl at o12
  go_wp2_with fail
  refine (lnum_any x w).mono ?_
  rintro e w1 ⟨rfl, rfl⟩
  go_wp2_with fail
  try simp only [Act.put]
  exact hend _ (by repeat (first | (with_reducible refine same_set (by decide) ?_) | (with_reducible exact same_nil))) (by unfold Sl; first | (simp [hsz]; done) | (simp [hsz]; omega))
-- END shl19
-- REG shl5
set_option maxRecDepth 100000 in
set_option maxHeartbeats 2000000 in
theorem shl_r5 {Q : Exit → Act → World → Prop} {a : Act} {w : World} (z : Int) (h : List UInt8) (g2 : Nat) (hb : Blk w g2 33 (ptA z h)) (hsz : a.tmps.size = 161) (o2 : Sl a 2 (.pointer (some ⟨g2, 0, none⟩)))
    (hend : ∀ (a' : Act), Same a a' [29, 30, 31, 4] → Sl a' 4 (.bool (decide (z < 0))) → Q .normal a' (w)) : (Code.region 5 (opsOf 5 Tryd.f6).toArray false).wp Tryd.prog Q a w := by
  refine wp_region_lit (l := (opsOf 5 Tryd.f6)) ?_
  conv => arg 4; whnf
  unfold Sl at o2
  have c0 : w.cell? ⟨g2, 0, none⟩ = some (.int .i64 z) := by rw [hb.cell]; rfl
  go_wp2_with fail
  try simp only [Act.put]
  exact hend _ (by repeat (first | (with_reducible refine same_set (by decide) ?_) | (with_reducible exact same_nil))) (by unfold Sl; first | (simp [hsz]; done) | (simp [hsz]; omega))
-- END shl5
-- REG shl6
set_option maxRecDepth 100000 in
set_option maxHeartbeats 2000000 in
theorem shl_r6 {Q : Exit → Act → World → Prop} {a : Act} {w : World}  (hsz : a.tmps.size = 161) 
    (hend : ∀ (a' : Act), Same a a' [7] → Sl a' 7 (.slice none 0 0) → Q .normal a' (w)) : (Code.region 6 (opsOf 6 Tryd.f6).toArray false).wp Tryd.prog Q a w := by
  refine wp_region_lit (l := (opsOf 6 Tryd.f6)) ?_
  conv => arg 4; whnf
  go_wp2_with fail
  try simp only [Act.put]
  exact hend _ (by repeat (first | (with_reducible refine same_set (by decide) ?_) | (with_reducible exact same_nil))) (by unfold Sl; first | (simp [hsz]; done) | (simp [hsz]; omega))
-- END shl6
-- REG shl7
set_option maxRecDepth 100000 in
set_option maxHeartbeats 2000000 in
theorem shl_r7 {Q : Exit → Act → World → Prop} {a : Act} {w : World}  (hsz : a.tmps.size = 161) 
    (hend : ∀ (a' : Act), Same a a' [8] → Sl a' 8 (.int .i64 ((0 : Nat) : Int)) → Q .normal a' (w)) : (Code.region 7 (opsOf 7 Tryd.f6).toArray false).wp Tryd.prog Q a w := by
  refine wp_region_lit (l := (opsOf 7 Tryd.f6)) ?_
  conv => arg 4; whnf
  go_wp2_with fail
  try simp only [Act.put]
  exact hend _ (by repeat (first | (with_reducible refine same_set (by decide) ?_) | (with_reducible exact same_nil))) (by unfold Sl; first | (simp [hsz]; done) | (simp [hsz]; omega))
-- END shl7
-- REG shl8Y
set_option maxRecDepth 100000 in
set_option maxHeartbeats 2000000 in
theorem shl_r8Y {Q : Exit → Act → World → Prop} {a : Act} {w : World} (A : Option Addr) (k n c : Nat) (hk : k < n) (hsz : a.tmps.size = 161) (o1 : Sl a 1 (.slice A n c)) (o8 : Sl a 8 (.int .i64 ((k : Nat) : Int)))
    (hend : ∀ (a' : Act) (W : World), Same a a' [32, 33, 34, 35, 36, 37, 38, 39] → Kp [] w W → Sl a' 39 (.bool (decide ((k : Int) < 70))) → Q .normal a' W) : (Code.region 8 (opsOf 8 Tryd.f6).toArray false).wp Tryd.prog Q a w := by
  have hap : apartB (opsOf 8 Tryd.f6) = true := by kernel_rfl
  refine wp_region_invS (l := (opsOf 8 Tryd.f6)) (fun i v W => match i with | 0 => v = .int .i64 ((k : Nat) : Int) | 1 => v = .slice A n c | 2 => v = .int .i64 ((n : Nat) : Int) | 3 => v = .bool true | 4 => v = .bool true | 5 => v = .int .i64 ((k : Nat) : Int) | 6 => v = .bool (decide ((k : Int) < 70)) | 7 => v = .bool (decide ((k : Int) < 70)) | _ => True) hap ?_ ?_ ?_
  · intro i v W W' h _
    iterate 8 (rcases i with _ | i; · exact h)
    exact h
  · refine ⟨?_, ?_, ?_, ?_, ?_, ?_, ?_, ?_, trivial⟩
    · intro vs A' W hA hW hd hu K hK
      refine wpOp_free _ rfl rfl ?_
      conv => arg 2; whnf
      have e8 : A'.tmps[8]?.getD undef = .int .i64 ((k : Nat) : Int) := slot_out hA hap (Nat.lt_of_lt_of_eq (Nat.le_of_ble_eq_true rfl : 8 < 161) hsz.symm) (by kernel_rfl) o8
      clear hA hd hu o1 o8
      go_step
      exact hK _ _ (Kp.refl _ _) rfl
    · intro vs A' W hA hW hd hu K hK
      refine wpOp_free _ rfl rfl ?_
      conv => arg 2; whnf
      have e1 : A'.tmps[1]?.getD undef = .slice A n c := slot_out hA hap (Nat.lt_of_lt_of_eq (Nat.le_of_ble_eq_true rfl : 1 < 161) hsz.symm) (by kernel_rfl) o1
      clear hA hd hu o1 o8
      go_step
      exact hK _ _ (Kp.refl _ _) rfl
    · intro vs A' W hA hW hd hu K hK
      refine wpOp_free _ rfl rfl ?_
      conv => arg 2; whnf
      have f1 : vs 1 = .slice A n c := hd 1 (by kernel_rfl)
      have e33 : A'.tmps[33]?.getD undef = vs 1 := slot_in hA hap (Nat.lt_of_lt_of_eq (Nat.le_of_ble_eq_true rfl : 33 < 161) hsz.symm) (by kernel_rfl)
      rw [f1] at e33
      clear hA hd hu o1 o8
      go_step
      exact hK _ _ (Kp.refl _ _) rfl
    · intro vs A' W hA hW hd hu K hK
      refine wpOp_free _ rfl rfl ?_
      conv => arg 2; whnf
      have f0 : vs 0 = .int .i64 ((k : Nat) : Int) := hd 0 (by kernel_rfl)
      have e32 : A'.tmps[32]?.getD undef = vs 0 := slot_in hA hap (Nat.lt_of_lt_of_eq (Nat.le_of_ble_eq_true rfl : 32 < 161) hsz.symm) (by kernel_rfl)
      rw [f0] at e32
      have f2 : vs 2 = .int .i64 ((n : Nat) : Int) := hd 2 (by kernel_rfl)
      have e34 : A'.tmps[34]?.getD undef = vs 2 := slot_in hA hap (Nat.lt_of_lt_of_eq (Nat.le_of_ble_eq_true rfl : 34 < 161) hsz.symm) (by kernel_rfl)
      rw [f2] at e34
      clear hA hd hu o1 o8
      have hk2 : (k : Int) < (n : Int) := by omega
      go_step
      exact hK _ _ (Kp.refl _ _) (by first | rfl | (congr 1; exact decide_eq_true (by omega)))
    · intro vs A' W hA hW hd hu K hK
      refine wpOp_free _ rfl rfl ?_
      conv => arg 2; whnf
      have f3 : vs 3 = .bool true := hd 3 (by kernel_rfl)
      have e35 : A'.tmps[35]?.getD undef = vs 3 := slot_in hA hap (Nat.lt_of_lt_of_eq (Nat.le_of_ble_eq_true rfl : 35 < 161) hsz.symm) (by kernel_rfl)
      rw [f3] at e35
      clear hA hd hu o1 o8
      go_step
      exact hK _ _ (Kp.refl _ _) rfl
    · intro vs A' W hA hW hd hu K hK
      have f4 : vs 4 = .bool true := hd 4 (by kernel_rfl)
      have e36 : A'.tmps[36]?.getD undef = vs 4 := slot_in hA hap (Nat.lt_of_lt_of_eq (Nat.le_of_ble_eq_true rfl : 36 < 161) hsz.symm) (by kernel_rfl)
      rw [f4] at e36
      refine wpOp_go _ rfl 4 36 true rfl rfl e36 ?_
      conv => arg 2; whnf
      have e8 : A'.tmps[8]?.getD undef = .int .i64 ((k : Nat) : Int) := slot_out hA hap (Nat.lt_of_lt_of_eq (Nat.le_of_ble_eq_true rfl : 8 < 161) hsz.symm) (by kernel_rfl) o8
      clear hA hd hu o1 o8
      go_step
      exact hK _ _ (Kp.refl _ _) rfl
    · intro vs A' W hA hW hd hu K hK
      have f4 : vs 4 = .bool true := hd 4 (by kernel_rfl)
      have e36 : A'.tmps[36]?.getD undef = vs 4 := slot_in hA hap (Nat.lt_of_lt_of_eq (Nat.le_of_ble_eq_true rfl : 36 < 161) hsz.symm) (by kernel_rfl)
      rw [f4] at e36
      refine wpOp_go _ rfl 4 36 true rfl rfl e36 ?_
      conv => arg 2; whnf
      have f5 : vs 5 = .int .i64 ((k : Nat) : Int) := hd 5 (by kernel_rfl)
      have e37 : A'.tmps[37]?.getD undef = vs 5 := slot_in hA hap (Nat.lt_of_lt_of_eq (Nat.le_of_ble_eq_true rfl : 37 < 161) hsz.symm) (by kernel_rfl)
      rw [f5] at e37
      clear hA hd hu o1 o8
      go_step
      exact hK _ _ (Kp.refl _ _) rfl
    · intro vs A' W hA hW hd hu K hK
      refine wpOp_free _ rfl rfl ?_
      conv => arg 2; whnf
      have f4 : vs 4 = .bool true := hd 4 (by kernel_rfl)
      have e36 : A'.tmps[36]?.getD undef = vs 4 := slot_in hA hap (Nat.lt_of_lt_of_eq (Nat.le_of_ble_eq_true rfl : 36 < 161) hsz.symm) (by kernel_rfl)
      rw [f4] at e36
      have f6 : vs 6 = .bool (decide ((k : Int) < 70)) := hd 6 (by kernel_rfl)
      have e38 : A'.tmps[38]?.getD undef = vs 6 := slot_in hA hap (Nat.lt_of_lt_of_eq (Nat.le_of_ble_eq_true rfl : 38 < 161) hsz.symm) (by kernel_rfl)
      rw [f6] at e38
      clear hA hd hu o1 o8
      go_step
      exact hK _ _ (Kp.refl _ _) rfl
  · intro vs W hW hp
    rw [show putAll vs (opsOf 8 Tryd.f6) 0 a = putD [(32, vs 0), (33, vs 1), (34, vs 2), (35, vs 3), (36, vs 4), (37, vs 5), (38, vs 6), (39, vs 7)] a from by kernel_rfl]
    exact hend _ W (same_putD _ a) hW (sl_putD _ a 39 _ (by rw [show vs 7 = _ from hp 7 (Nat.le_of_ble_eq_true (by kernel_rfl))]; kernel_rfl))
-- END shl8Y
-- REG shl8N
set_option maxRecDepth 100000 in
set_option maxHeartbeats 2000000 in
theorem shl_r8N {Q : Exit → Act → World → Prop} {a : Act} {w : World} (A : Option Addr) (k n c : Nat) (hk : ¬ k < n) (hsz : a.tmps.size = 161) (o1 : Sl a 1 (.slice A n c)) (o8 : Sl a 8 (.int .i64 ((k : Nat) : Int)))
    (hend : ∀ (a' : Act) (W : World), Same a a' [32, 33, 34, 35, 36, 37, 38, 39] → Kp [] w W → Sl a' 39 (.bool false) → Q .normal a' W) : (Code.region 8 (opsOf 8 Tryd.f6).toArray false).wp Tryd.prog Q a w := by
  have hap : apartB (opsOf 8 Tryd.f6) = true := by kernel_rfl
  refine wp_region_invS (l := (opsOf 8 Tryd.f6)) (fun i v W => match i with | 0 => v = .int .i64 ((k : Nat) : Int) | 1 => v = .slice A n c | 2 => v = .int .i64 ((n : Nat) : Int) | 3 => v = .bool false | 4 => v = .bool false | 7 => v = .bool false | _ => True) hap ?_ ?_ ?_
  · intro i v W W' h _
    iterate 8 (rcases i with _ | i; · exact h)
    exact h
  · refine ⟨?_, ?_, ?_, ?_, ?_, ?_, ?_, ?_, trivial⟩
    · intro vs A' W hA hW hd hu K hK
      refine wpOp_free _ rfl rfl ?_
      conv => arg 2; whnf
      have e8 : A'.tmps[8]?.getD undef = .int .i64 ((k : Nat) : Int) := slot_out hA hap (Nat.lt_of_lt_of_eq (Nat.le_of_ble_eq_true rfl : 8 < 161) hsz.symm) (by kernel_rfl) o8
      clear hA hd hu o1 o8
      go_step
      exact hK _ _ (Kp.refl _ _) rfl
    · intro vs A' W hA hW hd hu K hK
      refine wpOp_free _ rfl rfl ?_
      conv => arg 2; whnf
      have e1 : A'.tmps[1]?.getD undef = .slice A n c := slot_out hA hap (Nat.lt_of_lt_of_eq (Nat.le_of_ble_eq_true rfl : 1 < 161) hsz.symm) (by kernel_rfl) o1
      clear hA hd hu o1 o8
      go_step
      exact hK _ _ (Kp.refl _ _) rfl
    · intro vs A' W hA hW hd hu K hK
      refine wpOp_free _ rfl rfl ?_
      conv => arg 2; whnf
      have f1 : vs 1 = .slice A n c := hd 1 (by kernel_rfl)
      have e33 : A'.tmps[33]?.getD undef = vs 1 := slot_in hA hap (Nat.lt_of_lt_of_eq (Nat.le_of_ble_eq_true rfl : 33 < 161) hsz.symm) (by kernel_rfl)
      rw [f1] at e33
      clear hA hd hu o1 o8
      go_step
      exact hK _ _ (Kp.refl _ _) rfl
    · intro vs A' W hA hW hd hu K hK
      refine wpOp_free _ rfl rfl ?_
      conv => arg 2; whnf
      have f0 : vs 0 = .int .i64 ((k : Nat) : Int) := hd 0 (by kernel_rfl)
      have e32 : A'.tmps[32]?.getD undef = vs 0 := slot_in hA hap (Nat.lt_of_lt_of_eq (Nat.le_of_ble_eq_true rfl : 32 < 161) hsz.symm) (by kernel_rfl)
      rw [f0] at e32
      have f2 : vs 2 = .int .i64 ((n : Nat) : Int) := hd 2 (by kernel_rfl)
      have e34 : A'.tmps[34]?.getD undef = vs 2 := slot_in hA hap (Nat.lt_of_lt_of_eq (Nat.le_of_ble_eq_true rfl : 34 < 161) hsz.symm) (by kernel_rfl)
      rw [f2] at e34
      clear hA hd hu o1 o8
      have hk2 : ¬ (k : Int) < (n : Int) := by omega
      go_step
      exact hK _ _ (Kp.refl _ _) (by first | rfl | (congr 1; exact decide_eq_false (by omega)))
    · intro vs A' W hA hW hd hu K hK
      refine wpOp_free _ rfl rfl ?_
      conv => arg 2; whnf
      have f3 : vs 3 = .bool false := hd 3 (by kernel_rfl)
      have e35 : A'.tmps[35]?.getD undef = vs 3 := slot_in hA hap (Nat.lt_of_lt_of_eq (Nat.le_of_ble_eq_true rfl : 35 < 161) hsz.symm) (by kernel_rfl)
      rw [f3] at e35
      clear hA hd hu o1 o8
      go_step
      exact hK _ _ (Kp.refl _ _) rfl
    · intro vs A' W hA hW hd hu K hK
      have f4 : vs 4 = .bool false := hd 4 (by kernel_rfl)
      have e36 : A'.tmps[36]?.getD undef = vs 4 := slot_in hA hap (Nat.lt_of_lt_of_eq (Nat.le_of_ble_eq_true rfl : 36 < 161) hsz.symm) (by kernel_rfl)
      rw [f4] at e36
      refine wpOp_skip _ rfl 4 36 true rfl rfl e36 ?_
      exact hK _ _ (Kp.refl _ _) trivial
    · intro vs A' W hA hW hd hu K hK
      have f4 : vs 4 = .bool false := hd 4 (by kernel_rfl)
      have e36 : A'.tmps[36]?.getD undef = vs 4 := slot_in hA hap (Nat.lt_of_lt_of_eq (Nat.le_of_ble_eq_true rfl : 36 < 161) hsz.symm) (by kernel_rfl)
      rw [f4] at e36
      refine wpOp_skip _ rfl 4 36 true rfl rfl e36 ?_
      exact hK _ _ (Kp.refl _ _) trivial
    · intro vs A' W hA hW hd hu K hK
      refine wpOp_free _ rfl rfl ?_
      conv => arg 2; whnf
      have f4 : vs 4 = .bool false := hd 4 (by kernel_rfl)
      have e36 : A'.tmps[36]?.getD undef = vs 4 := slot_in hA hap (Nat.lt_of_lt_of_eq (Nat.le_of_ble_eq_true rfl : 36 < 161) hsz.symm) (by kernel_rfl)
      rw [f4] at e36
      have e38 : A'.tmps[38]?.getD undef = vs 6 := slot_in hA hap (Nat.lt_of_lt_of_eq (Nat.le_of_ble_eq_true rfl : 38 < 161) hsz.symm) (by kernel_rfl)
      clear hA hd hu o1 o8
      go_step
      exact hK _ _ (Kp.refl _ _) rfl
  · intro vs W hW hp
    rw [show putAll vs (opsOf 8 Tryd.f6) 0 a = putD [(32, vs 0), (33, vs 1), (34, vs 2), (35, vs 3), (36, vs 4), (37, vs 5), (38, vs 6), (39, vs 7)] a from by kernel_rfl]
    exact hend _ W (same_putD _ a) hW (sl_putD _ a 39 _ (by rw [show vs 7 = _ from hp 7 (Nat.le_of_ble_eq_true (by kernel_rfl))]; kernel_rfl))
-- END shl8N
-- REG shl10Y
set_option maxRecDepth 100000 in
set_option maxHeartbeats 2000000 in
theorem shl_r10Y {Q : Exit → Act → World → Prop} {a : Act} {w : World} (w0 : World) (LD0 : LD w0) (z : Int) (hz : -9223372036854775808 ≤ z ∧ z ≤ 9223372036854775807) (h : List UInt8) (hh : h.length = 32) (A : Option Addr) (c : Nat) (l : List SigD) (hok : SgOk l) (hll : l.length ≤ 64) (g5 : Nat) (ad : Addr) (k n cq : Nat) (hk : k < n) (nm : ByteArray) (hnm : nm.size ≤ 9223372036854775807) (Ak : Option Addr) (ck : Nat) (sec : List UInt8) (hc : ∀ V, Kp [] w0 V → ∀ j u, ([.string nm, .slice Ak sec.length ck] : List Value)[j]? = some u → V.cell? ((ad.add (k * 2)).add j) = some u) (hs : Rd w0 1 (.slice Ak sec.length ck) sec.length (bv sec)) (L : List Res) (hE : signE z l nm.data.toList sec = 0) (hsz : a.tmps.size = 161) (o1 : Sl a 1 (.slice (some ad) n cq)) (o5 : Sl a 5 (.pointer (some ⟨g5, 0, none⟩))) (o8 : Sl a 8 (.int .i64 ((k : Nat) : Int)))
    (S0 : Held w0 w (blkR g5 36 (ntA z h (.slice A l.length c)) :: rowR 81 33 (.slice A l.length c) l.length (sgsC l) :: L))
    (hend : ∀ (a' : Act) (vs : Nat → Value) (gs : Nat → Nat × Value) (W : World), Same a a' [43, 44, 45, 46, 47, 48, 42, 49, 50, 9, 10] → Sl a' 9 (.pointer (some ⟨(gs 9).1, 0, none⟩)) → Sl a' 10 (.int .i64 0) → Held w0 W (rowR 81 33 (gs 5).2 (l.length + 1) (sgsC (insN l (nm.data.toList, sumF z h nm.data.toList sec))) :: blkR (gs 9).1 36 (ntA z h (gs 5).2) :: blkR g5 36 (ntA z h (.slice A l.length c)) :: rowR 81 33 (.slice A l.length c) l.length (sgsC l) :: L) → Q .normal a' W) : (Code.region 10 (opsOf 10 Tryd.f6).toArray true).wp Tryd.prog Q a w := by
  have hap : apartB (opsOf 10 Tryd.f6) = true := by kernel_rfl
  refine wp_region_sep (Γ := Nat × Value) (l := (opsOf 10 Tryd.f6)) 3 [0, 1, 2, 3, 4, 5, 6, 7, 8, 10, 11, 12, 13, 14]
    (fun i vs gs => match i with | 0 => vs 0 = .agg (ntA z h (.slice A l.length c)) | 1 => vs 1 = .slice (some ad) n cq | 2 => vs 2 = .int .i64 ((k : Nat) : Int) | 3 => vs 3 = .pointer (some (ad.add (k * 2))) | 4 => vs 4 = .agg #[.string nm, .slice Ak sec.length ck] | 5 => vs 5 = .tuple #[.agg (ntA z h (gs 5).2), .int .i64 0] | 6 => vs 6 = .tuple #[.agg (ntA z h (gs 5).2), .int .i64 0] | 7 => vs 7 = .agg (ntA z h (gs 5).2) | 8 => vs 8 = .int .i64 0 | 9 => vs 9 = .pointer (some ⟨(gs 9).1, 0, none⟩) | 11 => vs 11 = .int .i64 0 | _ => True)
    (fun i vs gs => match i with | 5 => [rowR 81 33 (gs 5).2 (l.length + 1) (sgsC (insN l (nm.data.toList, sumF z h nm.data.toList sec)))] | 9 => [blkR (gs 9).1 36 zeroN] | 10 => [blkR (gs 9).1 36 (ntA z h (gs 5).2)] | 12 => [blkR g5 36 (ntA z h (.slice A l.length c))] | 13 => [rowR 81 33 (.slice A l.length c) l.length (sgsC l)] | 14 => L | _ => [])
    (fun i => match i with | 10 => [9] | _ => []) (fun i => match i with | 0 => [12] | 5 => [13] | 10 => [5] | _ => []) S0 (by kernel_rfl) hap (by kernel_rfl) (by kernel_rfl) (fun i => match i with | 0 => [0] | 1 => [1] | 2 => [2] | 3 => [3] | 4 => [4] | 5 => [5] | 6 => [5, 6] | 7 => [5, 7] | 8 => [8] | 9 => [9] | 10 => [5, 9] | 11 => [11] | _ => []) (by kernel_rfl) ?_ (by kernel_rfl) ?_ ?_ ?_
  · intro s vs vs' gs gs' h
    iterate 15 (rcases s with _ | s; · (first | exact ⟨rfl, id⟩ | (simp only [List.mem_cons, List.not_mem_nil, or_false, forall_eq_or_imp, forall_eq] at h; simp [h])))
    exact ⟨rfl, id⟩
  · simp only [List.range, List.range.loop, List.flatMap_cons, List.flatMap_nil, List.append_nil, List.cons_append, List.nil_append]
    exact List.Perm.refl _
  · clear S0 hend
    refine ⟨?_, ?_, ?_, ?_, ?_, ?_, ?_, ?_, ?_, ?_, ?_, ?_, trivial⟩
    · intro vs gs A' W LF hA S hR hd hu K hK
      replace hK := hK default
      have e5 : A'.tmps[5]?.getD undef = .pointer (some ⟨g5, 0, none⟩) := slot_out hA hap (Nat.lt_of_lt_of_eq (Nat.le_of_ble_eq_true rfl : 5 < 161) hsz.symm) (by kernel_rfl) o5
      clear hA o1 o5 o8
      refine op_runs (v := .agg (ntA z h (.slice A l.length c))) (w' := W) (exec_load rfl (by simpa [Act.eval] using e5) (run_loadAt_agg W (⟨g5, 0, none⟩) 36 (ntA z h (.slice A l.length c)).toList _ (Blk.agg (S.ok (blkR g5 36 (ntA z h (.slice A l.length c))) (hR 12 (List.mem_singleton.2 rfl) _ (List.mem_singleton.2 rfl)))) Tryd.underlying36 rfl (by rw [Array.length_toList, ntA_size hh]; exact Tryd.infoNote))) ?_
      exact hK _ _ S rfl
    · intro vs gs A' W LF hA S hR hd hu K hK
      replace hK := hK default
      have e1 : A'.tmps[1]?.getD undef = .slice (some ad) n cq := slot_out hA hap (Nat.lt_of_lt_of_eq (Nat.le_of_ble_eq_true rfl : 1 < 161) hsz.symm) (by kernel_rfl) o1
      clear hA o1 o5 o8
      go_step
      exact hK _ _ S rfl
    · intro vs gs A' W LF hA S hR hd hu K hK
      replace hK := hK default
      have e8 : A'.tmps[8]?.getD undef = .int .i64 ((k : Nat) : Int) := slot_out hA hap (Nat.lt_of_lt_of_eq (Nat.le_of_ble_eq_true rfl : 8 < 161) hsz.symm) (by kernel_rfl) o8
      clear hA o1 o5 o8
      go_step
      exact hK _ _ S rfl
    · intro vs gs A' W LF hA S hR hd hu K hK
      replace hK := hK default
      have f1 : vs 1 = .slice (some ad) n cq := hd 1 (by kernel_rfl)
      have e44 : A'.tmps[44]?.getD undef = vs 1 := slot_in hA hap (Nat.lt_of_lt_of_eq (Nat.le_of_ble_eq_true rfl : 44 < 161) hsz.symm) (by kernel_rfl)
      rw [f1] at e44
      have f2 : vs 2 = .int .i64 ((k : Nat) : Int) := hd 2 (by kernel_rfl)
      have e45 : A'.tmps[45]?.getD undef = vs 2 := slot_in hA hap (Nat.lt_of_lt_of_eq (Nat.le_of_ble_eq_true rfl : 45 < 161) hsz.symm) (by kernel_rfl)
      rw [f2] at e45
      clear hA o1 o5 o8
      have h0 : 0 ≤ (k : Int) := by omega
      have h1 : (k : Int) < (n : Int) := by omega
      go_step
      exact hK _ _ S rfl
    · intro vs gs A' W LF hA S hR hd hu K hK
      replace hK := hK default
      have f3 : vs 3 = .pointer (some (ad.add (k * 2))) := hd 3 (by kernel_rfl)
      have e46 : A'.tmps[46]?.getD undef = vs 3 := slot_in hA hap (Nat.lt_of_lt_of_eq (Nat.le_of_ble_eq_true rfl : 46 < 161) hsz.symm) (by kernel_rfl)
      rw [f3] at e46
      clear hA o1 o5 o8
      refine op_runs (v := .agg #[.string nm, .slice Ak sec.length ck]) (w' := W) (exec_load rfl (by simpa [Act.eval] using e46) (run_loadAt_agg W (ad.add (k * 2)) 42 (#[.string nm, .slice Ak sec.length ck]).toList _ (hc _ S.k) Tryd.underlying42 rfl (by exact Tryd.infoKeyP))) ?_
      exact hK _ _ S rfl
    · intro vs gs A' W LF hA S hR hd hu K hK
      have f0 : vs 0 = .agg (ntA z h (.slice A l.length c)) := hd 0 (by kernel_rfl)
      have e43 : A'.tmps[43]?.getD undef = vs 0 := slot_in hA hap (Nat.lt_of_lt_of_eq (Nat.le_of_ble_eq_true rfl : 43 < 161) hsz.symm) (by kernel_rfl)
      rw [f0] at e43
      have f4 : vs 4 = .agg #[.string nm, .slice Ak sec.length ck] := hd 4 (by kernel_rfl)
      have e47 : A'.tmps[47]?.getD undef = vs 4 := slot_in hA hap (Nat.lt_of_lt_of_eq (Nat.le_of_ble_eq_true rfl : 47 < 161) hsz.symm) (by kernel_rfl)
      rw [f4] at e47
      clear hA o1 o5 o8
      go_step
      refine (ssign_any z hz h hh l hok (by omega) A c nm hnm Ak ck sec W (LD0.kp S.k) (Rd.of_own (S.ok (rowR 81 33 (.slice A l.length c) l.length (sgsC l)) (hR 13 (List.mem_singleton.2 rfl) _ (List.mem_singleton.2 rfl)))) (rd_old hs S.k)).mono ?_
      rintro e w' ⟨u, rfl, hrow, -⟩
      rw [if_pos hE, hE]
      exact hK (0, u) _ _ ((S.join (hrow hE)).perm (List.perm_append_singleton _ _)) rfl
    · intro vs gs A' W LF hA S hR hd hu K hK
      replace hK := hK default
      have f5 : vs 5 = .tuple #[.agg (ntA z h (gs 5).2), .int .i64 0] := hd 5 (by kernel_rfl)
      have e48 : A'.tmps[48]?.getD undef = vs 5 := slot_in hA hap (Nat.lt_of_lt_of_eq (Nat.le_of_ble_eq_true rfl : 48 < 161) hsz.symm) (by kernel_rfl)
      rw [f5] at e48
      clear hA o1 o5 o8
      go_step
      exact hK _ _ S rfl
    · intro vs gs A' W LF hA S hR hd hu K hK
      replace hK := hK default
      have f6 : vs 6 = .tuple #[.agg (ntA z h (gs 5).2), .int .i64 0] := hd 6 (by kernel_rfl)
      have e42 : A'.tmps[42]?.getD undef = vs 6 := slot_in hA hap (Nat.lt_of_lt_of_eq (Nat.le_of_ble_eq_true rfl : 42 < 161) hsz.symm) (by kernel_rfl)
      rw [f6] at e42
      clear hA o1 o5 o8
      go_step
      exact hK _ _ S rfl
    · intro vs gs A' W LF hA S hR hd hu K hK
      replace hK := hK default
      have f6 : vs 6 = .tuple #[.agg (ntA z h (gs 5).2), .int .i64 0] := hd 6 (by kernel_rfl)
      have e42 : A'.tmps[42]?.getD undef = vs 6 := slot_in hA hap (Nat.lt_of_lt_of_eq (Nat.le_of_ble_eq_true rfl : 42 < 161) hsz.symm) (by kernel_rfl)
      rw [f6] at e42
      clear hA o1 o5 o8
      go_step
      exact hK _ _ S rfl
    · intro vs gs A' W LF hA S hR hd hu K hK
      clear hA o1 o5 o8
      go_step
      exact hK (W.heap.size, .nilFunc) _ _ (S.newBlk 36 zeroN) rfl
    · intro vs gs A' W LF hA S hR hd hu K hK
      replace hK := hK default
      have f9 : vs 9 = .pointer (some ⟨(gs 9).1, 0, none⟩) := hd 9 (by kernel_rfl)
      have e9 : A'.tmps[9]?.getD undef = vs 9 := slot_in hA hap (Nat.lt_of_lt_of_eq (Nat.le_of_ble_eq_true rfl : 9 < 161) hsz.symm) (by kernel_rfl)
      rw [f9] at e9
      have f7 : vs 7 = .agg (ntA z h (gs 5).2) := hd 7 (by kernel_rfl)
      have e49 : A'.tmps[49]?.getD undef = vs 7 := slot_in hA hap (Nat.lt_of_lt_of_eq (Nat.le_of_ble_eq_true rfl : 49 < 161) hsz.symm) (by kernel_rfl)
      rw [f7] at e49
      clear hA o1 o5 o8
      have S1 : Held w0 W (blkR (gs 9).1 36 zeroN :: LF) := S
      obtain ⟨Au, cu, hu, -, -⟩ := ow_form (show Ow W 81 33 (gs 5).2 _ _ from (S1.ok (rowR 81 33 (gs 5).2 (l.length + 1) (sgsC (insN l (nm.data.toList, sumF z h nm.data.toList sec)))) (List.mem_cons_of_mem _ (hR 5 (List.mem_singleton.2 rfl) _ (List.mem_singleton.2 rfl)))))
      refine op_store_blkS (.tmp 9) (.tmp 49) 36 rfl (gs 9).1 (by simpa [Act.eval] using e9) (ntA z h (gs 5).2) (by simpa [Act.eval] using e49) 36 zeroN S1 (by rw [ntA_size hh]; exact Tryd.infoNote) (by rw [ntA_size hh] <;> rfl) (ntA_one (by rw [hu]; rfl)) ?_
      intro w' S2
      exact hK _ _ S2 trivial
    · intro vs gs A' W LF hA S hR hd hu K hK
      replace hK := hK default
      have f8 : vs 8 = .int .i64 0 := hd 8 (by kernel_rfl)
      have e50 : A'.tmps[50]?.getD undef = vs 8 := slot_in hA hap (Nat.lt_of_lt_of_eq (Nat.le_of_ble_eq_true rfl : 50 < 161) hsz.symm) (by kernel_rfl)
      rw [f8] at e50
      clear hA o1 o5 o8
      go_step
      exact hK _ _ S rfl
  · intro vs gs W S hp
    have S : Held w0 W (rowR 81 33 (gs 5).2 (l.length + 1) (sgsC (insN l (nm.data.toList, sumF z h nm.data.toList sec))) :: blkR (gs 9).1 36 (ntA z h (gs 5).2) :: blkR g5 36 (ntA z h (.slice A l.length c)) :: rowR 81 33 (.slice A l.length c) l.length (sgsC l) :: L) := by simpa only [List.flatMap_cons, List.flatMap_nil, List.append_nil, List.nil_append, List.cons_append, List.append_assoc] using S
    rw [show putAll vs (opsOf 10 Tryd.f6) 0 a = putD [(43, vs 0), (44, vs 1), (45, vs 2), (46, vs 3), (47, vs 4), (48, vs 5), (42, vs 6), (49, vs 7), (50, vs 8), (9, vs 9), (10, vs 11)] a from by kernel_rfl]
    exact hend _ vs gs W (same_putD _ a) (sl_putD _ a 9 _ (by rw [show vs 9 = _ from hp 9 (Nat.le_of_ble_eq_true (by kernel_rfl))]; kernel_rfl)) (sl_putD _ a 10 _ (by rw [show vs 11 = _ from hp 11 (Nat.le_of_ble_eq_true (by kernel_rfl))]; kernel_rfl)) S
-- END shl10Y
-- REG shl10N
set_option maxRecDepth 100000 in
set_option maxHeartbeats 2000000 in
theorem shl_r10N {Q : Exit → Act → World → Prop} {a : Act} {w : World} (w0 : World) (LD0 : LD w0) (z : Int) (hz : -9223372036854775808 ≤ z ∧ z ≤ 9223372036854775807) (h : List UInt8) (hh : h.length = 32) (A : Option Addr) (c : Nat) (l : List SigD) (hok : SgOk l) (hll : l.length ≤ 64) (g5 : Nat) (ad : Addr) (k n cq : Nat) (hk : k < n) (nm : ByteArray) (hnm : nm.size ≤ 9223372036854775807) (Ak : Option Addr) (ck : Nat) (sec : List UInt8) (hc : ∀ V, Kp [] w0 V → ∀ j u, ([.string nm, .slice Ak sec.length ck] : List Value)[j]? = some u → V.cell? ((ad.add (k * 2)).add j) = some u) (hs : Rd w0 1 (.slice Ak sec.length ck) sec.length (bv sec)) (L : List Res) (E : Int) (hE : signE z l nm.data.toList sec = E) (hE0 : ¬ E = 0) (hsz : a.tmps.size = 161) (o1 : Sl a 1 (.slice (some ad) n cq)) (o5 : Sl a 5 (.pointer (some ⟨g5, 0, none⟩))) (o8 : Sl a 8 (.int .i64 ((k : Nat) : Int)))
    (S0 : Held w0 w (blkR g5 36 (ntA z h (.slice A l.length c)) :: rowR 81 33 (.slice A l.length c) l.length (sgsC l) :: L))
    (hend : ∀ (a' : Act) (vs : Nat → Value) (gs : Nat → Nat × Value) (W : World), Same a a' [43, 44, 45, 46, 47, 48, 42, 49, 50, 9, 10] → Sl a' 9 (.pointer (some ⟨(gs 9).1, 0, none⟩)) → Sl a' 10 (.int .i64 E) → Held w0 W (blkR (gs 9).1 36 (zeroN) :: blkR g5 36 (ntA z h (.slice A l.length c)) :: rowR 81 33 (.slice A l.length c) l.length (sgsC l) :: L) → Q .normal a' W) : (Code.region 10 (opsOf 10 Tryd.f6).toArray true).wp Tryd.prog Q a w := by
  have hap : apartB (opsOf 10 Tryd.f6) = true := by kernel_rfl
  refine wp_region_sep (Γ := Nat × Value) (l := (opsOf 10 Tryd.f6)) 3 [0, 1, 2, 3, 4, 5, 6, 7, 8, 10, 11, 12, 13, 14]
    (fun i vs gs => match i with | 0 => vs 0 = .agg (ntA z h (.slice A l.length c)) | 1 => vs 1 = .slice (some ad) n cq | 2 => vs 2 = .int .i64 ((k : Nat) : Int) | 3 => vs 3 = .pointer (some (ad.add (k * 2))) | 4 => vs 4 = .agg #[.string nm, .slice Ak sec.length ck] | 5 => vs 5 = .tuple #[.agg zeroN, .int .i64 E] | 6 => vs 6 = .tuple #[.agg zeroN, .int .i64 E] | 7 => vs 7 = .agg (zeroN) | 8 => vs 8 = .int .i64 E | 9 => vs 9 = .pointer (some ⟨(gs 9).1, 0, none⟩) | 11 => vs 11 = .int .i64 E | _ => True)
    (fun i vs gs => match i with | 9 => [blkR (gs 9).1 36 zeroN] | 10 => [blkR (gs 9).1 36 (zeroN)] | 12 => [blkR g5 36 (ntA z h (.slice A l.length c))] | 13 => [rowR 81 33 (.slice A l.length c) l.length (sgsC l)] | 14 => L | _ => [])
    (fun i => match i with | 10 => [9] | _ => []) (fun i => match i with | 0 => [12] | 5 => [13] | _ => []) S0 (by kernel_rfl) hap (by kernel_rfl) (by kernel_rfl) (fun i => match i with | 0 => [0] | 1 => [1] | 2 => [2] | 3 => [3] | 4 => [4] | 5 => [5] | 6 => [6] | 7 => [7] | 8 => [8] | 9 => [9] | 10 => [9] | 11 => [11] | _ => []) (by kernel_rfl) ?_ (by kernel_rfl) ?_ ?_ ?_
  · intro s vs vs' gs gs' h
    iterate 15 (rcases s with _ | s; · (first | exact ⟨rfl, id⟩ | (simp only [List.mem_cons, List.not_mem_nil, or_false, forall_eq_or_imp, forall_eq] at h; simp [h])))
    exact ⟨rfl, id⟩
  · simp only [List.range, List.range.loop, List.flatMap_cons, List.flatMap_nil, List.append_nil, List.cons_append, List.nil_append]
    exact List.Perm.refl _
  · clear S0 hend
    refine ⟨?_, ?_, ?_, ?_, ?_, ?_, ?_, ?_, ?_, ?_, ?_, ?_, trivial⟩
    · intro vs gs A' W LF hA S hR hd hu K hK
      replace hK := hK default
      have e5 : A'.tmps[5]?.getD undef = .pointer (some ⟨g5, 0, none⟩) := slot_out hA hap (Nat.lt_of_lt_of_eq (Nat.le_of_ble_eq_true rfl : 5 < 161) hsz.symm) (by kernel_rfl) o5
      clear hA o1 o5 o8
      refine op_runs (v := .agg (ntA z h (.slice A l.length c))) (w' := W) (exec_load rfl (by simpa [Act.eval] using e5) (run_loadAt_agg W (⟨g5, 0, none⟩) 36 (ntA z h (.slice A l.length c)).toList _ (Blk.agg (S.ok (blkR g5 36 (ntA z h (.slice A l.length c))) (hR 12 (List.mem_singleton.2 rfl) _ (List.mem_singleton.2 rfl)))) Tryd.underlying36 rfl (by rw [Array.length_toList, ntA_size hh]; exact Tryd.infoNote))) ?_
      exact hK _ _ S rfl
    · intro vs gs A' W LF hA S hR hd hu K hK
      replace hK := hK default
      have e1 : A'.tmps[1]?.getD undef = .slice (some ad) n cq := slot_out hA hap (Nat.lt_of_lt_of_eq (Nat.le_of_ble_eq_true rfl : 1 < 161) hsz.symm) (by kernel_rfl) o1
      clear hA o1 o5 o8
      go_step
      exact hK _ _ S rfl
    · intro vs gs A' W LF hA S hR hd hu K hK
      replace hK := hK default
      have e8 : A'.tmps[8]?.getD undef = .int .i64 ((k : Nat) : Int) := slot_out hA hap (Nat.lt_of_lt_of_eq (Nat.le_of_ble_eq_true rfl : 8 < 161) hsz.symm) (by kernel_rfl) o8
      clear hA o1 o5 o8
      go_step
      exact hK _ _ S rfl
    · intro vs gs A' W LF hA S hR hd hu K hK
      replace hK := hK default
      have f1 : vs 1 = .slice (some ad) n cq := hd 1 (by kernel_rfl)
      have e44 : A'.tmps[44]?.getD undef = vs 1 := slot_in hA hap (Nat.lt_of_lt_of_eq (Nat.le_of_ble_eq_true rfl : 44 < 161) hsz.symm) (by kernel_rfl)
      rw [f1] at e44
      have f2 : vs 2 = .int .i64 ((k : Nat) : Int) := hd 2 (by kernel_rfl)
      have e45 : A'.tmps[45]?.getD undef = vs 2 := slot_in hA hap (Nat.lt_of_lt_of_eq (Nat.le_of_ble_eq_true rfl : 45 < 161) hsz.symm) (by kernel_rfl)
      rw [f2] at e45
      clear hA o1 o5 o8
      have h0 : 0 ≤ (k : Int) := by omega
      have h1 : (k : Int) < (n : Int) := by omega
      go_step
      exact hK _ _ S rfl
    · intro vs gs A' W LF hA S hR hd hu K hK
      replace hK := hK default
      have f3 : vs 3 = .pointer (some (ad.add (k * 2))) := hd 3 (by kernel_rfl)
      have e46 : A'.tmps[46]?.getD undef = vs 3 := slot_in hA hap (Nat.lt_of_lt_of_eq (Nat.le_of_ble_eq_true rfl : 46 < 161) hsz.symm) (by kernel_rfl)
      rw [f3] at e46
      clear hA o1 o5 o8
      refine op_runs (v := .agg #[.string nm, .slice Ak sec.length ck]) (w' := W) (exec_load rfl (by simpa [Act.eval] using e46) (run_loadAt_agg W (ad.add (k * 2)) 42 (#[.string nm, .slice Ak sec.length ck]).toList _ (hc _ S.k) Tryd.underlying42 rfl (by exact Tryd.infoKeyP))) ?_
      exact hK _ _ S rfl
    · intro vs gs A' W LF hA S hR hd hu K hK
      replace hK := hK default
      have f0 : vs 0 = .agg (ntA z h (.slice A l.length c)) := hd 0 (by kernel_rfl)
      have e43 : A'.tmps[43]?.getD undef = vs 0 := slot_in hA hap (Nat.lt_of_lt_of_eq (Nat.le_of_ble_eq_true rfl : 43 < 161) hsz.symm) (by kernel_rfl)
      rw [f0] at e43
      have f4 : vs 4 = .agg #[.string nm, .slice Ak sec.length ck] := hd 4 (by kernel_rfl)
      have e47 : A'.tmps[47]?.getD undef = vs 4 := slot_in hA hap (Nat.lt_of_lt_of_eq (Nat.le_of_ble_eq_true rfl : 47 < 161) hsz.symm) (by kernel_rfl)
      rw [f4] at e47
      clear hA o1 o5 o8
      go_step
      refine (ssign_any z hz h hh l hok (by omega) A c nm hnm Ak ck sec W (LD0.kp S.k) (Rd.of_own (S.ok (rowR 81 33 (.slice A l.length c) l.length (sgsC l)) (hR 13 (List.mem_singleton.2 rfl) _ (List.mem_singleton.2 rfl)))) (rd_old hs S.k)).mono ?_
      rintro e w' ⟨u, rfl, -, k7⟩
      rw [if_neg (by rw [hE]; exact hE0), hE]
      exact hK _ _ (S.kp k7) rfl
    · intro vs gs A' W LF hA S hR hd hu K hK
      replace hK := hK default
      have f5 : vs 5 = .tuple #[.agg zeroN, .int .i64 E] := hd 5 (by kernel_rfl)
      have e48 : A'.tmps[48]?.getD undef = vs 5 := slot_in hA hap (Nat.lt_of_lt_of_eq (Nat.le_of_ble_eq_true rfl : 48 < 161) hsz.symm) (by kernel_rfl)
      rw [f5] at e48
      clear hA o1 o5 o8
      go_step
      exact hK _ _ S rfl
    · intro vs gs A' W LF hA S hR hd hu K hK
      replace hK := hK default
      have f6 : vs 6 = .tuple #[.agg zeroN, .int .i64 E] := hd 6 (by kernel_rfl)
      have e42 : A'.tmps[42]?.getD undef = vs 6 := slot_in hA hap (Nat.lt_of_lt_of_eq (Nat.le_of_ble_eq_true rfl : 42 < 161) hsz.symm) (by kernel_rfl)
      rw [f6] at e42
      clear hA o1 o5 o8
      go_step
      exact hK _ _ S rfl
    · intro vs gs A' W LF hA S hR hd hu K hK
      replace hK := hK default
      have f6 : vs 6 = .tuple #[.agg zeroN, .int .i64 E] := hd 6 (by kernel_rfl)
      have e42 : A'.tmps[42]?.getD undef = vs 6 := slot_in hA hap (Nat.lt_of_lt_of_eq (Nat.le_of_ble_eq_true rfl : 42 < 161) hsz.symm) (by kernel_rfl)
      rw [f6] at e42
      clear hA o1 o5 o8
      go_step
      exact hK _ _ S rfl
    · intro vs gs A' W LF hA S hR hd hu K hK
      clear hA o1 o5 o8
      go_step
      exact hK (W.heap.size, .nilFunc) _ _ (S.newBlk 36 zeroN) rfl
    · intro vs gs A' W LF hA S hR hd hu K hK
      replace hK := hK default
      have f9 : vs 9 = .pointer (some ⟨(gs 9).1, 0, none⟩) := hd 9 (by kernel_rfl)
      have e9 : A'.tmps[9]?.getD undef = vs 9 := slot_in hA hap (Nat.lt_of_lt_of_eq (Nat.le_of_ble_eq_true rfl : 9 < 161) hsz.symm) (by kernel_rfl)
      rw [f9] at e9
      have f7 : vs 7 = .agg (zeroN) := hd 7 (by kernel_rfl)
      have e49 : A'.tmps[49]?.getD undef = vs 7 := slot_in hA hap (Nat.lt_of_lt_of_eq (Nat.le_of_ble_eq_true rfl : 49 < 161) hsz.symm) (by kernel_rfl)
      rw [f7] at e49
      clear hA o1 o5 o8
      have S1 : Held w0 W (blkR (gs 9).1 36 zeroN :: LF) := S
      refine op_store_blkS (.tmp 9) (.tmp 49) 36 rfl (gs 9).1 (by simpa [Act.eval] using e9) (zeroN) (by simpa [Act.eval] using e49) 36 zeroN S1 (by rw [(rfl : zeroN.size = 34)]; exact Tryd.infoNote) (by rw [(rfl : zeroN.size = 34)] <;> rfl) (ntA_one rfl) ?_
      intro w' S2
      exact hK _ _ S2 trivial
    · intro vs gs A' W LF hA S hR hd hu K hK
      replace hK := hK default
      have f8 : vs 8 = .int .i64 E := hd 8 (by kernel_rfl)
      have e50 : A'.tmps[50]?.getD undef = vs 8 := slot_in hA hap (Nat.lt_of_lt_of_eq (Nat.le_of_ble_eq_true rfl : 50 < 161) hsz.symm) (by kernel_rfl)
      rw [f8] at e50
      clear hA o1 o5 o8
      go_step
      exact hK _ _ S rfl
  · intro vs gs W S hp
    have S : Held w0 W (blkR (gs 9).1 36 (zeroN) :: blkR g5 36 (ntA z h (.slice A l.length c)) :: rowR 81 33 (.slice A l.length c) l.length (sgsC l) :: L) := by simpa only [List.flatMap_cons, List.flatMap_nil, List.append_nil, List.nil_append, List.cons_append, List.append_assoc] using S
    rw [show putAll vs (opsOf 10 Tryd.f6) 0 a = putD [(43, vs 0), (44, vs 1), (45, vs 2), (46, vs 3), (47, vs 4), (48, vs 5), (42, vs 6), (49, vs 7), (50, vs 8), (9, vs 9), (10, vs 11)] a from by kernel_rfl]
    exact hend _ vs gs W (same_putD _ a) (sl_putD _ a 9 _ (by rw [show vs 9 = _ from hp 9 (Nat.le_of_ble_eq_true (by kernel_rfl))]; kernel_rfl)) (sl_putD _ a 10 _ (by rw [show vs 11 = _ from hp 11 (Nat.le_of_ble_eq_true (by kernel_rfl))]; kernel_rfl)) S
-- END shl10N
-- REG shl18
set_option maxRecDepth 100000 in
set_option maxHeartbeats 2000000 in
theorem shl_r18 {Q : Exit → Act → World → Prop} {a : Act} {w : World} (w0 : World) (LD0 : LD w0) (z : Int) (hz : -9223372036854775808 ≤ z ∧ z ≤ 9223372036854775807) (h : List UInt8) (hh : h.length = 32) (A : Option Addr) (c : Nat) (l : List SigD) (hok : SgOk l) (hll : l.length ≤ 64) (g5 : Nat) (ad : Addr) (k n cq : Nat) (hk : k < n) (nm : ByteArray) (hnm : nm.size ≤ 9223372036854775807) (Ak : Option Addr) (ck : Nat) (sec : List UInt8) (hc : ∀ V, Kp [] w0 V → ∀ j u, ([.string nm, .slice Ak sec.length ck] : List Value)[j]? = some u → V.cell? ((ad.add (k * 2)).add j) = some u) (hs : Rd w0 1 (.slice Ak sec.length ck) sec.length (bv sec)) (L : List Res) (E : Int) (hE : signE z l nm.data.toList sec = E) (hE0 : ¬ E = 0) (hsz : a.tmps.size = 161) (o1 : Sl a 1 (.slice (some ad) n cq)) (o5 : Sl a 5 (.pointer (some ⟨g5, 0, none⟩))) (o8 : Sl a 8 (.int .i64 ((k : Nat) : Int)))
    (S0 : Held w0 w (blkR g5 36 (ntA z h (.slice A l.length c)) :: rowR 81 33 (.slice A l.length c) l.length (sgsC l) :: L))
    (hend : ∀ (a' : Act) (vs : Nat → Value) (gs : Nat → Nat × Value) (W : World), Same a a' [99, 100, 101, 102, 103, 104, 98, 105, 106, 11, 12] → Sl a' 11 (.pointer (some ⟨(gs 9).1, 0, none⟩)) → Sl a' 12 (.int .i64 E) → Held w0 W (blkR (gs 9).1 36 (zeroN) :: blkR g5 36 (ntA z h (.slice A l.length c)) :: rowR 81 33 (.slice A l.length c) l.length (sgsC l) :: L) → Q .normal a' W) : (Code.region 18 (opsOf 18 Tryd.f6).toArray true).wp Tryd.prog Q a w := by
  have hap : apartB (opsOf 18 Tryd.f6) = true := by kernel_rfl
  refine wp_region_sep (Γ := Nat × Value) (l := (opsOf 18 Tryd.f6)) 3 [0, 1, 2, 3, 4, 5, 6, 7, 8, 10, 11, 12, 13, 14]
    (fun i vs gs => match i with | 0 => vs 0 = .agg (ntA z h (.slice A l.length c)) | 1 => vs 1 = .slice (some ad) n cq | 2 => vs 2 = .int .i64 ((k : Nat) : Int) | 3 => vs 3 = .pointer (some (ad.add (k * 2))) | 4 => vs 4 = .agg #[.string nm, .slice Ak sec.length ck] | 5 => vs 5 = .tuple #[.agg zeroN, .int .i64 E] | 6 => vs 6 = .tuple #[.agg zeroN, .int .i64 E] | 7 => vs 7 = .agg (zeroN) | 8 => vs 8 = .int .i64 E | 9 => vs 9 = .pointer (some ⟨(gs 9).1, 0, none⟩) | 11 => vs 11 = .int .i64 E | _ => True)
    (fun i vs gs => match i with | 9 => [blkR (gs 9).1 36 zeroN] | 10 => [blkR (gs 9).1 36 (zeroN)] | 12 => [blkR g5 36 (ntA z h (.slice A l.length c))] | 13 => [rowR 81 33 (.slice A l.length c) l.length (sgsC l)] | 14 => L | _ => [])
    (fun i => match i with | 10 => [9] | _ => []) (fun i => match i with | 0 => [12] | 5 => [13] | _ => []) S0 (by kernel_rfl) hap (by kernel_rfl) (by kernel_rfl) (fun i => match i with | 0 => [0] | 1 => [1] | 2 => [2] | 3 => [3] | 4 => [4] | 5 => [5] | 6 => [6] | 7 => [7] | 8 => [8] | 9 => [9] | 10 => [9] | 11 => [11] | _ => []) (by kernel_rfl) ?_ (by kernel_rfl) ?_ ?_ ?_
  · intro s vs vs' gs gs' h
    iterate 15 (rcases s with _ | s; · (first | exact ⟨rfl, id⟩ | (simp only [List.mem_cons, List.not_mem_nil, or_false, forall_eq_or_imp, forall_eq] at h; simp [h])))
    exact ⟨rfl, id⟩
  · simp only [List.range, List.range.loop, List.flatMap_cons, List.flatMap_nil, List.append_nil, List.cons_append, List.nil_append]
    exact List.Perm.refl _
  · clear S0 hend
    refine ⟨?_, ?_, ?_, ?_, ?_, ?_, ?_, ?_, ?_, ?_, ?_, ?_, trivial⟩
    · intro vs gs A' W LF hA S hR hd hu K hK
      replace hK := hK default
      have e5 : A'.tmps[5]?.getD undef = .pointer (some ⟨g5, 0, none⟩) := slot_out hA hap (Nat.lt_of_lt_of_eq (Nat.le_of_ble_eq_true rfl : 5 < 161) hsz.symm) (by kernel_rfl) o5
      clear hA o1 o5 o8
      refine op_runs (v := .agg (ntA z h (.slice A l.length c))) (w' := W) (exec_load rfl (by simpa [Act.eval] using e5) (run_loadAt_agg W (⟨g5, 0, none⟩) 36 (ntA z h (.slice A l.length c)).toList _ (Blk.agg (S.ok (blkR g5 36 (ntA z h (.slice A l.length c))) (hR 12 (List.mem_singleton.2 rfl) _ (List.mem_singleton.2 rfl)))) Tryd.underlying36 rfl (by rw [Array.length_toList, ntA_size hh]; exact Tryd.infoNote))) ?_
      exact hK _ _ S rfl
    · intro vs gs A' W LF hA S hR hd hu K hK
      replace hK := hK default
      have e1 : A'.tmps[1]?.getD undef = .slice (some ad) n cq := slot_out hA hap (Nat.lt_of_lt_of_eq (Nat.le_of_ble_eq_true rfl : 1 < 161) hsz.symm) (by kernel_rfl) o1
      clear hA o1 o5 o8
      go_step
      exact hK _ _ S rfl
    · intro vs gs A' W LF hA S hR hd hu K hK
      replace hK := hK default
      have e8 : A'.tmps[8]?.getD undef = .int .i64 ((k : Nat) : Int) := slot_out hA hap (Nat.lt_of_lt_of_eq (Nat.le_of_ble_eq_true rfl : 8 < 161) hsz.symm) (by kernel_rfl) o8
      clear hA o1 o5 o8
      go_step
      exact hK _ _ S rfl
    · intro vs gs A' W LF hA S hR hd hu K hK
      replace hK := hK default
      have f1 : vs 1 = .slice (some ad) n cq := hd 1 (by kernel_rfl)
      have e100 : A'.tmps[100]?.getD undef = vs 1 := slot_in hA hap (Nat.lt_of_lt_of_eq (Nat.le_of_ble_eq_true rfl : 100 < 161) hsz.symm) (by kernel_rfl)
      rw [f1] at e100
      have f2 : vs 2 = .int .i64 ((k : Nat) : Int) := hd 2 (by kernel_rfl)
      have e101 : A'.tmps[101]?.getD undef = vs 2 := slot_in hA hap (Nat.lt_of_lt_of_eq (Nat.le_of_ble_eq_true rfl : 101 < 161) hsz.symm) (by kernel_rfl)
      rw [f2] at e101
      clear hA o1 o5 o8
      have h0 : 0 ≤ (k : Int) := by omega
      have h1 : (k : Int) < (n : Int) := by omega
      go_step
      exact hK _ _ S rfl
    · intro vs gs A' W LF hA S hR hd hu K hK
      replace hK := hK default
      have f3 : vs 3 = .pointer (some (ad.add (k * 2))) := hd 3 (by kernel_rfl)
      have e102 : A'.tmps[102]?.getD undef = vs 3 := slot_in hA hap (Nat.lt_of_lt_of_eq (Nat.le_of_ble_eq_true rfl : 102 < 161) hsz.symm) (by kernel_rfl)
      rw [f3] at e102
      clear hA o1 o5 o8
      refine op_runs (v := .agg #[.string nm, .slice Ak sec.length ck]) (w' := W) (exec_load rfl (by simpa [Act.eval] using e102) (run_loadAt_agg W (ad.add (k * 2)) 42 (#[.string nm, .slice Ak sec.length ck]).toList _ (hc _ S.k) Tryd.underlying42 rfl (by exact Tryd.infoKeyP))) ?_
      exact hK _ _ S rfl
    · intro vs gs A' W LF hA S hR hd hu K hK
      replace hK := hK default
      have f0 : vs 0 = .agg (ntA z h (.slice A l.length c)) := hd 0 (by kernel_rfl)
      have e99 : A'.tmps[99]?.getD undef = vs 0 := slot_in hA hap (Nat.lt_of_lt_of_eq (Nat.le_of_ble_eq_true rfl : 99 < 161) hsz.symm) (by kernel_rfl)
      rw [f0] at e99
      have f4 : vs 4 = .agg #[.string nm, .slice Ak sec.length ck] := hd 4 (by kernel_rfl)
      have e103 : A'.tmps[103]?.getD undef = vs 4 := slot_in hA hap (Nat.lt_of_lt_of_eq (Nat.le_of_ble_eq_true rfl : 103 < 161) hsz.symm) (by kernel_rfl)
      rw [f4] at e103
      clear hA o1 o5 o8
      go_step
      refine (ssign_any z hz h hh l hok (by omega) A c nm hnm Ak ck sec W (LD0.kp S.k) (Rd.of_own (S.ok (rowR 81 33 (.slice A l.length c) l.length (sgsC l)) (hR 13 (List.mem_singleton.2 rfl) _ (List.mem_singleton.2 rfl)))) (rd_old hs S.k)).mono ?_
      rintro e w' ⟨u, rfl, -, k7⟩
      rw [if_neg (by rw [hE]; exact hE0), hE]
      exact hK _ _ (S.kp k7) rfl
    · intro vs gs A' W LF hA S hR hd hu K hK
      replace hK := hK default
      have f5 : vs 5 = .tuple #[.agg zeroN, .int .i64 E] := hd 5 (by kernel_rfl)
      have e104 : A'.tmps[104]?.getD undef = vs 5 := slot_in hA hap (Nat.lt_of_lt_of_eq (Nat.le_of_ble_eq_true rfl : 104 < 161) hsz.symm) (by kernel_rfl)
      rw [f5] at e104
      clear hA o1 o5 o8
      go_step
      exact hK _ _ S rfl
    · intro vs gs A' W LF hA S hR hd hu K hK
      replace hK := hK default
      have f6 : vs 6 = .tuple #[.agg zeroN, .int .i64 E] := hd 6 (by kernel_rfl)
      have e98 : A'.tmps[98]?.getD undef = vs 6 := slot_in hA hap (Nat.lt_of_lt_of_eq (Nat.le_of_ble_eq_true rfl : 98 < 161) hsz.symm) (by kernel_rfl)
      rw [f6] at e98
      clear hA o1 o5 o8
      go_step
      exact hK _ _ S rfl
    · intro vs gs A' W LF hA S hR hd hu K hK
      replace hK := hK default
      have f6 : vs 6 = .tuple #[.agg zeroN, .int .i64 E] := hd 6 (by kernel_rfl)
      have e98 : A'.tmps[98]?.getD undef = vs 6 := slot_in hA hap (Nat.lt_of_lt_of_eq (Nat.le_of_ble_eq_true rfl : 98 < 161) hsz.symm) (by kernel_rfl)
      rw [f6] at e98
      clear hA o1 o5 o8
      go_step
      exact hK _ _ S rfl
    · intro vs gs A' W LF hA S hR hd hu K hK
      clear hA o1 o5 o8
      go_step
      exact hK (W.heap.size, .nilFunc) _ _ (S.newBlk 36 zeroN) rfl
    · intro vs gs A' W LF hA S hR hd hu K hK
      replace hK := hK default
      have f9 : vs 9 = .pointer (some ⟨(gs 9).1, 0, none⟩) := hd 9 (by kernel_rfl)
      have e11 : A'.tmps[11]?.getD undef = vs 9 := slot_in hA hap (Nat.lt_of_lt_of_eq (Nat.le_of_ble_eq_true rfl : 11 < 161) hsz.symm) (by kernel_rfl)
      rw [f9] at e11
      have f7 : vs 7 = .agg (zeroN) := hd 7 (by kernel_rfl)
      have e105 : A'.tmps[105]?.getD undef = vs 7 := slot_in hA hap (Nat.lt_of_lt_of_eq (Nat.le_of_ble_eq_true rfl : 105 < 161) hsz.symm) (by kernel_rfl)
      rw [f7] at e105
      clear hA o1 o5 o8
      have S1 : Held w0 W (blkR (gs 9).1 36 zeroN :: LF) := S
      refine op_store_blkS (.tmp 11) (.tmp 105) 36 rfl (gs 9).1 (by simpa [Act.eval] using e11) (zeroN) (by simpa [Act.eval] using e105) 36 zeroN S1 (by rw [(rfl : zeroN.size = 34)]; exact Tryd.infoNote) (by rw [(rfl : zeroN.size = 34)] <;> rfl) (ntA_one rfl) ?_
      intro w' S2
      exact hK _ _ S2 trivial
    · intro vs gs A' W LF hA S hR hd hu K hK
      replace hK := hK default
      have f8 : vs 8 = .int .i64 E := hd 8 (by kernel_rfl)
      have e106 : A'.tmps[106]?.getD undef = vs 8 := slot_in hA hap (Nat.lt_of_lt_of_eq (Nat.le_of_ble_eq_true rfl : 106 < 161) hsz.symm) (by kernel_rfl)
      rw [f8] at e106
      clear hA o1 o5 o8
      go_step
      exact hK _ _ S rfl
  · intro vs gs W S hp
    have S : Held w0 W (blkR (gs 9).1 36 (zeroN) :: blkR g5 36 (ntA z h (.slice A l.length c)) :: rowR 81 33 (.slice A l.length c) l.length (sgsC l) :: L) := by simpa only [List.flatMap_cons, List.flatMap_nil, List.append_nil, List.nil_append, List.cons_append, List.append_assoc] using S
    rw [show putAll vs (opsOf 18 Tryd.f6) 0 a = putD [(99, vs 0), (100, vs 1), (101, vs 2), (102, vs 3), (103, vs 4), (104, vs 5), (98, vs 6), (105, vs 7), (106, vs 8), (11, vs 9), (12, vs 11)] a from by kernel_rfl]
    exact hend _ vs gs W (same_putD _ a) (sl_putD _ a 11 _ (by rw [show vs 9 = _ from hp 9 (Nat.le_of_ble_eq_true (by kernel_rfl))]; kernel_rfl)) (sl_putD _ a 12 _ (by rw [show vs 11 = _ from hp 11 (Nat.le_of_ble_eq_true (by kernel_rfl))]; kernel_rfl)) S
-- END shl18
-- REG shl12a
set_option maxRecDepth 100000 in
set_option maxHeartbeats 2000000 in
theorem shl_r12a {Q : Exit → Act → World → Prop} {a : Act} {w : World}  (hsz : a.tmps.size = 161) (o10 : Sl a 10 (.int .i64 (2 : Int)))
    (hend : ∀ (a' : Act) (W : World), Same a a' [54, 55, 56, 57, 58, 59, 60, 61, 62, 63, 64, 65, 66] → Kp [] w W → Sl a' 66 (.bool false) → Q .normal a' W) : (Code.region 12 (opsOf 12 Tryd.f6).toArray false).wp Tryd.prog Q a w := by
  have hap : apartB (opsOf 12 Tryd.f6) = true := by kernel_rfl
  refine wp_region_invS (l := (opsOf 12 Tryd.f6)) (fun i v W => match i with | 0 => v = .int .i64 (2 : Int) | 1 => v = .int .i64 (2 : Int) | 2 => v = .bool false | 3 => v = .bool false | 7 => v = .bool false | 8 => v = .bool false | 12 => v = .bool false | _ => True) hap ?_ ?_ ?_
  · intro i v W W' h _
    iterate 13 (rcases i with _ | i; · exact h)
    exact h
  · refine ⟨?_, ?_, ?_, ?_, ?_, ?_, ?_, ?_, ?_, ?_, ?_, ?_, ?_, trivial⟩
    · intro vs A' W hA hW hd hu K hK
      refine wpOp_free _ rfl rfl ?_
      conv => arg 2; whnf
      have e10 : A'.tmps[10]?.getD undef = .int .i64 (2 : Int) := slot_out hA hap (Nat.lt_of_lt_of_eq (Nat.le_of_ble_eq_true rfl : 10 < 161) hsz.symm) (by kernel_rfl) o10
      clear hA hd hu o10
      go_step
      exact hK _ _ (Kp.refl _ _) rfl
    · intro vs A' W hA hW hd hu K hK
      refine wpOp_free _ rfl rfl ?_
      conv => arg 2; whnf
      have f0 : vs 0 = .int .i64 (2 : Int) := hd 0 (by kernel_rfl)
      have e54 : A'.tmps[54]?.getD undef = vs 0 := slot_in hA hap (Nat.lt_of_lt_of_eq (Nat.le_of_ble_eq_true rfl : 54 < 161) hsz.symm) (by kernel_rfl)
      rw [f0] at e54
      clear hA hd hu o10
      go_step
      refine (lnum_any 2 W).mono ?_
      rintro e w' ⟨rfl, rfl⟩
      exact hK _ _ (Kp.refl _ _) rfl
    · intro vs A' W hA hW hd hu K hK
      refine wpOp_free _ rfl rfl ?_
      conv => arg 2; whnf
      have f1 : vs 1 = .int .i64 (2 : Int) := hd 1 (by kernel_rfl)
      have e55 : A'.tmps[55]?.getD undef = vs 1 := slot_in hA hap (Nat.lt_of_lt_of_eq (Nat.le_of_ble_eq_true rfl : 55 < 161) hsz.symm) (by kernel_rfl)
      rw [f1] at e55
      clear hA hd hu o10
      go_step
      exact hK _ _ (Kp.refl _ _) rfl
    · intro vs A' W hA hW hd hu K hK
      refine wpOp_free _ rfl rfl ?_
      conv => arg 2; whnf
      have f2 : vs 2 = .bool false := hd 2 (by kernel_rfl)
      have e56 : A'.tmps[56]?.getD undef = vs 2 := slot_in hA hap (Nat.lt_of_lt_of_eq (Nat.le_of_ble_eq_true rfl : 56 < 161) hsz.symm) (by kernel_rfl)
      rw [f2] at e56
      clear hA hd hu o10
      go_step
      exact hK _ _ (Kp.refl _ _) rfl
    · intro vs A' W hA hW hd hu K hK
      have f3 : vs 3 = .bool false := hd 3 (by kernel_rfl)
      have e57 : A'.tmps[57]?.getD undef = vs 3 := slot_in hA hap (Nat.lt_of_lt_of_eq (Nat.le_of_ble_eq_true rfl : 57 < 161) hsz.symm) (by kernel_rfl)
      rw [f3] at e57
      refine wpOp_skip _ rfl 3 57 true rfl rfl e57 ?_
      exact hK _ _ (Kp.refl _ _) trivial
    · intro vs A' W hA hW hd hu K hK
      have f3 : vs 3 = .bool false := hd 3 (by kernel_rfl)
      have e57 : A'.tmps[57]?.getD undef = vs 3 := slot_in hA hap (Nat.lt_of_lt_of_eq (Nat.le_of_ble_eq_true rfl : 57 < 161) hsz.symm) (by kernel_rfl)
      rw [f3] at e57
      refine wpOp_skip _ rfl 3 57 true rfl rfl e57 ?_
      exact hK _ _ (Kp.refl _ _) trivial
    · intro vs A' W hA hW hd hu K hK
      have f3 : vs 3 = .bool false := hd 3 (by kernel_rfl)
      have e57 : A'.tmps[57]?.getD undef = vs 3 := slot_in hA hap (Nat.lt_of_lt_of_eq (Nat.le_of_ble_eq_true rfl : 57 < 161) hsz.symm) (by kernel_rfl)
      rw [f3] at e57
      refine wpOp_skip _ rfl 3 57 true rfl rfl e57 ?_
      exact hK _ _ (Kp.refl _ _) trivial
    · intro vs A' W hA hW hd hu K hK
      refine wpOp_free _ rfl rfl ?_
      conv => arg 2; whnf
      have f3 : vs 3 = .bool false := hd 3 (by kernel_rfl)
      have e57 : A'.tmps[57]?.getD undef = vs 3 := slot_in hA hap (Nat.lt_of_lt_of_eq (Nat.le_of_ble_eq_true rfl : 57 < 161) hsz.symm) (by kernel_rfl)
      rw [f3] at e57
      have e60 : A'.tmps[60]?.getD undef = vs 6 := slot_in hA hap (Nat.lt_of_lt_of_eq (Nat.le_of_ble_eq_true rfl : 60 < 161) hsz.symm) (by kernel_rfl)
      clear hA hd hu o10
      go_step
      exact hK _ _ (Kp.refl _ _) rfl
    · intro vs A' W hA hW hd hu K hK
      refine wpOp_free _ rfl rfl ?_
      conv => arg 2; whnf
      have f7 : vs 7 = .bool false := hd 7 (by kernel_rfl)
      have e61 : A'.tmps[61]?.getD undef = vs 7 := slot_in hA hap (Nat.lt_of_lt_of_eq (Nat.le_of_ble_eq_true rfl : 61 < 161) hsz.symm) (by kernel_rfl)
      rw [f7] at e61
      clear hA hd hu o10
      go_step
      exact hK _ _ (Kp.refl _ _) rfl
    · intro vs A' W hA hW hd hu K hK
      have f8 : vs 8 = .bool false := hd 8 (by kernel_rfl)
      have e62 : A'.tmps[62]?.getD undef = vs 8 := slot_in hA hap (Nat.lt_of_lt_of_eq (Nat.le_of_ble_eq_true rfl : 62 < 161) hsz.symm) (by kernel_rfl)
      rw [f8] at e62
      refine wpOp_skip _ rfl 8 62 true rfl rfl e62 ?_
      exact hK _ _ (Kp.refl _ _) trivial
    · intro vs A' W hA hW hd hu K hK
      have f8 : vs 8 = .bool false := hd 8 (by kernel_rfl)
      have e62 : A'.tmps[62]?.getD undef = vs 8 := slot_in hA hap (Nat.lt_of_lt_of_eq (Nat.le_of_ble_eq_true rfl : 62 < 161) hsz.symm) (by kernel_rfl)
      rw [f8] at e62
      refine wpOp_skip _ rfl 8 62 true rfl rfl e62 ?_
      exact hK _ _ (Kp.refl _ _) trivial
    · intro vs A' W hA hW hd hu K hK
      have f8 : vs 8 = .bool false := hd 8 (by kernel_rfl)
      have e62 : A'.tmps[62]?.getD undef = vs 8 := slot_in hA hap (Nat.lt_of_lt_of_eq (Nat.le_of_ble_eq_true rfl : 62 < 161) hsz.symm) (by kernel_rfl)
      rw [f8] at e62
      refine wpOp_skip _ rfl 8 62 true rfl rfl e62 ?_
      exact hK _ _ (Kp.refl _ _) trivial
    · intro vs A' W hA hW hd hu K hK
      refine wpOp_free _ rfl rfl ?_
      conv => arg 2; whnf
      have f8 : vs 8 = .bool false := hd 8 (by kernel_rfl)
      have e62 : A'.tmps[62]?.getD undef = vs 8 := slot_in hA hap (Nat.lt_of_lt_of_eq (Nat.le_of_ble_eq_true rfl : 62 < 161) hsz.symm) (by kernel_rfl)
      rw [f8] at e62
      have e65 : A'.tmps[65]?.getD undef = vs 11 := slot_in hA hap (Nat.lt_of_lt_of_eq (Nat.le_of_ble_eq_true rfl : 65 < 161) hsz.symm) (by kernel_rfl)
      clear hA hd hu o10
      go_step
      exact hK _ _ (Kp.refl _ _) rfl
  · intro vs W hW hp
    rw [show putAll vs (opsOf 12 Tryd.f6) 0 a = putD [(54, vs 0), (55, vs 1), (56, vs 2), (57, vs 3), (58, vs 4), (59, vs 5), (60, vs 6), (61, vs 7), (62, vs 8), (63, vs 9), (64, vs 10), (65, vs 11), (66, vs 12)] a from by kernel_rfl]
    exact hend _ W (same_putD _ a) hW (sl_putD _ a 66 _ (by rw [show vs 12 = _ from hp 12 (Nat.le_of_ble_eq_true (by kernel_rfl))]; kernel_rfl))
-- END shl12a
-- REG shl12b
set_option maxRecDepth 100000 in
set_option maxHeartbeats 2000000 in
theorem shl_r12b {Q : Exit → Act → World → Prop} {a : Act} {w : World}  (hsz : a.tmps.size = 161) (o10 : Sl a 10 (.int .i64 (8 : Int)))
    (hend : ∀ (a' : Act) (W : World), Same a a' [54, 55, 56, 57, 58, 59, 60, 61, 62, 63, 64, 65, 66] → Kp [] w W → Sl a' 66 (.bool false) → Q .normal a' W) : (Code.region 12 (opsOf 12 Tryd.f6).toArray false).wp Tryd.prog Q a w := by
  have hap : apartB (opsOf 12 Tryd.f6) = true := by kernel_rfl
  refine wp_region_invS (l := (opsOf 12 Tryd.f6)) (fun i v W => match i with | 0 => v = .int .i64 (8 : Int) | 1 => v = .int .i64 (8 : Int) | 2 => v = .bool true | 3 => v = .bool true | 4 => v = .int .i64 (8 : Int) | 5 => v = .int .i64 (8 : Int) | 6 => v = .bool false | 7 => v = .bool false | 8 => v = .bool false | 12 => v = .bool false | _ => True) hap ?_ ?_ ?_
  · intro i v W W' h _
    iterate 13 (rcases i with _ | i; · exact h)
    exact h
  · refine ⟨?_, ?_, ?_, ?_, ?_, ?_, ?_, ?_, ?_, ?_, ?_, ?_, ?_, trivial⟩
    · intro vs A' W hA hW hd hu K hK
      refine wpOp_free _ rfl rfl ?_
      conv => arg 2; whnf
      have e10 : A'.tmps[10]?.getD undef = .int .i64 (8 : Int) := slot_out hA hap (Nat.lt_of_lt_of_eq (Nat.le_of_ble_eq_true rfl : 10 < 161) hsz.symm) (by kernel_rfl) o10
      clear hA hd hu o10
      go_step
      exact hK _ _ (Kp.refl _ _) rfl
    · intro vs A' W hA hW hd hu K hK
      refine wpOp_free _ rfl rfl ?_
      conv => arg 2; whnf
      have f0 : vs 0 = .int .i64 (8 : Int) := hd 0 (by kernel_rfl)
      have e54 : A'.tmps[54]?.getD undef = vs 0 := slot_in hA hap (Nat.lt_of_lt_of_eq (Nat.le_of_ble_eq_true rfl : 54 < 161) hsz.symm) (by kernel_rfl)
      rw [f0] at e54
      clear hA hd hu o10
      go_step
      refine (lnum_any 8 W).mono ?_
      rintro e w' ⟨rfl, rfl⟩
      exact hK _ _ (Kp.refl _ _) rfl
    · intro vs A' W hA hW hd hu K hK
      refine wpOp_free _ rfl rfl ?_
      conv => arg 2; whnf
      have f1 : vs 1 = .int .i64 (8 : Int) := hd 1 (by kernel_rfl)
      have e55 : A'.tmps[55]?.getD undef = vs 1 := slot_in hA hap (Nat.lt_of_lt_of_eq (Nat.le_of_ble_eq_true rfl : 55 < 161) hsz.symm) (by kernel_rfl)
      rw [f1] at e55
      clear hA hd hu o10
      go_step
      exact hK _ _ (Kp.refl _ _) rfl
    · intro vs A' W hA hW hd hu K hK
      refine wpOp_free _ rfl rfl ?_
      conv => arg 2; whnf
      have f2 : vs 2 = .bool true := hd 2 (by kernel_rfl)
      have e56 : A'.tmps[56]?.getD undef = vs 2 := slot_in hA hap (Nat.lt_of_lt_of_eq (Nat.le_of_ble_eq_true rfl : 56 < 161) hsz.symm) (by kernel_rfl)
      rw [f2] at e56
      clear hA hd hu o10
      go_step
      exact hK _ _ (Kp.refl _ _) rfl
    · intro vs A' W hA hW hd hu K hK
      have f3 : vs 3 = .bool true := hd 3 (by kernel_rfl)
      have e57 : A'.tmps[57]?.getD undef = vs 3 := slot_in hA hap (Nat.lt_of_lt_of_eq (Nat.le_of_ble_eq_true rfl : 57 < 161) hsz.symm) (by kernel_rfl)
      rw [f3] at e57
      refine wpOp_go _ rfl 3 57 true rfl rfl e57 ?_
      conv => arg 2; whnf
      have e10 : A'.tmps[10]?.getD undef = .int .i64 (8 : Int) := slot_out hA hap (Nat.lt_of_lt_of_eq (Nat.le_of_ble_eq_true rfl : 10 < 161) hsz.symm) (by kernel_rfl) o10
      clear hA hd hu o10
      go_step
      exact hK _ _ (Kp.refl _ _) rfl
    · intro vs A' W hA hW hd hu K hK
      have f3 : vs 3 = .bool true := hd 3 (by kernel_rfl)
      have e57 : A'.tmps[57]?.getD undef = vs 3 := slot_in hA hap (Nat.lt_of_lt_of_eq (Nat.le_of_ble_eq_true rfl : 57 < 161) hsz.symm) (by kernel_rfl)
      rw [f3] at e57
      refine wpOp_go _ rfl 3 57 true rfl rfl e57 ?_
      conv => arg 2; whnf
      have f4 : vs 4 = .int .i64 (8 : Int) := hd 4 (by kernel_rfl)
      have e58 : A'.tmps[58]?.getD undef = vs 4 := slot_in hA hap (Nat.lt_of_lt_of_eq (Nat.le_of_ble_eq_true rfl : 58 < 161) hsz.symm) (by kernel_rfl)
      rw [f4] at e58
      clear hA hd hu o10
      go_step
      refine (lnum_any 8 W).mono ?_
      rintro e w' ⟨rfl, rfl⟩
      exact hK _ _ (Kp.refl _ _) rfl
    · intro vs A' W hA hW hd hu K hK
      have f3 : vs 3 = .bool true := hd 3 (by kernel_rfl)
      have e57 : A'.tmps[57]?.getD undef = vs 3 := slot_in hA hap (Nat.lt_of_lt_of_eq (Nat.le_of_ble_eq_true rfl : 57 < 161) hsz.symm) (by kernel_rfl)
      rw [f3] at e57
      refine wpOp_go _ rfl 3 57 true rfl rfl e57 ?_
      conv => arg 2; whnf
      have f5 : vs 5 = .int .i64 (8 : Int) := hd 5 (by kernel_rfl)
      have e59 : A'.tmps[59]?.getD undef = vs 5 := slot_in hA hap (Nat.lt_of_lt_of_eq (Nat.le_of_ble_eq_true rfl : 59 < 161) hsz.symm) (by kernel_rfl)
      rw [f5] at e59
      clear hA hd hu o10
      go_step
      exact hK _ _ (Kp.refl _ _) rfl
    · intro vs A' W hA hW hd hu K hK
      refine wpOp_free _ rfl rfl ?_
      conv => arg 2; whnf
      have f3 : vs 3 = .bool true := hd 3 (by kernel_rfl)
      have e57 : A'.tmps[57]?.getD undef = vs 3 := slot_in hA hap (Nat.lt_of_lt_of_eq (Nat.le_of_ble_eq_true rfl : 57 < 161) hsz.symm) (by kernel_rfl)
      rw [f3] at e57
      have f6 : vs 6 = .bool false := hd 6 (by kernel_rfl)
      have e60 : A'.tmps[60]?.getD undef = vs 6 := slot_in hA hap (Nat.lt_of_lt_of_eq (Nat.le_of_ble_eq_true rfl : 60 < 161) hsz.symm) (by kernel_rfl)
      rw [f6] at e60
      clear hA hd hu o10
      go_step
      exact hK _ _ (Kp.refl _ _) rfl
    · intro vs A' W hA hW hd hu K hK
      refine wpOp_free _ rfl rfl ?_
      conv => arg 2; whnf
      have f7 : vs 7 = .bool false := hd 7 (by kernel_rfl)
      have e61 : A'.tmps[61]?.getD undef = vs 7 := slot_in hA hap (Nat.lt_of_lt_of_eq (Nat.le_of_ble_eq_true rfl : 61 < 161) hsz.symm) (by kernel_rfl)
      rw [f7] at e61
      clear hA hd hu o10
      go_step
      exact hK _ _ (Kp.refl _ _) rfl
    · intro vs A' W hA hW hd hu K hK
      have f8 : vs 8 = .bool false := hd 8 (by kernel_rfl)
      have e62 : A'.tmps[62]?.getD undef = vs 8 := slot_in hA hap (Nat.lt_of_lt_of_eq (Nat.le_of_ble_eq_true rfl : 62 < 161) hsz.symm) (by kernel_rfl)
      rw [f8] at e62
      refine wpOp_skip _ rfl 8 62 true rfl rfl e62 ?_
      exact hK _ _ (Kp.refl _ _) trivial
    · intro vs A' W hA hW hd hu K hK
      have f8 : vs 8 = .bool false := hd 8 (by kernel_rfl)
      have e62 : A'.tmps[62]?.getD undef = vs 8 := slot_in hA hap (Nat.lt_of_lt_of_eq (Nat.le_of_ble_eq_true rfl : 62 < 161) hsz.symm) (by kernel_rfl)
      rw [f8] at e62
      refine wpOp_skip _ rfl 8 62 true rfl rfl e62 ?_
      exact hK _ _ (Kp.refl _ _) trivial
    · intro vs A' W hA hW hd hu K hK
      have f8 : vs 8 = .bool false := hd 8 (by kernel_rfl)
      have e62 : A'.tmps[62]?.getD undef = vs 8 := slot_in hA hap (Nat.lt_of_lt_of_eq (Nat.le_of_ble_eq_true rfl : 62 < 161) hsz.symm) (by kernel_rfl)
      rw [f8] at e62
      refine wpOp_skip _ rfl 8 62 true rfl rfl e62 ?_
      exact hK _ _ (Kp.refl _ _) trivial
    · intro vs A' W hA hW hd hu K hK
      refine wpOp_free _ rfl rfl ?_
      conv => arg 2; whnf
      have f8 : vs 8 = .bool false := hd 8 (by kernel_rfl)
      have e62 : A'.tmps[62]?.getD undef = vs 8 := slot_in hA hap (Nat.lt_of_lt_of_eq (Nat.le_of_ble_eq_true rfl : 62 < 161) hsz.symm) (by kernel_rfl)
      rw [f8] at e62
      have e65 : A'.tmps[65]?.getD undef = vs 11 := slot_in hA hap (Nat.lt_of_lt_of_eq (Nat.le_of_ble_eq_true rfl : 65 < 161) hsz.symm) (by kernel_rfl)
      clear hA hd hu o10
      go_step
      exact hK _ _ (Kp.refl _ _) rfl
  · intro vs W hW hp
    rw [show putAll vs (opsOf 12 Tryd.f6) 0 a = putD [(54, vs 0), (55, vs 1), (56, vs 2), (57, vs 3), (58, vs 4), (59, vs 5), (60, vs 6), (61, vs 7), (62, vs 8), (63, vs 9), (64, vs 10), (65, vs 11), (66, vs 12)] a from by kernel_rfl]
    exact hend _ W (same_putD _ a) hW (sl_putD _ a 66 _ (by rw [show vs 12 = _ from hp 12 (Nat.le_of_ble_eq_true (by kernel_rfl))]; kernel_rfl))
-- END shl12b
-- REG shl12c
set_option maxRecDepth 100000 in
set_option maxHeartbeats 2000000 in
theorem shl_r12c {Q : Exit → Act → World → Prop} {a : Act} {w : World}  (hsz : a.tmps.size = 161) (o10 : Sl a 10 (.int .i64 (380 : Int)))
    (hend : ∀ (a' : Act) (W : World), Same a a' [54, 55, 56, 57, 58, 59, 60, 61, 62, 63, 64, 65, 66] → Kp [] w W → Sl a' 66 (.bool false) → Q .normal a' W) : (Code.region 12 (opsOf 12 Tryd.f6).toArray false).wp Tryd.prog Q a w := by
  have hap : apartB (opsOf 12 Tryd.f6) = true := by kernel_rfl
  refine wp_region_invS (l := (opsOf 12 Tryd.f6)) (fun i v W => match i with | 0 => v = .int .i64 (380 : Int) | 1 => v = .int .i64 (380 : Int) | 2 => v = .bool true | 3 => v = .bool true | 4 => v = .int .i64 (380 : Int) | 5 => v = .int .i64 (380 : Int) | 6 => v = .bool true | 7 => v = .bool true | 8 => v = .bool true | 9 => v = .int .i64 (380 : Int) | 10 => v = .int .i64 (380 : Int) | 11 => v = .bool false | 12 => v = .bool false | _ => True) hap ?_ ?_ ?_
  · intro i v W W' h _
    iterate 13 (rcases i with _ | i; · exact h)
    exact h
  · refine ⟨?_, ?_, ?_, ?_, ?_, ?_, ?_, ?_, ?_, ?_, ?_, ?_, ?_, trivial⟩
    · intro vs A' W hA hW hd hu K hK
      refine wpOp_free _ rfl rfl ?_
      conv => arg 2; whnf
      have e10 : A'.tmps[10]?.getD undef = .int .i64 (380 : Int) := slot_out hA hap (Nat.lt_of_lt_of_eq (Nat.le_of_ble_eq_true rfl : 10 < 161) hsz.symm) (by kernel_rfl) o10
      clear hA hd hu o10
      go_step
      exact hK _ _ (Kp.refl _ _) rfl
    · intro vs A' W hA hW hd hu K hK
      refine wpOp_free _ rfl rfl ?_
      conv => arg 2; whnf
      have f0 : vs 0 = .int .i64 (380 : Int) := hd 0 (by kernel_rfl)
      have e54 : A'.tmps[54]?.getD undef = vs 0 := slot_in hA hap (Nat.lt_of_lt_of_eq (Nat.le_of_ble_eq_true rfl : 54 < 161) hsz.symm) (by kernel_rfl)
      rw [f0] at e54
      clear hA hd hu o10
      go_step
      refine (lnum_any 380 W).mono ?_
      rintro e w' ⟨rfl, rfl⟩
      exact hK _ _ (Kp.refl _ _) rfl
    · intro vs A' W hA hW hd hu K hK
      refine wpOp_free _ rfl rfl ?_
      conv => arg 2; whnf
      have f1 : vs 1 = .int .i64 (380 : Int) := hd 1 (by kernel_rfl)
      have e55 : A'.tmps[55]?.getD undef = vs 1 := slot_in hA hap (Nat.lt_of_lt_of_eq (Nat.le_of_ble_eq_true rfl : 55 < 161) hsz.symm) (by kernel_rfl)
      rw [f1] at e55
      clear hA hd hu o10
      go_step
      exact hK _ _ (Kp.refl _ _) rfl
    · intro vs A' W hA hW hd hu K hK
      refine wpOp_free _ rfl rfl ?_
      conv => arg 2; whnf
      have f2 : vs 2 = .bool true := hd 2 (by kernel_rfl)
      have e56 : A'.tmps[56]?.getD undef = vs 2 := slot_in hA hap (Nat.lt_of_lt_of_eq (Nat.le_of_ble_eq_true rfl : 56 < 161) hsz.symm) (by kernel_rfl)
      rw [f2] at e56
      clear hA hd hu o10
      go_step
      exact hK _ _ (Kp.refl _ _) rfl
    · intro vs A' W hA hW hd hu K hK
      have f3 : vs 3 = .bool true := hd 3 (by kernel_rfl)
      have e57 : A'.tmps[57]?.getD undef = vs 3 := slot_in hA hap (Nat.lt_of_lt_of_eq (Nat.le_of_ble_eq_true rfl : 57 < 161) hsz.symm) (by kernel_rfl)
      rw [f3] at e57
      refine wpOp_go _ rfl 3 57 true rfl rfl e57 ?_
      conv => arg 2; whnf
      have e10 : A'.tmps[10]?.getD undef = .int .i64 (380 : Int) := slot_out hA hap (Nat.lt_of_lt_of_eq (Nat.le_of_ble_eq_true rfl : 10 < 161) hsz.symm) (by kernel_rfl) o10
      clear hA hd hu o10
      go_step
      exact hK _ _ (Kp.refl _ _) rfl
    · intro vs A' W hA hW hd hu K hK
      have f3 : vs 3 = .bool true := hd 3 (by kernel_rfl)
      have e57 : A'.tmps[57]?.getD undef = vs 3 := slot_in hA hap (Nat.lt_of_lt_of_eq (Nat.le_of_ble_eq_true rfl : 57 < 161) hsz.symm) (by kernel_rfl)
      rw [f3] at e57
      refine wpOp_go _ rfl 3 57 true rfl rfl e57 ?_
      conv => arg 2; whnf
      have f4 : vs 4 = .int .i64 (380 : Int) := hd 4 (by kernel_rfl)
      have e58 : A'.tmps[58]?.getD undef = vs 4 := slot_in hA hap (Nat.lt_of_lt_of_eq (Nat.le_of_ble_eq_true rfl : 58 < 161) hsz.symm) (by kernel_rfl)
      rw [f4] at e58
      clear hA hd hu o10
      go_step
      refine (lnum_any 380 W).mono ?_
      rintro e w' ⟨rfl, rfl⟩
      exact hK _ _ (Kp.refl _ _) rfl
    · intro vs A' W hA hW hd hu K hK
      have f3 : vs 3 = .bool true := hd 3 (by kernel_rfl)
      have e57 : A'.tmps[57]?.getD undef = vs 3 := slot_in hA hap (Nat.lt_of_lt_of_eq (Nat.le_of_ble_eq_true rfl : 57 < 161) hsz.symm) (by kernel_rfl)
      rw [f3] at e57
      refine wpOp_go _ rfl 3 57 true rfl rfl e57 ?_
      conv => arg 2; whnf
      have f5 : vs 5 = .int .i64 (380 : Int) := hd 5 (by kernel_rfl)
      have e59 : A'.tmps[59]?.getD undef = vs 5 := slot_in hA hap (Nat.lt_of_lt_of_eq (Nat.le_of_ble_eq_true rfl : 59 < 161) hsz.symm) (by kernel_rfl)
      rw [f5] at e59
      clear hA hd hu o10
      go_step
      exact hK _ _ (Kp.refl _ _) rfl
    · intro vs A' W hA hW hd hu K hK
      refine wpOp_free _ rfl rfl ?_
      conv => arg 2; whnf
      have f3 : vs 3 = .bool true := hd 3 (by kernel_rfl)
      have e57 : A'.tmps[57]?.getD undef = vs 3 := slot_in hA hap (Nat.lt_of_lt_of_eq (Nat.le_of_ble_eq_true rfl : 57 < 161) hsz.symm) (by kernel_rfl)
      rw [f3] at e57
      have f6 : vs 6 = .bool true := hd 6 (by kernel_rfl)
      have e60 : A'.tmps[60]?.getD undef = vs 6 := slot_in hA hap (Nat.lt_of_lt_of_eq (Nat.le_of_ble_eq_true rfl : 60 < 161) hsz.symm) (by kernel_rfl)
      rw [f6] at e60
      clear hA hd hu o10
      go_step
      exact hK _ _ (Kp.refl _ _) rfl
    · intro vs A' W hA hW hd hu K hK
      refine wpOp_free _ rfl rfl ?_
      conv => arg 2; whnf
      have f7 : vs 7 = .bool true := hd 7 (by kernel_rfl)
      have e61 : A'.tmps[61]?.getD undef = vs 7 := slot_in hA hap (Nat.lt_of_lt_of_eq (Nat.le_of_ble_eq_true rfl : 61 < 161) hsz.symm) (by kernel_rfl)
      rw [f7] at e61
      clear hA hd hu o10
      go_step
      exact hK _ _ (Kp.refl _ _) rfl
    · intro vs A' W hA hW hd hu K hK
      have f8 : vs 8 = .bool true := hd 8 (by kernel_rfl)
      have e62 : A'.tmps[62]?.getD undef = vs 8 := slot_in hA hap (Nat.lt_of_lt_of_eq (Nat.le_of_ble_eq_true rfl : 62 < 161) hsz.symm) (by kernel_rfl)
      rw [f8] at e62
      refine wpOp_go _ rfl 8 62 true rfl rfl e62 ?_
      conv => arg 2; whnf
      have e10 : A'.tmps[10]?.getD undef = .int .i64 (380 : Int) := slot_out hA hap (Nat.lt_of_lt_of_eq (Nat.le_of_ble_eq_true rfl : 10 < 161) hsz.symm) (by kernel_rfl) o10
      clear hA hd hu o10
      go_step
      exact hK _ _ (Kp.refl _ _) rfl
    · intro vs A' W hA hW hd hu K hK
      have f8 : vs 8 = .bool true := hd 8 (by kernel_rfl)
      have e62 : A'.tmps[62]?.getD undef = vs 8 := slot_in hA hap (Nat.lt_of_lt_of_eq (Nat.le_of_ble_eq_true rfl : 62 < 161) hsz.symm) (by kernel_rfl)
      rw [f8] at e62
      refine wpOp_go _ rfl 8 62 true rfl rfl e62 ?_
      conv => arg 2; whnf
      have f9 : vs 9 = .int .i64 (380 : Int) := hd 9 (by kernel_rfl)
      have e63 : A'.tmps[63]?.getD undef = vs 9 := slot_in hA hap (Nat.lt_of_lt_of_eq (Nat.le_of_ble_eq_true rfl : 63 < 161) hsz.symm) (by kernel_rfl)
      rw [f9] at e63
      clear hA hd hu o10
      go_step
      refine (lnum_any 380 W).mono ?_
      rintro e w' ⟨rfl, rfl⟩
      exact hK _ _ (Kp.refl _ _) rfl
    · intro vs A' W hA hW hd hu K hK
      have f8 : vs 8 = .bool true := hd 8 (by kernel_rfl)
      have e62 : A'.tmps[62]?.getD undef = vs 8 := slot_in hA hap (Nat.lt_of_lt_of_eq (Nat.le_of_ble_eq_true rfl : 62 < 161) hsz.symm) (by kernel_rfl)
      rw [f8] at e62
      refine wpOp_go _ rfl 8 62 true rfl rfl e62 ?_
      conv => arg 2; whnf
      have f10 : vs 10 = .int .i64 (380 : Int) := hd 10 (by kernel_rfl)
      have e64 : A'.tmps[64]?.getD undef = vs 10 := slot_in hA hap (Nat.lt_of_lt_of_eq (Nat.le_of_ble_eq_true rfl : 64 < 161) hsz.symm) (by kernel_rfl)
      rw [f10] at e64
      clear hA hd hu o10
      go_step
      exact hK _ _ (Kp.refl _ _) rfl
    · intro vs A' W hA hW hd hu K hK
      refine wpOp_free _ rfl rfl ?_
      conv => arg 2; whnf
      have f8 : vs 8 = .bool true := hd 8 (by kernel_rfl)
      have e62 : A'.tmps[62]?.getD undef = vs 8 := slot_in hA hap (Nat.lt_of_lt_of_eq (Nat.le_of_ble_eq_true rfl : 62 < 161) hsz.symm) (by kernel_rfl)
      rw [f8] at e62
      have f11 : vs 11 = .bool false := hd 11 (by kernel_rfl)
      have e65 : A'.tmps[65]?.getD undef = vs 11 := slot_in hA hap (Nat.lt_of_lt_of_eq (Nat.le_of_ble_eq_true rfl : 65 < 161) hsz.symm) (by kernel_rfl)
      rw [f11] at e65
      clear hA hd hu o10
      go_step
      exact hK _ _ (Kp.refl _ _) rfl
  · intro vs W hW hp
    rw [show putAll vs (opsOf 12 Tryd.f6) 0 a = putD [(54, vs 0), (55, vs 1), (56, vs 2), (57, vs 3), (58, vs 4), (59, vs 5), (60, vs 6), (61, vs 7), (62, vs 8), (63, vs 9), (64, vs 10), (65, vs 11), (66, vs 12)] a from by kernel_rfl]
    exact hend _ W (same_putD _ a) hW (sl_putD _ a 66 _ (by rw [show vs 12 = _ from hp 12 (Nat.le_of_ble_eq_true (by kernel_rfl))]; kernel_rfl))
-- END shl12c
-- REG shl14
set_option maxRecDepth 100000 in
set_option maxHeartbeats 2000000 in
theorem shl_r14 {Q : Exit → Act → World → Prop} {a : Act} {w : World} (w0 : World) (ad : Addr) (k n c : Nat) (hk : k < n) (nm : ByteArray) (Ak : Option Addr) (m ck : Nat) (hc : ∀ j u, ([.string nm, .slice Ak m ck] : List Value)[j]? = some u → w.cell? ((ad.add (k * 2)).add j) = some u) (u : Value) (q : Nat) (hq : q ≤ 1000) (xs : List Value) (L : List Res) (S : Held w0 w (rowR 42 2 u q xs :: L)) (hsz : a.tmps.size = 161) (o1 : Sl a 1 (.slice (some ad) n c)) (o7 : Sl a 7 (u)) (o8 : Sl a 8 (.int .i64 ((k : Nat) : Int)))
    (hend : ∀ (a' : Act) (W : World), Same a a' [67, 68, 69, 70, 71, 72, 73, 7] → (∃ v2, Sl a' 7 v2 ∧ Held w0 W (rowR 42 2 v2 (q + 1) (xs ++ [.string nm, .slice Ak m ck]) :: L)) → Q .normal a' W) : (Code.region 14 (opsOf 14 Tryd.f6).toArray false).wp Tryd.prog Q a w := by
  refine wp_region_lit (l := (opsOf 14 Tryd.f6)) ?_
  conv => arg 4; whnf
  unfold Sl at o1 o7 o8
  have S := Lib.hid S
  have h0 : 0 ≤ (k : Int) := by omega
  have h1 : (k : Int) < (n : Int) := by omega
  have HC := Lib.hid hc
  have HI := Lib.hid Tryd.infoKeyP
  clear hc
  have hb1 : Hid (q + 1 ≤ maxLen ∧ (q + 1) * 40 ≤ 140737488355328) := Lib.hid (by unfold maxLen; omega)
  clear hq
  go_wp2_with (first
    | (refine wpList_load_agg rfl 42 (.tmp 70) rfl (ad.add (k * 2)) (by simp [Act.eval, Act.put, hsz]) [.string nm, .slice Ak m ck] _ HC.out Tryd.underlying42 rfl (by exact HI.out) ?_)
    | (refine wpList_keys1 rfl 46 42 (.tmp 71) rfl nm Ak m ck (by simp [Act.eval, Act.put, hsz]) ?_; have S2 := Lib.hid ((S.out.newBlk 42 #[.string nm, .slice Ak m ck]).pull 1 rfl); have HR : Hid (Rd (w.alloc (.cells #[.string nm, .slice Ak m ck] 42)) 2 (.slice (some ⟨w.heap.size, 0, none⟩) 1 1) 1 [.string nm, .slice Ak m ck]) := Lib.hid (Rd.of_own (ow_new w 42 2 1 #[.string nm, .slice Ak m ck] rfl (by decide))))
    | (at_builtin; refine wpList_appH rfl (.tmp 67) (.tmp 72) 46 42 rfl Tryd.infoKeyZ Tryd.underlying46 rfl (by decide) u q xs (by simp [Act.eval, Act.put, hsz]) S2.out (.slice (some ⟨w.heap.size, 0, none⟩) 1 1) 1 [.string nm, .slice Ak m ck] (by simp [Act.eval, Act.put, hsz]) HR.out (by intro x hx; simp at hx; rcases hx with rfl | rfl <;> rfl) hb1.out.1 hb1.out.2 ?_; intro v2 w2 S3; have S3 := Lib.hid S3))
  try simp only [Act.put]
  exact hend _ _ (by repeat (first | (with_reducible refine same_set (by decide) ?_) | (with_reducible exact same_nil))) (⟨v2, (by unfold Sl; simp [hsz]), S3.out.some_of (List.Sublist.cons_cons _ (List.sublist_append_right [_] _))⟩)
-- END shl14
-- REG shl15
set_option maxRecDepth 100000 in
set_option maxHeartbeats 2000000 in
theorem shl_r15 {Q : Exit → Act → World → Prop} {a : Act} {w : World} (w0 : World) (g1 g4 : Nat) (co cn : Array Value) (hco : co.size = 34) (hcn : cn.size = 34) (h1 : ∀ u, u ∈ cn.toList → u.oneCell' = true) (L : List Res) (S : Held w0 w (blkR g1 36 co :: blkR g4 36 cn :: L)) (hsz : a.tmps.size = 161) (o5 : Sl a 5 (.pointer (some ⟨g1, 0, none⟩))) (o9 : Sl a 9 (.pointer (some ⟨g4, 0, none⟩)))
    (hend : ∀ (a' : Act) (W : World), Same a a' [74] → (Held w0 W (blkR g1 36 cn :: blkR g4 36 cn :: L)) → Q .normal a' W) : (Code.region 15 (opsOf 15 Tryd.f6).toArray false).wp Tryd.prog Q a w := by
  refine wp_region_lit (l := (opsOf 15 Tryd.f6)) ?_
  conv => arg 4; whnf
  unfold Sl at o5 o9
  have S1 := Lib.hid S
  clear S
  have hz2 := Lib.hid hcn
  have hzo := Lib.hid hco
  have HO := Lib.hid h1
  clear hco hcn h1
  go_wp2_with (first
    | (refine wpList_load_blk rfl 36 (.tmp 9) rfl g4 (by simp [Act.eval, Act.put, hsz, o9]) 36 _ (S1.out.at_ (l1 := [_])) _ Tryd.underlying36 rfl (by rw [hz2.out]; exact Tryd.infoNote) ?_)
    | (refine wpList_store_blk rfl 36 (.tmp 5) (.tmp 74) rfl g1 (by simp [Act.eval, Act.put, hsz, o5]) cn (by simp [Act.eval, Act.put, hsz]) 36 _ (S1.out.at_ (l1 := [])) (by rw [hz2.out]; exact Tryd.infoNote) (by rw [hz2.out, hzo.out]) HO.out ?_; intro w7 b7 k7; have S7 := Lib.hid (Held.setBlk (l1 := []) S1.out b7 k7); clear b7 k7))
  try simp only [Act.put]
  exact hend _ _ (by repeat (first | (with_reducible refine same_set (by decide) ?_) | (with_reducible exact same_nil))) (S7.out)
-- END shl15
-- REG shl16
set_option maxRecDepth 100000 in
set_option maxHeartbeats 2000000 in
theorem shl_r16 {Q : Exit → Act → World → Prop} {a : Act} {w : World} (LDw : LD w) (z : Int) (hz : -9223372036854775808 ≤ z ∧ z ≤ 9223372036854775807) (h : List UInt8) (hh : h.length = 32) (l : List SigD) (hok : SgOk l) (hll : l.length ≤ 64) (A : Option Addr) (c : Nat) (g5 : Nat) (hb : Blk w g5 36 (ntA z h (.slice A l.length c))) (hv : Rd w 33 (.slice A l.length c) l.length (sgsC l)) (Ak : Option Addr) (ck : Nat) (ks : List KeyD) (hks : ks.length ≤ 100) (hnm : ∀ k, k ∈ ks → k.1.length ≤ maxLen) (us : List Value) (hkv : KysF w (.slice Ak ks.length ck) us ks) (Inv : InvH z h l ks) (hsz : a.tmps.size = 161) (o5 : Sl a 5 (.pointer (some ⟨g5, 0, none⟩))) (o7 : Sl a 7 (.slice Ak ks.length ck))
    (hend : ∀ (a' : Act) (W : World), Same a a' [75, 76, 77, 78, 79, 80, 81, 82, 83, 84, 85, 86, 87, 88, 89, 90, 91, 92, 93, 94, 95, 96, 97] → Kp [] w W → Sl a' 97 (.bool false) → Q .normal a' W) : (Code.region 16 (opsOf 16 Tryd.f6).toArray false).wp Tryd.prog Q a w := by
  have hap : apartB (opsOf 16 Tryd.f6) = true := by kernel_rfl
  refine wp_region_invS (l := (opsOf 16 Tryd.f6)) (fun i v W => match i with | 0 => v = .agg (ntA z h (.slice A l.length c)) | 1 => v = .slice Ak ks.length ck | 2 => ∃ A c, v = .slice A ks.length c | 3 => v = .int .i64 (ks.length : Int) | 4 => v = .slice Ak ks.length ck | 5 => v = .int .i64 (ks.length : Int) | 6 => v = .bool false | 7 => v = .bool false | 8 => v = .agg (ntA z h (.slice A l.length c)) | 9 => v = .slice Ak ks.length ck | 10 => v = .int .i64 (ks.length : Int) | 11 => v = .slice Ak ks.length ck | 12 => v = .bool true | 13 => v = .bool false | 14 => v = .bool false | 15 => v = .bool false | 16 => v = .agg (ntA z h (.slice A l.length c)) | 17 => v = .slice Ak ks.length ck | 18 => v = .int .i64 (ks.length : Int) | 19 => v = .int .i64 ((ks.length : Int) + 1) | 20 => v = .slice Ak ks.length ck | 21 => v = .bool false | 22 => v = .bool false | _ => True) hap ?_ ?_ ?_
  · intro i v W W' h k
    rcases i with _ | i
    · exact h
    rcases i with _ | i
    · exact h
    rcases i with _ | i
    · exact h
    rcases i with _ | i
    · exact h
    rcases i with _ | i
    · exact h
    rcases i with _ | i
    · exact h
    rcases i with _ | i
    · exact h
    rcases i with _ | i
    · exact h
    rcases i with _ | i
    · exact h
    rcases i with _ | i
    · exact h
    rcases i with _ | i
    · exact h
    rcases i with _ | i
    · exact h
    rcases i with _ | i
    · exact h
    rcases i with _ | i
    · exact h
    rcases i with _ | i
    · exact h
    rcases i with _ | i
    · exact h
    rcases i with _ | i
    · exact h
    rcases i with _ | i
    · exact h
    rcases i with _ | i
    · exact h
    rcases i with _ | i
    · exact h
    rcases i with _ | i
    · exact h
    rcases i with _ | i
    · exact h
    rcases i with _ | i
    · exact h
    exact h
  · refine ⟨?_, ?_, ?_, ?_, ?_, ?_, ?_, ?_, ?_, ?_, ?_, ?_, ?_, ?_, ?_, ?_, ?_, ?_, ?_, ?_, ?_, ?_, ?_, trivial⟩
    · intro vs A' W hA hW hd hu K hK
      refine wpOp_free _ rfl rfl ?_
      conv => arg 2; whnf
      have e5 : A'.tmps[5]?.getD undef = .pointer (some ⟨g5, 0, none⟩) := slot_out hA hap (Nat.lt_of_lt_of_eq (Nat.le_of_ble_eq_true rfl : 5 < 161) hsz.symm) (by kernel_rfl) o5
      clear hA hd hu o5 o7
      refine op_runs (v := .agg (ntA z h (.slice A l.length c))) (w' := W) (exec_load rfl (by simpa [Act.eval] using e5) (run_loadAt_agg W (⟨g5, 0, none⟩) 36 (ntA z h (.slice A l.length c)).toList _ (Blk.agg (hb.kp hW (by simp))) Tryd.underlying36 rfl (by rw [Array.length_toList, ntA_size hh]; exact Tryd.infoNote))) ?_
      exact hK _ _ (Kp.refl _ _) rfl
    · intro vs A' W hA hW hd hu K hK
      refine wpOp_free _ rfl rfl ?_
      conv => arg 2; whnf
      have e7 : A'.tmps[7]?.getD undef = .slice Ak ks.length ck := slot_out hA hap (Nat.lt_of_lt_of_eq (Nat.le_of_ble_eq_true rfl : 7 < 161) hsz.symm) (by kernel_rfl) o7
      clear hA hd hu o5 o7
      go_step
      exact hK _ _ (Kp.refl _ _) rfl
    · intro vs A' W hA hW hd hu K hK
      refine wpOp_free _ rfl rfl ?_
      conv => arg 2; whnf
      have f0 : vs 0 = .agg (ntA z h (.slice A l.length c)) := hd 0 (by kernel_rfl)
      have e75 : A'.tmps[75]?.getD undef = vs 0 := slot_in hA hap (Nat.lt_of_lt_of_eq (Nat.le_of_ble_eq_true rfl : 75 < 161) hsz.symm) (by kernel_rfl)
      rw [f0] at e75
      have f1 : vs 1 = .slice Ak ks.length ck := hd 1 (by kernel_rfl)
      have e76 : A'.tmps[76]?.getD undef = vs 1 := slot_in hA hap (Nat.lt_of_lt_of_eq (Nat.le_of_ble_eq_true rfl : 76 < 161) hsz.symm) (by kernel_rfl)
      rw [f1] at e76
      clear hA hd hu o5 o7
      go_step
      refine (sright_any z hz h hh A c l hok (by omega) Ak ck ks (by omega) hnm us W (LDw.kp hW) (rd_old hv hW) (hkv.kp0 hW)).mono ?_
      rintro e w' ⟨u, rfl, H⟩
      obtain ⟨A2, c2, hu, -, -⟩ := ow_form (show Ow w' 9 1 u _ _ from H.at_ (l1 := []))
      rw [Inv.right] at hu
      exact hK _ _ H.k ⟨A2, c2, hu⟩
    · intro vs A' W hA hW hd hu K hK
      refine wpOp_free _ rfl rfl ?_
      conv => arg 2; whnf
      have f2 : ∃ A c, (vs 2) = .slice A ks.length c := hd 2 (by kernel_rfl)
      have e77 : A'.tmps[77]?.getD undef = vs 2 := slot_in hA hap (Nat.lt_of_lt_of_eq (Nat.le_of_ble_eq_true rfl : 77 < 161) hsz.symm) (by kernel_rfl)
      clear hA hd hu o5 o7
      obtain ⟨A1, c1, hv1⟩ := f2
      rw [hv1] at e77
      go_step
      exact hK _ _ (Kp.refl _ _) rfl
    · intro vs A' W hA hW hd hu K hK
      refine wpOp_free _ rfl rfl ?_
      conv => arg 2; whnf
      have e7 : A'.tmps[7]?.getD undef = .slice Ak ks.length ck := slot_out hA hap (Nat.lt_of_lt_of_eq (Nat.le_of_ble_eq_true rfl : 7 < 161) hsz.symm) (by kernel_rfl) o7
      clear hA hd hu o5 o7
      go_step
      exact hK _ _ (Kp.refl _ _) rfl
    · intro vs A' W hA hW hd hu K hK
      refine wpOp_free _ rfl rfl ?_
      conv => arg 2; whnf
      have f4 : vs 4 = .slice Ak ks.length ck := hd 4 (by kernel_rfl)
      have e79 : A'.tmps[79]?.getD undef = vs 4 := slot_in hA hap (Nat.lt_of_lt_of_eq (Nat.le_of_ble_eq_true rfl : 79 < 161) hsz.symm) (by kernel_rfl)
      rw [f4] at e79
      clear hA hd hu o5 o7
      go_step
      exact hK _ _ (Kp.refl _ _) rfl
    · intro vs A' W hA hW hd hu K hK
      refine wpOp_free _ rfl rfl ?_
      conv => arg 2; whnf
      have f3 : vs 3 = .int .i64 (ks.length : Int) := hd 3 (by kernel_rfl)
      have e78 : A'.tmps[78]?.getD undef = vs 3 := slot_in hA hap (Nat.lt_of_lt_of_eq (Nat.le_of_ble_eq_true rfl : 78 < 161) hsz.symm) (by kernel_rfl)
      rw [f3] at e78
      have f5 : vs 5 = .int .i64 (ks.length : Int) := hd 5 (by kernel_rfl)
      have e80 : A'.tmps[80]?.getD undef = vs 5 := slot_in hA hap (Nat.lt_of_lt_of_eq (Nat.le_of_ble_eq_true rfl : 80 < 161) hsz.symm) (by kernel_rfl)
      rw [f5] at e80
      clear hA hd hu o5 o7
      go_step
      exact hK _ _ (Kp.refl _ _) (by first | rfl | simp)
    · intro vs A' W hA hW hd hu K hK
      refine wpOp_free _ rfl rfl ?_
      conv => arg 2; whnf
      have f6 : vs 6 = .bool false := hd 6 (by kernel_rfl)
      have e81 : A'.tmps[81]?.getD undef = vs 6 := slot_in hA hap (Nat.lt_of_lt_of_eq (Nat.le_of_ble_eq_true rfl : 81 < 161) hsz.symm) (by kernel_rfl)
      rw [f6] at e81
      clear hA hd hu o5 o7
      go_step
      exact hK _ _ (Kp.refl _ _) rfl
    · intro vs A' W hA hW hd hu K hK
      have f7 : vs 7 = .bool false := hd 7 (by kernel_rfl)
      have e82 : A'.tmps[82]?.getD undef = vs 7 := slot_in hA hap (Nat.lt_of_lt_of_eq (Nat.le_of_ble_eq_true rfl : 82 < 161) hsz.symm) (by kernel_rfl)
      rw [f7] at e82
      refine wpOp_go _ rfl 7 82 false rfl rfl e82 ?_
      conv => arg 2; whnf
      have e5 : A'.tmps[5]?.getD undef = .pointer (some ⟨g5, 0, none⟩) := slot_out hA hap (Nat.lt_of_lt_of_eq (Nat.le_of_ble_eq_true rfl : 5 < 161) hsz.symm) (by kernel_rfl) o5
      clear hA hd hu o5 o7
      refine op_runs (v := .agg (ntA z h (.slice A l.length c))) (w' := W) (exec_load rfl (by simpa [Act.eval] using e5) (run_loadAt_agg W (⟨g5, 0, none⟩) 36 (ntA z h (.slice A l.length c)).toList _ (Blk.agg (hb.kp hW (by simp))) Tryd.underlying36 rfl (by rw [Array.length_toList, ntA_size hh]; exact Tryd.infoNote))) ?_
      exact hK _ _ (Kp.refl _ _) rfl
    · intro vs A' W hA hW hd hu K hK
      have f7 : vs 7 = .bool false := hd 7 (by kernel_rfl)
      have e82 : A'.tmps[82]?.getD undef = vs 7 := slot_in hA hap (Nat.lt_of_lt_of_eq (Nat.le_of_ble_eq_true rfl : 82 < 161) hsz.symm) (by kernel_rfl)
      rw [f7] at e82
      refine wpOp_go _ rfl 7 82 false rfl rfl e82 ?_
      conv => arg 2; whnf
      have e7 : A'.tmps[7]?.getD undef = .slice Ak ks.length ck := slot_out hA hap (Nat.lt_of_lt_of_eq (Nat.le_of_ble_eq_true rfl : 7 < 161) hsz.symm) (by kernel_rfl) o7
      clear hA hd hu o5 o7
      go_step
      exact hK _ _ (Kp.refl _ _) rfl
    · intro vs A' W hA hW hd hu K hK
      have f7 : vs 7 = .bool false := hd 7 (by kernel_rfl)
      have e82 : A'.tmps[82]?.getD undef = vs 7 := slot_in hA hap (Nat.lt_of_lt_of_eq (Nat.le_of_ble_eq_true rfl : 82 < 161) hsz.symm) (by kernel_rfl)
      rw [f7] at e82
      refine wpOp_go _ rfl 7 82 false rfl rfl e82 ?_
      conv => arg 2; whnf
      have f9 : vs 9 = .slice Ak ks.length ck := hd 9 (by kernel_rfl)
      have e84 : A'.tmps[84]?.getD undef = vs 9 := slot_in hA hap (Nat.lt_of_lt_of_eq (Nat.le_of_ble_eq_true rfl : 84 < 161) hsz.symm) (by kernel_rfl)
      rw [f9] at e84
      clear hA hd hu o5 o7
      go_step
      exact hK _ _ (Kp.refl _ _) rfl
    · intro vs A' W hA hW hd hu K hK
      have f7 : vs 7 = .bool false := hd 7 (by kernel_rfl)
      have e82 : A'.tmps[82]?.getD undef = vs 7 := slot_in hA hap (Nat.lt_of_lt_of_eq (Nat.le_of_ble_eq_true rfl : 82 < 161) hsz.symm) (by kernel_rfl)
      rw [f7] at e82
      refine wpOp_go _ rfl 7 82 false rfl rfl e82 ?_
      conv => arg 2; whnf
      have e7 : A'.tmps[7]?.getD undef = .slice Ak ks.length ck := slot_out hA hap (Nat.lt_of_lt_of_eq (Nat.le_of_ble_eq_true rfl : 7 < 161) hsz.symm) (by kernel_rfl) o7
      clear hA hd hu o5 o7
      go_step
      exact hK _ _ (Kp.refl _ _) rfl
    · intro vs A' W hA hW hd hu K hK
      have f7 : vs 7 = .bool false := hd 7 (by kernel_rfl)
      have e82 : A'.tmps[82]?.getD undef = vs 7 := slot_in hA hap (Nat.lt_of_lt_of_eq (Nat.le_of_ble_eq_true rfl : 82 < 161) hsz.symm) (by kernel_rfl)
      rw [f7] at e82
      refine wpOp_go _ rfl 7 82 false rfl rfl e82 ?_
      conv => arg 2; whnf
      have f8 : vs 8 = .agg (ntA z h (.slice A l.length c)) := hd 8 (by kernel_rfl)
      have e83 : A'.tmps[83]?.getD undef = vs 8 := slot_in hA hap (Nat.lt_of_lt_of_eq (Nat.le_of_ble_eq_true rfl : 83 < 161) hsz.symm) (by kernel_rfl)
      rw [f8] at e83
      have f10 : vs 10 = .int .i64 (ks.length : Int) := hd 10 (by kernel_rfl)
      have e85 : A'.tmps[85]?.getD undef = vs 10 := slot_in hA hap (Nat.lt_of_lt_of_eq (Nat.le_of_ble_eq_true rfl : 85 < 161) hsz.symm) (by kernel_rfl)
      rw [f10] at e85
      have f11 : vs 11 = .slice Ak ks.length ck := hd 11 (by kernel_rfl)
      have e86 : A'.tmps[86]?.getD undef = vs 11 := slot_in hA hap (Nat.lt_of_lt_of_eq (Nat.le_of_ble_eq_true rfl : 86 < 161) hsz.symm) (by kernel_rfl)
      rw [f11] at e86
      clear hA hd hu o5 o7
      go_step
      refine (senough_any z hz h hh A c l hok (by omega) ((ks.length : Int)) Ak ck ks (by omega) hnm us W (LDw.kp hW) (rd_old hv hW) (hkv.kp0 hW)).mono ?_
      rintro e w' ⟨rfl, k⟩
      exact hK _ _ k (congrArg Value.bool (by rw [Inv.enough, decide_eq_true (by omega), decide_eq_true (by omega)] <;> rfl))
    · intro vs A' W hA hW hd hu K hK
      have f7 : vs 7 = .bool false := hd 7 (by kernel_rfl)
      have e82 : A'.tmps[82]?.getD undef = vs 7 := slot_in hA hap (Nat.lt_of_lt_of_eq (Nat.le_of_ble_eq_true rfl : 82 < 161) hsz.symm) (by kernel_rfl)
      rw [f7] at e82
      refine wpOp_go _ rfl 7 82 false rfl rfl e82 ?_
      conv => arg 2; whnf
      have f12 : vs 12 = .bool true := hd 12 (by kernel_rfl)
      have e87 : A'.tmps[87]?.getD undef = vs 12 := slot_in hA hap (Nat.lt_of_lt_of_eq (Nat.le_of_ble_eq_true rfl : 87 < 161) hsz.symm) (by kernel_rfl)
      rw [f12] at e87
      clear hA hd hu o5 o7
      go_step
      exact hK _ _ (Kp.refl _ _) rfl
    · intro vs A' W hA hW hd hu K hK
      refine wpOp_free _ rfl rfl ?_
      conv => arg 2; whnf
      have f7 : vs 7 = .bool false := hd 7 (by kernel_rfl)
      have e82 : A'.tmps[82]?.getD undef = vs 7 := slot_in hA hap (Nat.lt_of_lt_of_eq (Nat.le_of_ble_eq_true rfl : 82 < 161) hsz.symm) (by kernel_rfl)
      rw [f7] at e82
      have f13 : vs 13 = .bool false := hd 13 (by kernel_rfl)
      have e88 : A'.tmps[88]?.getD undef = vs 13 := slot_in hA hap (Nat.lt_of_lt_of_eq (Nat.le_of_ble_eq_true rfl : 88 < 161) hsz.symm) (by kernel_rfl)
      rw [f13] at e88
      clear hA hd hu o5 o7
      go_step
      exact hK _ _ (Kp.refl _ _) rfl
    · intro vs A' W hA hW hd hu K hK
      refine wpOp_free _ rfl rfl ?_
      conv => arg 2; whnf
      have f14 : vs 14 = .bool false := hd 14 (by kernel_rfl)
      have e89 : A'.tmps[89]?.getD undef = vs 14 := slot_in hA hap (Nat.lt_of_lt_of_eq (Nat.le_of_ble_eq_true rfl : 89 < 161) hsz.symm) (by kernel_rfl)
      rw [f14] at e89
      clear hA hd hu o5 o7
      go_step
      exact hK _ _ (Kp.refl _ _) rfl
    · intro vs A' W hA hW hd hu K hK
      have f15 : vs 15 = .bool false := hd 15 (by kernel_rfl)
      have e90 : A'.tmps[90]?.getD undef = vs 15 := slot_in hA hap (Nat.lt_of_lt_of_eq (Nat.le_of_ble_eq_true rfl : 90 < 161) hsz.symm) (by kernel_rfl)
      rw [f15] at e90
      refine wpOp_go _ rfl 15 90 false rfl rfl e90 ?_
      conv => arg 2; whnf
      have e5 : A'.tmps[5]?.getD undef = .pointer (some ⟨g5, 0, none⟩) := slot_out hA hap (Nat.lt_of_lt_of_eq (Nat.le_of_ble_eq_true rfl : 5 < 161) hsz.symm) (by kernel_rfl) o5
      clear hA hd hu o5 o7
      refine op_runs (v := .agg (ntA z h (.slice A l.length c))) (w' := W) (exec_load rfl (by simpa [Act.eval] using e5) (run_loadAt_agg W (⟨g5, 0, none⟩) 36 (ntA z h (.slice A l.length c)).toList _ (Blk.agg (hb.kp hW (by simp))) Tryd.underlying36 rfl (by rw [Array.length_toList, ntA_size hh]; exact Tryd.infoNote))) ?_
      exact hK _ _ (Kp.refl _ _) rfl
    · intro vs A' W hA hW hd hu K hK
      have f15 : vs 15 = .bool false := hd 15 (by kernel_rfl)
      have e90 : A'.tmps[90]?.getD undef = vs 15 := slot_in hA hap (Nat.lt_of_lt_of_eq (Nat.le_of_ble_eq_true rfl : 90 < 161) hsz.symm) (by kernel_rfl)
      rw [f15] at e90
      refine wpOp_go _ rfl 15 90 false rfl rfl e90 ?_
      conv => arg 2; whnf
      have e7 : A'.tmps[7]?.getD undef = .slice Ak ks.length ck := slot_out hA hap (Nat.lt_of_lt_of_eq (Nat.le_of_ble_eq_true rfl : 7 < 161) hsz.symm) (by kernel_rfl) o7
      clear hA hd hu o5 o7
      go_step
      exact hK _ _ (Kp.refl _ _) rfl
    · intro vs A' W hA hW hd hu K hK
      have f15 : vs 15 = .bool false := hd 15 (by kernel_rfl)
      have e90 : A'.tmps[90]?.getD undef = vs 15 := slot_in hA hap (Nat.lt_of_lt_of_eq (Nat.le_of_ble_eq_true rfl : 90 < 161) hsz.symm) (by kernel_rfl)
      rw [f15] at e90
      refine wpOp_go _ rfl 15 90 false rfl rfl e90 ?_
      conv => arg 2; whnf
      have f17 : vs 17 = .slice Ak ks.length ck := hd 17 (by kernel_rfl)
      have e92 : A'.tmps[92]?.getD undef = vs 17 := slot_in hA hap (Nat.lt_of_lt_of_eq (Nat.le_of_ble_eq_true rfl : 92 < 161) hsz.symm) (by kernel_rfl)
      rw [f17] at e92
      clear hA hd hu o5 o7
      go_step
      exact hK _ _ (Kp.refl _ _) rfl
    · intro vs A' W hA hW hd hu K hK
      have f15 : vs 15 = .bool false := hd 15 (by kernel_rfl)
      have e90 : A'.tmps[90]?.getD undef = vs 15 := slot_in hA hap (Nat.lt_of_lt_of_eq (Nat.le_of_ble_eq_true rfl : 90 < 161) hsz.symm) (by kernel_rfl)
      rw [f15] at e90
      refine wpOp_go _ rfl 15 90 false rfl rfl e90 ?_
      conv => arg 2; whnf
      have f18 : vs 18 = .int .i64 (ks.length : Int) := hd 18 (by kernel_rfl)
      have e93 : A'.tmps[93]?.getD undef = vs 18 := slot_in hA hap (Nat.lt_of_lt_of_eq (Nat.le_of_ble_eq_true rfl : 93 < 161) hsz.symm) (by kernel_rfl)
      rw [f18] at e93
      clear hA hd hu o5 o7
      have hw : wrap64 ((ks.length : Int) + 1) = (ks.length : Int) + 1 := by unfold wrap64; omega
      go_step
      exact hK _ _ (Kp.refl _ _) rfl
    · intro vs A' W hA hW hd hu K hK
      have f15 : vs 15 = .bool false := hd 15 (by kernel_rfl)
      have e90 : A'.tmps[90]?.getD undef = vs 15 := slot_in hA hap (Nat.lt_of_lt_of_eq (Nat.le_of_ble_eq_true rfl : 90 < 161) hsz.symm) (by kernel_rfl)
      rw [f15] at e90
      refine wpOp_go _ rfl 15 90 false rfl rfl e90 ?_
      conv => arg 2; whnf
      have e7 : A'.tmps[7]?.getD undef = .slice Ak ks.length ck := slot_out hA hap (Nat.lt_of_lt_of_eq (Nat.le_of_ble_eq_true rfl : 7 < 161) hsz.symm) (by kernel_rfl) o7
      clear hA hd hu o5 o7
      go_step
      exact hK _ _ (Kp.refl _ _) rfl
    · intro vs A' W hA hW hd hu K hK
      have f15 : vs 15 = .bool false := hd 15 (by kernel_rfl)
      have e90 : A'.tmps[90]?.getD undef = vs 15 := slot_in hA hap (Nat.lt_of_lt_of_eq (Nat.le_of_ble_eq_true rfl : 90 < 161) hsz.symm) (by kernel_rfl)
      rw [f15] at e90
      refine wpOp_go _ rfl 15 90 false rfl rfl e90 ?_
      conv => arg 2; whnf
      have f16 : vs 16 = .agg (ntA z h (.slice A l.length c)) := hd 16 (by kernel_rfl)
      have e91 : A'.tmps[91]?.getD undef = vs 16 := slot_in hA hap (Nat.lt_of_lt_of_eq (Nat.le_of_ble_eq_true rfl : 91 < 161) hsz.symm) (by kernel_rfl)
      rw [f16] at e91
      have f19 : vs 19 = .int .i64 ((ks.length : Int) + 1) := hd 19 (by kernel_rfl)
      have e94 : A'.tmps[94]?.getD undef = vs 19 := slot_in hA hap (Nat.lt_of_lt_of_eq (Nat.le_of_ble_eq_true rfl : 94 < 161) hsz.symm) (by kernel_rfl)
      rw [f19] at e94
      have f20 : vs 20 = .slice Ak ks.length ck := hd 20 (by kernel_rfl)
      have e95 : A'.tmps[95]?.getD undef = vs 20 := slot_in hA hap (Nat.lt_of_lt_of_eq (Nat.le_of_ble_eq_true rfl : 95 < 161) hsz.symm) (by kernel_rfl)
      rw [f20] at e95
      clear hA hd hu o5 o7
      go_step
      refine (senough_any z hz h hh A c l hok (by omega) ((ks.length : Int) + 1) Ak ck ks (by omega) hnm us W (LDw.kp hW) (rd_old hv hW) (hkv.kp0 hW)).mono ?_
      rintro e w' ⟨rfl, k⟩
      exact hK _ _ k (congrArg Value.bool (by rw [Inv.enough, decide_eq_false (show ¬ (ks.length : Int) + 1 ≤ (ks.length : Int) by omega), Bool.and_false] <;> rfl))
    · intro vs A' W hA hW hd hu K hK
      refine wpOp_free _ rfl rfl ?_
      conv => arg 2; whnf
      have f15 : vs 15 = .bool false := hd 15 (by kernel_rfl)
      have e90 : A'.tmps[90]?.getD undef = vs 15 := slot_in hA hap (Nat.lt_of_lt_of_eq (Nat.le_of_ble_eq_true rfl : 90 < 161) hsz.symm) (by kernel_rfl)
      rw [f15] at e90
      have f21 : vs 21 = .bool false := hd 21 (by kernel_rfl)
      have e96 : A'.tmps[96]?.getD undef = vs 21 := slot_in hA hap (Nat.lt_of_lt_of_eq (Nat.le_of_ble_eq_true rfl : 96 < 161) hsz.symm) (by kernel_rfl)
      rw [f21] at e96
      clear hA hd hu o5 o7
      go_step
      exact hK _ _ (Kp.refl _ _) rfl
  · intro vs W hW hp
    rw [show putAll vs (opsOf 16 Tryd.f6) 0 a = putD [(75, vs 0), (76, vs 1), (77, vs 2), (78, vs 3), (79, vs 4), (80, vs 5), (81, vs 6), (82, vs 7), (83, vs 8), (84, vs 9), (85, vs 10), (86, vs 11), (87, vs 12), (88, vs 13), (89, vs 14), (90, vs 15), (91, vs 16), (92, vs 17), (93, vs 18), (94, vs 19), (95, vs 20), (96, vs 21), (97, vs 22)] a from by kernel_rfl]
    exact hend _ W (same_putD _ a) hW (sl_putD _ a 97 _ (by rw [show vs 22 = _ from hp 22 (Nat.le_of_ble_eq_true (by kernel_rfl))]; kernel_rfl))
-- END shl16
-- REG shl9
set_option maxRecDepth 100000 in
set_option maxHeartbeats 2000000 in
theorem shl_r9 {Q : Exit → Act → World → Prop} {a : Act} {w : World} (k : Nat) (hk : k < 9223372036854775807) (hsz : a.tmps.size = 161) (o8 : Sl a 8 (.int .i64 ((k : Nat) : Int)))
    (hend : ∀ (a' : Act), Same a a' [40, 41, 8] → Sl a' 8 (.int .i64 ((k + 1 : Nat) : Int)) → Q .normal a' (w)) : (Code.region 9 (opsOf 9 Tryd.f6).toArray false).wp Tryd.prog Q a w := by
  refine wp_region_lit (l := (opsOf 9 Tryd.f6)) ?_
  conv => arg 4; whnf
  unfold Sl at o8
  have hw : wrap64 ((k : Int) + 1) = (k : Int) + 1 := by unfold wrap64; omega
  go_wp2_with fail
  try simp only [Act.put]
  exact hend _ (by repeat (first | (with_reducible refine same_set (by decide) ?_) | (with_reducible exact same_nil))) (by unfold Sl; first | (simp [hsz]; done) | (simp [hsz]; omega))
-- END shl9
-- REG shl21
set_option maxRecDepth 100000 in
set_option maxHeartbeats 2000000 in
theorem shl_r21 {Q : Exit → Act → World → Prop} {a : Act} {w : World} (g5 : Nat) (ca : Array Value) (hcz : ca.size = 34) (hb : Blk w g5 36 ca) (t : ByteArray) (e0 : Int) (HT : Calls Tryd.prog 34 #[.agg ca] w fun e w' => e = .returned (.tuple #[.string t, .int .i64 e0]) ∧ Kp [] w w') (hsz : a.tmps.size = 161) (o5 : Sl a 5 (.pointer (some ⟨g5, 0, none⟩)))
    (hend : ∀ (a' : Act) (W : World), Same a a' [111, 112, 110, 113, 114, 13, 14] → Sl a' 13 (.string t) → Sl a' 14 (.int .i64 e0) → (Kp [] w W) → Q .normal a' W) : (Code.region 21 (opsOf 21 Tryd.f6).toArray false).wp Tryd.prog Q a w := by
  refine wp_region_lit (l := (opsOf 21 Tryd.f6)) ?_
  conv => arg 4; whnf
  unfold Sl at o5
  have HB := Lib.hid hb
  have HT := Lib.hid HT
  have hz := Lib.hid hcz
  clear hb hcz
  go_wp2_with (refine wpList_load_blk rfl 36 (.tmp 5) rfl g5 (by simp [Act.eval, Act.put, hsz, o5]) 36 _ HB.out _ Tryd.underlying36 rfl (by rw [hz.out]; exact Tryd.infoNote) ?_)
  refine HT.out.mono ?_
  rintro e w1 ⟨rfl, k1⟩
  have k1 := Lib.hid k1
  go_wp2_with fail
  try simp only [Act.put]
  exact hend _ _ (by repeat (first | (with_reducible refine same_set (by decide) ?_) | (with_reducible exact same_nil))) (by unfold Sl; first | (simp [hsz]; done) | (simp [hsz]; omega)) (by unfold Sl; first | (simp [hsz]; done) | (simp [hsz]; omega)) (k1.out)
-- END shl21
-- REG shl23
set_option maxRecDepth 100000 in
set_option maxHeartbeats 2000000 in
theorem shl_r23 {Q : Exit → Act → World → Prop} {a : Act} {w : World} (g5 : Nat) (ca : Array Value) (hcz : ca.size = 34) (hb : Blk w g5 36 ca) (t : ByteArray) (e0 : Int) (HT : Calls Tryd.prog 34 #[.agg ca] w fun e w' => e = .returned (.tuple #[.string t, .int .i64 e0]) ∧ Kp [] w w') (hsz : a.tmps.size = 161) (o15 : Sl a 15 (.pointer (some ⟨g5, 0, none⟩)))
    (hend : ∀ (a' : Act) (W : World), Same a a' [121, 122, 120, 123, 124, 17, 18] → Sl a' 17 (.string t) → Sl a' 18 (.int .i64 e0) → (Kp [] w W) → Q .normal a' W) : (Code.region 23 (opsOf 23 Tryd.f6).toArray false).wp Tryd.prog Q a w := by
  refine wp_region_lit (l := (opsOf 23 Tryd.f6)) ?_
  conv => arg 4; whnf
  unfold Sl at o15
  have HB := Lib.hid hb
  have HT := Lib.hid HT
  have hz := Lib.hid hcz
  clear hb hcz
  go_wp2_with (refine wpList_load_blk rfl 36 (.tmp 15) rfl g5 (by simp [Act.eval, Act.put, hsz, o15]) 36 _ HB.out _ Tryd.underlying36 rfl (by rw [hz.out]; exact Tryd.infoNote) ?_)
  refine HT.out.mono ?_
  rintro e w1 ⟨rfl, k1⟩
  have k1 := Lib.hid k1
  go_wp2_with fail
  try simp only [Act.put]
  exact hend _ _ (by repeat (first | (with_reducible refine same_set (by decide) ?_) | (with_reducible exact same_nil))) (by unfold Sl; first | (simp [hsz]; done) | (simp [hsz]; omega)) (by unfold Sl; first | (simp [hsz]; done) | (simp [hsz]; omega)) (k1.out)
-- END shl23
-- REG shl24
set_option maxRecDepth 100000 in
set_option maxHeartbeats 2000000 in
theorem shl_r24 {Q : Exit → Act → World → Prop} {a : Act} {w : World} (z : Int) (hz : -9223372036854775808 ≤ z ∧ z ≤ 9223372036854775807) (h : List UInt8) (hh : h.length = 32) (g5 m : Nat) (hm : m ≤ 64) (A Ak : Option Addr) (c ck : Nat) (hb : Blk w g5 36 (ntA z h (.slice A m c))) (t r : List UInt8) (htr : t.length + r.length ≤ 1000000) (hsz : a.tmps.size = 161) (o5 : Sl a 5 (.pointer (some ⟨g5, 0, none⟩))) (o7 : Sl a 7 (.slice Ak m ck)) (o13 : Sl a 13 (.string ⟨(t ++ r).toArray⟩)) (o14 : Sl a 14 (.int .i64 (0 : Int))) (o17 : Sl a 17 (.string ⟨t.toArray⟩)) (o18 : Sl a 18 (.int .i64 (0 : Int)))
    (hend : ∀ (a' : Act) (W : World), Same a a' [125, 126, 127, 128, 129, 130, 131, 132, 133, 134, 135, 136, 137, 138, 139, 140, 141, 142, 143, 144, 145, 146, 147, 148, 149, 150, 151, 152, 153, 154, 155, 156, 157, 158, 159, 160, 4] → Kp [] w W → Sl a' 4 (.bool true) → Q .normal a' W) : (Code.region 24 (opsOf 24 Tryd.f6).toArray false).wp Tryd.prog Q a w := by
  have hap : apartB (opsOf 24 Tryd.f6) = true := by kernel_rfl
  refine wp_region_invS (l := (opsOf 24 Tryd.f6)) (fun i v W => match i with | 0 => v = .int .i64 (0 : Int) | 1 => v = .int .i64 (0 : Int) | 2 => v = .bool true | 3 => v = .bool true | 4 => v = .int .i64 (0 : Int) | 5 => v = .int .i64 (0 : Int) | 6 => v = .bool true | 7 => v = .bool true | 8 => v = .bool true | 9 => v = .string ⟨(t ++ r).toArray⟩ | 10 => v = .int .i64 ((t.length : Int) + (r.length : Int)) | 11 => v = .string ⟨t.toArray⟩ | 12 => v = .int .i64 (t.length : Int) | 13 => v = .bool true | 14 => v = .bool true | 15 => v = .bool true | 16 => v = .string ⟨(t ++ r).toArray⟩ | 17 => v = .string ⟨t.toArray⟩ | 18 => v = .int .i64 (t.length : Int) | 19 => v = .string ⟨t.toArray⟩ | 20 => v = .string ⟨t.toArray⟩ | 21 => v = .bool true | 22 => v = .bool true | 23 => v = .bool true | 24 => v = .pointer (some ⟨g5, 33, none⟩) | 25 => v = .slice A m c | 26 => v = .int .i64 (m : Int) | 27 => v = .slice Ak m ck | 28 => v = .int .i64 (m : Int) | 29 => v = .bool true | 30 => v = .bool true | 31 => v = .bool true | 32 => v = .slice Ak m ck | 33 => v = .int .i64 (m : Int) | 34 => v = .bool true | 35 => v = .bool true | 36 => v = .bool true | _ => True) hap ?_ ?_ ?_
  · intro i v W W' h _
    iterate 37 (rcases i with _ | i; · exact h)
    exact h
  · refine ⟨?_, ?_, ?_, ?_, ?_, ?_, ?_, ?_, ?_, ?_, ?_, ?_, ?_, ?_, ?_, ?_, ?_, ?_, ?_, ?_, ?_, ?_, ?_, ?_, ?_, ?_, ?_, ?_, ?_, ?_, ?_, ?_, ?_, ?_, ?_, ?_, ?_, trivial⟩
    · intro vs A' W hA hW hd hu K hK
      refine wpOp_free _ rfl rfl ?_
      conv => arg 2; whnf
      have e14 : A'.tmps[14]?.getD undef = .int .i64 (0 : Int) := slot_out hA hap (Nat.lt_of_lt_of_eq (Nat.le_of_ble_eq_true rfl : 14 < 161) hsz.symm) (by kernel_rfl) o14
      clear hA hd hu o5 o7 o13 o14 o17 o18
      go_step
      exact hK _ _ (Kp.refl _ _) rfl
    · intro vs A' W hA hW hd hu K hK
      refine wpOp_free _ rfl rfl ?_
      conv => arg 2; whnf
      have f0 : vs 0 = .int .i64 (0 : Int) := hd 0 (by kernel_rfl)
      have e125 : A'.tmps[125]?.getD undef = vs 0 := slot_in hA hap (Nat.lt_of_lt_of_eq (Nat.le_of_ble_eq_true rfl : 125 < 161) hsz.symm) (by kernel_rfl)
      rw [f0] at e125
      clear hA hd hu o5 o7 o13 o14 o17 o18
      go_step
      refine (lnum_any 0 W).mono ?_
      rintro e w' ⟨rfl, rfl⟩
      exact hK _ _ (Kp.refl _ _) rfl
    · intro vs A' W hA hW hd hu K hK
      refine wpOp_free _ rfl rfl ?_
      conv => arg 2; whnf
      have f1 : vs 1 = .int .i64 (0 : Int) := hd 1 (by kernel_rfl)
      have e126 : A'.tmps[126]?.getD undef = vs 1 := slot_in hA hap (Nat.lt_of_lt_of_eq (Nat.le_of_ble_eq_true rfl : 126 < 161) hsz.symm) (by kernel_rfl)
      rw [f1] at e126
      clear hA hd hu o5 o7 o13 o14 o17 o18
      go_step
      exact hK _ _ (Kp.refl _ _) rfl
    · intro vs A' W hA hW hd hu K hK
      refine wpOp_free _ rfl rfl ?_
      conv => arg 2; whnf
      have f2 : vs 2 = .bool true := hd 2 (by kernel_rfl)
      have e127 : A'.tmps[127]?.getD undef = vs 2 := slot_in hA hap (Nat.lt_of_lt_of_eq (Nat.le_of_ble_eq_true rfl : 127 < 161) hsz.symm) (by kernel_rfl)
      rw [f2] at e127
      clear hA hd hu o5 o7 o13 o14 o17 o18
      go_step
      exact hK _ _ (Kp.refl _ _) rfl
    · intro vs A' W hA hW hd hu K hK
      have f3 : vs 3 = .bool true := hd 3 (by kernel_rfl)
      have e128 : A'.tmps[128]?.getD undef = vs 3 := slot_in hA hap (Nat.lt_of_lt_of_eq (Nat.le_of_ble_eq_true rfl : 128 < 161) hsz.symm) (by kernel_rfl)
      rw [f3] at e128
      refine wpOp_go _ rfl 3 128 true rfl rfl e128 ?_
      conv => arg 2; whnf
      have e18 : A'.tmps[18]?.getD undef = .int .i64 (0 : Int) := slot_out hA hap (Nat.lt_of_lt_of_eq (Nat.le_of_ble_eq_true rfl : 18 < 161) hsz.symm) (by kernel_rfl) o18
      clear hA hd hu o5 o7 o13 o14 o17 o18
      go_step
      exact hK _ _ (Kp.refl _ _) rfl
    · intro vs A' W hA hW hd hu K hK
      have f3 : vs 3 = .bool true := hd 3 (by kernel_rfl)
      have e128 : A'.tmps[128]?.getD undef = vs 3 := slot_in hA hap (Nat.lt_of_lt_of_eq (Nat.le_of_ble_eq_true rfl : 128 < 161) hsz.symm) (by kernel_rfl)
      rw [f3] at e128
      refine wpOp_go _ rfl 3 128 true rfl rfl e128 ?_
      conv => arg 2; whnf
      have f4 : vs 4 = .int .i64 (0 : Int) := hd 4 (by kernel_rfl)
      have e129 : A'.tmps[129]?.getD undef = vs 4 := slot_in hA hap (Nat.lt_of_lt_of_eq (Nat.le_of_ble_eq_true rfl : 129 < 161) hsz.symm) (by kernel_rfl)
      rw [f4] at e129
      clear hA hd hu o5 o7 o13 o14 o17 o18
      go_step
      refine (lnum_any 0 W).mono ?_
      rintro e w' ⟨rfl, rfl⟩
      exact hK _ _ (Kp.refl _ _) rfl
    · intro vs A' W hA hW hd hu K hK
      have f3 : vs 3 = .bool true := hd 3 (by kernel_rfl)
      have e128 : A'.tmps[128]?.getD undef = vs 3 := slot_in hA hap (Nat.lt_of_lt_of_eq (Nat.le_of_ble_eq_true rfl : 128 < 161) hsz.symm) (by kernel_rfl)
      rw [f3] at e128
      refine wpOp_go _ rfl 3 128 true rfl rfl e128 ?_
      conv => arg 2; whnf
      have f5 : vs 5 = .int .i64 (0 : Int) := hd 5 (by kernel_rfl)
      have e130 : A'.tmps[130]?.getD undef = vs 5 := slot_in hA hap (Nat.lt_of_lt_of_eq (Nat.le_of_ble_eq_true rfl : 130 < 161) hsz.symm) (by kernel_rfl)
      rw [f5] at e130
      clear hA hd hu o5 o7 o13 o14 o17 o18
      go_step
      exact hK _ _ (Kp.refl _ _) rfl
    · intro vs A' W hA hW hd hu K hK
      refine wpOp_free _ rfl rfl ?_
      conv => arg 2; whnf
      have f3 : vs 3 = .bool true := hd 3 (by kernel_rfl)
      have e128 : A'.tmps[128]?.getD undef = vs 3 := slot_in hA hap (Nat.lt_of_lt_of_eq (Nat.le_of_ble_eq_true rfl : 128 < 161) hsz.symm) (by kernel_rfl)
      rw [f3] at e128
      have f6 : vs 6 = .bool true := hd 6 (by kernel_rfl)
      have e131 : A'.tmps[131]?.getD undef = vs 6 := slot_in hA hap (Nat.lt_of_lt_of_eq (Nat.le_of_ble_eq_true rfl : 131 < 161) hsz.symm) (by kernel_rfl)
      rw [f6] at e131
      clear hA hd hu o5 o7 o13 o14 o17 o18
      go_step
      exact hK _ _ (Kp.refl _ _) rfl
    · intro vs A' W hA hW hd hu K hK
      refine wpOp_free _ rfl rfl ?_
      conv => arg 2; whnf
      have f7 : vs 7 = .bool true := hd 7 (by kernel_rfl)
      have e132 : A'.tmps[132]?.getD undef = vs 7 := slot_in hA hap (Nat.lt_of_lt_of_eq (Nat.le_of_ble_eq_true rfl : 132 < 161) hsz.symm) (by kernel_rfl)
      rw [f7] at e132
      clear hA hd hu o5 o7 o13 o14 o17 o18
      go_step
      exact hK _ _ (Kp.refl _ _) rfl
    · intro vs A' W hA hW hd hu K hK
      have f8 : vs 8 = .bool true := hd 8 (by kernel_rfl)
      have e133 : A'.tmps[133]?.getD undef = vs 8 := slot_in hA hap (Nat.lt_of_lt_of_eq (Nat.le_of_ble_eq_true rfl : 133 < 161) hsz.symm) (by kernel_rfl)
      rw [f8] at e133
      refine wpOp_go _ rfl 8 133 true rfl rfl e133 ?_
      conv => arg 2; whnf
      have e13 : A'.tmps[13]?.getD undef = .string ⟨(t ++ r).toArray⟩ := slot_out hA hap (Nat.lt_of_lt_of_eq (Nat.le_of_ble_eq_true rfl : 13 < 161) hsz.symm) (by kernel_rfl) o13
      clear hA hd hu o5 o7 o13 o14 o17 o18
      go_step
      exact hK _ _ (Kp.refl _ _) rfl
    · intro vs A' W hA hW hd hu K hK
      have f8 : vs 8 = .bool true := hd 8 (by kernel_rfl)
      have e133 : A'.tmps[133]?.getD undef = vs 8 := slot_in hA hap (Nat.lt_of_lt_of_eq (Nat.le_of_ble_eq_true rfl : 133 < 161) hsz.symm) (by kernel_rfl)
      rw [f8] at e133
      refine wpOp_go _ rfl 8 133 true rfl rfl e133 ?_
      conv => arg 2; whnf
      have f9 : vs 9 = .string ⟨(t ++ r).toArray⟩ := hd 9 (by kernel_rfl)
      have e134 : A'.tmps[134]?.getD undef = vs 9 := slot_in hA hap (Nat.lt_of_lt_of_eq (Nat.le_of_ble_eq_true rfl : 134 < 161) hsz.symm) (by kernel_rfl)
      rw [f9] at e134
      clear hA hd hu o5 o7 o13 o14 o17 o18
      go_step
      exact hK _ _ (Kp.refl _ _) rfl
    · intro vs A' W hA hW hd hu K hK
      have f8 : vs 8 = .bool true := hd 8 (by kernel_rfl)
      have e133 : A'.tmps[133]?.getD undef = vs 8 := slot_in hA hap (Nat.lt_of_lt_of_eq (Nat.le_of_ble_eq_true rfl : 133 < 161) hsz.symm) (by kernel_rfl)
      rw [f8] at e133
      refine wpOp_go _ rfl 8 133 true rfl rfl e133 ?_
      conv => arg 2; whnf
      have e17 : A'.tmps[17]?.getD undef = .string ⟨t.toArray⟩ := slot_out hA hap (Nat.lt_of_lt_of_eq (Nat.le_of_ble_eq_true rfl : 17 < 161) hsz.symm) (by kernel_rfl) o17
      clear hA hd hu o5 o7 o13 o14 o17 o18
      go_step
      exact hK _ _ (Kp.refl _ _) rfl
    · intro vs A' W hA hW hd hu K hK
      have f8 : vs 8 = .bool true := hd 8 (by kernel_rfl)
      have e133 : A'.tmps[133]?.getD undef = vs 8 := slot_in hA hap (Nat.lt_of_lt_of_eq (Nat.le_of_ble_eq_true rfl : 133 < 161) hsz.symm) (by kernel_rfl)
      rw [f8] at e133
      refine wpOp_go _ rfl 8 133 true rfl rfl e133 ?_
      conv => arg 2; whnf
      have f11 : vs 11 = .string ⟨t.toArray⟩ := hd 11 (by kernel_rfl)
      have e136 : A'.tmps[136]?.getD undef = vs 11 := slot_in hA hap (Nat.lt_of_lt_of_eq (Nat.le_of_ble_eq_true rfl : 136 < 161) hsz.symm) (by kernel_rfl)
      rw [f11] at e136
      clear hA hd hu o5 o7 o13 o14 o17 o18
      go_step
      exact hK _ _ (Kp.refl _ _) rfl
    · intro vs A' W hA hW hd hu K hK
      have f8 : vs 8 = .bool true := hd 8 (by kernel_rfl)
      have e133 : A'.tmps[133]?.getD undef = vs 8 := slot_in hA hap (Nat.lt_of_lt_of_eq (Nat.le_of_ble_eq_true rfl : 133 < 161) hsz.symm) (by kernel_rfl)
      rw [f8] at e133
      refine wpOp_go _ rfl 8 133 true rfl rfl e133 ?_
      conv => arg 2; whnf
      have f10 : vs 10 = .int .i64 ((t.length : Int) + (r.length : Int)) := hd 10 (by kernel_rfl)
      have e135 : A'.tmps[135]?.getD undef = vs 10 := slot_in hA hap (Nat.lt_of_lt_of_eq (Nat.le_of_ble_eq_true rfl : 135 < 161) hsz.symm) (by kernel_rfl)
      rw [f10] at e135
      have f12 : vs 12 = .int .i64 (t.length : Int) := hd 12 (by kernel_rfl)
      have e137 : A'.tmps[137]?.getD undef = vs 12 := slot_in hA hap (Nat.lt_of_lt_of_eq (Nat.le_of_ble_eq_true rfl : 137 < 161) hsz.symm) (by kernel_rfl)
      rw [f12] at e137
      clear hA hd hu o5 o7 o13 o14 o17 o18
      go_step
      exact hK _ _ (Kp.refl _ _) (by first | rfl | (congr 1; exact decide_eq_true (by omega)) | simp)
    · intro vs A' W hA hW hd hu K hK
      refine wpOp_free _ rfl rfl ?_
      conv => arg 2; whnf
      have f8 : vs 8 = .bool true := hd 8 (by kernel_rfl)
      have e133 : A'.tmps[133]?.getD undef = vs 8 := slot_in hA hap (Nat.lt_of_lt_of_eq (Nat.le_of_ble_eq_true rfl : 133 < 161) hsz.symm) (by kernel_rfl)
      rw [f8] at e133
      have f13 : vs 13 = .bool true := hd 13 (by kernel_rfl)
      have e138 : A'.tmps[138]?.getD undef = vs 13 := slot_in hA hap (Nat.lt_of_lt_of_eq (Nat.le_of_ble_eq_true rfl : 138 < 161) hsz.symm) (by kernel_rfl)
      rw [f13] at e138
      clear hA hd hu o5 o7 o13 o14 o17 o18
      go_step
      exact hK _ _ (Kp.refl _ _) rfl
    · intro vs A' W hA hW hd hu K hK
      refine wpOp_free _ rfl rfl ?_
      conv => arg 2; whnf
      have f14 : vs 14 = .bool true := hd 14 (by kernel_rfl)
      have e139 : A'.tmps[139]?.getD undef = vs 14 := slot_in hA hap (Nat.lt_of_lt_of_eq (Nat.le_of_ble_eq_true rfl : 139 < 161) hsz.symm) (by kernel_rfl)
      rw [f14] at e139
      clear hA hd hu o5 o7 o13 o14 o17 o18
      go_step
      exact hK _ _ (Kp.refl _ _) rfl
    · intro vs A' W hA hW hd hu K hK
      have f15 : vs 15 = .bool true := hd 15 (by kernel_rfl)
      have e140 : A'.tmps[140]?.getD undef = vs 15 := slot_in hA hap (Nat.lt_of_lt_of_eq (Nat.le_of_ble_eq_true rfl : 140 < 161) hsz.symm) (by kernel_rfl)
      rw [f15] at e140
      refine wpOp_go _ rfl 15 140 true rfl rfl e140 ?_
      conv => arg 2; whnf
      have e13 : A'.tmps[13]?.getD undef = .string ⟨(t ++ r).toArray⟩ := slot_out hA hap (Nat.lt_of_lt_of_eq (Nat.le_of_ble_eq_true rfl : 13 < 161) hsz.symm) (by kernel_rfl) o13
      clear hA hd hu o5 o7 o13 o14 o17 o18
      go_step
      exact hK _ _ (Kp.refl _ _) rfl
    · intro vs A' W hA hW hd hu K hK
      have f15 : vs 15 = .bool true := hd 15 (by kernel_rfl)
      have e140 : A'.tmps[140]?.getD undef = vs 15 := slot_in hA hap (Nat.lt_of_lt_of_eq (Nat.le_of_ble_eq_true rfl : 140 < 161) hsz.symm) (by kernel_rfl)
      rw [f15] at e140
      refine wpOp_go _ rfl 15 140 true rfl rfl e140 ?_
      conv => arg 2; whnf
      have e17 : A'.tmps[17]?.getD undef = .string ⟨t.toArray⟩ := slot_out hA hap (Nat.lt_of_lt_of_eq (Nat.le_of_ble_eq_true rfl : 17 < 161) hsz.symm) (by kernel_rfl) o17
      clear hA hd hu o5 o7 o13 o14 o17 o18
      go_step
      exact hK _ _ (Kp.refl _ _) rfl
    · intro vs A' W hA hW hd hu K hK
      have f15 : vs 15 = .bool true := hd 15 (by kernel_rfl)
      have e140 : A'.tmps[140]?.getD undef = vs 15 := slot_in hA hap (Nat.lt_of_lt_of_eq (Nat.le_of_ble_eq_true rfl : 140 < 161) hsz.symm) (by kernel_rfl)
      rw [f15] at e140
      refine wpOp_go _ rfl 15 140 true rfl rfl e140 ?_
      conv => arg 2; whnf
      have f17 : vs 17 = .string ⟨t.toArray⟩ := hd 17 (by kernel_rfl)
      have e142 : A'.tmps[142]?.getD undef = vs 17 := slot_in hA hap (Nat.lt_of_lt_of_eq (Nat.le_of_ble_eq_true rfl : 142 < 161) hsz.symm) (by kernel_rfl)
      rw [f17] at e142
      clear hA hd hu o5 o7 o13 o14 o17 o18
      go_step
      exact hK _ _ (Kp.refl _ _) rfl
    · intro vs A' W hA hW hd hu K hK
      have f15 : vs 15 = .bool true := hd 15 (by kernel_rfl)
      have e140 : A'.tmps[140]?.getD undef = vs 15 := slot_in hA hap (Nat.lt_of_lt_of_eq (Nat.le_of_ble_eq_true rfl : 140 < 161) hsz.symm) (by kernel_rfl)
      rw [f15] at e140
      refine wpOp_go _ rfl 15 140 true rfl rfl e140 ?_
      conv => arg 2; whnf
      have f16 : vs 16 = .string ⟨(t ++ r).toArray⟩ := hd 16 (by kernel_rfl)
      have e141 : A'.tmps[141]?.getD undef = vs 16 := slot_in hA hap (Nat.lt_of_lt_of_eq (Nat.le_of_ble_eq_true rfl : 141 < 161) hsz.symm) (by kernel_rfl)
      rw [f16] at e141
      have f18 : vs 18 = .int .i64 (t.length : Int) := hd 18 (by kernel_rfl)
      have e143 : A'.tmps[143]?.getD undef = vs 18 := slot_in hA hap (Nat.lt_of_lt_of_eq (Nat.le_of_ble_eq_true rfl : 143 < 161) hsz.symm) (by kernel_rfl)
      rw [f18] at e143
      clear hA hd hu o5 o7 o13 o14 o17 o18
      have q := fun w => cut_strT t r w
      go_step
      exact hK _ _ (Kp.refl _ _) rfl
    · intro vs A' W hA hW hd hu K hK
      have f15 : vs 15 = .bool true := hd 15 (by kernel_rfl)
      have e140 : A'.tmps[140]?.getD undef = vs 15 := slot_in hA hap (Nat.lt_of_lt_of_eq (Nat.le_of_ble_eq_true rfl : 140 < 161) hsz.symm) (by kernel_rfl)
      rw [f15] at e140
      refine wpOp_go _ rfl 15 140 true rfl rfl e140 ?_
      conv => arg 2; whnf
      have e17 : A'.tmps[17]?.getD undef = .string ⟨t.toArray⟩ := slot_out hA hap (Nat.lt_of_lt_of_eq (Nat.le_of_ble_eq_true rfl : 17 < 161) hsz.symm) (by kernel_rfl) o17
      clear hA hd hu o5 o7 o13 o14 o17 o18
      go_step
      exact hK _ _ (Kp.refl _ _) rfl
    · intro vs A' W hA hW hd hu K hK
      have f15 : vs 15 = .bool true := hd 15 (by kernel_rfl)
      have e140 : A'.tmps[140]?.getD undef = vs 15 := slot_in hA hap (Nat.lt_of_lt_of_eq (Nat.le_of_ble_eq_true rfl : 140 < 161) hsz.symm) (by kernel_rfl)
      rw [f15] at e140
      refine wpOp_go _ rfl 15 140 true rfl rfl e140 ?_
      conv => arg 2; whnf
      have f19 : vs 19 = .string ⟨t.toArray⟩ := hd 19 (by kernel_rfl)
      have e144 : A'.tmps[144]?.getD undef = vs 19 := slot_in hA hap (Nat.lt_of_lt_of_eq (Nat.le_of_ble_eq_true rfl : 144 < 161) hsz.symm) (by kernel_rfl)
      rw [f19] at e144
      have f20 : vs 20 = .string ⟨t.toArray⟩ := hd 20 (by kernel_rfl)
      have e145 : A'.tmps[145]?.getD undef = vs 20 := slot_in hA hap (Nat.lt_of_lt_of_eq (Nat.le_of_ble_eq_true rfl : 145 < 161) hsz.symm) (by kernel_rfl)
      rw [f20] at e145
      clear hA hd hu o5 o7 o13 o14 o17 o18
      go_step
      exact hK _ _ (Kp.refl _ _) (by first | rfl | simp)
    · intro vs A' W hA hW hd hu K hK
      refine wpOp_free _ rfl rfl ?_
      conv => arg 2; whnf
      have f15 : vs 15 = .bool true := hd 15 (by kernel_rfl)
      have e140 : A'.tmps[140]?.getD undef = vs 15 := slot_in hA hap (Nat.lt_of_lt_of_eq (Nat.le_of_ble_eq_true rfl : 140 < 161) hsz.symm) (by kernel_rfl)
      rw [f15] at e140
      have f21 : vs 21 = .bool true := hd 21 (by kernel_rfl)
      have e146 : A'.tmps[146]?.getD undef = vs 21 := slot_in hA hap (Nat.lt_of_lt_of_eq (Nat.le_of_ble_eq_true rfl : 146 < 161) hsz.symm) (by kernel_rfl)
      rw [f21] at e146
      clear hA hd hu o5 o7 o13 o14 o17 o18
      go_step
      exact hK _ _ (Kp.refl _ _) rfl
    · intro vs A' W hA hW hd hu K hK
      refine wpOp_free _ rfl rfl ?_
      conv => arg 2; whnf
      have f22 : vs 22 = .bool true := hd 22 (by kernel_rfl)
      have e147 : A'.tmps[147]?.getD undef = vs 22 := slot_in hA hap (Nat.lt_of_lt_of_eq (Nat.le_of_ble_eq_true rfl : 147 < 161) hsz.symm) (by kernel_rfl)
      rw [f22] at e147
      clear hA hd hu o5 o7 o13 o14 o17 o18
      go_step
      exact hK _ _ (Kp.refl _ _) rfl
    · intro vs A' W hA hW hd hu K hK
      have f23 : vs 23 = .bool true := hd 23 (by kernel_rfl)
      have e148 : A'.tmps[148]?.getD undef = vs 23 := slot_in hA hap (Nat.lt_of_lt_of_eq (Nat.le_of_ble_eq_true rfl : 148 < 161) hsz.symm) (by kernel_rfl)
      rw [f23] at e148
      refine wpOp_go _ rfl 23 148 true rfl rfl e148 ?_
      conv => arg 2; whnf
      have e5 : A'.tmps[5]?.getD undef = .pointer (some ⟨g5, 0, none⟩) := slot_out hA hap (Nat.lt_of_lt_of_eq (Nat.le_of_ble_eq_true rfl : 5 < 161) hsz.symm) (by kernel_rfl) o5
      clear hA hd hu o5 o7 o13 o14 o17 o18
      go_step
      exact hK _ _ (Kp.refl _ _) rfl
    · intro vs A' W hA hW hd hu K hK
      have f23 : vs 23 = .bool true := hd 23 (by kernel_rfl)
      have e148 : A'.tmps[148]?.getD undef = vs 23 := slot_in hA hap (Nat.lt_of_lt_of_eq (Nat.le_of_ble_eq_true rfl : 148 < 161) hsz.symm) (by kernel_rfl)
      rw [f23] at e148
      refine wpOp_go _ rfl 23 148 true rfl rfl e148 ?_
      conv => arg 2; whnf
      have f24 : vs 24 = .pointer (some ⟨g5, 33, none⟩) := hd 24 (by kernel_rfl)
      have e149 : A'.tmps[149]?.getD undef = vs 24 := slot_in hA hap (Nat.lt_of_lt_of_eq (Nat.le_of_ble_eq_true rfl : 149 < 161) hsz.symm) (by kernel_rfl)
      rw [f24] at e149
      clear hA hd hu o5 o7 o13 o14 o17 o18
      have c0 : W.cell? ⟨g5, 33, none⟩ = some (.slice A m c) := by rw [(hb.kp hW (by simp)).cell]; exact ntA_sigs hh
      go_step
      exact hK _ _ (Kp.refl _ _) rfl
    · intro vs A' W hA hW hd hu K hK
      have f23 : vs 23 = .bool true := hd 23 (by kernel_rfl)
      have e148 : A'.tmps[148]?.getD undef = vs 23 := slot_in hA hap (Nat.lt_of_lt_of_eq (Nat.le_of_ble_eq_true rfl : 148 < 161) hsz.symm) (by kernel_rfl)
      rw [f23] at e148
      refine wpOp_go _ rfl 23 148 true rfl rfl e148 ?_
      conv => arg 2; whnf
      have f25 : vs 25 = .slice A m c := hd 25 (by kernel_rfl)
      have e150 : A'.tmps[150]?.getD undef = vs 25 := slot_in hA hap (Nat.lt_of_lt_of_eq (Nat.le_of_ble_eq_true rfl : 150 < 161) hsz.symm) (by kernel_rfl)
      rw [f25] at e150
      clear hA hd hu o5 o7 o13 o14 o17 o18
      go_step
      exact hK _ _ (Kp.refl _ _) rfl
    · intro vs A' W hA hW hd hu K hK
      have f23 : vs 23 = .bool true := hd 23 (by kernel_rfl)
      have e148 : A'.tmps[148]?.getD undef = vs 23 := slot_in hA hap (Nat.lt_of_lt_of_eq (Nat.le_of_ble_eq_true rfl : 148 < 161) hsz.symm) (by kernel_rfl)
      rw [f23] at e148
      refine wpOp_go _ rfl 23 148 true rfl rfl e148 ?_
      conv => arg 2; whnf
      have e7 : A'.tmps[7]?.getD undef = .slice Ak m ck := slot_out hA hap (Nat.lt_of_lt_of_eq (Nat.le_of_ble_eq_true rfl : 7 < 161) hsz.symm) (by kernel_rfl) o7
      clear hA hd hu o5 o7 o13 o14 o17 o18
      go_step
      exact hK _ _ (Kp.refl _ _) rfl
    · intro vs A' W hA hW hd hu K hK
      have f23 : vs 23 = .bool true := hd 23 (by kernel_rfl)
      have e148 : A'.tmps[148]?.getD undef = vs 23 := slot_in hA hap (Nat.lt_of_lt_of_eq (Nat.le_of_ble_eq_true rfl : 148 < 161) hsz.symm) (by kernel_rfl)
      rw [f23] at e148
      refine wpOp_go _ rfl 23 148 true rfl rfl e148 ?_
      conv => arg 2; whnf
      have f27 : vs 27 = .slice Ak m ck := hd 27 (by kernel_rfl)
      have e152 : A'.tmps[152]?.getD undef = vs 27 := slot_in hA hap (Nat.lt_of_lt_of_eq (Nat.le_of_ble_eq_true rfl : 152 < 161) hsz.symm) (by kernel_rfl)
      rw [f27] at e152
      clear hA hd hu o5 o7 o13 o14 o17 o18
      go_step
      exact hK _ _ (Kp.refl _ _) rfl
    · intro vs A' W hA hW hd hu K hK
      have f23 : vs 23 = .bool true := hd 23 (by kernel_rfl)
      have e148 : A'.tmps[148]?.getD undef = vs 23 := slot_in hA hap (Nat.lt_of_lt_of_eq (Nat.le_of_ble_eq_true rfl : 148 < 161) hsz.symm) (by kernel_rfl)
      rw [f23] at e148
      refine wpOp_go _ rfl 23 148 true rfl rfl e148 ?_
      conv => arg 2; whnf
      have f26 : vs 26 = .int .i64 (m : Int) := hd 26 (by kernel_rfl)
      have e151 : A'.tmps[151]?.getD undef = vs 26 := slot_in hA hap (Nat.lt_of_lt_of_eq (Nat.le_of_ble_eq_true rfl : 151 < 161) hsz.symm) (by kernel_rfl)
      rw [f26] at e151
      have f28 : vs 28 = .int .i64 (m : Int) := hd 28 (by kernel_rfl)
      have e153 : A'.tmps[153]?.getD undef = vs 28 := slot_in hA hap (Nat.lt_of_lt_of_eq (Nat.le_of_ble_eq_true rfl : 153 < 161) hsz.symm) (by kernel_rfl)
      rw [f28] at e153
      clear hA hd hu o5 o7 o13 o14 o17 o18
      go_step
      exact hK _ _ (Kp.refl _ _) (by first | rfl | simp)
    · intro vs A' W hA hW hd hu K hK
      refine wpOp_free _ rfl rfl ?_
      conv => arg 2; whnf
      have f23 : vs 23 = .bool true := hd 23 (by kernel_rfl)
      have e148 : A'.tmps[148]?.getD undef = vs 23 := slot_in hA hap (Nat.lt_of_lt_of_eq (Nat.le_of_ble_eq_true rfl : 148 < 161) hsz.symm) (by kernel_rfl)
      rw [f23] at e148
      have f29 : vs 29 = .bool true := hd 29 (by kernel_rfl)
      have e154 : A'.tmps[154]?.getD undef = vs 29 := slot_in hA hap (Nat.lt_of_lt_of_eq (Nat.le_of_ble_eq_true rfl : 154 < 161) hsz.symm) (by kernel_rfl)
      rw [f29] at e154
      clear hA hd hu o5 o7 o13 o14 o17 o18
      go_step
      exact hK _ _ (Kp.refl _ _) rfl
    · intro vs A' W hA hW hd hu K hK
      refine wpOp_free _ rfl rfl ?_
      conv => arg 2; whnf
      have f30 : vs 30 = .bool true := hd 30 (by kernel_rfl)
      have e155 : A'.tmps[155]?.getD undef = vs 30 := slot_in hA hap (Nat.lt_of_lt_of_eq (Nat.le_of_ble_eq_true rfl : 155 < 161) hsz.symm) (by kernel_rfl)
      rw [f30] at e155
      clear hA hd hu o5 o7 o13 o14 o17 o18
      go_step
      exact hK _ _ (Kp.refl _ _) rfl
    · intro vs A' W hA hW hd hu K hK
      have f31 : vs 31 = .bool true := hd 31 (by kernel_rfl)
      have e156 : A'.tmps[156]?.getD undef = vs 31 := slot_in hA hap (Nat.lt_of_lt_of_eq (Nat.le_of_ble_eq_true rfl : 156 < 161) hsz.symm) (by kernel_rfl)
      rw [f31] at e156
      refine wpOp_go _ rfl 31 156 true rfl rfl e156 ?_
      conv => arg 2; whnf
      have e7 : A'.tmps[7]?.getD undef = .slice Ak m ck := slot_out hA hap (Nat.lt_of_lt_of_eq (Nat.le_of_ble_eq_true rfl : 7 < 161) hsz.symm) (by kernel_rfl) o7
      clear hA hd hu o5 o7 o13 o14 o17 o18
      go_step
      exact hK _ _ (Kp.refl _ _) rfl
    · intro vs A' W hA hW hd hu K hK
      have f31 : vs 31 = .bool true := hd 31 (by kernel_rfl)
      have e156 : A'.tmps[156]?.getD undef = vs 31 := slot_in hA hap (Nat.lt_of_lt_of_eq (Nat.le_of_ble_eq_true rfl : 156 < 161) hsz.symm) (by kernel_rfl)
      rw [f31] at e156
      refine wpOp_go _ rfl 31 156 true rfl rfl e156 ?_
      conv => arg 2; whnf
      have f32 : vs 32 = .slice Ak m ck := hd 32 (by kernel_rfl)
      have e157 : A'.tmps[157]?.getD undef = vs 32 := slot_in hA hap (Nat.lt_of_lt_of_eq (Nat.le_of_ble_eq_true rfl : 157 < 161) hsz.symm) (by kernel_rfl)
      rw [f32] at e157
      clear hA hd hu o5 o7 o13 o14 o17 o18
      go_step
      exact hK _ _ (Kp.refl _ _) rfl
    · intro vs A' W hA hW hd hu K hK
      have f31 : vs 31 = .bool true := hd 31 (by kernel_rfl)
      have e156 : A'.tmps[156]?.getD undef = vs 31 := slot_in hA hap (Nat.lt_of_lt_of_eq (Nat.le_of_ble_eq_true rfl : 156 < 161) hsz.symm) (by kernel_rfl)
      rw [f31] at e156
      refine wpOp_go _ rfl 31 156 true rfl rfl e156 ?_
      conv => arg 2; whnf
      have f33 : vs 33 = .int .i64 (m : Int) := hd 33 (by kernel_rfl)
      have e158 : A'.tmps[158]?.getD undef = vs 33 := slot_in hA hap (Nat.lt_of_lt_of_eq (Nat.le_of_ble_eq_true rfl : 158 < 161) hsz.symm) (by kernel_rfl)
      rw [f33] at e158
      clear hA hd hu o5 o7 o13 o14 o17 o18
      have hm2 : (m : Int) ≤ 64 := by omega
      go_step
      exact hK _ _ (Kp.refl _ _) (by first | rfl | simp [hm2])
    · intro vs A' W hA hW hd hu K hK
      refine wpOp_free _ rfl rfl ?_
      conv => arg 2; whnf
      have f31 : vs 31 = .bool true := hd 31 (by kernel_rfl)
      have e156 : A'.tmps[156]?.getD undef = vs 31 := slot_in hA hap (Nat.lt_of_lt_of_eq (Nat.le_of_ble_eq_true rfl : 156 < 161) hsz.symm) (by kernel_rfl)
      rw [f31] at e156
      have f34 : vs 34 = .bool true := hd 34 (by kernel_rfl)
      have e159 : A'.tmps[159]?.getD undef = vs 34 := slot_in hA hap (Nat.lt_of_lt_of_eq (Nat.le_of_ble_eq_true rfl : 159 < 161) hsz.symm) (by kernel_rfl)
      rw [f34] at e159
      clear hA hd hu o5 o7 o13 o14 o17 o18
      go_step
      exact hK _ _ (Kp.refl _ _) rfl
    · intro vs A' W hA hW hd hu K hK
      refine wpOp_free _ rfl rfl ?_
      conv => arg 2; whnf
      have f35 : vs 35 = .bool true := hd 35 (by kernel_rfl)
      have e160 : A'.tmps[160]?.getD undef = vs 35 := slot_in hA hap (Nat.lt_of_lt_of_eq (Nat.le_of_ble_eq_true rfl : 160 < 161) hsz.symm) (by kernel_rfl)
      rw [f35] at e160
      clear hA hd hu o5 o7 o13 o14 o17 o18
      go_step
      exact hK _ _ (Kp.refl _ _) rfl
  · intro vs W hW hp
    rw [show putAll vs (opsOf 24 Tryd.f6) 0 a = putD [(125, vs 0), (126, vs 1), (127, vs 2), (128, vs 3), (129, vs 4), (130, vs 5), (131, vs 6), (132, vs 7), (133, vs 8), (134, vs 9), (135, vs 10), (136, vs 11), (137, vs 12), (138, vs 13), (139, vs 14), (140, vs 15), (141, vs 16), (142, vs 17), (143, vs 18), (144, vs 19), (145, vs 20), (146, vs 21), (147, vs 22), (148, vs 23), (149, vs 24), (150, vs 25), (151, vs 26), (152, vs 27), (153, vs 28), (154, vs 29), (155, vs 30), (156, vs 31), (157, vs 32), (158, vs 33), (159, vs 34), (160, vs 35), (4, vs 36)] a from by kernel_rfl]
    exact hend _ W (same_putD _ a) hW (sl_putD _ a 4 _ (by rw [show vs 36 = _ from hp 36 (Nat.le_of_ble_eq_true (by kernel_rfl))]; kernel_rfl))
-- END shl24
end Go.Proofs.YtapboamjpilckaaDoor
