/- Several texts in one: CpA, Cut, CpB, InR, CpC, CpD. -/
import Derived.Test.YtgldgkdnnimglaaP2
set_option linter.unusedVariables false
set_option linter.unusedSimpArgs false
set_option maxRecDepth 100000
set_option maxHeartbeats 8000000
namespace Go.Proofs.Ytgldgkdnnimglaa
/- All of crc.Sums as an iterator, Copy; the reference's Range: their regions. -/
section
open Go.RowKit Go.Shelf
attribute [local go_sem] Oper.semAt_some
set_option maxRecDepth 100000 in
set_option maxHeartbeats 2000000 in
theorem pca_r7 {Q : Exit → Act → World → Prop} {a : Act} {w : World} (l m : Nat) (x y : Value) (R : Ending → World → Prop) (HY : ∃ fn tmps assign body, (Instr.yield l #[x, y]).run Try.prog w = .ok (.round l fn tmps assign body) w ∧ RoundIn Fence.wide m Try.prog l fn tmps assign body w R)
    (hR : ∀ e W, R e W → ∃ b, e = .returned (.bool b)) (hsz : a.tmps.size = 44) (o0 : Sl a 0 (.func (.yield l) #[] #[])) (o4 : Sl a 4 x) (o7 : Sl a 7 y)
    (hend : ∀ (a' : Act) (W : World) (b : Bool), Same a a' [38, 39, 40, 41, 42] → Sl a' 42 (.bool (!b)) → R (.returned (.bool b)) W → Q .normal a' W) : (Code.region 7 (opsOf 7 Try.f48).toArray false).wp Try.prog Q a w := by
  refine (wpIn_wide (n := m + 1)).1 ?_
  obtain ⟨fn, tmps, assign, body, hy, hRd⟩ := HY
  refine wpIn_region_lit ?_
  conv => arg 6; whnf
  unfold Sl at o0 o4 o7
  gi_wp2
  refine hRd.mono ?_
  intro e W h
  obtain ⟨b, rfl⟩ := hR e W h
  gi_wp2
  try simp only [Act.put]
  exact hend _ _ b (by repeat (first | (with_reducible refine same_set (by decide) ?_) | (with_reducible exact same_nil))) (by unfold Sl; first | (simp [hsz]; done) | (simp [hsz]; omega)) h
-- REG pca0N
set_option maxRecDepth 100000 in
set_option maxHeartbeats 2000000 in
theorem pca_r0N {Q : Exit → Act → World → Prop} {a : Act} {w : World} (gS : Nat) (hbS : Blk w gS 47 #[.pointer none]) (hsz : a.tmps.size = 44) (o1 : Sl a 1 (.pointer (some ⟨gS, 0, none⟩)))
    (hend : ∀ (a' : Act) (W : World), Same a a' [9, 10, 11, 12, 13, 14] → Kp [] w W → Sl a' 14 (.bool true) → Q .normal a' W) : (Code.region 0 (opsOf 0 Try.f48).toArray false).wp Try.prog Q a w := by
  have hap : apartB (opsOf 0 Try.f48) = true := by kernel_rfl
  refine wp_region_invS (l := (opsOf 0 Try.f48)) (fun i v W => match i with | 0 => v = .pointer none | 1 => v = .bool true | 2 => v = .bool true | 5 => v = .bool true | _ => True) hap ?_ ?_ ?_
  · intro i v W W' h _
    iterate 6 (rcases i with _ | i; · exact h)
    exact h
  · refine ⟨?_, ?_, ?_, ?_, ?_, ?_, trivial⟩
    · intro vs A' W hA hW hd hu K hK
      refine wpOp_free _ rfl rfl ?_
      conv => arg 2; whnf
      have e1 : A'.tmps[1]?.getD undef = .pointer (some ⟨gS, 0, none⟩) := slot_out hA hap (Nat.lt_of_lt_of_eq (Nat.le_of_ble_eq_true rfl : 1 < 44) hsz.symm) (by kernel_rfl) o1
      clear hA hd hu o1
      have c0 : W.cell? ⟨gS, 0, none⟩ = some (.pointer none) := (hbS.kp hW (by simp)).cell 0
      go_step
      exact hK _ _ (Kp.refl _ _) rfl
    · intro vs A' W hA hW hd hu K hK
      refine wpOp_free _ rfl rfl ?_
      conv => arg 2; whnf
      have f0 : vs 0 = .pointer none := hd 0 (by kernel_rfl)
      have e9 : A'.tmps[9]?.getD undef = vs 0 := slot_in hA hap (Nat.lt_of_lt_of_eq (Nat.le_of_ble_eq_true rfl : 9 < 44) hsz.symm) (by kernel_rfl)
      rw [f0] at e9
      clear hA hd hu o1
      go_step
      exact hK _ _ (Kp.refl _ _) rfl
    · intro vs A' W hA hW hd hu K hK
      refine wpOp_free _ rfl rfl ?_
      conv => arg 2; whnf
      have f1 : vs 1 = .bool true := hd 1 (by kernel_rfl)
      have e10 : A'.tmps[10]?.getD undef = vs 1 := slot_in hA hap (Nat.lt_of_lt_of_eq (Nat.le_of_ble_eq_true rfl : 10 < 44) hsz.symm) (by kernel_rfl)
      rw [f1] at e10
      clear hA hd hu o1
      go_step
      exact hK _ _ (Kp.refl _ _) rfl
    · intro vs A' W hA hW hd hu K hK
      have f2 : vs 2 = .bool true := hd 2 (by kernel_rfl)
      have e11 : A'.tmps[11]?.getD undef = vs 2 := slot_in hA hap (Nat.lt_of_lt_of_eq (Nat.le_of_ble_eq_true rfl : 11 < 44) hsz.symm) (by kernel_rfl)
      rw [f2] at e11
      refine wpOp_skip _ rfl 2 11 false rfl rfl e11 ?_
      exact hK _ _ (Kp.refl _ _) trivial
    · intro vs A' W hA hW hd hu K hK
      have f2 : vs 2 = .bool true := hd 2 (by kernel_rfl)
      have e11 : A'.tmps[11]?.getD undef = vs 2 := slot_in hA hap (Nat.lt_of_lt_of_eq (Nat.le_of_ble_eq_true rfl : 11 < 44) hsz.symm) (by kernel_rfl)
      rw [f2] at e11
      refine wpOp_skip _ rfl 2 11 false rfl rfl e11 ?_
      exact hK _ _ (Kp.refl _ _) trivial
    · intro vs A' W hA hW hd hu K hK
      refine wpOp_free _ rfl rfl ?_
      conv => arg 2; whnf
      have f2 : vs 2 = .bool true := hd 2 (by kernel_rfl)
      have e11 : A'.tmps[11]?.getD undef = vs 2 := slot_in hA hap (Nat.lt_of_lt_of_eq (Nat.le_of_ble_eq_true rfl : 11 < 44) hsz.symm) (by kernel_rfl)
      rw [f2] at e11
      have e13 : A'.tmps[13]?.getD undef = vs 4 := slot_in hA hap (Nat.lt_of_lt_of_eq (Nat.le_of_ble_eq_true rfl : 13 < 44) hsz.symm) (by kernel_rfl)
      clear hA hd hu o1
      go_step
      exact hK _ _ (Kp.refl _ _) rfl
  · intro vs W hW hp
    rw [show putAll vs (opsOf 0 Try.f48) 0 a = putD [(9, vs 0), (10, vs 1), (11, vs 2), (12, vs 3), (13, vs 4), (14, vs 5)] a from by kernel_rfl]
    exact hend _ W (same_putD _ a) hW (sl_putD _ a 14 _ (by rw [show vs 5 = _ from hp 5 (Nat.le_of_ble_eq_true (by kernel_rfl))]; kernel_rfl))
-- END pca0N
-- REG pca0Y
set_option maxRecDepth 100000 in
set_option maxHeartbeats 2000000 in
theorem pca_r0Y {Q : Exit → Act → World → Prop} {a : Act} {w : World} (gS gN p : Nat) (z : Int) (hbS : Blk w gS 47 #[.pointer (some ⟨p, 0, none⟩)]) (hbN : Blk w gN 3 #[.int .i64 z]) (hsz : a.tmps.size = 44) (o1 : Sl a 1 (.pointer (some ⟨gS, 0, none⟩))) (o2 : Sl a 2 (.pointer (some ⟨gN, 0, none⟩)))
    (hend : ∀ (a' : Act) (W : World), Same a a' [9, 10, 11, 12, 13, 14] → Kp [] w W → Sl a' 14 (.bool (decide (z < 1))) → Q .normal a' W) : (Code.region 0 (opsOf 0 Try.f48).toArray false).wp Try.prog Q a w := by
  have hap : apartB (opsOf 0 Try.f48) = true := by kernel_rfl
  refine wp_region_invS (l := (opsOf 0 Try.f48)) (fun i v W => match i with | 0 => v = .pointer (some ⟨p, 0, none⟩) | 1 => v = .bool false | 2 => v = .bool false | 3 => v = .int .i64 z | 4 => v = .bool (decide (z < 1)) | 5 => v = .bool (decide (z < 1)) | _ => True) hap ?_ ?_ ?_
  · intro i v W W' h _
    iterate 6 (rcases i with _ | i; · exact h)
    exact h
  · refine ⟨?_, ?_, ?_, ?_, ?_, ?_, trivial⟩
    · intro vs A' W hA hW hd hu K hK
      refine wpOp_free _ rfl rfl ?_
      conv => arg 2; whnf
      have e1 : A'.tmps[1]?.getD undef = .pointer (some ⟨gS, 0, none⟩) := slot_out hA hap (Nat.lt_of_lt_of_eq (Nat.le_of_ble_eq_true rfl : 1 < 44) hsz.symm) (by kernel_rfl) o1
      clear hA hd hu o1 o2
      have c0 : W.cell? ⟨gS, 0, none⟩ = some (.pointer (some ⟨p, 0, none⟩)) := (hbS.kp hW (by simp)).cell 0
      go_step
      exact hK _ _ (Kp.refl _ _) rfl
    · intro vs A' W hA hW hd hu K hK
      refine wpOp_free _ rfl rfl ?_
      conv => arg 2; whnf
      have f0 : vs 0 = .pointer (some ⟨p, 0, none⟩) := hd 0 (by kernel_rfl)
      have e9 : A'.tmps[9]?.getD undef = vs 0 := slot_in hA hap (Nat.lt_of_lt_of_eq (Nat.le_of_ble_eq_true rfl : 9 < 44) hsz.symm) (by kernel_rfl)
      rw [f0] at e9
      clear hA hd hu o1 o2
      go_step
      exact hK _ _ (Kp.refl _ _) rfl
    · intro vs A' W hA hW hd hu K hK
      refine wpOp_free _ rfl rfl ?_
      conv => arg 2; whnf
      have f1 : vs 1 = .bool false := hd 1 (by kernel_rfl)
      have e10 : A'.tmps[10]?.getD undef = vs 1 := slot_in hA hap (Nat.lt_of_lt_of_eq (Nat.le_of_ble_eq_true rfl : 10 < 44) hsz.symm) (by kernel_rfl)
      rw [f1] at e10
      clear hA hd hu o1 o2
      go_step
      exact hK _ _ (Kp.refl _ _) rfl
    · intro vs A' W hA hW hd hu K hK
      have f2 : vs 2 = .bool false := hd 2 (by kernel_rfl)
      have e11 : A'.tmps[11]?.getD undef = vs 2 := slot_in hA hap (Nat.lt_of_lt_of_eq (Nat.le_of_ble_eq_true rfl : 11 < 44) hsz.symm) (by kernel_rfl)
      rw [f2] at e11
      refine wpOp_go _ rfl 2 11 false rfl rfl e11 ?_
      conv => arg 2; whnf
      have e2 : A'.tmps[2]?.getD undef = .pointer (some ⟨gN, 0, none⟩) := slot_out hA hap (Nat.lt_of_lt_of_eq (Nat.le_of_ble_eq_true rfl : 2 < 44) hsz.symm) (by kernel_rfl) o2
      clear hA hd hu o1 o2
      have c0 : W.cell? ⟨gN, 0, none⟩ = some (.int .i64 z) := (hbN.kp hW (by simp)).cell 0
      go_step
      exact hK _ _ (Kp.refl _ _) rfl
    · intro vs A' W hA hW hd hu K hK
      have f2 : vs 2 = .bool false := hd 2 (by kernel_rfl)
      have e11 : A'.tmps[11]?.getD undef = vs 2 := slot_in hA hap (Nat.lt_of_lt_of_eq (Nat.le_of_ble_eq_true rfl : 11 < 44) hsz.symm) (by kernel_rfl)
      rw [f2] at e11
      refine wpOp_go _ rfl 2 11 false rfl rfl e11 ?_
      conv => arg 2; whnf
      have f3 : vs 3 = .int .i64 z := hd 3 (by kernel_rfl)
      have e12 : A'.tmps[12]?.getD undef = vs 3 := slot_in hA hap (Nat.lt_of_lt_of_eq (Nat.le_of_ble_eq_true rfl : 12 < 44) hsz.symm) (by kernel_rfl)
      rw [f3] at e12
      clear hA hd hu o1 o2
      go_step
      exact hK _ _ (Kp.refl _ _) rfl
    · intro vs A' W hA hW hd hu K hK
      refine wpOp_free _ rfl rfl ?_
      conv => arg 2; whnf
      have f2 : vs 2 = .bool false := hd 2 (by kernel_rfl)
      have e11 : A'.tmps[11]?.getD undef = vs 2 := slot_in hA hap (Nat.lt_of_lt_of_eq (Nat.le_of_ble_eq_true rfl : 11 < 44) hsz.symm) (by kernel_rfl)
      rw [f2] at e11
      have f4 : vs 4 = .bool (decide (z < 1)) := hd 4 (by kernel_rfl)
      have e13 : A'.tmps[13]?.getD undef = vs 4 := slot_in hA hap (Nat.lt_of_lt_of_eq (Nat.le_of_ble_eq_true rfl : 13 < 44) hsz.symm) (by kernel_rfl)
      rw [f4] at e13
      clear hA hd hu o1 o2
      go_step
      exact hK _ _ (Kp.refl _ _) rfl
  · intro vs W hW hp
    rw [show putAll vs (opsOf 0 Try.f48) 0 a = putD [(9, vs 0), (10, vs 1), (11, vs 2), (12, vs 3), (13, vs 4), (14, vs 5)] a from by kernel_rfl]
    exact hend _ W (same_putD _ a) hW (sl_putD _ a 14 _ (by rw [show vs 5 = _ from hp 5 (Nat.le_of_ble_eq_true (by kernel_rfl))]; kernel_rfl))
-- END pca0Y
-- REG pca1
set_option maxRecDepth 100000 in
set_option maxHeartbeats 2000000 in
theorem pca_r1 {Q : Exit → Act → World → Prop} {a : Act} {w : World} (gS p n : Nat) (v : Value) (hbS : Blk w.drew gS 47 #[.pointer (some ⟨p, 0, none⟩)]) (hbP : Blk w.drew p 66 #[.int .i64 ((n : Nat) : Int), v]) (hsz : a.tmps.size = 44) (o1 : Sl a 1 (.pointer (some ⟨gS, 0, none⟩)))
    (hend : ∀ (a' : Act) (W : World), Same a a' [15, 16, 17, 18, 4, 5] → Kp [] w.drew W → Sl a' 4 (.int .i64 ((0 : Nat) : Int)) → Sl a' 5 (.int .i64 ((n : Nat) : Int)) → Q .normal a' W) : (Code.region 1 (opsOf 1 Try.f48).toArray true).wp Try.prog Q a w := by
  have hap : apartB (opsOf 1 Try.f48) = true := by kernel_rfl
  refine wp_region_inv (l := (opsOf 1 Try.f48)) (fun i v W => match i with | 0 => v = .pointer (some ⟨p, 0, none⟩) | 1 => v = .pointer (some ⟨p, 0, none⟩) | 2 => v = .pointer (some ⟨p, 0, none⟩) | 3 => v = .int .i64 ((n : Nat) : Int) | 4 => v = .int .i64 ((0 : Nat) : Int) | 5 => v = .int .i64 ((n : Nat) : Int) | _ => True) (by kernel_rfl) hap (by kernel_rfl) ?_ ?_ ?_
  · intro i v W W' h _
    iterate 6 (rcases i with _ | i; · exact h)
    exact h
  · refine ⟨?_, ?_, ?_, ?_, ?_, ?_, trivial⟩
    · intro vs A' W hA hW hd K hK
      have e1 : A'.tmps[1]?.getD undef = .pointer (some ⟨gS, 0, none⟩) := slot_out hA hap (Nat.lt_of_lt_of_eq (Nat.le_of_ble_eq_true rfl : 1 < 44) hsz.symm) (by kernel_rfl) o1
      clear hA hd o1
      have c0 : W.cell? ⟨gS, 0, none⟩ = some (.pointer (some ⟨p, 0, none⟩)) := (hbS.kp hW (by simp)).cell 0
      go_step
      exact hK _ _ (Kp.refl _ _) rfl
    · intro vs A' W hA hW hd K hK
      have f0 : vs 0 = .pointer (some ⟨p, 0, none⟩) := hd 0 (by kernel_rfl)
      have e15 : A'.tmps[15]?.getD undef = vs 0 := slot_in hA hap (Nat.lt_of_lt_of_eq (Nat.le_of_ble_eq_true rfl : 15 < 44) hsz.symm) (by kernel_rfl)
      rw [f0] at e15
      clear hA hd o1
      go_step
      exact hK _ _ (Kp.refl _ _) rfl
    · intro vs A' W hA hW hd K hK
      have f1 : vs 1 = .pointer (some ⟨p, 0, none⟩) := hd 1 (by kernel_rfl)
      have e16 : A'.tmps[16]?.getD undef = vs 1 := slot_in hA hap (Nat.lt_of_lt_of_eq (Nat.le_of_ble_eq_true rfl : 16 < 44) hsz.symm) (by kernel_rfl)
      rw [f1] at e16
      clear hA hd o1
      go_step
      exact hK _ _ (Kp.refl _ _) rfl
    · intro vs A' W hA hW hd K hK
      have f2 : vs 2 = .pointer (some ⟨p, 0, none⟩) := hd 2 (by kernel_rfl)
      have e17 : A'.tmps[17]?.getD undef = vs 2 := slot_in hA hap (Nat.lt_of_lt_of_eq (Nat.le_of_ble_eq_true rfl : 17 < 44) hsz.symm) (by kernel_rfl)
      rw [f2] at e17
      clear hA hd o1
      have c0 : W.cell? ⟨p, 0, none⟩ = some (.int .i64 ((n : Nat) : Int)) := (hbP.kp hW (by simp)).cell 0
      go_step
      exact hK _ _ (Kp.refl _ _) rfl
    · intro vs A' W hA hW hd K hK
      clear hA hd o1
      go_step
      exact hK _ _ (Kp.refl _ _) rfl
    · intro vs A' W hA hW hd K hK
      have f3 : vs 3 = .int .i64 ((n : Nat) : Int) := hd 3 (by kernel_rfl)
      have e18 : A'.tmps[18]?.getD undef = vs 3 := slot_in hA hap (Nat.lt_of_lt_of_eq (Nat.le_of_ble_eq_true rfl : 18 < 44) hsz.symm) (by kernel_rfl)
      rw [f3] at e18
      clear hA hd o1
      go_step
      exact hK _ _ (Kp.refl _ _) rfl
  · intro vs W hW hp
    rw [show putAll vs (opsOf 1 Try.f48) 0 a = putD [(15, vs 0), (16, vs 1), (17, vs 2), (18, vs 3), (4, vs 4), (5, vs 5)] a from by kernel_rfl]
    exact hend _ W (same_putD _ a) hW (sl_putD _ a 4 _ (by rw [show vs 4 = _ from hp 4 (Nat.le_of_ble_eq_true (by kernel_rfl))]; kernel_rfl)) (sl_putD _ a 5 _ (by rw [show vs 5 = _ from hp 5 (Nat.le_of_ble_eq_true (by kernel_rfl))]; kernel_rfl))
-- END pca1
-- REG pca2
set_option maxRecDepth 100000 in
set_option maxHeartbeats 2000000 in
theorem pca_r2 {Q : Exit → Act → World → Prop} {a : Act} {w : World} (k n : Nat) (hsz : a.tmps.size = 44) (o4 : Sl a 4 (.int .i64 ((k : Nat) : Int))) (o5 : Sl a 5 (.int .i64 ((n : Nat) : Int)))
    (hend : ∀ (a' : Act), Same a a' [19, 20, 21] → Sl a' 21 (.bool (decide (k < n))) → Q .normal a' (w)) : (Code.region 2 (opsOf 2 Try.f48).toArray false).wp Try.prog Q a w := by
  refine wp_region_lit (l := (opsOf 2 Try.f48)) ?_
  conv => arg 4; whnf
  unfold Sl at o4 o5
  go_wp2_with fail
  try simp only [Act.put]
  exact hend _ (by repeat (first | (with_reducible refine same_set (by decide) ?_) | (with_reducible exact same_nil))) (by unfold Sl; first | (simp [hsz]; done) | (simp [hsz]; omega))
-- END pca2
-- REG pca3
set_option maxRecDepth 100000 in
set_option maxHeartbeats 2000000 in
theorem pca_r3 {Q : Exit → Act → World → Prop} {a : Act} {w : World} (n : Nat) (hsz : a.tmps.size = 44) (o5 : Sl a 5 (.int .i64 ((n : Nat) : Int)))
    (hend : ∀ (a' : Act), Same a a' [22, 6] → Sl a' 6 (.int .i64 ((n : Nat) : Int)) → Q .normal a' (w)) : (Code.region 3 (opsOf 3 Try.f48).toArray false).wp Try.prog Q a w := by
  refine wp_region_lit (l := (opsOf 3 Try.f48)) ?_
  conv => arg 4; whnf
  unfold Sl at o5
  go_wp2_with fail
  try simp only [Act.put]
  exact hend _ (by repeat (first | (with_reducible refine same_set (by decide) ?_) | (with_reducible exact same_nil))) (by unfold Sl; first | (simp [hsz]; done) | (simp [hsz]; omega))
-- END pca3
-- REG pca4
set_option maxRecDepth 100000 in
set_option maxHeartbeats 2000000 in
theorem pca_r4 {Q : Exit → Act → World → Prop} {a : Act} {w : World} (gN k n m : Nat) (hk : k ≤ n) (hn : n ≤ 1073741824) (hbN : Blk w gN 3 #[.int .i64 ((m : Nat) : Int)]) (hsz : a.tmps.size = 44) (o2 : Sl a 2 (.pointer (some ⟨gN, 0, none⟩))) (o4 : Sl a 4 (.int .i64 ((k : Nat) : Int))) (o5 : Sl a 5 (.int .i64 ((n : Nat) : Int)))
    (hend : ∀ (a' : Act), Same a a' [23, 24, 25, 26, 27] → Sl a' 27 (.bool (decide ((m : Int) < (n : Int) - (k : Int)))) → Q .normal a' (w)) : (Code.region 4 (opsOf 4 Try.f48).toArray false).wp Try.prog Q a w := by
  refine wp_region_lit (l := (opsOf 4 Try.f48)) ?_
  conv => arg 4; whnf
  unfold Sl at o2 o4 o5
  have c0 : w.cell? ⟨gN, 0, none⟩ = some (.int .i64 ((m : Nat) : Int)) := hbN.cell 0
  have hw : wrap64 ((n : Int) - (k : Int)) = (n : Int) - (k : Int) := by unfold wrap64; omega
  go_wp2_with fail
  try simp only [Act.put]
  exact hend _ (by repeat (first | (with_reducible refine same_set (by decide) ?_) | (with_reducible exact same_nil))) (by unfold Sl; first | (simp [hsz]; done) | (simp [hsz]; omega))
-- END pca4
-- REG pca5
set_option maxRecDepth 100000 in
set_option maxHeartbeats 2000000 in
theorem pca_r5 {Q : Exit → Act → World → Prop} {a : Act} {w : World} (gN k m : Nat) (hk : k + m ≤ 1073741824) (hbN : Blk w gN 3 #[.int .i64 ((m : Nat) : Int)]) (hsz : a.tmps.size = 44) (o2 : Sl a 2 (.pointer (some ⟨gN, 0, none⟩))) (o4 : Sl a 4 (.int .i64 ((k : Nat) : Int)))
    (hend : ∀ (a' : Act), Same a a' [28, 29, 30, 6] → Sl a' 6 (.int .i64 ((k + m : Nat) : Int)) → Q .normal a' (w)) : (Code.region 5 (opsOf 5 Try.f48).toArray false).wp Try.prog Q a w := by
  refine wp_region_lit (l := (opsOf 5 Try.f48)) ?_
  conv => arg 4; whnf
  unfold Sl at o2 o4
  have c0 : w.cell? ⟨gN, 0, none⟩ = some (.int .i64 ((m : Nat) : Int)) := hbN.cell 0
  have hw : wrap64 ((k : Int) + (m : Int)) = (k : Int) + (m : Int) := by unfold wrap64; omega
  go_wp2_with fail
  try simp only [Act.put]
  exact hend _ (by repeat (first | (with_reducible refine same_set (by decide) ?_) | (with_reducible exact same_nil))) (by unfold Sl; first | (simp [hsz]; done) | (simp [hsz]; omega))
-- END pca5
-- REG pca6
set_option maxRecDepth 100000 in
set_option maxHeartbeats 2000000 in
theorem pca_r6 {Q : Exit → Act → World → Prop} {a : Act} {w : World} (gS p i j x : Nat) (hbS : Blk w gS 47 #[.pointer (some ⟨p, 0, none⟩)]) (HC0 : Calls Try.prog 36 #[.pointer (some ⟨p, 0, none⟩), .int .i64 ((i : Nat) : Int), .int .i64 ((j : Nat) : Int)] w fun e w' => e = .returned (.tuple #[.int .u32 ((x : Nat) : Int), .bool true]) ∧ Kp [] w w') (hsz : a.tmps.size = 44) (o1 : Sl a 1 (.pointer (some ⟨gS, 0, none⟩))) (o4 : Sl a 4 (.int .i64 ((i : Nat) : Int))) (o6 : Sl a 6 (.int .i64 ((j : Nat) : Int)))
    (hend : ∀ (a' : Act) (W : World), Same a a' [32, 33, 34, 35, 31, 36, 37, 7, 8] → Sl a' 7 (.int .u32 ((x : Nat) : Int)) → (Kp [] w W) → Q .normal a' W) : (Code.region 6 (opsOf 6 Try.f48).toArray false).wp Try.prog Q a w := by
  refine wp_region_lit (l := (opsOf 6 Try.f48)) ?_
  conv => arg 4; whnf
  unfold Sl at o1 o4 o6
  have c0 : w.cell? ⟨gS, 0, none⟩ = some (.pointer (some ⟨p, 0, none⟩)) := hbS.cell 0
  have HC := Lib.hid HC0
  clear HC0
  go_wp2_with fail
  refine HC.out.mono ?_
  rintro e w1 ⟨rfl, k1⟩
  have k1 := Lib.hid k1
  go_wp2_with fail
  try simp only [Act.put]
  exact hend _ _ (by repeat (first | (with_reducible refine same_set (by decide) ?_) | (with_reducible exact same_nil))) (by unfold Sl; first | (simp [hsz]; done) | (simp [hsz]; omega)) (k1.out)
-- END pca6
-- REG pca8
set_option maxRecDepth 100000 in
set_option maxHeartbeats 2000000 in
theorem pca_r8 {Q : Exit → Act → World → Prop} {a : Act} {w : World} (k : Nat) (hsz : a.tmps.size = 44) (o6 : Sl a 6 (.int .i64 ((k : Nat) : Int)))
    (hend : ∀ (a' : Act), Same a a' [43, 4] → Sl a' 4 (.int .i64 ((k : Nat) : Int)) → Q .normal a' (w)) : (Code.region 8 (opsOf 8 Try.f48).toArray false).wp Try.prog Q a w := by
  refine wp_region_lit (l := (opsOf 8 Try.f48)) ?_
  conv => arg 4; whnf
  unfold Sl at o6
  go_wp2_with fail
  try simp only [Act.put]
  exact hend _ (by repeat (first | (with_reducible refine same_set (by decide) ?_) | (with_reducible exact same_nil))) (by unfold Sl; first | (simp [hsz]; done) | (simp [hsz]; omega))
-- END pca8
-- REG prr0
set_option maxRecDepth 100000 in
set_option maxHeartbeats 2000000 in
theorem prr_r0 {Q : Exit → Act → World → Prop} {a : Act} {w : World}  (hsz : a.tmps.size = 26) 
    (hend : ∀ (a' : Act), Same a a' [6, 7] → Sl a' 6 (.int .u32 (0 : Int)) → Sl a' 7 (.bool false) → Q .normal a' (w)) : (Code.region 0 (opsOf 0 Try.f37).toArray false).wp Try.prog Q a w := by
  refine wp_region_lit (l := (opsOf 0 Try.f37)) ?_
  conv => arg 4; whnf
  go_wp2_with fail
  try simp only [Act.put]
  exact hend _ (by repeat (first | (with_reducible refine same_set (by decide) ?_) | (with_reducible exact same_nil))) (by unfold Sl; first | (simp [hsz]; done) | (simp [hsz]; omega)) (by unfold Sl; first | (simp [hsz]; done) | (simp [hsz]; omega))
-- END prr0
-- REG prr1N
set_option maxRecDepth 100000 in
set_option maxHeartbeats 2000000 in
theorem prr_r1N {Q : Exit → Act → World → Prop} {a : Act} {w : World} (ix jx : Int) (A : Option Addr) (n c : Nat) (h1 : ix < 0) (hsz : a.tmps.size = 26) (o0 : Sl a 0 (.slice A n c)) (o1 : Sl a 1 (.int .i64 ix)) (o2 : Sl a 2 (.int .i64 jx))
    (hend : ∀ (a' : Act) (W : World), Same a a' [8, 9, 10, 11, 12, 13, 14, 15, 16, 17, 18, 19, 20] → Kp [] w W → Sl a' 20 (.bool true) → Q .normal a' W) : (Code.region 1 (opsOf 1 Try.f37).toArray false).wp Try.prog Q a w := by
  have hap : apartB (opsOf 1 Try.f37) = true := by kernel_rfl
  refine wp_region_invS (l := (opsOf 1 Try.f37)) (fun i v W => match i with | 0 => v = .int .i64 ix | 1 => v = .bool true | 2 => v = .bool true | 6 => v = .bool true | 7 => v = .bool true | 12 => v = .bool true | _ => True) hap ?_ ?_ ?_
  · intro i v W W' h _
    iterate 13 (rcases i with _ | i; · exact h)
    exact h
  · refine ⟨?_, ?_, ?_, ?_, ?_, ?_, ?_, ?_, ?_, ?_, ?_, ?_, ?_, trivial⟩
    · intro vs A' W hA hW hd hu K hK
      refine wpOp_free _ rfl rfl ?_
      conv => arg 2; whnf
      have e1 : A'.tmps[1]?.getD undef = .int .i64 ix := slot_out hA hap (Nat.lt_of_lt_of_eq (Nat.le_of_ble_eq_true rfl : 1 < 26) hsz.symm) (by kernel_rfl) o1
      clear hA hd hu o0 o1 o2
      go_step
      exact hK _ _ (Kp.refl _ _) rfl
    · intro vs A' W hA hW hd hu K hK
      refine wpOp_free _ rfl rfl ?_
      conv => arg 2; whnf
      have f0 : vs 0 = .int .i64 ix := hd 0 (by kernel_rfl)
      have e8 : A'.tmps[8]?.getD undef = vs 0 := slot_in hA hap (Nat.lt_of_lt_of_eq (Nat.le_of_ble_eq_true rfl : 8 < 26) hsz.symm) (by kernel_rfl)
      rw [f0] at e8
      clear hA hd hu o0 o1 o2
      go_step
      exact hK _ _ (Kp.refl _ _) (by first | rfl | exact congrArg Value.bool (decide_eq_true h1))
    · intro vs A' W hA hW hd hu K hK
      refine wpOp_free _ rfl rfl ?_
      conv => arg 2; whnf
      have f1 : vs 1 = .bool true := hd 1 (by kernel_rfl)
      have e9 : A'.tmps[9]?.getD undef = vs 1 := slot_in hA hap (Nat.lt_of_lt_of_eq (Nat.le_of_ble_eq_true rfl : 9 < 26) hsz.symm) (by kernel_rfl)
      rw [f1] at e9
      clear hA hd hu o0 o1 o2
      go_step
      exact hK _ _ (Kp.refl _ _) rfl
    · intro vs A' W hA hW hd hu K hK
      have f2 : vs 2 = .bool true := hd 2 (by kernel_rfl)
      have e10 : A'.tmps[10]?.getD undef = vs 2 := slot_in hA hap (Nat.lt_of_lt_of_eq (Nat.le_of_ble_eq_true rfl : 10 < 26) hsz.symm) (by kernel_rfl)
      rw [f2] at e10
      refine wpOp_skip _ rfl 2 10 false rfl rfl e10 ?_
      exact hK _ _ (Kp.refl _ _) trivial
    · intro vs A' W hA hW hd hu K hK
      have f2 : vs 2 = .bool true := hd 2 (by kernel_rfl)
      have e10 : A'.tmps[10]?.getD undef = vs 2 := slot_in hA hap (Nat.lt_of_lt_of_eq (Nat.le_of_ble_eq_true rfl : 10 < 26) hsz.symm) (by kernel_rfl)
      rw [f2] at e10
      refine wpOp_skip _ rfl 2 10 false rfl rfl e10 ?_
      exact hK _ _ (Kp.refl _ _) trivial
    · intro vs A' W hA hW hd hu K hK
      have f2 : vs 2 = .bool true := hd 2 (by kernel_rfl)
      have e10 : A'.tmps[10]?.getD undef = vs 2 := slot_in hA hap (Nat.lt_of_lt_of_eq (Nat.le_of_ble_eq_true rfl : 10 < 26) hsz.symm) (by kernel_rfl)
      rw [f2] at e10
      refine wpOp_skip _ rfl 2 10 false rfl rfl e10 ?_
      exact hK _ _ (Kp.refl _ _) trivial
    · intro vs A' W hA hW hd hu K hK
      refine wpOp_free _ rfl rfl ?_
      conv => arg 2; whnf
      have f2 : vs 2 = .bool true := hd 2 (by kernel_rfl)
      have e10 : A'.tmps[10]?.getD undef = vs 2 := slot_in hA hap (Nat.lt_of_lt_of_eq (Nat.le_of_ble_eq_true rfl : 10 < 26) hsz.symm) (by kernel_rfl)
      rw [f2] at e10
      have e13 : A'.tmps[13]?.getD undef = vs 5 := slot_in hA hap (Nat.lt_of_lt_of_eq (Nat.le_of_ble_eq_true rfl : 13 < 26) hsz.symm) (by kernel_rfl)
      clear hA hd hu o0 o1 o2
      go_step
      exact hK _ _ (Kp.refl _ _) rfl
    · intro vs A' W hA hW hd hu K hK
      refine wpOp_free _ rfl rfl ?_
      conv => arg 2; whnf
      have f6 : vs 6 = .bool true := hd 6 (by kernel_rfl)
      have e14 : A'.tmps[14]?.getD undef = vs 6 := slot_in hA hap (Nat.lt_of_lt_of_eq (Nat.le_of_ble_eq_true rfl : 14 < 26) hsz.symm) (by kernel_rfl)
      rw [f6] at e14
      clear hA hd hu o0 o1 o2
      go_step
      exact hK _ _ (Kp.refl _ _) rfl
    · intro vs A' W hA hW hd hu K hK
      have f7 : vs 7 = .bool true := hd 7 (by kernel_rfl)
      have e15 : A'.tmps[15]?.getD undef = vs 7 := slot_in hA hap (Nat.lt_of_lt_of_eq (Nat.le_of_ble_eq_true rfl : 15 < 26) hsz.symm) (by kernel_rfl)
      rw [f7] at e15
      refine wpOp_skip _ rfl 7 15 false rfl rfl e15 ?_
      exact hK _ _ (Kp.refl _ _) trivial
    · intro vs A' W hA hW hd hu K hK
      have f7 : vs 7 = .bool true := hd 7 (by kernel_rfl)
      have e15 : A'.tmps[15]?.getD undef = vs 7 := slot_in hA hap (Nat.lt_of_lt_of_eq (Nat.le_of_ble_eq_true rfl : 15 < 26) hsz.symm) (by kernel_rfl)
      rw [f7] at e15
      refine wpOp_skip _ rfl 7 15 false rfl rfl e15 ?_
      exact hK _ _ (Kp.refl _ _) trivial
    · intro vs A' W hA hW hd hu K hK
      have f7 : vs 7 = .bool true := hd 7 (by kernel_rfl)
      have e15 : A'.tmps[15]?.getD undef = vs 7 := slot_in hA hap (Nat.lt_of_lt_of_eq (Nat.le_of_ble_eq_true rfl : 15 < 26) hsz.symm) (by kernel_rfl)
      rw [f7] at e15
      refine wpOp_skip _ rfl 7 15 false rfl rfl e15 ?_
      exact hK _ _ (Kp.refl _ _) trivial
    · intro vs A' W hA hW hd hu K hK
      have f7 : vs 7 = .bool true := hd 7 (by kernel_rfl)
      have e15 : A'.tmps[15]?.getD undef = vs 7 := slot_in hA hap (Nat.lt_of_lt_of_eq (Nat.le_of_ble_eq_true rfl : 15 < 26) hsz.symm) (by kernel_rfl)
      rw [f7] at e15
      refine wpOp_skip _ rfl 7 15 false rfl rfl e15 ?_
      exact hK _ _ (Kp.refl _ _) trivial
    · intro vs A' W hA hW hd hu K hK
      refine wpOp_free _ rfl rfl ?_
      conv => arg 2; whnf
      have f7 : vs 7 = .bool true := hd 7 (by kernel_rfl)
      have e15 : A'.tmps[15]?.getD undef = vs 7 := slot_in hA hap (Nat.lt_of_lt_of_eq (Nat.le_of_ble_eq_true rfl : 15 < 26) hsz.symm) (by kernel_rfl)
      rw [f7] at e15
      have e19 : A'.tmps[19]?.getD undef = vs 11 := slot_in hA hap (Nat.lt_of_lt_of_eq (Nat.le_of_ble_eq_true rfl : 19 < 26) hsz.symm) (by kernel_rfl)
      clear hA hd hu o0 o1 o2
      go_step
      exact hK _ _ (Kp.refl _ _) rfl
  · intro vs W hW hp
    rw [show putAll vs (opsOf 1 Try.f37) 0 a = putD [(8, vs 0), (9, vs 1), (10, vs 2), (11, vs 3), (12, vs 4), (13, vs 5), (14, vs 6), (15, vs 7), (16, vs 8), (17, vs 9), (18, vs 10), (19, vs 11), (20, vs 12)] a from by kernel_rfl]
    exact hend _ W (same_putD _ a) hW (sl_putD _ a 20 _ (by rw [show vs 12 = _ from hp 12 (Nat.le_of_ble_eq_true (by kernel_rfl))]; kernel_rfl))
-- END prr1N
-- REG prr1M
set_option maxRecDepth 100000 in
set_option maxHeartbeats 2000000 in
theorem prr_r1M {Q : Exit → Act → World → Prop} {a : Act} {w : World} (ix jx : Int) (A : Option Addr) (n c : Nat) (h1 : ¬ ix < 0) (h2 : jx < ix) (hsz : a.tmps.size = 26) (o0 : Sl a 0 (.slice A n c)) (o1 : Sl a 1 (.int .i64 ix)) (o2 : Sl a 2 (.int .i64 jx))
    (hend : ∀ (a' : Act) (W : World), Same a a' [8, 9, 10, 11, 12, 13, 14, 15, 16, 17, 18, 19, 20] → Kp [] w W → Sl a' 20 (.bool true) → Q .normal a' W) : (Code.region 1 (opsOf 1 Try.f37).toArray false).wp Try.prog Q a w := by
  have hap : apartB (opsOf 1 Try.f37) = true := by kernel_rfl
  refine wp_region_invS (l := (opsOf 1 Try.f37)) (fun i v W => match i with | 0 => v = .int .i64 ix | 1 => v = .bool false | 2 => v = .bool false | 3 => v = .int .i64 ix | 4 => v = .int .i64 jx | 5 => v = .bool true | 6 => v = .bool true | 7 => v = .bool true | 12 => v = .bool true | _ => True) hap ?_ ?_ ?_
  · intro i v W W' h _
    iterate 13 (rcases i with _ | i; · exact h)
    exact h
  · refine ⟨?_, ?_, ?_, ?_, ?_, ?_, ?_, ?_, ?_, ?_, ?_, ?_, ?_, trivial⟩
    · intro vs A' W hA hW hd hu K hK
      refine wpOp_free _ rfl rfl ?_
      conv => arg 2; whnf
      have e1 : A'.tmps[1]?.getD undef = .int .i64 ix := slot_out hA hap (Nat.lt_of_lt_of_eq (Nat.le_of_ble_eq_true rfl : 1 < 26) hsz.symm) (by kernel_rfl) o1
      clear hA hd hu o0 o1 o2
      go_step
      exact hK _ _ (Kp.refl _ _) rfl
    · intro vs A' W hA hW hd hu K hK
      refine wpOp_free _ rfl rfl ?_
      conv => arg 2; whnf
      have f0 : vs 0 = .int .i64 ix := hd 0 (by kernel_rfl)
      have e8 : A'.tmps[8]?.getD undef = vs 0 := slot_in hA hap (Nat.lt_of_lt_of_eq (Nat.le_of_ble_eq_true rfl : 8 < 26) hsz.symm) (by kernel_rfl)
      rw [f0] at e8
      clear hA hd hu o0 o1 o2
      go_step
      exact hK _ _ (Kp.refl _ _) (by first | rfl | exact congrArg Value.bool (decide_eq_false h1))
    · intro vs A' W hA hW hd hu K hK
      refine wpOp_free _ rfl rfl ?_
      conv => arg 2; whnf
      have f1 : vs 1 = .bool false := hd 1 (by kernel_rfl)
      have e9 : A'.tmps[9]?.getD undef = vs 1 := slot_in hA hap (Nat.lt_of_lt_of_eq (Nat.le_of_ble_eq_true rfl : 9 < 26) hsz.symm) (by kernel_rfl)
      rw [f1] at e9
      clear hA hd hu o0 o1 o2
      go_step
      exact hK _ _ (Kp.refl _ _) rfl
    · intro vs A' W hA hW hd hu K hK
      have f2 : vs 2 = .bool false := hd 2 (by kernel_rfl)
      have e10 : A'.tmps[10]?.getD undef = vs 2 := slot_in hA hap (Nat.lt_of_lt_of_eq (Nat.le_of_ble_eq_true rfl : 10 < 26) hsz.symm) (by kernel_rfl)
      rw [f2] at e10
      refine wpOp_go _ rfl 2 10 false rfl rfl e10 ?_
      conv => arg 2; whnf
      have e1 : A'.tmps[1]?.getD undef = .int .i64 ix := slot_out hA hap (Nat.lt_of_lt_of_eq (Nat.le_of_ble_eq_true rfl : 1 < 26) hsz.symm) (by kernel_rfl) o1
      clear hA hd hu o0 o1 o2
      go_step
      exact hK _ _ (Kp.refl _ _) rfl
    · intro vs A' W hA hW hd hu K hK
      have f2 : vs 2 = .bool false := hd 2 (by kernel_rfl)
      have e10 : A'.tmps[10]?.getD undef = vs 2 := slot_in hA hap (Nat.lt_of_lt_of_eq (Nat.le_of_ble_eq_true rfl : 10 < 26) hsz.symm) (by kernel_rfl)
      rw [f2] at e10
      refine wpOp_go _ rfl 2 10 false rfl rfl e10 ?_
      conv => arg 2; whnf
      have e2 : A'.tmps[2]?.getD undef = .int .i64 jx := slot_out hA hap (Nat.lt_of_lt_of_eq (Nat.le_of_ble_eq_true rfl : 2 < 26) hsz.symm) (by kernel_rfl) o2
      clear hA hd hu o0 o1 o2
      go_step
      exact hK _ _ (Kp.refl _ _) rfl
    · intro vs A' W hA hW hd hu K hK
      have f2 : vs 2 = .bool false := hd 2 (by kernel_rfl)
      have e10 : A'.tmps[10]?.getD undef = vs 2 := slot_in hA hap (Nat.lt_of_lt_of_eq (Nat.le_of_ble_eq_true rfl : 10 < 26) hsz.symm) (by kernel_rfl)
      rw [f2] at e10
      refine wpOp_go _ rfl 2 10 false rfl rfl e10 ?_
      conv => arg 2; whnf
      have f3 : vs 3 = .int .i64 ix := hd 3 (by kernel_rfl)
      have e11 : A'.tmps[11]?.getD undef = vs 3 := slot_in hA hap (Nat.lt_of_lt_of_eq (Nat.le_of_ble_eq_true rfl : 11 < 26) hsz.symm) (by kernel_rfl)
      rw [f3] at e11
      have f4 : vs 4 = .int .i64 jx := hd 4 (by kernel_rfl)
      have e12 : A'.tmps[12]?.getD undef = vs 4 := slot_in hA hap (Nat.lt_of_lt_of_eq (Nat.le_of_ble_eq_true rfl : 12 < 26) hsz.symm) (by kernel_rfl)
      rw [f4] at e12
      clear hA hd hu o0 o1 o2
      go_step
      exact hK _ _ (Kp.refl _ _) (by first | rfl | exact congrArg Value.bool (decide_eq_true h2))
    · intro vs A' W hA hW hd hu K hK
      refine wpOp_free _ rfl rfl ?_
      conv => arg 2; whnf
      have f2 : vs 2 = .bool false := hd 2 (by kernel_rfl)
      have e10 : A'.tmps[10]?.getD undef = vs 2 := slot_in hA hap (Nat.lt_of_lt_of_eq (Nat.le_of_ble_eq_true rfl : 10 < 26) hsz.symm) (by kernel_rfl)
      rw [f2] at e10
      have f5 : vs 5 = .bool true := hd 5 (by kernel_rfl)
      have e13 : A'.tmps[13]?.getD undef = vs 5 := slot_in hA hap (Nat.lt_of_lt_of_eq (Nat.le_of_ble_eq_true rfl : 13 < 26) hsz.symm) (by kernel_rfl)
      rw [f5] at e13
      clear hA hd hu o0 o1 o2
      go_step
      exact hK _ _ (Kp.refl _ _) rfl
    · intro vs A' W hA hW hd hu K hK
      refine wpOp_free _ rfl rfl ?_
      conv => arg 2; whnf
      have f6 : vs 6 = .bool true := hd 6 (by kernel_rfl)
      have e14 : A'.tmps[14]?.getD undef = vs 6 := slot_in hA hap (Nat.lt_of_lt_of_eq (Nat.le_of_ble_eq_true rfl : 14 < 26) hsz.symm) (by kernel_rfl)
      rw [f6] at e14
      clear hA hd hu o0 o1 o2
      go_step
      exact hK _ _ (Kp.refl _ _) rfl
    · intro vs A' W hA hW hd hu K hK
      have f7 : vs 7 = .bool true := hd 7 (by kernel_rfl)
      have e15 : A'.tmps[15]?.getD undef = vs 7 := slot_in hA hap (Nat.lt_of_lt_of_eq (Nat.le_of_ble_eq_true rfl : 15 < 26) hsz.symm) (by kernel_rfl)
      rw [f7] at e15
      refine wpOp_skip _ rfl 7 15 false rfl rfl e15 ?_
      exact hK _ _ (Kp.refl _ _) trivial
    · intro vs A' W hA hW hd hu K hK
      have f7 : vs 7 = .bool true := hd 7 (by kernel_rfl)
      have e15 : A'.tmps[15]?.getD undef = vs 7 := slot_in hA hap (Nat.lt_of_lt_of_eq (Nat.le_of_ble_eq_true rfl : 15 < 26) hsz.symm) (by kernel_rfl)
      rw [f7] at e15
      refine wpOp_skip _ rfl 7 15 false rfl rfl e15 ?_
      exact hK _ _ (Kp.refl _ _) trivial
    · intro vs A' W hA hW hd hu K hK
      have f7 : vs 7 = .bool true := hd 7 (by kernel_rfl)
      have e15 : A'.tmps[15]?.getD undef = vs 7 := slot_in hA hap (Nat.lt_of_lt_of_eq (Nat.le_of_ble_eq_true rfl : 15 < 26) hsz.symm) (by kernel_rfl)
      rw [f7] at e15
      refine wpOp_skip _ rfl 7 15 false rfl rfl e15 ?_
      exact hK _ _ (Kp.refl _ _) trivial
    · intro vs A' W hA hW hd hu K hK
      have f7 : vs 7 = .bool true := hd 7 (by kernel_rfl)
      have e15 : A'.tmps[15]?.getD undef = vs 7 := slot_in hA hap (Nat.lt_of_lt_of_eq (Nat.le_of_ble_eq_true rfl : 15 < 26) hsz.symm) (by kernel_rfl)
      rw [f7] at e15
      refine wpOp_skip _ rfl 7 15 false rfl rfl e15 ?_
      exact hK _ _ (Kp.refl _ _) trivial
    · intro vs A' W hA hW hd hu K hK
      refine wpOp_free _ rfl rfl ?_
      conv => arg 2; whnf
      have f7 : vs 7 = .bool true := hd 7 (by kernel_rfl)
      have e15 : A'.tmps[15]?.getD undef = vs 7 := slot_in hA hap (Nat.lt_of_lt_of_eq (Nat.le_of_ble_eq_true rfl : 15 < 26) hsz.symm) (by kernel_rfl)
      rw [f7] at e15
      have e19 : A'.tmps[19]?.getD undef = vs 11 := slot_in hA hap (Nat.lt_of_lt_of_eq (Nat.le_of_ble_eq_true rfl : 19 < 26) hsz.symm) (by kernel_rfl)
      clear hA hd hu o0 o1 o2
      go_step
      exact hK _ _ (Kp.refl _ _) rfl
  · intro vs W hW hp
    rw [show putAll vs (opsOf 1 Try.f37) 0 a = putD [(8, vs 0), (9, vs 1), (10, vs 2), (11, vs 3), (12, vs 4), (13, vs 5), (14, vs 6), (15, vs 7), (16, vs 8), (17, vs 9), (18, vs 10), (19, vs 11), (20, vs 12)] a from by kernel_rfl]
    exact hend _ W (same_putD _ a) hW (sl_putD _ a 20 _ (by rw [show vs 12 = _ from hp 12 (Nat.le_of_ble_eq_true (by kernel_rfl))]; kernel_rfl))
-- END prr1M
-- REG prr1Y
set_option maxRecDepth 100000 in
set_option maxHeartbeats 2000000 in
theorem prr_r1Y {Q : Exit → Act → World → Prop} {a : Act} {w : World} (ix jx : Int) (A : Option Addr) (n c : Nat) (h1 : ¬ ix < 0) (h2 : ¬ jx < ix) (hsz : a.tmps.size = 26) (o0 : Sl a 0 (.slice A n c)) (o1 : Sl a 1 (.int .i64 ix)) (o2 : Sl a 2 (.int .i64 jx))
    (hend : ∀ (a' : Act) (W : World), Same a a' [8, 9, 10, 11, 12, 13, 14, 15, 16, 17, 18, 19, 20] → Kp [] w W → Sl a' 20 (.bool (decide ((n : Int) < jx))) → Q .normal a' W) : (Code.region 1 (opsOf 1 Try.f37).toArray false).wp Try.prog Q a w := by
  have hap : apartB (opsOf 1 Try.f37) = true := by kernel_rfl
  refine wp_region_invS (l := (opsOf 1 Try.f37)) (fun i v W => match i with | 0 => v = .int .i64 ix | 1 => v = .bool false | 2 => v = .bool false | 3 => v = .int .i64 ix | 4 => v = .int .i64 jx | 5 => v = .bool false | 6 => v = .bool false | 7 => v = .bool false | 8 => v = .int .i64 jx | 9 => v = .slice A n c | 10 => v = .int .i64 ((n : Nat) : Int) | 11 => v = .bool (decide ((n : Int) < jx)) | 12 => v = .bool (decide ((n : Int) < jx)) | _ => True) hap ?_ ?_ ?_
  · intro i v W W' h _
    iterate 13 (rcases i with _ | i; · exact h)
    exact h
  · refine ⟨?_, ?_, ?_, ?_, ?_, ?_, ?_, ?_, ?_, ?_, ?_, ?_, ?_, trivial⟩
    · intro vs A' W hA hW hd hu K hK
      refine wpOp_free _ rfl rfl ?_
      conv => arg 2; whnf
      have e1 : A'.tmps[1]?.getD undef = .int .i64 ix := slot_out hA hap (Nat.lt_of_lt_of_eq (Nat.le_of_ble_eq_true rfl : 1 < 26) hsz.symm) (by kernel_rfl) o1
      clear hA hd hu o0 o1 o2
      go_step
      exact hK _ _ (Kp.refl _ _) rfl
    · intro vs A' W hA hW hd hu K hK
      refine wpOp_free _ rfl rfl ?_
      conv => arg 2; whnf
      have f0 : vs 0 = .int .i64 ix := hd 0 (by kernel_rfl)
      have e8 : A'.tmps[8]?.getD undef = vs 0 := slot_in hA hap (Nat.lt_of_lt_of_eq (Nat.le_of_ble_eq_true rfl : 8 < 26) hsz.symm) (by kernel_rfl)
      rw [f0] at e8
      clear hA hd hu o0 o1 o2
      go_step
      exact hK _ _ (Kp.refl _ _) (by first | rfl | exact congrArg Value.bool (decide_eq_false h1))
    · intro vs A' W hA hW hd hu K hK
      refine wpOp_free _ rfl rfl ?_
      conv => arg 2; whnf
      have f1 : vs 1 = .bool false := hd 1 (by kernel_rfl)
      have e9 : A'.tmps[9]?.getD undef = vs 1 := slot_in hA hap (Nat.lt_of_lt_of_eq (Nat.le_of_ble_eq_true rfl : 9 < 26) hsz.symm) (by kernel_rfl)
      rw [f1] at e9
      clear hA hd hu o0 o1 o2
      go_step
      exact hK _ _ (Kp.refl _ _) rfl
    · intro vs A' W hA hW hd hu K hK
      have f2 : vs 2 = .bool false := hd 2 (by kernel_rfl)
      have e10 : A'.tmps[10]?.getD undef = vs 2 := slot_in hA hap (Nat.lt_of_lt_of_eq (Nat.le_of_ble_eq_true rfl : 10 < 26) hsz.symm) (by kernel_rfl)
      rw [f2] at e10
      refine wpOp_go _ rfl 2 10 false rfl rfl e10 ?_
      conv => arg 2; whnf
      have e1 : A'.tmps[1]?.getD undef = .int .i64 ix := slot_out hA hap (Nat.lt_of_lt_of_eq (Nat.le_of_ble_eq_true rfl : 1 < 26) hsz.symm) (by kernel_rfl) o1
      clear hA hd hu o0 o1 o2
      go_step
      exact hK _ _ (Kp.refl _ _) rfl
    · intro vs A' W hA hW hd hu K hK
      have f2 : vs 2 = .bool false := hd 2 (by kernel_rfl)
      have e10 : A'.tmps[10]?.getD undef = vs 2 := slot_in hA hap (Nat.lt_of_lt_of_eq (Nat.le_of_ble_eq_true rfl : 10 < 26) hsz.symm) (by kernel_rfl)
      rw [f2] at e10
      refine wpOp_go _ rfl 2 10 false rfl rfl e10 ?_
      conv => arg 2; whnf
      have e2 : A'.tmps[2]?.getD undef = .int .i64 jx := slot_out hA hap (Nat.lt_of_lt_of_eq (Nat.le_of_ble_eq_true rfl : 2 < 26) hsz.symm) (by kernel_rfl) o2
      clear hA hd hu o0 o1 o2
      go_step
      exact hK _ _ (Kp.refl _ _) rfl
    · intro vs A' W hA hW hd hu K hK
      have f2 : vs 2 = .bool false := hd 2 (by kernel_rfl)
      have e10 : A'.tmps[10]?.getD undef = vs 2 := slot_in hA hap (Nat.lt_of_lt_of_eq (Nat.le_of_ble_eq_true rfl : 10 < 26) hsz.symm) (by kernel_rfl)
      rw [f2] at e10
      refine wpOp_go _ rfl 2 10 false rfl rfl e10 ?_
      conv => arg 2; whnf
      have f3 : vs 3 = .int .i64 ix := hd 3 (by kernel_rfl)
      have e11 : A'.tmps[11]?.getD undef = vs 3 := slot_in hA hap (Nat.lt_of_lt_of_eq (Nat.le_of_ble_eq_true rfl : 11 < 26) hsz.symm) (by kernel_rfl)
      rw [f3] at e11
      have f4 : vs 4 = .int .i64 jx := hd 4 (by kernel_rfl)
      have e12 : A'.tmps[12]?.getD undef = vs 4 := slot_in hA hap (Nat.lt_of_lt_of_eq (Nat.le_of_ble_eq_true rfl : 12 < 26) hsz.symm) (by kernel_rfl)
      rw [f4] at e12
      clear hA hd hu o0 o1 o2
      go_step
      exact hK _ _ (Kp.refl _ _) (by first | rfl | exact congrArg Value.bool (decide_eq_false h2))
    · intro vs A' W hA hW hd hu K hK
      refine wpOp_free _ rfl rfl ?_
      conv => arg 2; whnf
      have f2 : vs 2 = .bool false := hd 2 (by kernel_rfl)
      have e10 : A'.tmps[10]?.getD undef = vs 2 := slot_in hA hap (Nat.lt_of_lt_of_eq (Nat.le_of_ble_eq_true rfl : 10 < 26) hsz.symm) (by kernel_rfl)
      rw [f2] at e10
      have f5 : vs 5 = .bool false := hd 5 (by kernel_rfl)
      have e13 : A'.tmps[13]?.getD undef = vs 5 := slot_in hA hap (Nat.lt_of_lt_of_eq (Nat.le_of_ble_eq_true rfl : 13 < 26) hsz.symm) (by kernel_rfl)
      rw [f5] at e13
      clear hA hd hu o0 o1 o2
      go_step
      exact hK _ _ (Kp.refl _ _) rfl
    · intro vs A' W hA hW hd hu K hK
      refine wpOp_free _ rfl rfl ?_
      conv => arg 2; whnf
      have f6 : vs 6 = .bool false := hd 6 (by kernel_rfl)
      have e14 : A'.tmps[14]?.getD undef = vs 6 := slot_in hA hap (Nat.lt_of_lt_of_eq (Nat.le_of_ble_eq_true rfl : 14 < 26) hsz.symm) (by kernel_rfl)
      rw [f6] at e14
      clear hA hd hu o0 o1 o2
      go_step
      exact hK _ _ (Kp.refl _ _) rfl
    · intro vs A' W hA hW hd hu K hK
      have f7 : vs 7 = .bool false := hd 7 (by kernel_rfl)
      have e15 : A'.tmps[15]?.getD undef = vs 7 := slot_in hA hap (Nat.lt_of_lt_of_eq (Nat.le_of_ble_eq_true rfl : 15 < 26) hsz.symm) (by kernel_rfl)
      rw [f7] at e15
      refine wpOp_go _ rfl 7 15 false rfl rfl e15 ?_
      conv => arg 2; whnf
      have e2 : A'.tmps[2]?.getD undef = .int .i64 jx := slot_out hA hap (Nat.lt_of_lt_of_eq (Nat.le_of_ble_eq_true rfl : 2 < 26) hsz.symm) (by kernel_rfl) o2
      clear hA hd hu o0 o1 o2
      go_step
      exact hK _ _ (Kp.refl _ _) rfl
    · intro vs A' W hA hW hd hu K hK
      have f7 : vs 7 = .bool false := hd 7 (by kernel_rfl)
      have e15 : A'.tmps[15]?.getD undef = vs 7 := slot_in hA hap (Nat.lt_of_lt_of_eq (Nat.le_of_ble_eq_true rfl : 15 < 26) hsz.symm) (by kernel_rfl)
      rw [f7] at e15
      refine wpOp_go _ rfl 7 15 false rfl rfl e15 ?_
      conv => arg 2; whnf
      have e0 : A'.tmps[0]?.getD undef = .slice A n c := slot_out hA hap (Nat.lt_of_lt_of_eq (Nat.le_of_ble_eq_true rfl : 0 < 26) hsz.symm) (by kernel_rfl) o0
      clear hA hd hu o0 o1 o2
      go_step
      exact hK _ _ (Kp.refl _ _) rfl
    · intro vs A' W hA hW hd hu K hK
      have f7 : vs 7 = .bool false := hd 7 (by kernel_rfl)
      have e15 : A'.tmps[15]?.getD undef = vs 7 := slot_in hA hap (Nat.lt_of_lt_of_eq (Nat.le_of_ble_eq_true rfl : 15 < 26) hsz.symm) (by kernel_rfl)
      rw [f7] at e15
      refine wpOp_go _ rfl 7 15 false rfl rfl e15 ?_
      conv => arg 2; whnf
      have f9 : vs 9 = .slice A n c := hd 9 (by kernel_rfl)
      have e17 : A'.tmps[17]?.getD undef = vs 9 := slot_in hA hap (Nat.lt_of_lt_of_eq (Nat.le_of_ble_eq_true rfl : 17 < 26) hsz.symm) (by kernel_rfl)
      rw [f9] at e17
      clear hA hd hu o0 o1 o2
      go_step
      exact hK _ _ (Kp.refl _ _) rfl
    · intro vs A' W hA hW hd hu K hK
      have f7 : vs 7 = .bool false := hd 7 (by kernel_rfl)
      have e15 : A'.tmps[15]?.getD undef = vs 7 := slot_in hA hap (Nat.lt_of_lt_of_eq (Nat.le_of_ble_eq_true rfl : 15 < 26) hsz.symm) (by kernel_rfl)
      rw [f7] at e15
      refine wpOp_go _ rfl 7 15 false rfl rfl e15 ?_
      conv => arg 2; whnf
      have f8 : vs 8 = .int .i64 jx := hd 8 (by kernel_rfl)
      have e16 : A'.tmps[16]?.getD undef = vs 8 := slot_in hA hap (Nat.lt_of_lt_of_eq (Nat.le_of_ble_eq_true rfl : 16 < 26) hsz.symm) (by kernel_rfl)
      rw [f8] at e16
      have f10 : vs 10 = .int .i64 ((n : Nat) : Int) := hd 10 (by kernel_rfl)
      have e18 : A'.tmps[18]?.getD undef = vs 10 := slot_in hA hap (Nat.lt_of_lt_of_eq (Nat.le_of_ble_eq_true rfl : 18 < 26) hsz.symm) (by kernel_rfl)
      rw [f10] at e18
      clear hA hd hu o0 o1 o2
      go_step
      exact hK _ _ (Kp.refl _ _) rfl
    · intro vs A' W hA hW hd hu K hK
      refine wpOp_free _ rfl rfl ?_
      conv => arg 2; whnf
      have f7 : vs 7 = .bool false := hd 7 (by kernel_rfl)
      have e15 : A'.tmps[15]?.getD undef = vs 7 := slot_in hA hap (Nat.lt_of_lt_of_eq (Nat.le_of_ble_eq_true rfl : 15 < 26) hsz.symm) (by kernel_rfl)
      rw [f7] at e15
      have f11 : vs 11 = .bool (decide ((n : Int) < jx)) := hd 11 (by kernel_rfl)
      have e19 : A'.tmps[19]?.getD undef = vs 11 := slot_in hA hap (Nat.lt_of_lt_of_eq (Nat.le_of_ble_eq_true rfl : 19 < 26) hsz.symm) (by kernel_rfl)
      rw [f11] at e19
      clear hA hd hu o0 o1 o2
      go_step
      exact hK _ _ (Kp.refl _ _) rfl
  · intro vs W hW hp
    rw [show putAll vs (opsOf 1 Try.f37) 0 a = putD [(8, vs 0), (9, vs 1), (10, vs 2), (11, vs 3), (12, vs 4), (13, vs 5), (14, vs 6), (15, vs 7), (16, vs 8), (17, vs 9), (18, vs 10), (19, vs 11), (20, vs 12)] a from by kernel_rfl]
    exact hend _ W (same_putD _ a) hW (sl_putD _ a 20 _ (by rw [show vs 12 = _ from hp 12 (Nat.le_of_ble_eq_true (by kernel_rfl))]; kernel_rfl))
-- END prr1Y
-- REG prr2
set_option maxRecDepth 100000 in
set_option maxHeartbeats 2000000 in
theorem prr_r2 {Q : Exit → Act → World → Prop} {a : Act} {w : World}  (hsz : a.tmps.size = 26) 
    (hend : ∀ (a' : Act), Same a a' [6, 7] → Sl a' 6 (.int .u32 (0 : Int)) → Sl a' 7 (.bool false) → Q .normal a' (w)) : (Code.region 2 (opsOf 2 Try.f37).toArray false).wp Try.prog Q a w := by
  refine wp_region_lit (l := (opsOf 2 Try.f37)) ?_
  conv => arg 4; whnf
  go_wp2_with fail
  try simp only [Act.put]
  exact hend _ (by repeat (first | (with_reducible refine same_set (by decide) ?_) | (with_reducible exact same_nil))) (by unfold Sl; first | (simp [hsz]; done) | (simp [hsz]; omega)) (by unfold Sl; first | (simp [hsz]; done) | (simp [hsz]; omega))
-- END prr2
-- REG prr3
set_option maxRecDepth 100000 in
set_option maxHeartbeats 2000000 in
theorem prr_r3 {Q : Exit → Act → World → Prop} {a : Act} {w : World} (A : Option Addr) (n c lo m x : Nat) (A2 : Option Addr) (c2 : Nat) (jx : Int) (run : ∀ w, (Instr.sliceAt 22 (.slice A n c) (some (.int .i64 ((lo : Nat) : Int))) (some (.int .i64 jx)) none).run Try.prog w = .ok (.slice A2 m c2) w) (HC0 : Calls Try.prog 15 #[.slice A2 m c2] w fun e w' => e = .returned (.int .u32 ((x : Nat) : Int)) ∧ w = w') (hsz : a.tmps.size = 26) (o0 : Sl a 0 (.slice A n c)) (o1 : Sl a 1 (.int .i64 ((lo : Nat) : Int))) (o2 : Sl a 2 (.int .i64 jx))
    (hend : ∀ (a' : Act), Same a a' [21, 22, 23, 24, 25, 6, 7] → Sl a' 6 (.int .u32 ((x : Nat) : Int)) → Sl a' 7 (.bool true) → Q .normal a' (w)) : (Code.region 3 (opsOf 3 Try.f37).toArray false).wp Try.prog Q a w := by
  refine wp_region_lit (l := (opsOf 3 Try.f37)) ?_
  conv => arg 4; whnf
  unfold Sl at o0 o1 o2
  have HC := Lib.hid HC0
  clear HC0
  go_wp2_with fail
  refine HC.out.mono ?_
  rintro e w1 ⟨rfl, rfl⟩
  go_wp2_with fail
  try simp only [Act.put]
  exact hend _ (by repeat (first | (with_reducible refine same_set (by decide) ?_) | (with_reducible exact same_nil))) (by unfold Sl; first | (simp [hsz]; done) | (simp [hsz]; omega)) (by unfold Sl; first | (simp [hsz]; done) | (simp [hsz]; omega))
-- END prr3
end
/- Slices of bytes, cut: one run equation each, with what the cut reads. -/
section
open Go.RowKit

/-- What a cut slice is good for. -/
def CutOf (A : Option Addr) (n c lo m : Nat) (A' : Option Addr) (c' : Nat) : Prop :=
  ∀ (W : World) (bs : List UInt8), Rd W 1 (.slice A n c) n (bv bs) → Rd W 1 (.slice A' m c') m (bv ((bs.drop lo).take m))
theorem cut_of {A : Option Addr} {n c lo m : Nat} (h : lo + m ≤ n) : ∃ A' c', sliced A lo (lo + m) c 1 = .slice A' m c' ∧ CutOf A n c lo m A' c' ∧ ∀ g, (Value.slice A' m c').ownBlock = some g → (Value.slice A n c).ownBlock = some g := by
  by_cases e : c = lo
  · refine ⟨A, c - lo, by simp [sliced, e], fun W bs h1 => ?_, fun g hg => by cases A <;> simp_all [Value.ownBlock]⟩
    have := h1.cut0 (a := lo) (k := m) h e
    rwa [bv_drop] at this
  · refine ⟨A.map (fun x => x.add lo), c - lo, by simp [sliced, e], fun W bs h1 => ?_, fun g hg => ?_⟩
    · have := h1.cut (a := lo) (k := m) h e
      rwa [bv_drop] at this
    · cases A with
      | none => simp [Value.ownBlock] at hg
      | some ad =>
        simp only [Option.map_some, Value.ownBlock] at hg ⊢
        rw [← hg]; simp [block_of_add]
theorem run_size_u8 (w : World) : (sizeOf 5).run Try.prog w = .ok 1 w := by
  obtain ⟨i0, hi, hz0, hz1, hz2⟩ := info_parts Try.infoU8
  simp [sizeOf, typeInfo, hi, hz1]
theorem cut_at (w : World) (x : Value) (lo hi mx : Option Value) : (Instr.sliceAt 22 x lo hi mx).run Try.prog w = (Instr.slice 22 x lo hi mx).run Try.prog w := by
  simp [Instr.sliceAt, run_underlying Try.underlying22]
theorem elem_u8 : Try.prog.elem 22 = 5 := by kernel_rfl
theorem und_u8 : Try.prog.underlying 22 = some (.slice (Try.prog.elem 22)) := by rw [elem_u8]; exact Try.underlying22
theorem cut_lh (A : Option Addr) (n c lo m : Nat) (l h : Int) (hl : l = lo) (hh : h = lo + m) (hm : lo + m ≤ n) (hc : n ≤ c) : ∃ A' c', (∀ w, (Instr.sliceAt 22 (.slice A n c) (some (.int .i64 l)) (some (.int .i64 h)) none).run Try.prog w = .ok (.slice A' m c') w) ∧ CutOf A n c lo m A' c' ∧ ∀ g, (Value.slice A' m c').ownBlock = some g → (Value.slice A n c).ownBlock = some g := by
  subst hl hh
  obtain ⟨A', c', e, h1, h2⟩ := cut_of (A := A) (n := n) (c := c) (lo := lo) (m := m) (by omega)
  refine ⟨A', c', fun w => ?_, h1, h2⟩
  rw [cut_at, run_slice_lh w 22 A n c und_u8 .i64 .i64 lo ((lo : Int) + (m : Int)) (by omega) (by omega) (by omega), elem_u8, run_size_u8]
  simp only [Result.andThen_ok, Int.toNat_natCast]
  rw [show ((lo : Int) + (m : Int)).toNat = lo + m from by omega, e]
end
/- All of crc.Sums as an iterator, Copy; the reference's Range. -/
section
open Go.RowKit Go.Shelf
theorem results_N {P : Program} {fn : Func} {w : World} {tmps : Array Value} (h : fn.results = #[]) : (results fn tmps).run P w = .ok (.tuple #[]) w := by
  simp [results, h]
theorem results_T2 {P : Program} {fn : Func} {w : World} {tmps : Array Value} {u u2 : Nat} {x y : Value} (h : fn.results = #[.tmp u, .tmp u2]) (hx : tmps.getD u undef = x) (hy : tmps.getD u2 undef = y) : (results fn tmps).run P w = .ok (.tuple #[x, y]) w := by
  simp only [Array.getD_eq_getD_getElem?] at hx hy
  simp [results, h, hx, hy]
theorem rrange_any (A : Option Addr) (n c : Nat) (bs : List UInt8) (hn : bs.length = n) (hnc : n ≤ c) (ix jx : Int) (w : World) (hv : Rd w 1 (.slice A n c) n (bv bs)) :
    Calls Try.prog 37 #[.slice A n c, .int .i64 ix, .int .i64 jx] w fun e w' => e = .returned (.tuple #[.int .u32 ((if 0 ≤ ix ∧ ix ≤ jx ∧ jx ≤ n then crc ((bs.drop ix.toNat).take (jx.toNat - ix.toNat)) else 0 : Nat) : Int), .bool (decide (0 ≤ ix ∧ ix ≤ jx ∧ jx ≤ n))]) ∧ Kp [] w w' := by
  refine calls_fr Try.func37 rfl 26 rfl (fun a0 hsz hdf hAr => ?_)
  have hz0 : a0.tmps.size = 26 := hsz
  have D := hdf
  have o0 := hAr 0 _ rfl
  have o1 := hAr 1 _ rfl
  have o2 := hAr 2 _ rfl
  refine wp_seq (prr_r0 hz0 (fun a1 hs1 o6 o7 => ?_))
  have hz1 := hs1.size.trans hz0
  have o0 := hs1.keep 0 _ (by decide) o0
  have o1 := hs1.keep 1 _ (by decide) o1
  have o2 := hs1.keep 2 _ (by decide) o2
  have D := hs1.defers.trans D
  by_cases h1 : ix < 0
  · skip
    refine wp_seq (wp_seq (prr_r1N ix jx A n c h1 hz1 o0 o1 o2 (fun a2 w2 hs2 k2 o20 => ?_)))
    have hz2 := hs2.size.trans hz1
    have o0 := hs2.keep 0 _ (by decide) o0
    have o1 := hs2.keep 1 _ (by decide) o1
    have o2 := hs2.keep 2 _ (by decide) o2
    have D := hs2.defers.trans D
    refine wp_cond_true (o20.eval (by rw [hz2]; decide)) ?_
    refine wp_seq (prr_r2 hz2 (fun a3 hs3 o6 o7 => ?_))
    have hz3 := hs3.size.trans hz2
    have o0 := hs3.keep 0 _ (by decide) o0
    have o1 := hs3.keep 1 _ (by decide) o1
    have o2 := hs3.keep 2 _ (by decide) o2
    have o20 := hs3.keep 20 _ (by decide) o20
    have D := hs3.defers.trans D
    refine wp_ret ?_
    simp only [Exit.then]
    refine bodyPost_ret (results_T2 (by rfl) (o6.eval (by rw [hz3]; decide)) (o7.eval (by rw [hz3]; decide))) D ⟨?_, k2⟩
    rw [if_neg (by omega), decide_eq_false (by omega)]
    rfl
  · by_cases h2 : jx < ix
    · skip
      refine wp_seq (wp_seq (prr_r1M ix jx A n c h1 h2 hz1 o0 o1 o2 (fun a2 w2 hs2 k2 o20 => ?_)))
      have hz2 := hs2.size.trans hz1
      have o0 := hs2.keep 0 _ (by decide) o0
      have o1 := hs2.keep 1 _ (by decide) o1
      have o2 := hs2.keep 2 _ (by decide) o2
      have D := hs2.defers.trans D
      refine wp_cond_true (o20.eval (by rw [hz2]; decide)) ?_
      refine wp_seq (prr_r2 hz2 (fun a3 hs3 o6 o7 => ?_))
      have hz3 := hs3.size.trans hz2
      have o0 := hs3.keep 0 _ (by decide) o0
      have o1 := hs3.keep 1 _ (by decide) o1
      have o2 := hs3.keep 2 _ (by decide) o2
      have o20 := hs3.keep 20 _ (by decide) o20
      have D := hs3.defers.trans D
      refine wp_ret ?_
      simp only [Exit.then]
      refine bodyPost_ret (results_T2 (by rfl) (o6.eval (by rw [hz3]; decide)) (o7.eval (by rw [hz3]; decide))) D ⟨?_, k2⟩
      rw [if_neg (by omega), decide_eq_false (by omega)]
      rfl
    · skip
      refine wp_seq (wp_seq (prr_r1Y ix jx A n c h1 h2 hz1 o0 o1 o2 (fun a2 w2 hs2 k2 o20 => ?_)))
      have hz2 := hs2.size.trans hz1
      have o0 := hs2.keep 0 _ (by decide) o0
      have o1 := hs2.keep 1 _ (by decide) o1
      have o2 := hs2.keep 2 _ (by decide) o2
      have D := hs2.defers.trans D
      by_cases h3 : (n : Int) < jx
      · refine wp_cond_true ((o20.eval (by rw [hz2]; decide)).trans (by rw [decide_eq_true h3])) ?_
        refine wp_seq (prr_r2 hz2 (fun a3 hs3 o6 o7 => ?_))
        have hz3 := hs3.size.trans hz2
        have o0 := hs3.keep 0 _ (by decide) o0
        have o1 := hs3.keep 1 _ (by decide) o1
        have o2 := hs3.keep 2 _ (by decide) o2
        have o20 := hs3.keep 20 _ (by decide) o20
        have D := hs3.defers.trans D
        refine wp_ret ?_
        simp only [Exit.then]
        refine bodyPost_ret (results_T2 (by rfl) (o6.eval (by rw [hz3]; decide)) (o7.eval (by rw [hz3]; decide))) D ⟨?_, k2⟩
        rw [if_neg (by omega), decide_eq_false (by omega)]
        rfl
      · refine wp_cond_false ((o20.eval (by rw [hz2]; decide)).trans (by rw [decide_eq_false h3])) (wp_skip ?_)
        simp only [Exit.then]
        obtain ⟨lo, rfl⟩ : ∃ lo : Nat, ix = lo := ⟨ix.toNat, by omega⟩
        obtain ⟨A2, c2, run, rd, -⟩ := cut_lh A n c lo (jx.toNat - lo) (lo : Int) jx rfl (by omega) (by omega) hnc
        have hr := rd w2 bs (rd_old hv k2)
        have HC := rsum_any _ _ _ w2 hr
        refine wp_seq (prr_r3 A n c lo _ _ A2 c2 jx run HC hz2 o0 o1 o2 (fun a3 hs3 o6 o7 => ?_))
        have hz3 := hs3.size.trans hz2
        have o0 := hs3.keep 0 _ (by decide) o0
        have o1 := hs3.keep 1 _ (by decide) o1
        have o2 := hs3.keep 2 _ (by decide) o2
        have o20 := hs3.keep 20 _ (by decide) o20
        have D := hs3.defers.trans D
        refine wp_ret ?_
        refine bodyPost_ret (results_T2 (by rfl) (o6.eval (by rw [hz3]; decide)) (o7.eval (by rw [hz3]; decide))) D ⟨?_, k2⟩
        rw [if_pos (by omega), decide_eq_true (by omega)]
        rfl
/-- What it keeps: the variables, the Sums. -/
abbrev allL (gS gN p : Nat) (z : Int) (v : Value) (bs : List UInt8) : List Res := [blkR gS 47 #[.pointer (some ⟨p, 0, none⟩)], blkR gN 3 #[.int .i64 z], blkR p 66 #[.int .i64 bs.length, v], rowR 23 1 v bs.length (smv bs)]
/-- Piece x: its place, its sum. -/
def pcS (m : Nat) (bs : List UInt8) (x : Nat) : Nat := crc ((bs.drop (x * m)).take m)
def pcE (m : Nat) (bs : List UInt8) (x : Nat) : Array Value := #[.int .i64 ((x * m : Nat) : Int), .int .u32 ((pcS m bs x : Nat) : Int)]
def PcAll (m : Nat) (bs : List UInt8) (xs : List Nat) : Prop := bs.length ≤ xs.length * m
def PcX (m : Nat) (bs : List UInt8) (pre : List Nat) (x : Nat) : Prop := x = pre.length ∧ x * m < bs.length
theorem pcS_to (m : Nat) (bs : List UInt8) (x : Nat) : crc ((bs.drop (x * m)).take (min (x * m + m) bs.length - x * m)) = pcS m bs x := by
  unfold pcS
  by_cases h : x * m + m ≤ bs.length
  · rw [Nat.min_eq_left h, Nat.add_sub_cancel_left]
  · rw [Nat.min_eq_right (by omega), List.take_of_length_le (by rw [List.length_drop]; omega), List.take_of_length_le (by rw [List.length_drop]; omega)]
set_option maxRecDepth 100000 in
set_option maxHeartbeats 4000000 in
theorem pc_seq (w0 : World) (gS gN p : Nat) (m : Nat) (hm : 0 < m) (v : Value) (bs : List UInt8) (hb : bs.length ≤ 1000000) (w : World) (hw : Held w0 w (allL gS gN p m v bs)) (n : Nat) :
    SeqW Try.prog n 48 #[.pointer (some ⟨gS, 0, none⟩), .pointer (some ⟨gN, 0, none⟩)] (pcE m bs) (fun _ W => Held w0 W (allL gS gN p m v bs)) (fun pre x _ _ => PcX m bs pre x) (PcAll m bs) (fun _ => True) (bs.length + 1) w := by
  intro l J Jx W hk hJ hJx hY h0
  have HP := hw.kp hk
  refine callsIn_wide.2 ?_
  refine calls_fr Try.func48 rfl 44 rfl (fun a0 hsz hdf hAr => ?_)
  have hz0 : a0.tmps.size = 44 := hsz
  have D := hdf
  have o0 := hAr 0 _ rfl
  have o1 := hAr 1 _ rfl
  have o2 := hAr 2 _ rfl
  refine wp_seq (wp_seq (pca_r0Y gS gN p m (HP.at_ (l1 := [])) (HP.at_ (l1 := [_])) hz0 o1 o2 (fun a1 w1 hs1 k1 o14 => ?_)))
  have hz1 := hs1.size.trans hz0
  have o0 := hs1.keep 0 _ (by decide) o0
  have o1 := hs1.keep 1 _ (by decide) o1
  have o2 := hs1.keep 2 _ (by decide) o2
  have D := hs1.defers.trans D
  refine wp_cond_false ((o14.eval (by rw [hz1]; decide)).trans (by rw [decide_eq_false (by omega)])) (wp_skip ?_)
  simp only [Exit.then]
  have HP := HP.kp k1
  have h0 := hJ _ _ _ h0 k1
  refine wp_seq (pca_r1 gS p bs.length v ((HP.at_ (l1 := [])).drew) ((HP.at_ (l1 := [_, _])).drew) hz1 o1 (fun a2 w2 hs2 k2 o4 o5 => ?_))
  have hz2 := hs2.size.trans hz1
  have o0 := hs2.keep 0 _ (by decide) o0
  have o1 := hs2.keep 1 _ (by decide) o1
  have o2 := hs2.keep 2 _ (by decide) o2
  have o14 := hs2.keep 14 _ (by decide) o14
  have D := hs2.defers.trans D
  have k2 := ((Kp.refl [] w1).drew).trans k2 (by simp)
  have HP := HP.kp k2
  have h0 := hJ _ _ _ h0 k2
  refine wp_block ?_
  conv => arg 2; whnf
  refine wp_loop (fun a' w' => ∃ (pre : List Nat), pre.length ≤ bs.length ∧ (pre.length - 1) * m ≤ bs.length ∧ a'.tmps.size = 44 ∧ a'.defers = [] ∧ Sl a' 0 (.func (.yield l) #[] #[]) ∧ Sl a' 1 (.pointer (some ⟨gS, 0, none⟩)) ∧ Sl a' 2 (.pointer (some ⟨gN, 0, none⟩)) ∧ Sl a' 4 (.int .i64 ((min (pre.length * m) bs.length : Nat) : Int)) ∧ Sl a' 5 (.int .i64 ((bs.length : Nat) : Int)) ∧ J pre w' ∧ Held w0 w' (allL gS gN p m v bs)) (fun a' _ => bs.length - (intOf (a'.eval (.tmp 4))).toNat) ⟨[], by simp, by simp, hz2, D, o0, o1, o2, by simpa using o4, o5, h0, HP⟩ ?_
  iterate 9 (try clear o0)
  iterate 9 (try clear o1)
  iterate 9 (try clear o2)
  iterate 9 (try clear o4)
  iterate 9 (try clear o5)
  iterate 9 (try clear h0)
  iterate 9 (try clear HP)
  iterate 9 (try clear D)
  rintro a3 w3 ⟨pre, hpl, hpm, hz3, D, o0, o1, o2, o4, o5, hJ0, HP⟩
  have e4 := o4.eval (by rw [hz3]; decide)
  obtain ⟨at_, hat⟩ : ∃ at_, min (pre.length * m) bs.length = at_ := ⟨_, rfl⟩
  rw [hat] at o4 e4
  refine wp_seq (wp_seq (pca_r2 at_ bs.length hz3 o4 o5 (fun a4 hs4 o21 => ?_)))
  have hz4 := hs4.size.trans hz3
  have o0 := hs4.keep 0 _ (by decide) o0
  have o1 := hs4.keep 1 _ (by decide) o1
  have o2 := hs4.keep 2 _ (by decide) o2
  have o4 := hs4.keep 4 _ (by decide) o4
  have o5 := hs4.keep 5 _ (by decide) o5
  have D := hs4.defers.trans D
  by_cases hlt : at_ < bs.length
  · refine wp_cond_true ((o21.eval (by rw [hz4]; decide)).trans (by rw [decide_eq_true hlt])) (wp_skip ?_)
    simp only [Exit.then]
    have hat2 : at_ = pre.length * m := by omega
    refine wp_block ?_
    refine wp_seq (pca_r3 bs.length hz4 o5 (fun a5 hs5 o6 => ?_))
    have hz5 := hs5.size.trans hz4
    have o0 := hs5.keep 0 _ (by decide) o0
    have o1 := hs5.keep 1 _ (by decide) o1
    have o2 := hs5.keep 2 _ (by decide) o2
    have o4 := hs5.keep 4 _ (by decide) o4
    have o5 := hs5.keep 5 _ (by decide) o5
    have o21 := hs5.keep 21 _ (by decide) o21
    have D := hs5.defers.trans D
    refine wp_seq (wp_seq (pca_r4 gN at_ bs.length m (by omega) (by omega) (HP.at_ (l1 := [_])) hz5 o2 o4 o5 (fun a6 hs6 o27 => ?_)))
    have hz6 := hs6.size.trans hz5
    have o0 := hs6.keep 0 _ (by decide) o0
    have o1 := hs6.keep 1 _ (by decide) o1
    have o2 := hs6.keep 2 _ (by decide) o2
    have o4 := hs6.keep 4 _ (by decide) o4
    have o5 := hs6.keep 5 _ (by decide) o5
    have o21 := hs6.keep 21 _ (by decide) o21
    have o6 := hs6.keep 6 _ (by decide) o6
    have D := hs6.defers.trans D
    subst hat2
    by_cases hms : (m : Int) < (bs.length : Int) - ((pre.length * m : Nat) : Int)
    · refine wp_cond_true ((o27.eval (by rw [hz6]; decide)).trans (by rw [decide_eq_true hms])) ?_
      refine pca_r5 gN (pre.length * m) m (by omega) (HP.at_ (l1 := [_])) hz6 o2 o4 (fun a7 hs7 o6 => ?_)
      have hz7 := hs7.size.trans hz6
      have o0 := hs7.keep 0 _ (by decide) o0
      have o1 := hs7.keep 1 _ (by decide) o1
      have o2 := hs7.keep 2 _ (by decide) o2
      have o4 := hs7.keep 4 _ (by decide) o4
      have o5 := hs7.keep 5 _ (by decide) o5
      have o21 := hs7.keep 21 _ (by decide) o21
      have o27 := hs7.keep 27 _ (by decide) o27
      have D := hs7.defers.trans D
      simp only [Exit.then]
      have HC := s_range p v bs (pre.length * m) (pre.length * m + m) (by omega) (by omega) (by omega) _ ⟨HP.at_ (l1 := [_, _]), HP.at_ (l1 := [_, _, _])⟩
      rw [show crc ((bs.drop (pre.length * m)).take (pre.length * m + m - pre.length * m)) = pcS m bs pre.length from by rw [← pcS_to m bs pre.length, Nat.min_eq_left (by omega)]] at HC
      refine wp_seq (pca_r6 gS p _ _ _ (HP.at_ (l1 := [])) HC hz7 o1 o4 o6 (fun a8 w6 hs8 o7 k6 => ?_))
      have hz8 := hs8.size.trans hz7
      have o0 := hs8.keep 0 _ (by decide) o0
      have o1 := hs8.keep 1 _ (by decide) o1
      have o2 := hs8.keep 2 _ (by decide) o2
      have o4 := hs8.keep 4 _ (by decide) o4
      have o5 := hs8.keep 5 _ (by decide) o5
      have o21 := hs8.keep 21 _ (by decide) o21
      have o6 := hs8.keep 6 _ (by decide) o6
      have o27 := hs8.keep 27 _ (by decide) o27
      have D := hs8.defers.trans D
      have HP := HP.kp k6
      refine wp_seq (wp_seq (pca_r7 l (n - 1) _ _ _ (hY pre pre.length w3 w6 hJ0 k6 ⟨rfl, hlt⟩ (by omega)) (fun e W h => by rcases h with ⟨rfl, -⟩ | ⟨rfl, -⟩ <;> exact ⟨_, rfl⟩) hz8 o0 o4 o7 (fun a9 w7 b hs9 o42 h7 => ?_)))
      have hz9 := hs9.size.trans hz8
      have o0 := hs9.keep 0 _ (by decide) o0
      have o1 := hs9.keep 1 _ (by decide) o1
      have o2 := hs9.keep 2 _ (by decide) o2
      have o5 := hs9.keep 5 _ (by decide) o5
      have o6 := hs9.keep 6 _ (by decide) o6
      have D := hs9.defers.trans D
      rcases h7 with ⟨e, hJ7, hZ7⟩ | ⟨e, hJx7⟩
      · cases e
        refine wp_cond_false (o42.eval (by rw [hz9]; decide)) (wp_skip ?_)
        simp only [Exit.then]
        refine pca_r8 (pre.length * m + m) hz9 o6 (fun a10 hs10 o4 => ?_)
        have hz10 := hs10.size.trans hz9
        have o0 := hs10.keep 0 _ (by decide) o0
        have o1 := hs10.keep 1 _ (by decide) o1
        have o2 := hs10.keep 2 _ (by decide) o2
        have o5 := hs10.keep 5 _ (by decide) o5
        have o6 := hs10.keep 6 _ (by decide) o6
        have D := hs10.defers.trans D
        simp only [Exit.inBlock, Exit.then]
        have hmul : (pre ++ [pre.length]).length * m = pre.length * m + m := by rw [List.length_append, List.length_singleton, Nat.succ_mul]
        have hjj : pre.length * m + m = min ((pre ++ [pre.length]).length * m) bs.length := by rw [hmul]; omega
        rw [hjj] at o4
        have hge : pre.length ≤ pre.length * m := Nat.le_mul_of_pos_right _ hm
        refine ⟨⟨pre ++ [pre.length], by rw [List.length_append, List.length_singleton]; omega, by rw [List.length_append, List.length_singleton, Nat.add_sub_cancel]; omega, hz10, D, o0, o1, o2, o4, o5, hJ7, hZ7⟩, ?_⟩
        show bs.length - (intOf _).toNat < bs.length - (intOf _).toNat
        rw [e4, o4.eval (by rw [hz10]; decide), hmul]
        simp only [intOf]; omega
      · cases e
        refine wp_cond_true (o42.eval (by rw [hz9]; decide)) ?_
        refine wp_ret ?_
        simp only [Exit.then, Exit.inBlock]
        exact ⟨D, _, results_N (by rfl), ⟨_, rfl⟩, .inr ⟨_, trivial, hJx7⟩⟩
    · refine wp_cond_false ((o27.eval (by rw [hz6]; decide)).trans (by rw [decide_eq_false hms])) (wp_skip ?_)
      simp only [Exit.then]
      have HC := s_range p v bs (pre.length * m) (bs.length) (by omega) (by omega) (by omega) _ ⟨HP.at_ (l1 := [_, _]), HP.at_ (l1 := [_, _, _])⟩
      rw [show crc ((bs.drop (pre.length * m)).take (bs.length - pre.length * m)) = pcS m bs pre.length from by rw [← pcS_to m bs pre.length, Nat.min_eq_right (by omega)]] at HC
      refine wp_seq (pca_r6 gS p _ _ _ (HP.at_ (l1 := [])) HC hz6 o1 o4 o6 (fun a7 w6 hs7 o7 k6 => ?_))
      have hz7 := hs7.size.trans hz6
      have o0 := hs7.keep 0 _ (by decide) o0
      have o1 := hs7.keep 1 _ (by decide) o1
      have o2 := hs7.keep 2 _ (by decide) o2
      have o4 := hs7.keep 4 _ (by decide) o4
      have o5 := hs7.keep 5 _ (by decide) o5
      have o21 := hs7.keep 21 _ (by decide) o21
      have o6 := hs7.keep 6 _ (by decide) o6
      have o27 := hs7.keep 27 _ (by decide) o27
      have D := hs7.defers.trans D
      have HP := HP.kp k6
      refine wp_seq (wp_seq (pca_r7 l (n - 1) _ _ _ (hY pre pre.length w3 w6 hJ0 k6 ⟨rfl, hlt⟩ (by omega)) (fun e W h => by rcases h with ⟨rfl, -⟩ | ⟨rfl, -⟩ <;> exact ⟨_, rfl⟩) hz7 o0 o4 o7 (fun a8 w7 b hs8 o42 h7 => ?_)))
      have hz8 := hs8.size.trans hz7
      have o0 := hs8.keep 0 _ (by decide) o0
      have o1 := hs8.keep 1 _ (by decide) o1
      have o2 := hs8.keep 2 _ (by decide) o2
      have o5 := hs8.keep 5 _ (by decide) o5
      have o6 := hs8.keep 6 _ (by decide) o6
      have D := hs8.defers.trans D
      rcases h7 with ⟨e, hJ7, hZ7⟩ | ⟨e, hJx7⟩
      · cases e
        refine wp_cond_false (o42.eval (by rw [hz8]; decide)) (wp_skip ?_)
        simp only [Exit.then]
        refine pca_r8 (bs.length) hz8 o6 (fun a9 hs9 o4 => ?_)
        have hz9 := hs9.size.trans hz8
        have o0 := hs9.keep 0 _ (by decide) o0
        have o1 := hs9.keep 1 _ (by decide) o1
        have o2 := hs9.keep 2 _ (by decide) o2
        have o5 := hs9.keep 5 _ (by decide) o5
        have o6 := hs9.keep 6 _ (by decide) o6
        have D := hs9.defers.trans D
        simp only [Exit.inBlock, Exit.then]
        have hmul : (pre ++ [pre.length]).length * m = pre.length * m + m := by rw [List.length_append, List.length_singleton, Nat.succ_mul]
        have hjj : bs.length = min ((pre ++ [pre.length]).length * m) bs.length := by rw [hmul]; omega
        rw [hjj] at o4
        have hge : pre.length ≤ pre.length * m := Nat.le_mul_of_pos_right _ hm
        refine ⟨⟨pre ++ [pre.length], by rw [List.length_append, List.length_singleton]; omega, by rw [List.length_append, List.length_singleton, Nat.add_sub_cancel]; omega, hz9, D, o0, o1, o2, o4, o5, hJ7, hZ7⟩, ?_⟩
        show bs.length - (intOf _).toNat < bs.length - (intOf _).toNat
        rw [e4, o4.eval (by rw [hz9]; decide), hmul]
        simp only [intOf]; omega
      · cases e
        refine wp_cond_true (o42.eval (by rw [hz8]; decide)) ?_
        refine wp_ret ?_
        simp only [Exit.then, Exit.inBlock]
        exact ⟨D, _, results_N (by rfl), ⟨_, rfl⟩, .inr ⟨_, trivial, hJx7⟩⟩
  · refine wp_cond_false ((o21.eval (by rw [hz4]; decide)).trans (by rw [decide_eq_false hlt])) (wp_exit ?_)
    simp only [Exit.then, Exit.inBlock]
    exact ⟨D, _, results_N (by rfl), ⟨_, rfl⟩, .inl ⟨pre, by unfold PcAll; omega, hJ0⟩⟩
end
/- Regions over abstract frames in a round of a range over a function. -/
section
section
variable {P : Program} {Q : Exit → Act → World → Prop}
theorem in_region_invS {rl n : Nat} {id : Nat} {a : Act} {w : World} {l : List Oper} (hp : plainB l = true) (PV : Nat → Value → World → Prop) (hap : apartB l = true)
    (hst : ∀ i v W W', PV i v W → Kp [] W W' → PV i v W')
    (hs : InvStepsS P (Qn Q) PV w (fun vs => putAll vs l 0 a) (at0 a l) l.toArray l 0)
    (hend : ∀ vs W, Kp [] w W → (∀ i, i < l.length → PV i (vs i) W) → Q .normal (putAll vs l 0 a) W) : (Code.region id l.toArray false).wpIn (Fence.wide.inRound rl) n P Q a w := by
  refine in_region hp ?_
  have h := seq_inv (P := P) (Q := Qn Q) (a0 := a) (l := l) (l2 := []) (ops := l.toArray) (fun i o h => by simpa using h) hst hap (fun vs W k hv => ⟨rfl, hend vs W k hv⟩) l 0 (at0 a l) w rfl hs (Kp.refl _ _) (fun j hj => by omega) (fun _ _ => rfl)
  rwa [List.append_nil, putAll_at a l 0 (at0 a l) (fun j o ho => by simp [at0, ho])] at h
end
end
/- pieces of the law: its regions. -/
section
open Go.RowKit Go.Shelf
-- REG pcp0
set_option maxRecDepth 100000 in
set_option maxHeartbeats 2000000 in
theorem pcp_r0 {Q : Exit → Act → World → Prop} {a : Act} {w : World} (w0 : World) (A : Option Addr) (n c : Nat) (z lv : Int) (L : List Res) (S : Held w0 w L) (hsz : a.tmps.size = 64) (o1 : Sl a 1 (.slice A n c)) (o2 : Sl a 2 (.int .i64 z)) (o3 : Sl a 3 (.int .i64 lv))
    (hend : ∀ (a' : Act) (W : World), Same a a' [5, 6, 7, 8] → (∃ gb gz gl gr, Sl a' 5 (.pointer (some ⟨gb, 0, none⟩)) ∧ Sl a' 6 (.pointer (some ⟨gz, 0, none⟩)) ∧ Sl a' 7 (.pointer (some ⟨gl, 0, none⟩)) ∧ Sl a' 8 (.pointer (some ⟨gr, 0, none⟩)) ∧ Held w0 W (blkR gr 4 #[.bool false] :: blkR gl 3 #[.int .i64 lv] :: blkR gz 3 #[.int .i64 z] :: blkR gb 22 #[.slice A n c] :: L)) → Q .normal a' W) : (Code.region 0 (opsOf 0 Try.f35).toArray false).wp Try.prog Q a w := by
  refine wp_region_lit (l := (opsOf 0 Try.f35)) ?_
  conv => arg 4; whnf
  unfold Sl at o1 o2 o3
  have S1 := Lib.hid ((((S.newBlk 22 #[.slice A n c]).newBlkN 3 #[.int .i64 z] (g := w.heap.size + 1) (by simp)).newBlkN 3 #[.int .i64 lv] (g := w.heap.size + 2) (by simp)).newBlkN 4 #[.bool false] (g := w.heap.size + 3) (by simp))
  go_wp2_with fail
  try simp only [Act.put]
  exact hend _ _ (by repeat (first | (with_reducible refine same_set (by decide) ?_) | (with_reducible exact same_nil))) (⟨_, _, _, _, (by unfold Sl; simp [hsz]), (by unfold Sl; simp [hsz]), (by unfold Sl; simp [hsz]), (by unfold Sl; simp [hsz]), S1.out⟩)
-- END pcp0
-- REG pcp1
set_option maxRecDepth 100000 in
set_option maxHeartbeats 2000000 in
theorem pcp_r1 {Q : Exit → Act → World → Prop} {a : Act} {w : World} (gS gN : Nat) (hsz : a.tmps.size = 64) (o0 : Sl a 0 (.func (.func 48) #[] #[.pointer (some ⟨gS, 0, none⟩), .pointer (some ⟨gN, 0, none⟩)]))
    (hend : ∀ (a' : Act), Same a a' [14, 15] → Sl a' 15 (.bool false) → Q .normal a' (w)) : (Code.region 1 (opsOf 1 Try.f35).toArray false).wp Try.prog Q a w := by
  refine wp_region_lit (l := (opsOf 1 Try.f35)) ?_
  conv => arg 4; whnf
  unfold Sl at o0
  have hfn := eq_func_nil w (.func 48) #[] #[.pointer (some ⟨gS, 0, none⟩), .pointer (some ⟨gN, 0, none⟩)]
  go_wp2_with fail
  try simp only [Act.put]
  exact hend _ (by repeat (first | (with_reducible refine same_set (by decide) ?_) | (with_reducible exact same_nil))) (by unfold Sl; first | (simp [hsz]; done) | (simp [hsz]; omega))
-- END pcp1
-- REG pcp3
set_option maxRecDepth 100000 in
set_option maxHeartbeats 2000000 in
theorem pcp_r3 {Q : Exit → Act → World → Prop} {a : Act} {w : World} (w0 : World) (L : List Res) (S : Held w0 w L) (hsz : a.tmps.size = 64) 
    (hend : ∀ (a' : Act) (W : World), Same a a' [9, 10] → (∃ gn ga, Sl a' 9 (.pointer (some ⟨gn, 0, none⟩)) ∧ Sl a' 10 (.pointer (some ⟨ga, 0, none⟩)) ∧ Held w0 W (blkR ga 3 #[.int .i64 ((0 : Nat) : Int)] :: blkR gn 3 #[.int .i64 ((0 : Nat) : Int)] :: L)) → Q .normal a' W) : (Code.region 3 (opsOf 3 Try.f35).toArray false).wp Try.prog Q a w := by
  refine wp_region_lit (l := (opsOf 3 Try.f35)) ?_
  conv => arg 4; whnf
  have S1 := (S.newBlk 3 #[.int .i64 0]).newBlkN 3 #[.int .i64 0] (g := w.heap.size + 1) (by simp)
  have S2 := S1.set (l1 := [_]) 0 (.int .i64 0)
  have S3 := Lib.hid (S2.set (l1 := []) 0 (.int .i64 0))
  obtain ⟨d1, d2, d3⟩ := Blk.c1 (S1.at_ (l1 := [_]))
  obtain ⟨c1, c2, c3⟩ := Blk.c1 (S2.at_ (l1 := []))
  go_wp2_with fail
  try simp only [Act.put]
  exact hend _ _ (by repeat (first | (with_reducible refine same_set (by decide) ?_) | (with_reducible exact same_nil))) (⟨_, _, (by unfold Sl; simp [hsz]), (by unfold Sl; simp [hsz]), S1⟩)
-- END pcp3
-- REG pcp4
set_option maxRecDepth 100000 in
set_option maxHeartbeats 2000000 in
theorem pcp_r4 {Q : Exit → Act → World → Prop} {a : Act} {w : World} (x : Value) (hsz : a.tmps.size = 64) (o0 : Sl a 0 (x))
    (hend : ∀ (a' : Act), Same a a' [16] → Sl a' 16 (x) → Q .normal a' (w)) : (Code.region 4 (opsOf 4 Try.f35).toArray false).wp Try.prog Q a w := by
  refine wp_region_lit (l := (opsOf 4 Try.f35)) ?_
  conv => arg 4; whnf
  unfold Sl at o0
  go_wp2_with fail
  try simp only [Act.put]
  exact hend _ (by repeat (first | (with_reducible refine same_set (by decide) ?_) | (with_reducible exact same_nil))) (by unfold Sl; first | (simp [hsz]; done) | (simp [hsz]; omega))
-- END pcp4
-- REG pcp5
set_option maxRecDepth 100000 in
set_option maxHeartbeats 2000000 in
theorem pcp_r5 {Q : Exit → Act → World → Prop} {a : Act} {w : World} {rl nn : Nat} (x : Value) (hsz : a.tmps.size = 64) (o17 : Sl a 17 (x))
    (hend : ∀ (a' : Act), Same a a' [11] → Sl a' 11 (x) → Q .normal a' (w)) : (Code.region 5 (opsOf 5 Try.f35).toArray false).wpIn (Fence.wide.inRound rl) nn Try.prog Q a w := by
  refine in_region (l := (opsOf 5 Try.f35)) (by kernel_rfl) ?_
  conv => arg 4; whnf
  unfold Sl at o17
  go_wp2_with fail
  try simp only [Act.put]
  exact ⟨rfl, hend _ (by repeat (first | (with_reducible refine same_set (by decide) ?_) | (with_reducible exact same_nil))) (by unfold Sl; first | (simp [hsz]; done) | (simp [hsz]; omega))⟩
-- END pcp5
-- REG pcp6
set_option maxRecDepth 100000 in
set_option maxHeartbeats 2000000 in
theorem pcp_r6 {Q : Exit → Act → World → Prop} {a : Act} {w : World} {rl nn : Nat} (x : Value) (hsz : a.tmps.size = 64) (o18 : Sl a 18 (x))
    (hend : ∀ (a' : Act), Same a a' [12] → Sl a' 12 (x) → Q .normal a' (w)) : (Code.region 6 (opsOf 6 Try.f35).toArray false).wpIn (Fence.wide.inRound rl) nn Try.prog Q a w := by
  refine in_region (l := (opsOf 6 Try.f35)) (by kernel_rfl) ?_
  conv => arg 4; whnf
  unfold Sl at o18
  go_wp2_with fail
  try simp only [Act.put]
  exact ⟨rfl, hend _ (by repeat (first | (with_reducible refine same_set (by decide) ?_) | (with_reducible exact same_nil))) (by unfold Sl; first | (simp [hsz]; done) | (simp [hsz]; omega))⟩
-- END pcp6
-- REG pcp7
set_option maxRecDepth 100000 in
set_option maxHeartbeats 2000000 in
theorem pcp_r7 {Q : Exit → Act → World → Prop} {a : Act} {w : World} {rl nn : Nat} (A : Option Addr) (n c k m gz ga gb : Nat) (hbgz : Blk w gz 3 #[.int .i64 ((m : Nat) : Int)]) (hbga : Blk w ga 3 #[.int .i64 ((k : Nat) : Int)]) (hbgb : Blk w gb 22 #[.slice A n c]) (hm : 0 < m) (hk : k < n) (hsz : a.tmps.size = 64) (o5 : Sl a 5 (.pointer (some ⟨gb, 0, none⟩))) (o6 : Sl a 6 (.pointer (some ⟨gz, 0, none⟩))) (o10 : Sl a 10 (.pointer (some ⟨ga, 0, none⟩)))
    (hend : ∀ (a' : Act) (W : World), Same a a' [19, 20, 21, 22, 23, 24, 25, 26] → Kp [] w W → Sl a' 26 (.bool false) → Q .normal a' W) : (Code.region 7 (opsOf 7 Try.f35).toArray false).wpIn (Fence.wide.inRound rl) nn Try.prog Q a w := by
  have hap : apartB (opsOf 7 Try.f35) = true := by kernel_rfl
  refine in_region_invS (l := (opsOf 7 Try.f35)) (by kernel_rfl) (fun i v W => match i with | 0 => v = .int .i64 ((m : Nat) : Int) | 1 => v = .bool false | 2 => v = .bool false | 3 => v = .int .i64 ((k : Nat) : Int) | 4 => v = .slice A n c | 5 => v = .int .i64 ((n : Nat) : Int) | 6 => v = .bool false | 7 => v = .bool false | _ => True) hap ?_ ?_ ?_
  · intro i v W W' h _
    iterate 8 (rcases i with _ | i; · exact h)
    exact h
  · refine ⟨?_, ?_, ?_, ?_, ?_, ?_, ?_, ?_, trivial⟩
    · intro vs A' W hA hW hd hu K hK
      refine wpOp_free _ rfl rfl ?_
      conv => arg 2; whnf
      have e6 : A'.tmps[6]?.getD undef = .pointer (some ⟨gz, 0, none⟩) := slot_out hA hap (Nat.lt_of_lt_of_eq (Nat.le_of_ble_eq_true rfl : 6 < 64) hsz.symm) (by kernel_rfl) o6
      clear hA hd hu o5 o6 o10
      have c0 : W.cell? ⟨gz, 0, none⟩ = some (.int .i64 ((m : Nat) : Int)) := (hbgz.kp hW (by simp)).cell 0
      go_step
      exact hK _ _ (Kp.refl _ _) rfl
    · intro vs A' W hA hW hd hu K hK
      refine wpOp_free _ rfl rfl ?_
      conv => arg 2; whnf
      have f0 : vs 0 = .int .i64 ((m : Nat) : Int) := hd 0 (by kernel_rfl)
      have e19 : A'.tmps[19]?.getD undef = vs 0 := slot_in hA hap (Nat.lt_of_lt_of_eq (Nat.le_of_ble_eq_true rfl : 19 < 64) hsz.symm) (by kernel_rfl)
      rw [f0] at e19
      clear hA hd hu o5 o6 o10
      go_step
      exact hK _ _ (Kp.refl _ _) (by first | rfl | exact congrArg Value.bool (decide_eq_false (by omega)))
    · intro vs A' W hA hW hd hu K hK
      refine wpOp_free _ rfl rfl ?_
      conv => arg 2; whnf
      have f1 : vs 1 = .bool false := hd 1 (by kernel_rfl)
      have e20 : A'.tmps[20]?.getD undef = vs 1 := slot_in hA hap (Nat.lt_of_lt_of_eq (Nat.le_of_ble_eq_true rfl : 20 < 64) hsz.symm) (by kernel_rfl)
      rw [f1] at e20
      clear hA hd hu o5 o6 o10
      go_step
      exact hK _ _ (Kp.refl _ _) rfl
    · intro vs A' W hA hW hd hu K hK
      have f2 : vs 2 = .bool false := hd 2 (by kernel_rfl)
      have e21 : A'.tmps[21]?.getD undef = vs 2 := slot_in hA hap (Nat.lt_of_lt_of_eq (Nat.le_of_ble_eq_true rfl : 21 < 64) hsz.symm) (by kernel_rfl)
      rw [f2] at e21
      refine wpOp_go _ rfl 2 21 false rfl rfl e21 ?_
      conv => arg 2; whnf
      have e10 : A'.tmps[10]?.getD undef = .pointer (some ⟨ga, 0, none⟩) := slot_out hA hap (Nat.lt_of_lt_of_eq (Nat.le_of_ble_eq_true rfl : 10 < 64) hsz.symm) (by kernel_rfl) o10
      clear hA hd hu o5 o6 o10
      have c0 : W.cell? ⟨ga, 0, none⟩ = some (.int .i64 ((k : Nat) : Int)) := (hbga.kp hW (by simp)).cell 0
      go_step
      exact hK _ _ (Kp.refl _ _) rfl
    · intro vs A' W hA hW hd hu K hK
      have f2 : vs 2 = .bool false := hd 2 (by kernel_rfl)
      have e21 : A'.tmps[21]?.getD undef = vs 2 := slot_in hA hap (Nat.lt_of_lt_of_eq (Nat.le_of_ble_eq_true rfl : 21 < 64) hsz.symm) (by kernel_rfl)
      rw [f2] at e21
      refine wpOp_go _ rfl 2 21 false rfl rfl e21 ?_
      conv => arg 2; whnf
      have e5 : A'.tmps[5]?.getD undef = .pointer (some ⟨gb, 0, none⟩) := slot_out hA hap (Nat.lt_of_lt_of_eq (Nat.le_of_ble_eq_true rfl : 5 < 64) hsz.symm) (by kernel_rfl) o5
      clear hA hd hu o5 o6 o10
      have c0 : W.cell? ⟨gb, 0, none⟩ = some (.slice A n c) := (hbgb.kp hW (by simp)).cell 0
      go_step
      exact hK _ _ (Kp.refl _ _) rfl
    · intro vs A' W hA hW hd hu K hK
      have f2 : vs 2 = .bool false := hd 2 (by kernel_rfl)
      have e21 : A'.tmps[21]?.getD undef = vs 2 := slot_in hA hap (Nat.lt_of_lt_of_eq (Nat.le_of_ble_eq_true rfl : 21 < 64) hsz.symm) (by kernel_rfl)
      rw [f2] at e21
      refine wpOp_go _ rfl 2 21 false rfl rfl e21 ?_
      conv => arg 2; whnf
      have f4 : vs 4 = .slice A n c := hd 4 (by kernel_rfl)
      have e23 : A'.tmps[23]?.getD undef = vs 4 := slot_in hA hap (Nat.lt_of_lt_of_eq (Nat.le_of_ble_eq_true rfl : 23 < 64) hsz.symm) (by kernel_rfl)
      rw [f4] at e23
      clear hA hd hu o5 o6 o10
      go_step
      exact hK _ _ (Kp.refl _ _) rfl
    · intro vs A' W hA hW hd hu K hK
      have f2 : vs 2 = .bool false := hd 2 (by kernel_rfl)
      have e21 : A'.tmps[21]?.getD undef = vs 2 := slot_in hA hap (Nat.lt_of_lt_of_eq (Nat.le_of_ble_eq_true rfl : 21 < 64) hsz.symm) (by kernel_rfl)
      rw [f2] at e21
      refine wpOp_go _ rfl 2 21 false rfl rfl e21 ?_
      conv => arg 2; whnf
      have f3 : vs 3 = .int .i64 ((k : Nat) : Int) := hd 3 (by kernel_rfl)
      have e22 : A'.tmps[22]?.getD undef = vs 3 := slot_in hA hap (Nat.lt_of_lt_of_eq (Nat.le_of_ble_eq_true rfl : 22 < 64) hsz.symm) (by kernel_rfl)
      rw [f3] at e22
      have f5 : vs 5 = .int .i64 ((n : Nat) : Int) := hd 5 (by kernel_rfl)
      have e24 : A'.tmps[24]?.getD undef = vs 5 := slot_in hA hap (Nat.lt_of_lt_of_eq (Nat.le_of_ble_eq_true rfl : 24 < 64) hsz.symm) (by kernel_rfl)
      rw [f5] at e24
      clear hA hd hu o5 o6 o10
      go_step
      exact hK _ _ (Kp.refl _ _) (by first | rfl | exact congrArg Value.bool (decide_eq_false (by omega)))
    · intro vs A' W hA hW hd hu K hK
      refine wpOp_free _ rfl rfl ?_
      conv => arg 2; whnf
      have f2 : vs 2 = .bool false := hd 2 (by kernel_rfl)
      have e21 : A'.tmps[21]?.getD undef = vs 2 := slot_in hA hap (Nat.lt_of_lt_of_eq (Nat.le_of_ble_eq_true rfl : 21 < 64) hsz.symm) (by kernel_rfl)
      rw [f2] at e21
      have f6 : vs 6 = .bool false := hd 6 (by kernel_rfl)
      have e25 : A'.tmps[25]?.getD undef = vs 6 := slot_in hA hap (Nat.lt_of_lt_of_eq (Nat.le_of_ble_eq_true rfl : 25 < 64) hsz.symm) (by kernel_rfl)
      rw [f6] at e25
      clear hA hd hu o5 o6 o10
      go_step
      exact hK _ _ (Kp.refl _ _) rfl
  · intro vs W hW hp
    rw [show putAll vs (opsOf 7 Try.f35) 0 a = putD [(19, vs 0), (20, vs 1), (21, vs 2), (22, vs 3), (23, vs 4), (24, vs 5), (25, vs 6), (26, vs 7)] a from by kernel_rfl]
    exact hend _ W (same_putD _ a) hW (sl_putD _ a 26 _ (by rw [show vs 7 = _ from hp 7 (Nat.le_of_ble_eq_true (by kernel_rfl))]; kernel_rfl))
-- END pcp7
-- REG pcp9
set_option maxRecDepth 100000 in
set_option maxHeartbeats 2000000 in
theorem pcp_r9 {Q : Exit → Act → World → Prop} {a : Act} {w : World} {rl nn : Nat} (A : Option Addr) (n c gb : Nat) (hbgb : Blk w gb 22 #[.slice A n c]) (hsz : a.tmps.size = 64) (o5 : Sl a 5 (.pointer (some ⟨gb, 0, none⟩)))
    (hend : ∀ (a' : Act), Same a a' [27, 28, 13] → Sl a' 13 (.int .i64 ((n : Nat) : Int)) → Q .normal a' (w)) : (Code.region 9 (opsOf 9 Try.f35).toArray false).wpIn (Fence.wide.inRound rl) nn Try.prog Q a w := by
  refine in_region (l := (opsOf 9 Try.f35)) (by kernel_rfl) ?_
  conv => arg 4; whnf
  unfold Sl at o5
  have c_gb : w.cell? ⟨gb, 0, none⟩ = some (.slice A n c) := hbgb.cell 0
  go_wp2_with fail
  try simp only [Act.put]
  exact ⟨rfl, hend _ (by repeat (first | (with_reducible refine same_set (by decide) ?_) | (with_reducible exact same_nil))) (by unfold Sl; first | (simp [hsz]; done) | (simp [hsz]; omega))⟩
-- END pcp9
-- REG pcp10
set_option maxRecDepth 100000 in
set_option maxHeartbeats 2000000 in
theorem pcp_r10 {Q : Exit → Act → World → Prop} {a : Act} {w : World} {rl nn : Nat} (A : Option Addr) (n c k m gz ga gb : Nat) (hbgz : Blk w gz 3 #[.int .i64 ((m : Nat) : Int)]) (hbga : Blk w ga 3 #[.int .i64 ((k : Nat) : Int)]) (hbgb : Blk w gb 22 #[.slice A n c]) (hk : k ≤ n) (hn : n ≤ 1000000) (hsz : a.tmps.size = 64) (o5 : Sl a 5 (.pointer (some ⟨gb, 0, none⟩))) (o6 : Sl a 6 (.pointer (some ⟨gz, 0, none⟩))) (o10 : Sl a 10 (.pointer (some ⟨ga, 0, none⟩)))
    (hend : ∀ (a' : Act), Same a a' [29, 30, 31, 32, 33, 34] → Sl a' 34 (.bool (decide ((m : Int) < (n : Int) - (k : Int)))) → Q .normal a' (w)) : (Code.region 10 (opsOf 10 Try.f35).toArray false).wpIn (Fence.wide.inRound rl) nn Try.prog Q a w := by
  refine in_region (l := (opsOf 10 Try.f35)) (by kernel_rfl) ?_
  conv => arg 4; whnf
  unfold Sl at o5 o6 o10
  have c_gz : w.cell? ⟨gz, 0, none⟩ = some (.int .i64 ((m : Nat) : Int)) := hbgz.cell 0
  have c_ga : w.cell? ⟨ga, 0, none⟩ = some (.int .i64 ((k : Nat) : Int)) := hbga.cell 0
  have c_gb : w.cell? ⟨gb, 0, none⟩ = some (.slice A n c) := hbgb.cell 0
  have hw : wrap64 ((n : Int) - (k : Int)) = (n : Int) - (k : Int) := by unfold wrap64; omega
  go_wp2_with fail
  try simp only [Act.put]
  exact ⟨rfl, hend _ (by repeat (first | (with_reducible refine same_set (by decide) ?_) | (with_reducible exact same_nil))) (by unfold Sl; first | (simp [hsz]; done) | (simp [hsz]; omega))⟩
-- END pcp10
-- REG pcp11
set_option maxRecDepth 100000 in
set_option maxHeartbeats 2000000 in
theorem pcp_r11 {Q : Exit → Act → World → Prop} {a : Act} {w : World} {rl nn : Nat} (k m gz ga : Nat) (hbgz : Blk w gz 3 #[.int .i64 ((m : Nat) : Int)]) (hbga : Blk w ga 3 #[.int .i64 ((k : Nat) : Int)]) (hk : k + m ≤ 1000000) (hsz : a.tmps.size = 64) (o6 : Sl a 6 (.pointer (some ⟨gz, 0, none⟩))) (o10 : Sl a 10 (.pointer (some ⟨ga, 0, none⟩)))
    (hend : ∀ (a' : Act), Same a a' [35, 36, 37, 13] → Sl a' 13 (.int .i64 ((k + m : Nat) : Int)) → Q .normal a' (w)) : (Code.region 11 (opsOf 11 Try.f35).toArray false).wpIn (Fence.wide.inRound rl) nn Try.prog Q a w := by
  refine in_region (l := (opsOf 11 Try.f35)) (by kernel_rfl) ?_
  conv => arg 4; whnf
  unfold Sl at o6 o10
  have c_gz : w.cell? ⟨gz, 0, none⟩ = some (.int .i64 ((m : Nat) : Int)) := hbgz.cell 0
  have c_ga : w.cell? ⟨ga, 0, none⟩ = some (.int .i64 ((k : Nat) : Int)) := hbga.cell 0
  have hw : wrap64 ((k : Int) + (m : Int)) = (k : Int) + (m : Int) := by unfold wrap64; omega
  go_wp2_with fail
  try simp only [Act.put]
  exact ⟨rfl, hend _ (by repeat (first | (with_reducible refine same_set (by decide) ?_) | (with_reducible exact same_nil))) (by unfold Sl; first | (simp [hsz]; done) | (simp [hsz]; omega))⟩
-- END pcp11
-- REG pcp12
set_option maxRecDepth 100000 in
set_option maxHeartbeats 2000000 in
theorem pcp_r12 {Q : Exit → Act → World → Prop} {a : Act} {w : World} {rl nn : Nat} (A : Option Addr) (n c k e x ga gb : Nat) (hbga : Blk w ga 3 #[.int .i64 ((k : Nat) : Int)]) (hbgb : Blk w gb 22 #[.slice A n c]) (A2 : Option Addr) (e2 c2 : Nat) (run : ∀ w, (Instr.sliceAt 22 (.slice A n c) (some (.int .i64 ((k : Nat) : Int))) (some (.int .i64 ((e : Nat) : Int))) none).run Try.prog w = .ok (.slice A2 e2 c2) w) (HC0 : ∀ V, Kp [] w V → Calls Try.prog 15 #[.slice A2 e2 c2] V fun e w' => e = .returned (.int .u32 ((x : Nat) : Int)) ∧ V = w') (hsz : a.tmps.size = 64) (o5 : Sl a 5 (.pointer (some ⟨gb, 0, none⟩))) (o10 : Sl a 10 (.pointer (some ⟨ga, 0, none⟩))) (o11 : Sl a 11 (.int .i64 ((k : Nat) : Int))) (o12 : Sl a 12 (.int .u32 ((x : Nat) : Int))) (o13 : Sl a 13 (.int .i64 ((e : Nat) : Int)))
    (hend : ∀ (a' : Act) (W : World), Same a a' [38, 39, 40, 41, 42, 43, 44, 45, 46, 47, 48, 49] → Kp [] w W → Sl a' 49 (.bool false) → Q .normal a' W) : (Code.region 12 (opsOf 12 Try.f35).toArray false).wpIn (Fence.wide.inRound rl) nn Try.prog Q a w := by
  have hap : apartB (opsOf 12 Try.f35) = true := by kernel_rfl
  refine in_region_invS (l := (opsOf 12 Try.f35)) (by kernel_rfl) (fun i v W => match i with | 0 => v = .int .i64 ((k : Nat) : Int) | 1 => v = .int .i64 ((k : Nat) : Int) | 2 => v = .bool false | 3 => v = .bool false | 4 => v = .int .u32 ((x : Nat) : Int) | 5 => v = .slice A n c | 6 => v = .int .i64 ((k : Nat) : Int) | 7 => v = .int .i64 ((e : Nat) : Int) | 8 => v = .slice A2 e2 c2 | 9 => v = .int .u32 ((x : Nat) : Int) | 10 => v = .bool false | 11 => v = .bool false | _ => True) hap ?_ ?_ ?_
  · intro i v W W' h _
    iterate 12 (rcases i with _ | i; · exact h)
    exact h
  · refine ⟨?_, ?_, ?_, ?_, ?_, ?_, ?_, ?_, ?_, ?_, ?_, ?_, trivial⟩
    · intro vs A' W hA hW hd hu K hK
      refine wpOp_free _ rfl rfl ?_
      conv => arg 2; whnf
      have e11 : A'.tmps[11]?.getD undef = .int .i64 ((k : Nat) : Int) := slot_out hA hap (Nat.lt_of_lt_of_eq (Nat.le_of_ble_eq_true rfl : 11 < 64) hsz.symm) (by kernel_rfl) o11
      clear hA hd hu o5 o10 o11 o12 o13
      go_step
      exact hK _ _ (Kp.refl _ _) rfl
    · intro vs A' W hA hW hd hu K hK
      refine wpOp_free _ rfl rfl ?_
      conv => arg 2; whnf
      have e10 : A'.tmps[10]?.getD undef = .pointer (some ⟨ga, 0, none⟩) := slot_out hA hap (Nat.lt_of_lt_of_eq (Nat.le_of_ble_eq_true rfl : 10 < 64) hsz.symm) (by kernel_rfl) o10
      clear hA hd hu o5 o10 o11 o12 o13
      have c0 : W.cell? ⟨ga, 0, none⟩ = some (.int .i64 ((k : Nat) : Int)) := (hbga.kp hW (by simp)).cell 0
      go_step
      exact hK _ _ (Kp.refl _ _) rfl
    · intro vs A' W hA hW hd hu K hK
      refine wpOp_free _ rfl rfl ?_
      conv => arg 2; whnf
      have f0 : vs 0 = .int .i64 ((k : Nat) : Int) := hd 0 (by kernel_rfl)
      have e38 : A'.tmps[38]?.getD undef = vs 0 := slot_in hA hap (Nat.lt_of_lt_of_eq (Nat.le_of_ble_eq_true rfl : 38 < 64) hsz.symm) (by kernel_rfl)
      rw [f0] at e38
      have f1 : vs 1 = .int .i64 ((k : Nat) : Int) := hd 1 (by kernel_rfl)
      have e39 : A'.tmps[39]?.getD undef = vs 1 := slot_in hA hap (Nat.lt_of_lt_of_eq (Nat.le_of_ble_eq_true rfl : 39 < 64) hsz.symm) (by kernel_rfl)
      rw [f1] at e39
      clear hA hd hu o5 o10 o11 o12 o13
      go_step
      exact hK _ _ (Kp.refl _ _) (by first | rfl | exact (show Value.bool ((k : Int) != (k : Int)) = Value.bool false from by rw [bne_self_eq_false]))
    · intro vs A' W hA hW hd hu K hK
      refine wpOp_free _ rfl rfl ?_
      conv => arg 2; whnf
      have f2 : vs 2 = .bool false := hd 2 (by kernel_rfl)
      have e40 : A'.tmps[40]?.getD undef = vs 2 := slot_in hA hap (Nat.lt_of_lt_of_eq (Nat.le_of_ble_eq_true rfl : 40 < 64) hsz.symm) (by kernel_rfl)
      rw [f2] at e40
      clear hA hd hu o5 o10 o11 o12 o13
      go_step
      exact hK _ _ (Kp.refl _ _) rfl
    · intro vs A' W hA hW hd hu K hK
      have f3 : vs 3 = .bool false := hd 3 (by kernel_rfl)
      have e41 : A'.tmps[41]?.getD undef = vs 3 := slot_in hA hap (Nat.lt_of_lt_of_eq (Nat.le_of_ble_eq_true rfl : 41 < 64) hsz.symm) (by kernel_rfl)
      rw [f3] at e41
      refine wpOp_go _ rfl 3 41 false rfl rfl e41 ?_
      conv => arg 2; whnf
      have e12 : A'.tmps[12]?.getD undef = .int .u32 ((x : Nat) : Int) := slot_out hA hap (Nat.lt_of_lt_of_eq (Nat.le_of_ble_eq_true rfl : 12 < 64) hsz.symm) (by kernel_rfl) o12
      clear hA hd hu o5 o10 o11 o12 o13
      go_step
      exact hK _ _ (Kp.refl _ _) rfl
    · intro vs A' W hA hW hd hu K hK
      have f3 : vs 3 = .bool false := hd 3 (by kernel_rfl)
      have e41 : A'.tmps[41]?.getD undef = vs 3 := slot_in hA hap (Nat.lt_of_lt_of_eq (Nat.le_of_ble_eq_true rfl : 41 < 64) hsz.symm) (by kernel_rfl)
      rw [f3] at e41
      refine wpOp_go _ rfl 3 41 false rfl rfl e41 ?_
      conv => arg 2; whnf
      have e5 : A'.tmps[5]?.getD undef = .pointer (some ⟨gb, 0, none⟩) := slot_out hA hap (Nat.lt_of_lt_of_eq (Nat.le_of_ble_eq_true rfl : 5 < 64) hsz.symm) (by kernel_rfl) o5
      clear hA hd hu o5 o10 o11 o12 o13
      have c0 : W.cell? ⟨gb, 0, none⟩ = some (.slice A n c) := (hbgb.kp hW (by simp)).cell 0
      go_step
      exact hK _ _ (Kp.refl _ _) rfl
    · intro vs A' W hA hW hd hu K hK
      have f3 : vs 3 = .bool false := hd 3 (by kernel_rfl)
      have e41 : A'.tmps[41]?.getD undef = vs 3 := slot_in hA hap (Nat.lt_of_lt_of_eq (Nat.le_of_ble_eq_true rfl : 41 < 64) hsz.symm) (by kernel_rfl)
      rw [f3] at e41
      refine wpOp_go _ rfl 3 41 false rfl rfl e41 ?_
      conv => arg 2; whnf
      have e10 : A'.tmps[10]?.getD undef = .pointer (some ⟨ga, 0, none⟩) := slot_out hA hap (Nat.lt_of_lt_of_eq (Nat.le_of_ble_eq_true rfl : 10 < 64) hsz.symm) (by kernel_rfl) o10
      clear hA hd hu o5 o10 o11 o12 o13
      have c0 : W.cell? ⟨ga, 0, none⟩ = some (.int .i64 ((k : Nat) : Int)) := (hbga.kp hW (by simp)).cell 0
      go_step
      exact hK _ _ (Kp.refl _ _) rfl
    · intro vs A' W hA hW hd hu K hK
      have f3 : vs 3 = .bool false := hd 3 (by kernel_rfl)
      have e41 : A'.tmps[41]?.getD undef = vs 3 := slot_in hA hap (Nat.lt_of_lt_of_eq (Nat.le_of_ble_eq_true rfl : 41 < 64) hsz.symm) (by kernel_rfl)
      rw [f3] at e41
      refine wpOp_go _ rfl 3 41 false rfl rfl e41 ?_
      conv => arg 2; whnf
      have e13 : A'.tmps[13]?.getD undef = .int .i64 ((e : Nat) : Int) := slot_out hA hap (Nat.lt_of_lt_of_eq (Nat.le_of_ble_eq_true rfl : 13 < 64) hsz.symm) (by kernel_rfl) o13
      clear hA hd hu o5 o10 o11 o12 o13
      go_step
      exact hK _ _ (Kp.refl _ _) rfl
    · intro vs A' W hA hW hd hu K hK
      have f3 : vs 3 = .bool false := hd 3 (by kernel_rfl)
      have e41 : A'.tmps[41]?.getD undef = vs 3 := slot_in hA hap (Nat.lt_of_lt_of_eq (Nat.le_of_ble_eq_true rfl : 41 < 64) hsz.symm) (by kernel_rfl)
      rw [f3] at e41
      refine wpOp_go _ rfl 3 41 false rfl rfl e41 ?_
      conv => arg 2; whnf
      have f5 : vs 5 = .slice A n c := hd 5 (by kernel_rfl)
      have e43 : A'.tmps[43]?.getD undef = vs 5 := slot_in hA hap (Nat.lt_of_lt_of_eq (Nat.le_of_ble_eq_true rfl : 43 < 64) hsz.symm) (by kernel_rfl)
      rw [f5] at e43
      have f6 : vs 6 = .int .i64 ((k : Nat) : Int) := hd 6 (by kernel_rfl)
      have e44 : A'.tmps[44]?.getD undef = vs 6 := slot_in hA hap (Nat.lt_of_lt_of_eq (Nat.le_of_ble_eq_true rfl : 44 < 64) hsz.symm) (by kernel_rfl)
      rw [f6] at e44
      have f7 : vs 7 = .int .i64 ((e : Nat) : Int) := hd 7 (by kernel_rfl)
      have e45 : A'.tmps[45]?.getD undef = vs 7 := slot_in hA hap (Nat.lt_of_lt_of_eq (Nat.le_of_ble_eq_true rfl : 45 < 64) hsz.symm) (by kernel_rfl)
      rw [f7] at e45
      clear hA hd hu o5 o10 o11 o12 o13
      have q := run
      go_step
      exact hK _ _ (Kp.refl _ _) rfl
    · intro vs A' W hA hW hd hu K hK
      have f3 : vs 3 = .bool false := hd 3 (by kernel_rfl)
      have e41 : A'.tmps[41]?.getD undef = vs 3 := slot_in hA hap (Nat.lt_of_lt_of_eq (Nat.le_of_ble_eq_true rfl : 41 < 64) hsz.symm) (by kernel_rfl)
      rw [f3] at e41
      refine wpOp_go _ rfl 3 41 false rfl rfl e41 ?_
      conv => arg 2; whnf
      have f8 : vs 8 = .slice A2 e2 c2 := hd 8 (by kernel_rfl)
      have e46 : A'.tmps[46]?.getD undef = vs 8 := slot_in hA hap (Nat.lt_of_lt_of_eq (Nat.le_of_ble_eq_true rfl : 46 < 64) hsz.symm) (by kernel_rfl)
      rw [f8] at e46
      clear hA hd hu o5 o10 o11 o12 o13
      go_step
      refine (HC0 W hW).mono ?_
      rintro e w' ⟨rfl, rfl⟩
      exact hK _ _ (Kp.refl _ _) rfl
    · intro vs A' W hA hW hd hu K hK
      have f3 : vs 3 = .bool false := hd 3 (by kernel_rfl)
      have e41 : A'.tmps[41]?.getD undef = vs 3 := slot_in hA hap (Nat.lt_of_lt_of_eq (Nat.le_of_ble_eq_true rfl : 41 < 64) hsz.symm) (by kernel_rfl)
      rw [f3] at e41
      refine wpOp_go _ rfl 3 41 false rfl rfl e41 ?_
      conv => arg 2; whnf
      have f4 : vs 4 = .int .u32 ((x : Nat) : Int) := hd 4 (by kernel_rfl)
      have e42 : A'.tmps[42]?.getD undef = vs 4 := slot_in hA hap (Nat.lt_of_lt_of_eq (Nat.le_of_ble_eq_true rfl : 42 < 64) hsz.symm) (by kernel_rfl)
      rw [f4] at e42
      have f9 : vs 9 = .int .u32 ((x : Nat) : Int) := hd 9 (by kernel_rfl)
      have e47 : A'.tmps[47]?.getD undef = vs 9 := slot_in hA hap (Nat.lt_of_lt_of_eq (Nat.le_of_ble_eq_true rfl : 47 < 64) hsz.symm) (by kernel_rfl)
      rw [f9] at e47
      clear hA hd hu o5 o10 o11 o12 o13
      go_step
      exact hK _ _ (Kp.refl _ _) (by first | rfl | exact (show Value.bool ((x : Int) != (x : Int)) = Value.bool false from by rw [bne_self_eq_false]))
    · intro vs A' W hA hW hd hu K hK
      refine wpOp_free _ rfl rfl ?_
      conv => arg 2; whnf
      have f3 : vs 3 = .bool false := hd 3 (by kernel_rfl)
      have e41 : A'.tmps[41]?.getD undef = vs 3 := slot_in hA hap (Nat.lt_of_lt_of_eq (Nat.le_of_ble_eq_true rfl : 41 < 64) hsz.symm) (by kernel_rfl)
      rw [f3] at e41
      have f10 : vs 10 = .bool false := hd 10 (by kernel_rfl)
      have e48 : A'.tmps[48]?.getD undef = vs 10 := slot_in hA hap (Nat.lt_of_lt_of_eq (Nat.le_of_ble_eq_true rfl : 48 < 64) hsz.symm) (by kernel_rfl)
      rw [f10] at e48
      clear hA hd hu o5 o10 o11 o12 o13
      go_step
      exact hK _ _ (Kp.refl _ _) rfl
  · intro vs W hW hp
    rw [show putAll vs (opsOf 12 Try.f35) 0 a = putD [(38, vs 0), (39, vs 1), (40, vs 2), (41, vs 3), (42, vs 4), (43, vs 5), (44, vs 6), (45, vs 7), (46, vs 8), (47, vs 9), (48, vs 10), (49, vs 11)] a from by kernel_rfl]
    exact hend _ W (same_putD _ a) hW (sl_putD _ a 49 _ (by rw [show vs 11 = _ from hp 11 (Nat.le_of_ble_eq_true (by kernel_rfl))]; kernel_rfl))
-- END pcp12
-- REG pcp14
set_option maxRecDepth 100000 in
set_option maxHeartbeats 2000000 in
theorem pcp_r14 {Q : Exit → Act → World → Prop} {a : Act} {w : World} {rl nn : Nat} (w0 : World) (ga : Nat) (u : Value) (e : Nat) (L : List Res) (S : Held w0 w (blkR ga 3 #[u] :: L)) (hsz : a.tmps.size = 64) (o10 : Sl a 10 (.pointer (some ⟨ga, 0, none⟩))) (o13 : Sl a 13 (.int .i64 ((e : Nat) : Int)))
    (hend : ∀ (a' : Act) (W : World), Same a a' [50] → (Held w0 W (blkR ga 3 #[.int .i64 ((e : Nat) : Int)] :: L)) → Q .normal a' W) : (Code.region 14 (opsOf 14 Try.f35).toArray false).wpIn (Fence.wide.inRound rl) nn Try.prog Q a w := by
  refine in_region (l := (opsOf 14 Try.f35)) (by kernel_rfl) ?_
  conv => arg 4; whnf
  unfold Sl at o10 o13
  have S := Lib.hid S
  obtain ⟨c1, c2, c3⟩ := Blk.c1 (S.out.at_ (l1 := []))
  have S2 := S.out.set (l1 := []) 0 (.int .i64 ((e : Nat) : Int))
  have S2 := Lib.hid S2
  go_wp2_with fail
  try simp only [Act.put]
  exact ⟨rfl, hend _ _ (by repeat (first | (with_reducible refine same_set (by decide) ?_) | (with_reducible exact same_nil))) (S2.out)⟩
-- END pcp14
-- REG pcp15
set_option maxRecDepth 100000 in
set_option maxHeartbeats 2000000 in
theorem pcp_r15 {Q : Exit → Act → World → Prop} {a : Act} {w : World} {rl nn : Nat} (w0 : World) (gn k : Nat) (hk : k ≤ 2000000) (L : List Res) (S : Held w0 w (blkR gn 3 #[.int .i64 ((k : Nat) : Int)] :: L)) (hsz : a.tmps.size = 64) (o9 : Sl a 9 (.pointer (some ⟨gn, 0, none⟩)))
    (hend : ∀ (a' : Act) (W : World), Same a a' [51, 52] → (Held w0 W (blkR gn 3 #[.int .i64 ((k + 1 : Nat) : Int)] :: L)) → Q .normal a' W) : (Code.region 15 (opsOf 15 Try.f35).toArray false).wpIn (Fence.wide.inRound rl) nn Try.prog Q a w := by
  refine in_region (l := (opsOf 15 Try.f35)) (by kernel_rfl) ?_
  conv => arg 4; whnf
  unfold Sl at o9
  have S := Lib.hid S
  obtain ⟨c1, c2, c3⟩ := Blk.c1 (S.out.at_ (l1 := []))
  have hw : wrap64 ((k : Int) + 1) = (k : Int) + 1 := by unfold wrap64; omega
  have S2 := Lib.hid (S.out.set (l1 := []) 0 (.int .i64 ((k : Int) + 1)))
  go_wp2_with fail
  try simp only [Act.put]
  exact ⟨rfl, hend _ _ (by repeat (first | (with_reducible refine same_set (by decide) ?_) | (with_reducible exact same_nil))) (S2.out)⟩
-- END pcp15
-- REG pcp16
set_option maxRecDepth 100000 in
set_option maxHeartbeats 2000000 in
theorem pcp_r16 {Q : Exit → Act → World → Prop} {a : Act} {w : World} {rl nn : Nat} (gn gl k : Nat) (lv : Int) (hbgn : Blk w gn 3 #[.int .i64 ((k : Nat) : Int)]) (hbgl : Blk w gl 3 #[.int .i64 lv]) (b : Bool) (hb : (((k : Nat) : Int) == lv) = b) (hsz : a.tmps.size = 64) (o7 : Sl a 7 (.pointer (some ⟨gl, 0, none⟩))) (o9 : Sl a 9 (.pointer (some ⟨gn, 0, none⟩)))
    (hend : ∀ (a' : Act), Same a a' [53, 54, 55] → Sl a' 55 (.bool b) → Q .normal a' (w)) : (Code.region 16 (opsOf 16 Try.f35).toArray false).wpIn (Fence.wide.inRound rl) nn Try.prog Q a w := by
  refine in_region (l := (opsOf 16 Try.f35)) (by kernel_rfl) ?_
  conv => arg 4; whnf
  unfold Sl at o7 o9
  have c_gn : w.cell? ⟨gn, 0, none⟩ = some (.int .i64 ((k : Nat) : Int)) := hbgn.cell 0
  have c_gl : w.cell? ⟨gl, 0, none⟩ = some (.int .i64 lv) := hbgl.cell 0
  go_wp2_with fail
  try simp only [Act.put]
  exact ⟨rfl, hend _ (by repeat (first | (with_reducible refine same_set (by decide) ?_) | (with_reducible exact same_nil))) (by unfold Sl; first | (simp [hsz]; done) | (simp [hsz]; omega))⟩
-- END pcp16
-- REG pcp17
set_option maxRecDepth 100000 in
set_option maxHeartbeats 2000000 in
theorem pcp_r17 {Q : Exit → Act → World → Prop} {a : Act} {w : World} {rl nn : Nat} (w0 : World) (gr : Nat) (u : Value) (L : List Res) (S : Held w0 w (blkR gr 4 #[u] :: L)) (hsz : a.tmps.size = 64) (o8 : Sl a 8 (.pointer (some ⟨gr, 0, none⟩)))
    (hend : ∀ (a' : Act) (W : World), Same a a' [] → (Held w0 W (blkR gr 4 #[.bool true] :: L)) → Q .normal a' W) : (Code.region 17 (opsOf 17 Try.f35).toArray false).wpIn (Fence.wide.inRound rl) nn Try.prog Q a w := by
  refine in_region (l := (opsOf 17 Try.f35)) (by kernel_rfl) ?_
  conv => arg 4; whnf
  unfold Sl at o8
  have S := Lib.hid S
  obtain ⟨c1, c2, c3⟩ := Blk.c1 (S.out.at_ (l1 := []))
  have S2 := S.out.set (l1 := []) 0 (.bool true)
  have S2 := Lib.hid S2
  go_wp2_with fail
  try simp only [Act.put]
  exact ⟨rfl, hend _ _ (by repeat (first | (with_reducible refine same_set (by decide) ?_) | (with_reducible exact same_nil))) (S2.out)⟩
-- END pcp17
-- REG pcp18N
set_option maxRecDepth 100000 in
set_option maxHeartbeats 2000000 in
theorem pcp_r18N {Q : Exit → Act → World → Prop} {a : Act} {w : World} (w0 : World) (gr gz : Nat) (z : Int) (hz : z < 1) (L : List Res) (S : Held w0 w (blkR gr 4 #[.bool false] :: blkR gz 3 #[.int .i64 z] :: L)) (hsz : a.tmps.size = 64) (o6 : Sl a 6 (.pointer (some ⟨gz, 0, none⟩))) (o8 : Sl a 8 (.pointer (some ⟨gr, 0, none⟩)))
    (hend : ∀ (a' : Act) (W : World), Same a a' [56, 57, 58, 59, 60, 61, 62, 63] → (Held w0 W (blkR gr 4 #[.bool true] :: blkR gz 3 #[.int .i64 z] :: L)) → Q .normal a' W) : (Code.region 18 (opsOf 18 Try.f35).toArray false).wp Try.prog Q a w := by
  have hap : apartB ((opsOf 18 Try.f35).take 8) = true := by kernel_rfl
  refine wp_region_invSL (l := (opsOf 18 Try.f35)) 8 (fun i v W => match i with | 0 => v = .int .i64 z | 1 => v = .bool true | 2 => v = .bool true | 7 => v = .bool true | _ => True) hap ?_ ?_ ?_
  · intro i v W W' h _
    iterate 9 (rcases i with _ | i; · exact h)
    exact h
  · refine ⟨?_, ?_, ?_, ?_, ?_, ?_, ?_, ?_, trivial⟩
    · intro vs A' W hA hW hd hu K hK
      refine wpOp_free _ rfl rfl ?_
      conv => arg 2; whnf
      have e6 : A'.tmps[6]?.getD undef = .pointer (some ⟨gz, 0, none⟩) := slot_out hA hap (Nat.lt_of_lt_of_eq (Nat.le_of_ble_eq_true rfl : 6 < 64) hsz.symm) (by kernel_rfl) o6
      clear hA hd hu o6 o8
      have hbgz : Blk w gz 3 #[.int .i64 z] := S.at_ (l1 := [_])
      have c0 : W.cell? ⟨gz, 0, none⟩ = some (.int .i64 z) := (hbgz.kp hW (by simp)).cell 0
      go_step
      exact hK _ _ (Kp.refl _ _) rfl
    · intro vs A' W hA hW hd hu K hK
      refine wpOp_free _ rfl rfl ?_
      conv => arg 2; whnf
      have f0 : vs 0 = .int .i64 z := hd 0 (by kernel_rfl)
      have e56 : A'.tmps[56]?.getD undef = vs 0 := slot_in hA hap (Nat.lt_of_lt_of_eq (Nat.le_of_ble_eq_true rfl : 56 < 64) hsz.symm) (by kernel_rfl)
      rw [f0] at e56
      clear hA hd hu o6 o8
      go_step
      exact hK _ _ (Kp.refl _ _) (by first | rfl | exact congrArg Value.bool (decide_eq_true (by omega)))
    · intro vs A' W hA hW hd hu K hK
      refine wpOp_free _ rfl rfl ?_
      conv => arg 2; whnf
      have f1 : vs 1 = .bool true := hd 1 (by kernel_rfl)
      have e57 : A'.tmps[57]?.getD undef = vs 1 := slot_in hA hap (Nat.lt_of_lt_of_eq (Nat.le_of_ble_eq_true rfl : 57 < 64) hsz.symm) (by kernel_rfl)
      rw [f1] at e57
      clear hA hd hu o6 o8
      go_step
      exact hK _ _ (Kp.refl _ _) rfl
    · intro vs A' W hA hW hd hu K hK
      have f2 : vs 2 = .bool true := hd 2 (by kernel_rfl)
      have e58 : A'.tmps[58]?.getD undef = vs 2 := slot_in hA hap (Nat.lt_of_lt_of_eq (Nat.le_of_ble_eq_true rfl : 58 < 64) hsz.symm) (by kernel_rfl)
      rw [f2] at e58
      refine wpOp_skip _ rfl 2 58 false rfl rfl e58 ?_
      exact hK _ _ (Kp.refl _ _) trivial
    · intro vs A' W hA hW hd hu K hK
      have f2 : vs 2 = .bool true := hd 2 (by kernel_rfl)
      have e58 : A'.tmps[58]?.getD undef = vs 2 := slot_in hA hap (Nat.lt_of_lt_of_eq (Nat.le_of_ble_eq_true rfl : 58 < 64) hsz.symm) (by kernel_rfl)
      rw [f2] at e58
      refine wpOp_skip _ rfl 2 58 false rfl rfl e58 ?_
      exact hK _ _ (Kp.refl _ _) trivial
    · intro vs A' W hA hW hd hu K hK
      have f2 : vs 2 = .bool true := hd 2 (by kernel_rfl)
      have e58 : A'.tmps[58]?.getD undef = vs 2 := slot_in hA hap (Nat.lt_of_lt_of_eq (Nat.le_of_ble_eq_true rfl : 58 < 64) hsz.symm) (by kernel_rfl)
      rw [f2] at e58
      refine wpOp_skip _ rfl 2 58 false rfl rfl e58 ?_
      exact hK _ _ (Kp.refl _ _) trivial
    · intro vs A' W hA hW hd hu K hK
      have f2 : vs 2 = .bool true := hd 2 (by kernel_rfl)
      have e58 : A'.tmps[58]?.getD undef = vs 2 := slot_in hA hap (Nat.lt_of_lt_of_eq (Nat.le_of_ble_eq_true rfl : 58 < 64) hsz.symm) (by kernel_rfl)
      rw [f2] at e58
      refine wpOp_skip _ rfl 2 58 false rfl rfl e58 ?_
      exact hK _ _ (Kp.refl _ _) trivial
    · intro vs A' W hA hW hd hu K hK
      refine wpOp_free _ rfl rfl ?_
      conv => arg 2; whnf
      have f2 : vs 2 = .bool true := hd 2 (by kernel_rfl)
      have e58 : A'.tmps[58]?.getD undef = vs 2 := slot_in hA hap (Nat.lt_of_lt_of_eq (Nat.le_of_ble_eq_true rfl : 58 < 64) hsz.symm) (by kernel_rfl)
      rw [f2] at e58
      have e62 : A'.tmps[62]?.getD undef = vs 6 := slot_in hA hap (Nat.lt_of_lt_of_eq (Nat.le_of_ble_eq_true rfl : 62 < 64) hsz.symm) (by kernel_rfl)
      clear hA hd hu o6 o8
      go_step
      exact hK _ _ (Kp.refl _ _) rfl
  · intro vs W hW hp
    rw [show putAll vs ((opsOf 18 Try.f35).take 8) 0 a = putD [(56, vs 0), (57, vs 1), (58, vs 2), (59, vs 3), (60, vs 4), (61, vs 5), (62, vs 6), (63, vs 7)] a from by kernel_rfl]
    have hS : Same a (putD [(56, vs 0), (57, vs 1), (58, vs 2), (59, vs 3), (60, vs 4), (61, vs 5), (62, vs 6), (63, vs 7)] a) [56, 57, 58, 59, 60, 61, 62, 63] := same_putD _ a
    have n63 : Sl (putD [(56, vs 0), (57, vs 1), (58, vs 2), (59, vs 3), (60, vs 4), (61, vs 5), (62, vs 6), (63, vs 7)] a) 63 (.bool true) := sl_putD _ a 63 _ (by rw [show vs 7 = _ from hp 7 (Nat.le_of_ble_eq_true (by kernel_rfl))]; kernel_rfl)
    clear hp hap
    generalize putD [(56, vs 0), (57, vs 1), (58, vs 2), (59, vs 3), (60, vs 4), (61, vs 5), (62, vs 6), (63, vs 7)] a = a1 at *
    have hsz1 : a1.tmps.size = 64 := hS.size.trans hsz
    have n8 := hS.keep 8 _ (by decide) o8
    clear o6 o8
    conv => arg 4; whnf
    unfold Sl at n8 n63
    have S := Lib.hid (S.kp hW)
    obtain ⟨c1, c2, c3⟩ := Blk.c1 (S.out.at_ (l1 := []))
    have S2 := Lib.hid (S.out.set (l1 := []) 0 (.bool true))
    go_wp2_with fail
    try simp only [Act.put]
    exact hend _ _ ((hS.trans (d2 := []) (by repeat (first | (with_reducible refine same_set (by decide) ?_) | (with_reducible exact same_nil)))).more (by decide +kernel)) (S2.out)
-- END pcp18N
-- REG pcp18Y
set_option maxRecDepth 100000 in
set_option maxHeartbeats 2000000 in
theorem pcp_r18Y {Q : Exit → Act → World → Prop} {a : Act} {w : World} (w0 : World) (gr gz : Nat) (z : Int) (hz : ¬ z < 1) (ga gb k n c : Nat) (A : Option Addr) (hk : n ≤ k) (L : List Res) (S : Held w0 w (blkR gr 4 #[.bool false] :: blkR gz 3 #[.int .i64 z] :: blkR ga 3 #[.int .i64 ((k : Nat) : Int)] :: blkR gb 22 #[.slice A n c] :: L)) (hsz : a.tmps.size = 64) (o5 : Sl a 5 (.pointer (some ⟨gb, 0, none⟩))) (o6 : Sl a 6 (.pointer (some ⟨gz, 0, none⟩))) (o8 : Sl a 8 (.pointer (some ⟨gr, 0, none⟩))) (o10 : Sl a 10 (.pointer (some ⟨ga, 0, none⟩)))
    (hend : ∀ (a' : Act) (W : World), Same a a' [56, 57, 58, 59, 60, 61, 62, 63] → (Held w0 W (blkR gr 4 #[.bool true] :: blkR gz 3 #[.int .i64 z] :: blkR ga 3 #[.int .i64 ((k : Nat) : Int)] :: blkR gb 22 #[.slice A n c] :: L)) → Q .normal a' W) : (Code.region 18 (opsOf 18 Try.f35).toArray false).wp Try.prog Q a w := by
  have hap : apartB ((opsOf 18 Try.f35).take 8) = true := by kernel_rfl
  refine wp_region_invSL (l := (opsOf 18 Try.f35)) 8 (fun i v W => match i with | 0 => v = .int .i64 z | 1 => v = .bool false | 2 => v = .bool false | 3 => v = .int .i64 ((k : Nat) : Int) | 4 => v = .slice A n c | 5 => v = .int .i64 ((n : Nat) : Int) | 6 => v = .bool true | 7 => v = .bool true | _ => True) hap ?_ ?_ ?_
  · intro i v W W' h _
    iterate 9 (rcases i with _ | i; · exact h)
    exact h
  · refine ⟨?_, ?_, ?_, ?_, ?_, ?_, ?_, ?_, trivial⟩
    · intro vs A' W hA hW hd hu K hK
      refine wpOp_free _ rfl rfl ?_
      conv => arg 2; whnf
      have e6 : A'.tmps[6]?.getD undef = .pointer (some ⟨gz, 0, none⟩) := slot_out hA hap (Nat.lt_of_lt_of_eq (Nat.le_of_ble_eq_true rfl : 6 < 64) hsz.symm) (by kernel_rfl) o6
      clear hA hd hu o5 o6 o8 o10
      have hbgz : Blk w gz 3 #[.int .i64 z] := S.at_ (l1 := [_])
      have hbga : Blk w ga 3 #[.int .i64 ((k : Nat) : Int)] := S.at_ (l1 := [_, _])
      have hbgb : Blk w gb 22 #[.slice A n c] := S.at_ (l1 := [_, _, _])
      have c0 : W.cell? ⟨gz, 0, none⟩ = some (.int .i64 z) := (hbgz.kp hW (by simp)).cell 0
      go_step
      exact hK _ _ (Kp.refl _ _) rfl
    · intro vs A' W hA hW hd hu K hK
      refine wpOp_free _ rfl rfl ?_
      conv => arg 2; whnf
      have f0 : vs 0 = .int .i64 z := hd 0 (by kernel_rfl)
      have e56 : A'.tmps[56]?.getD undef = vs 0 := slot_in hA hap (Nat.lt_of_lt_of_eq (Nat.le_of_ble_eq_true rfl : 56 < 64) hsz.symm) (by kernel_rfl)
      rw [f0] at e56
      clear hA hd hu o5 o6 o8 o10
      go_step
      exact hK _ _ (Kp.refl _ _) (by first | rfl | exact congrArg Value.bool (decide_eq_false (by omega)))
    · intro vs A' W hA hW hd hu K hK
      refine wpOp_free _ rfl rfl ?_
      conv => arg 2; whnf
      have f1 : vs 1 = .bool false := hd 1 (by kernel_rfl)
      have e57 : A'.tmps[57]?.getD undef = vs 1 := slot_in hA hap (Nat.lt_of_lt_of_eq (Nat.le_of_ble_eq_true rfl : 57 < 64) hsz.symm) (by kernel_rfl)
      rw [f1] at e57
      clear hA hd hu o5 o6 o8 o10
      go_step
      exact hK _ _ (Kp.refl _ _) rfl
    · intro vs A' W hA hW hd hu K hK
      have f2 : vs 2 = .bool false := hd 2 (by kernel_rfl)
      have e58 : A'.tmps[58]?.getD undef = vs 2 := slot_in hA hap (Nat.lt_of_lt_of_eq (Nat.le_of_ble_eq_true rfl : 58 < 64) hsz.symm) (by kernel_rfl)
      rw [f2] at e58
      refine wpOp_go _ rfl 2 58 false rfl rfl e58 ?_
      conv => arg 2; whnf
      have e10 : A'.tmps[10]?.getD undef = .pointer (some ⟨ga, 0, none⟩) := slot_out hA hap (Nat.lt_of_lt_of_eq (Nat.le_of_ble_eq_true rfl : 10 < 64) hsz.symm) (by kernel_rfl) o10
      clear hA hd hu o5 o6 o8 o10
      have hbgz : Blk w gz 3 #[.int .i64 z] := S.at_ (l1 := [_])
      have hbga : Blk w ga 3 #[.int .i64 ((k : Nat) : Int)] := S.at_ (l1 := [_, _])
      have hbgb : Blk w gb 22 #[.slice A n c] := S.at_ (l1 := [_, _, _])
      have c0 : W.cell? ⟨ga, 0, none⟩ = some (.int .i64 ((k : Nat) : Int)) := (hbga.kp hW (by simp)).cell 0
      go_step
      exact hK _ _ (Kp.refl _ _) rfl
    · intro vs A' W hA hW hd hu K hK
      have f2 : vs 2 = .bool false := hd 2 (by kernel_rfl)
      have e58 : A'.tmps[58]?.getD undef = vs 2 := slot_in hA hap (Nat.lt_of_lt_of_eq (Nat.le_of_ble_eq_true rfl : 58 < 64) hsz.symm) (by kernel_rfl)
      rw [f2] at e58
      refine wpOp_go _ rfl 2 58 false rfl rfl e58 ?_
      conv => arg 2; whnf
      have e5 : A'.tmps[5]?.getD undef = .pointer (some ⟨gb, 0, none⟩) := slot_out hA hap (Nat.lt_of_lt_of_eq (Nat.le_of_ble_eq_true rfl : 5 < 64) hsz.symm) (by kernel_rfl) o5
      clear hA hd hu o5 o6 o8 o10
      have hbgz : Blk w gz 3 #[.int .i64 z] := S.at_ (l1 := [_])
      have hbga : Blk w ga 3 #[.int .i64 ((k : Nat) : Int)] := S.at_ (l1 := [_, _])
      have hbgb : Blk w gb 22 #[.slice A n c] := S.at_ (l1 := [_, _, _])
      have c0 : W.cell? ⟨gb, 0, none⟩ = some (.slice A n c) := (hbgb.kp hW (by simp)).cell 0
      go_step
      exact hK _ _ (Kp.refl _ _) rfl
    · intro vs A' W hA hW hd hu K hK
      have f2 : vs 2 = .bool false := hd 2 (by kernel_rfl)
      have e58 : A'.tmps[58]?.getD undef = vs 2 := slot_in hA hap (Nat.lt_of_lt_of_eq (Nat.le_of_ble_eq_true rfl : 58 < 64) hsz.symm) (by kernel_rfl)
      rw [f2] at e58
      refine wpOp_go _ rfl 2 58 false rfl rfl e58 ?_
      conv => arg 2; whnf
      have f4 : vs 4 = .slice A n c := hd 4 (by kernel_rfl)
      have e60 : A'.tmps[60]?.getD undef = vs 4 := slot_in hA hap (Nat.lt_of_lt_of_eq (Nat.le_of_ble_eq_true rfl : 60 < 64) hsz.symm) (by kernel_rfl)
      rw [f4] at e60
      clear hA hd hu o5 o6 o8 o10
      go_step
      exact hK _ _ (Kp.refl _ _) rfl
    · intro vs A' W hA hW hd hu K hK
      have f2 : vs 2 = .bool false := hd 2 (by kernel_rfl)
      have e58 : A'.tmps[58]?.getD undef = vs 2 := slot_in hA hap (Nat.lt_of_lt_of_eq (Nat.le_of_ble_eq_true rfl : 58 < 64) hsz.symm) (by kernel_rfl)
      rw [f2] at e58
      refine wpOp_go _ rfl 2 58 false rfl rfl e58 ?_
      conv => arg 2; whnf
      have f3 : vs 3 = .int .i64 ((k : Nat) : Int) := hd 3 (by kernel_rfl)
      have e59 : A'.tmps[59]?.getD undef = vs 3 := slot_in hA hap (Nat.lt_of_lt_of_eq (Nat.le_of_ble_eq_true rfl : 59 < 64) hsz.symm) (by kernel_rfl)
      rw [f3] at e59
      have f5 : vs 5 = .int .i64 ((n : Nat) : Int) := hd 5 (by kernel_rfl)
      have e61 : A'.tmps[61]?.getD undef = vs 5 := slot_in hA hap (Nat.lt_of_lt_of_eq (Nat.le_of_ble_eq_true rfl : 61 < 64) hsz.symm) (by kernel_rfl)
      rw [f5] at e61
      clear hA hd hu o5 o6 o8 o10
      go_step
      exact hK _ _ (Kp.refl _ _) (by first | rfl | exact congrArg Value.bool (decide_eq_true (by omega)))
    · intro vs A' W hA hW hd hu K hK
      refine wpOp_free _ rfl rfl ?_
      conv => arg 2; whnf
      have f2 : vs 2 = .bool false := hd 2 (by kernel_rfl)
      have e58 : A'.tmps[58]?.getD undef = vs 2 := slot_in hA hap (Nat.lt_of_lt_of_eq (Nat.le_of_ble_eq_true rfl : 58 < 64) hsz.symm) (by kernel_rfl)
      rw [f2] at e58
      have f6 : vs 6 = .bool true := hd 6 (by kernel_rfl)
      have e62 : A'.tmps[62]?.getD undef = vs 6 := slot_in hA hap (Nat.lt_of_lt_of_eq (Nat.le_of_ble_eq_true rfl : 62 < 64) hsz.symm) (by kernel_rfl)
      rw [f6] at e62
      clear hA hd hu o5 o6 o8 o10
      go_step
      exact hK _ _ (Kp.refl _ _) rfl
  · intro vs W hW hp
    rw [show putAll vs ((opsOf 18 Try.f35).take 8) 0 a = putD [(56, vs 0), (57, vs 1), (58, vs 2), (59, vs 3), (60, vs 4), (61, vs 5), (62, vs 6), (63, vs 7)] a from by kernel_rfl]
    have hS : Same a (putD [(56, vs 0), (57, vs 1), (58, vs 2), (59, vs 3), (60, vs 4), (61, vs 5), (62, vs 6), (63, vs 7)] a) [56, 57, 58, 59, 60, 61, 62, 63] := same_putD _ a
    have n63 : Sl (putD [(56, vs 0), (57, vs 1), (58, vs 2), (59, vs 3), (60, vs 4), (61, vs 5), (62, vs 6), (63, vs 7)] a) 63 (.bool true) := sl_putD _ a 63 _ (by rw [show vs 7 = _ from hp 7 (Nat.le_of_ble_eq_true (by kernel_rfl))]; kernel_rfl)
    clear hp hap
    generalize putD [(56, vs 0), (57, vs 1), (58, vs 2), (59, vs 3), (60, vs 4), (61, vs 5), (62, vs 6), (63, vs 7)] a = a1 at *
    have hsz1 : a1.tmps.size = 64 := hS.size.trans hsz
    have n8 := hS.keep 8 _ (by decide) o8
    clear o5 o6 o8 o10
    conv => arg 4; whnf
    unfold Sl at n8 n63
    have S := Lib.hid (S.kp hW)
    obtain ⟨c1, c2, c3⟩ := Blk.c1 (S.out.at_ (l1 := []))
    have S2 := Lib.hid (S.out.set (l1 := []) 0 (.bool true))
    go_wp2_with fail
    try simp only [Act.put]
    exact hend _ _ ((hS.trans (d2 := []) (by repeat (first | (with_reducible refine same_set (by decide) ?_) | (with_reducible exact same_nil)))).more (by decide +kernel)) (S2.out)
-- END pcp18Y
end
/- pieces of the law. -/
section
open Go.RowKit Go.Shelf
/-- A call of a function that ranges over functions, its frame abstract. -/
theorem calls_frM {P : Program} {f : FuncId} {fn : Func} {c : Code} {args : Array Value} {w : World} {R : Ending → World → Prop} (hf : P.funcs[f]? = some fn) (hb : fn.body = some c) (N : Nat) (hN : args.size + (fn.ntmps - args.size) = N)
    (h : ∀ a : Act, a.tmps.size = N → a.defers = [] → (∀ i v, args[i]? = some v → Sl a i v) → c.wp P (bodyPostM Fence.wide 3 P fn R) a w) : Calls P f args w R :=
  calls_marks hf hb (h _ (by simp only [Array.size_append, Array.size_replicate]; exact hN) rfl (fun i v hi => sl_of (by
    rw [Array.getElem?_append_left (Array.getElem?_eq_some_iff.1 hi).1]; exact hi)))
theorem pc_seq0 (w0 : World) (gS gN p : Nat) (z : Int) (hz : z < 1) (v : Value) (bs : List UInt8) (w : World) (hw : Held w0 w (allL gS gN p z v bs)) (n : Nat) :
    SeqW Try.prog n 48 #[.pointer (some ⟨gS, 0, none⟩), .pointer (some ⟨gN, 0, none⟩)] (pcE z.toNat bs) (fun _ W => Held w0 W (allL gS gN p z v bs)) (fun pre x _ _ => 1 ≤ z ∧ PcX z.toNat bs pre x) (fun xs => z < 1 ∨ PcAll z.toNat bs xs) (fun _ => True) (bs.length + 1) w := by
  intro l J Jx W hk hJ hJx hY h0
  have HP := hw.kp hk
  refine callsIn_wide.2 ?_
  refine calls_fr Try.func48 rfl 44 rfl (fun a0 hsz hdf hAr => ?_)
  have hz0 : a0.tmps.size = 44 := hsz
  have D := hdf
  have o0 := hAr 0 _ rfl
  have o1 := hAr 1 _ rfl
  have o2 := hAr 2 _ rfl
  refine wp_seq (wp_seq (pca_r0Y gS gN p z (HP.at_ (l1 := [])) (HP.at_ (l1 := [_])) hz0 o1 o2 (fun a1 w1 hs1 k1 o14 => ?_)))
  have hz1 := hs1.size.trans hz0
  have o0 := hs1.keep 0 _ (by decide) o0
  have o1 := hs1.keep 1 _ (by decide) o1
  have o2 := hs1.keep 2 _ (by decide) o2
  have D := hs1.defers.trans D
  refine wp_cond_true ((o14.eval (by rw [hz1]; decide)).trans (by rw [decide_eq_true hz])) ?_
  refine wp_ret ?_
  simp only [Exit.then]
  exact ⟨D, _, results_N (by rfl), ⟨_, rfl⟩, .inl ⟨[], .inl hz, hJ _ _ _ h0 k1⟩⟩
theorem pc_seqZ (w0 : World) (gS gN p : Nat) (z : Int) (v : Value) (bs : List UInt8) (hb : bs.length ≤ 1000000) (w : World) (hw : Held w0 w (allL gS gN p z v bs)) (n : Nat) :
    SeqW Try.prog n 48 #[.pointer (some ⟨gS, 0, none⟩), .pointer (some ⟨gN, 0, none⟩)] (pcE z.toNat bs) (fun _ W => Held w0 W (allL gS gN p z v bs)) (fun pre x _ _ => 1 ≤ z ∧ PcX z.toNat bs pre x) (fun xs => z < 1 ∨ PcAll z.toNat bs xs) (fun _ => True) (bs.length + 1) w := by
  by_cases hz : z < 1
  · exact pc_seq0 w0 gS gN p z hz v bs w hw n
  · obtain ⟨m, rfl⟩ : ∃ m : Nat, z = m := ⟨z.toNat, by omega⟩
    have h := pc_seq w0 gS gN p m (by omega) v bs hb w hw n
    rw [Int.toNat_natCast]
    intro l J Jx W hk hJ hJx hY h0
    refine (h l J Jx W hk hJ hJx (fun pre x W0 W1 h1 h2 h3 h4 => hY pre x W0 W1 h1 h2 ⟨by omega, h3⟩ h4) h0).mono ?_
    rintro e W2 ⟨he, (⟨xs, h1, h2⟩ | h1)⟩
    · exact ⟨he, .inl ⟨xs, .inr h1, h2⟩⟩
    · exact ⟨he, .inr h1⟩
abbrev L6 (ga gn gr gl gz gb : Nat) (A : Option Addr) (n c : Nat) (z lv : Int) (at_ k : Nat) (r : Bool) : List Res := [blkR ga 3 #[.int .i64 ((at_ : Nat) : Int)], blkR gn 3 #[.int .i64 ((k : Nat) : Int)], blkR gr 4 #[.bool r], blkR gl 3 #[.int .i64 lv], blkR gz 3 #[.int .i64 z], blkR gb 22 #[.slice A n c]]
structure F6 (a : Act) (ga gn gr gl gz gb : Nat) : Prop where
  o5 : Sl a 5 (.pointer (some ⟨gb, 0, none⟩))
  o6 : Sl a 6 (.pointer (some ⟨gz, 0, none⟩))
  o7 : Sl a 7 (.pointer (some ⟨gl, 0, none⟩))
  o8 : Sl a 8 (.pointer (some ⟨gr, 0, none⟩))
  o9 : Sl a 9 (.pointer (some ⟨gn, 0, none⟩))
  o10 : Sl a 10 (.pointer (some ⟨ga, 0, none⟩))
theorem sl_set {a : Act} {d e : Nat} {v u : Value} {D : List Deferred} (h : Sl a d v) (hne : e ≠ d) : Sl { tmps := a.tmps.setIfInBounds e u, defers := D } d v := sl_put1 (u := u) h hne
theorem sl_new {a : Act} {e : Nat} {u : Value} {D : List Deferred} : Sl { tmps := a.tmps.setIfInBounds e u, defers := D } e u := by
  intro h
  simp
set_option maxRecDepth 100000 in
set_option maxHeartbeats 8000000 in
theorem pieces_any (w0 : World) (gS gN p : Nat) (z lv : Int) (v : Value) (bs : List UInt8) (hb : bs.length ≤ 100000) (A : Option Addr) (c : Nat) (hnc : bs.length ≤ c) (w : World) (S0 : Held w0 w (allL gS gN p z v bs ++ [rowR 5 1 (.slice A bs.length c) bs.length (bv bs)])) :
    Calls Try.prog 35 #[.func (.func 48) #[] #[.pointer (some ⟨gS, 0, none⟩), .pointer (some ⟨gN, 0, none⟩)], .slice A bs.length c, .int .i64 z, .int .i64 lv] w fun e w' => e = .returned (.bool true) ∧ Kp [] w w' := by
  refine calls_frM Try.func35 rfl 64 rfl (fun a0 hsz hdf hAr => ?_)
  have hz0 : a0.tmps.size = 64 := hsz
  have D := hdf
  have o0 := hAr 0 _ rfl
  have o1 := hAr 1 _ rfl
  have o2 := hAr 2 _ rfl
  have o3 := hAr 3 _ rfl
  refine wp_seq (pcp_r0 w A bs.length c z lv [] (Held.start w) hz0 o1 o2 o3 (fun a1 w1 hs1 h1 => ?_))
  have hz1 := hs1.size.trans hz0
  have o0 := hs1.keep 0 _ (by decide) o0
  have o1 := hs1.keep 1 _ (by decide) o1
  have o2 := hs1.keep 2 _ (by decide) o2
  have o3 := hs1.keep 3 _ (by decide) o3
  have D := hs1.defers.trans D
  obtain ⟨gb, gz, gl, gr, o5, o6, o7, o8, S⟩ := h1
  refine wp_seq (wp_seq (pcp_r1 gS gN hz1 o0 (fun a2 hs2 o15 => ?_)))
  have hz2 := hs2.size.trans hz1
  have o0 := hs2.keep 0 _ (by decide) o0
  have o5 := hs2.keep 5 _ (by decide) o5
  have o6 := hs2.keep 6 _ (by decide) o6
  have o7 := hs2.keep 7 _ (by decide) o7
  have o8 := hs2.keep 8 _ (by decide) o8
  have D := hs2.defers.trans D
  refine wp_cond_false (o15.eval (by rw [hz2]; decide)) (wp_skip ?_)
  simp only [Exit.then]
  refine wp_seq (pcp_r3 w _ S hz2 (fun a3 w3 hs3 h3 => ?_))
  have hz3 := hs3.size.trans hz2
  have o0 := hs3.keep 0 _ (by decide) o0
  have o5 := hs3.keep 5 _ (by decide) o5
  have o6 := hs3.keep 6 _ (by decide) o6
  have o7 := hs3.keep 7 _ (by decide) o7
  have o8 := hs3.keep 8 _ (by decide) o8
  have D := hs3.defers.trans D
  obtain ⟨gn, ga, o9, o10, S⟩ := h3
  have S := S.pull 1 rfl
  have S := S.pull 1 rfl
  refine wp_seq (wp_seq (pcp_r4 _ hz3 o0 (fun a4 hs4 o16 => ?_)))
  have hz4 := hs4.size.trans hz3
  have o0 := hs4.keep 0 _ (by decide) o0
  have o5 := hs4.keep 5 _ (by decide) o5
  have o6 := hs4.keep 6 _ (by decide) o6
  have o7 := hs4.keep 7 _ (by decide) o7
  have o8 := hs4.keep 8 _ (by decide) o8
  have o9 := hs4.keep 9 _ (by decide) o9
  have o10 := hs4.keep 10 _ (by decide) o10
  have D := hs4.defers.trans D
  have hF : F6 a4 ga gn gr gl gz gb := ⟨o5, o6, o7, o8, o9, o10⟩
  have S : Held w w3 (L6 ga gn gr gl gz gb A bs.length c z lv 0 0 false) := S
  iterate 9 (try clear o5)
  iterate 9 (try clear o6)
  iterate 9 (try clear o7)
  iterate 9 (try clear o8)
  iterate 9 (try clear o9)
  iterate 9 (try clear o10)
  iterate 9 (try clear o0)
  have hwb := S.k.size
  have HC := Lib.hid (Cells.of S)
  have S1 := S0.kp S.k
  have HA : Held w0 w3 (allL gS gN p z v bs) := S1.some_of (by simp)
  have hrow : ∀ V, Kp [] w V → Rd V 1 (.slice A bs.length c) bs.length (bv bs) := fun V kV => Rd.of_own (show Ow V 5 1 (.slice A bs.length c) bs.length (bv bs) from (S0.kp kV).ok (rowR 5 1 (.slice A bs.length c) bs.length (bv bs)) (by simp))
  have hall : ∀ V, Kp [] w V → Held w0 V (allL gS gN p z v bs) := fun V kV => (S0.kp kV).some_of (by simp)
  have hwa := HA.k.size
  have HCA := Lib.hid (Cells.of HA)
  -- the end
  have hret : ∀ (a : Act) (W : World) (at_ k : Nat), a.tmps.size = 64 → a.defers = [markOf w3.heap.size] → F6 a ga gn gr gl gz gb → Held w W (L6 ga gn gr gl gz gb A bs.length c z lv at_ k true) → W.heap[w3.heap.size]? = some (.deferred (some [])) → bodyPostM Fence.wide 3 Try.prog Try.f35 (fun e w' => e = .returned (.bool true) ∧ Kp [] w w') .ret a W := by
    intro a W at_ k hza hda hF S hD
    have hnf : ∀ r ∈ L6 ga gn gr gl gz gb A bs.length c z lv at_ k true, w3.heap.size ∉ r.fp := Cells.not (HC.out.tail.tail.tail.blk.blk.blk : Cells w3.heap.size (L6 ga gn gr gl gz gb A bs.length c z lv at_ k true)) S (Nat.le_refl _) hD rfl
    refine ret_marks [w3.heap.size] hda (by simp) (fun D hD' => by simp at hD'; subst hD'; exact hD) (fun V hk => ?_)
    have hbk := S.at_ (l1 := [_, _])
    have hgr : gr ≠ w3.heap.size := fun e => hnf (blkR gr 4 #[.bool true]) (by simp) (by rw [← e]; simp [blkR])
    have hbk2 := Blk.kp hbk hk (by simpa using hgr)
    have h8 : a.tmps[8]?.getD undef = .pointer (some ⟨gr, 0, none⟩) := by rw [← Array.getD_eq_getD_getElem?]; exact hF.o8.eval (by rw [hza]; decide)
    have hc5 : V.cell? ⟨gr, 0, none⟩ = some (.bool true) := hbk2.cell 0
    refine ⟨.bool true, ?_, rfl, S.k.trans hk (fun g hg => .inr (by simp at hg; subst hg; exact hwb))⟩
    simp [results, Try.f35, go_sem, h8, hc5]
  refine wp_block ?_
  refine wp_range (n := 3) (ps := #[17, 18]) (gf := 48) (lb := #[.pointer (some ⟨gS, 0, none⟩), .pointer (some ⟨gN, 0, none⟩)]) (o16.eval (by rw [hz4]; decide)) (enters_of Try.func48 (by kernel_rfl) rfl) (encs := pcE z.toNat bs) (Z := fun _ W => Held w0 W (allL gS gN p z v bs)) (X := fun pre x _ _ => 1 ≤ z ∧ PcX z.toNat bs pre x) (S := fun xs => z < 1 ∨ PcAll z.toNat bs xs) (Sp := fun _ => True) (N := bs.length + 1) (pc_seqZ w0 gS gN p z v bs (by omega) w3 HA _) (fun _ => Held.stays hwa HCA.out) (fun _ => rfl)
    (fun pre W => Held w W (L6 ga gn gr gl gz gb A bs.length c z lv (min (pre.length * z.toNat) bs.length) pre.length false))
    (fun c' pre W => c' = .ret ∧ ∃ at_ k, Held w W (L6 ga gn gr gl gz gb A bs.length c z lv at_ k true)) ?hI ?hIx ?h0
    (fun pre x W => (1 ≤ z ∧ PcX z.toNat bs pre x) ∧ Held w W (L6 ga gn gr gl gz gb A bs.length c z lv (min (pre.length * z.toNat) bs.length) pre.length false)) ?hI' ?hprep
    (fun T pre x a' W => a'.tmps.size = 64 ∧ a'.defers = [] ∧ F6 a' ga gn gr gl gz gb ∧ Sl a' 11 (.int .i64 ((x * z.toNat : Nat) : Int)) ∧ Sl a' 12 (.int .u32 ((pcS z.toNat bs x : Nat) : Int)) ∧ Held w W (L6 ga gn gr gl gz gb A bs.length c z lv (min (pre.length * z.toNat) bs.length) pre.length false)) ?hA ?assign ?body ?done ?stop
  case hI => exact fun pre => Held.stays hwb (HC.out.tail.tail.blk.blk)
  case hIx => exact fun c pre => (Stays.pure _ _).and (Stays.ex fun _ => Stays.ex fun _ => Held.stays hwb (HC.out.tail.tail.tail.blk.blk.blk))
  case h0 =>
    show Held w w3 (L6 ga gn gr gl gz gb A bs.length c z lv (min (0 * z.toNat) bs.length) 0 false)
    rw [Nat.zero_mul, Nat.zero_min]
    exact S
  case hI' => exact fun pre x => (Stays.pure _ _).and (Held.stays hwb (HC.out.tail.tail.blk.blk))
  case hprep =>
    intro pre x W0 W1 S k hx _
    exact ⟨hx, S.kp k⟩
  case hA => exact fun pre x a' => (Stays.pure _ _).and ((Stays.pure _ _).and ((Stays.pure _ _).and ((Stays.pure _ _).and ((Stays.pure _ _).and (Held.stays hwb (HC.out.tail.tail.blk.blk))))))
  case assign =>
    rintro pre x W ⟨hx, S⟩ K hK
    have hfr : ((#[17, 18] : Array Nat).zip (pcE z.toNat bs x)).foldl (fun t (p, v) => t.setIfInBounds p v) a4.tmps = (a4.tmps.setIfInBounds 17 (.int .i64 ((x * z.toNat : Nat) : Int))).setIfInBounds 18 (.int .u32 ((pcS z.toNat bs x : Nat) : Int)) := by
      rw [← Array.foldl_toList, Array.toList_zip]
      rfl
    rw [hfr]
    clear hfr
    obtain ⟨a5, ha5⟩ : ∃ a5 : Act, ({ tmps := (a4.tmps.setIfInBounds 17 (.int .i64 ((x * z.toNat : Nat) : Int))).setIfInBounds 18 (.int .u32 ((pcS z.toNat bs x : Nat) : Int)), defers := [] } : Act) = a5 := ⟨_, rfl⟩
    rw [ha5]
    have hz5 : a5.tmps.size = 64 := by rw [← ha5]; simp [hz4]
    have D5 : a5.defers = [] := by rw [← ha5]
    have hF5 : F6 a5 ga gn gr gl gz gb := by
      rw [← ha5]
      exact ⟨sl_set (a := ⟨a4.tmps.setIfInBounds 17 _, []⟩) (sl_set hF.o5 (by decide)) (by decide), sl_set (a := ⟨a4.tmps.setIfInBounds 17 _, []⟩) (sl_set hF.o6 (by decide)) (by decide), sl_set (a := ⟨a4.tmps.setIfInBounds 17 _, []⟩) (sl_set hF.o7 (by decide)) (by decide), sl_set (a := ⟨a4.tmps.setIfInBounds 17 _, []⟩) (sl_set hF.o8 (by decide)) (by decide), sl_set (a := ⟨a4.tmps.setIfInBounds 17 _, []⟩) (sl_set hF.o9 (by decide)) (by decide), sl_set (a := ⟨a4.tmps.setIfInBounds 17 _, []⟩) (sl_set hF.o10 (by decide)) (by decide)⟩
    have o17 : Sl a5 17 (.int .i64 ((x * z.toNat : Nat) : Int)) := by
      rw [← ha5]
      exact sl_set (a := ⟨a4.tmps.setIfInBounds 17 _, []⟩) (sl_new (a := a4) (D := [])) (by decide)
    have o18 : Sl a5 18 (.int .u32 ((pcS z.toNat bs x : Nat) : Int)) := by
      rw [← ha5]
      exact sl_new (a := ⟨a4.tmps.setIfInBounds 17 _, []⟩)
    clear ha5
    refine wpIn_seq (pcp_r5 _ hz5 o17 (fun a6 hs6 o11 => ?_))
    have hz6 := hs6.size.trans hz5
    refine pcp_r6 _ hz6 (hs6.keep 18 _ (by decide) o18) (fun a7 hs7 o12 => ?_)
    refine hK _ _ (Kp.refl _ _) ⟨hs7.size.trans hz6, hs7.defers.trans (hs6.defers.trans D5), ⟨hs7.keep 5 _ (by decide) (hs6.keep 5 _ (by decide) hF5.o5), hs7.keep 6 _ (by decide) (hs6.keep 6 _ (by decide) hF5.o6), hs7.keep 7 _ (by decide) (hs6.keep 7 _ (by decide) hF5.o7), hs7.keep 8 _ (by decide) (hs6.keep 8 _ (by decide) hF5.o8), hs7.keep 9 _ (by decide) (hs6.keep 9 _ (by decide) hF5.o9), hs7.keep 10 _ (by decide) (hs6.keep 10 _ (by decide) hF5.o10)⟩, hs7.keep 11 _ (by decide) o11, o12, S⟩
  case done =>
    intro xs W hxs S hD
    have hz5 : ({ a4 with defers := markOf w3.heap.size :: a4.defers } : Act).tmps.size = 64 := hz4
    simp only [Exit.inBlock, Exit.then]
    have S := S.withObj hwb hD (Cells.not (HC.out.tail.tail.blk.blk : Cells w3.heap.size (L6 ga gn gr gl gz gb A bs.length c z lv (min (xs.length * z.toNat) bs.length) xs.length false)) S (Nat.le_refl _) hD rfl)
    by_cases hz0 : z < 1
    · have S := (((((((S.pull 6 rfl).pull 5 rfl).pull 4 rfl).pull 4 rfl).pull 4 rfl).pull 6 rfl).pull 6 rfl)
      refine wp_seq (pcp_r18N w gr gz z hz0 _ S hz5 hF.o6 hF.o8 (fun a6 W6 hs6 S => ?_))
      have hz6 := hs6.size.trans hz5
      have S : Held w W6 (objR w3.heap.size (.deferred (some [])) :: L6 ga gn gr gl gz gb A bs.length c z lv (min (xs.length * z.toNat) bs.length) xs.length true) := (((((((S.pull 6 rfl).pull 2 rfl).pull 6 rfl).pull 3 rfl).pull 6 rfl).pull 6 rfl).pull 6 rfl)
      have hD6 : W6.heap[w3.heap.size]? = some (.deferred (some [])) := S.ok (objR w3.heap.size (.deferred (some []))) (by simp)
      refine wp_ret ?_
      exact hret _ W6 _ _ hz6 (hs6.defers.trans (by show markOf _ :: a4.defers = _; rw [D])) ⟨hs6.keep 5 _ (by decide) hF.o5, hs6.keep 6 _ (by decide) hF.o6, hs6.keep 7 _ (by decide) hF.o7, hs6.keep 8 _ (by decide) hF.o8, hs6.keep 9 _ (by decide) hF.o9, hs6.keep 10 _ (by decide) hF.o10⟩ S.drop hD6
    · have hle : bs.length ≤ min (xs.length * z.toNat) bs.length := by
        rcases hxs with h | h
        · exact absurd h hz0
        · unfold PcAll at h; omega
      have S := (((((((S.pull 4 rfl).pull 3 rfl).pull 2 rfl).pull 6 rfl).pull 4 rfl).pull 6 rfl).pull 6 rfl)
      refine wp_seq (pcp_r18Y w gr gz z hz0 ga gb _ bs.length c A hle _ S hz5 hF.o5 hF.o6 hF.o8 hF.o10 (fun a6 W6 hs6 S => ?_))
      have hz6 := hs6.size.trans hz5
      have S : Held w W6 (objR w3.heap.size (.deferred (some [])) :: L6 ga gn gr gl gz gb A bs.length c z lv (min (xs.length * z.toNat) bs.length) xs.length true) := (((((((S.pull 3 rfl).pull 2 rfl).pull 6 rfl).pull 3 rfl).pull 6 rfl).pull 5 rfl).pull 6 rfl)
      have hD6 : W6.heap[w3.heap.size]? = some (.deferred (some [])) := S.ok (objR w3.heap.size (.deferred (some []))) (by simp)
      refine wp_ret ?_
      exact hret _ W6 _ _ hz6 (hs6.defers.trans (by show markOf _ :: a4.defers = _; rw [D])) ⟨hs6.keep 5 _ (by decide) hF.o5, hs6.keep 6 _ (by decide) hF.o6, hs6.keep 7 _ (by decide) hF.o7, hs6.keep 8 _ (by decide) hF.o8, hs6.keep 9 _ (by decide) hF.o9, hs6.keep 10 _ (by decide) hF.o10⟩ S.drop hD6
  case stop =>
    rintro c' pre W - ⟨rfl, at_, k, S⟩ hD
    refine wp_ret ?_
    simp only [Exit.inBlock, Exit.then]
    exact hret _ W at_ k hz4 (by rw [D]) ⟨hF.o5, hF.o6, hF.o7, hF.o8, hF.o9, hF.o10⟩ S hD
  case body =>
    rintro pre x a5 W5 ⟨hx, S'⟩ ⟨hz5, D, hF, o11, o12, S⟩ hlen ⟨o, ho, hoc⟩ ⟨d, hd, hdc⟩
    clear S'
    obtain ⟨hz1, rfl, hxl⟩ := hx
    obtain ⟨m, rfl⟩ : ∃ m : Nat, z = m := ⟨z.toNat, by omega⟩
    simp only [Int.toNat_natCast] at *
    obtain ⟨o5, o6, o7, o8, o9, o10⟩ := hF
    have hat : min (pre.length * m) bs.length = pre.length * m := by omega
    rw [hat] at S
    have hge : pre.length ≤ pre.length * m := Nat.le_mul_of_pos_right _ (by omega)
    have S := S.withTwo (HC.out.tail.tail.blk.blk : Cells w3.heap.size (L6 ga gn gr gl gz gb A bs.length c m lv (pre.length * m) pre.length false)) hwb (show w3.heap.size ≤ w3.heap.size + 1 by omega) (Nat.le_refl _) (by omega) ho hoc hd hdc
    refine wpIn_block ?_
    refine wpIn_seq (wpIn_seq (pcp_r7 A bs.length c (pre.length * m) m gz ga gb (S.at_ (l1 := [_, _, _, _, _, _])) (S.at_ (l1 := [_, _])) (S.at_ (l1 := [_, _, _, _, _, _, _])) (by omega) hxl hz5 o5 o6 o10 (fun a6 W6 hs6 k6 o26 => ?_)))
    have hz6 := hs6.size.trans hz5
    have o5 := hs6.keep 5 _ (by decide) o5
    have o6 := hs6.keep 6 _ (by decide) o6
    have o7 := hs6.keep 7 _ (by decide) o7
    have o8 := hs6.keep 8 _ (by decide) o8
    have o9 := hs6.keep 9 _ (by decide) o9
    have o10 := hs6.keep 10 _ (by decide) o10
    have o11 := hs6.keep 11 _ (by decide) o11
    have o12 := hs6.keep 12 _ (by decide) o12
    have D := hs6.defers.trans D
    refine wpIn_cond_false (o26.eval (by rw [hz6]; decide)) (wpIn_skip ?_)
    simp only [Exit.then]
    have S := S.kp k6
    refine wpIn_seq (pcp_r9 A bs.length c gb (S.at_ (l1 := [_, _, _, _, _, _, _])) hz6 o5 (fun a7 hs7 o13 => ?_))
    have hz7 := hs7.size.trans hz6
    have o5 := hs7.keep 5 _ (by decide) o5
    have o6 := hs7.keep 6 _ (by decide) o6
    have o7 := hs7.keep 7 _ (by decide) o7
    have o8 := hs7.keep 8 _ (by decide) o8
    have o9 := hs7.keep 9 _ (by decide) o9
    have o10 := hs7.keep 10 _ (by decide) o10
    have o11 := hs7.keep 11 _ (by decide) o11
    have o12 := hs7.keep 12 _ (by decide) o12
    have o26 := hs7.keep 26 _ (by decide) o26
    have D := hs7.defers.trans D
    refine wpIn_seq (wpIn_seq (pcp_r10 A bs.length c (pre.length * m) m gz ga gb (S.at_ (l1 := [_, _, _, _, _, _])) (S.at_ (l1 := [_, _])) (S.at_ (l1 := [_, _, _, _, _, _, _])) (by omega) (by omega) hz7 o5 o6 o10 (fun a8 hs8 o34 => ?_)))
    have hz8 := hs8.size.trans hz7
    have o5 := hs8.keep 5 _ (by decide) o5
    have o6 := hs8.keep 6 _ (by decide) o6
    have o7 := hs8.keep 7 _ (by decide) o7
    have o8 := hs8.keep 8 _ (by decide) o8
    have o9 := hs8.keep 9 _ (by decide) o9
    have o10 := hs8.keep 10 _ (by decide) o10
    have o11 := hs8.keep 11 _ (by decide) o11
    have o12 := hs8.keep 12 _ (by decide) o12
    have o26 := hs8.keep 26 _ (by decide) o26
    have o13 := hs8.keep 13 _ (by decide) o13
    have D := hs8.defers.trans D
    by_cases hms : (m : Int) < (bs.length : Int) - ((pre.length * m : Nat) : Int)
    · refine wpIn_cond_true ((o34.eval (by rw [hz8]; decide)).trans (by rw [decide_eq_true hms])) ?_
      refine pcp_r11 (pre.length * m) m gz ga (S.at_ (l1 := [_, _, _, _, _, _])) (S.at_ (l1 := [_, _])) (by omega) hz8 o6 o10 (fun a9 hs9 o13 => ?_)
      have hz9 := hs9.size.trans hz8
      have o5 := hs9.keep 5 _ (by decide) o5
      have o6 := hs9.keep 6 _ (by decide) o6
      have o7 := hs9.keep 7 _ (by decide) o7
      have o8 := hs9.keep 8 _ (by decide) o8
      have o9 := hs9.keep 9 _ (by decide) o9
      have o10 := hs9.keep 10 _ (by decide) o10
      have o11 := hs9.keep 11 _ (by decide) o11
      have o12 := hs9.keep 12 _ (by decide) o12
      have o26 := hs9.keep 26 _ (by decide) o26
      have o34 := hs9.keep 34 _ (by decide) o34
      have D := hs9.defers.trans D
      simp only [Exit.then]
      obtain ⟨A2, c2, run, rd, -⟩ := cut_lh A bs.length c (pre.length * m) (pre.length * m + m - pre.length * m) ((pre.length * m : Nat) : Int) ((pre.length * m + m : Nat) : Int) rfl (by omega) (by omega) hnc
      have HS := fun (V : World) (kV : Kp [] W6 V) => rsum_any _ _ _ V (rd V bs (hrow V (S.k.trans kV (by simp))))
      rw [show crc ((bs.drop (pre.length * m)).take (pre.length * m + m - pre.length * m)) = pcS m bs pre.length from by rw [← pcS_to m bs pre.length, Nat.min_eq_left (by omega)]] at HS
      refine wpIn_seq (wpIn_seq (pcp_r12 A bs.length c (pre.length * m) (pre.length * m + m) _ ga gb (S.at_ (l1 := [_, _])) (S.at_ (l1 := [_, _, _, _, _, _, _])) A2 _ c2 run HS hz9 o5 o10 o11 o12 o13 (fun a10 W7 hs10 k7 o49 => ?_)))
      have hz10 := hs10.size.trans hz9
      have o5 := hs10.keep 5 _ (by decide) o5
      have o6 := hs10.keep 6 _ (by decide) o6
      have o7 := hs10.keep 7 _ (by decide) o7
      have o8 := hs10.keep 8 _ (by decide) o8
      have o9 := hs10.keep 9 _ (by decide) o9
      have o10 := hs10.keep 10 _ (by decide) o10
      have o11 := hs10.keep 11 _ (by decide) o11
      have o12 := hs10.keep 12 _ (by decide) o12
      have o26 := hs10.keep 26 _ (by decide) o26
      have o13 := hs10.keep 13 _ (by decide) o13
      have o34 := hs10.keep 34 _ (by decide) o34
      have D := hs10.defers.trans D
      refine wpIn_cond_false (o49.eval (by rw [hz10]; decide)) (wpIn_skip ?_)
      simp only [Exit.then]
      have S := (S.kp k7).pull 2 rfl
      refine wpIn_seq (pcp_r14 w ga _ (pre.length * m + m) _ S hz10 o10 o13 (fun a11 W8 hs11 S => ?_))
      have hz11 := hs11.size.trans hz10
      have o5 := hs11.keep 5 _ (by decide) o5
      have o6 := hs11.keep 6 _ (by decide) o6
      have o7 := hs11.keep 7 _ (by decide) o7
      have o8 := hs11.keep 8 _ (by decide) o8
      have o9 := hs11.keep 9 _ (by decide) o9
      have o10 := hs11.keep 10 _ (by decide) o10
      have o11 := hs11.keep 11 _ (by decide) o11
      have o12 := hs11.keep 12 _ (by decide) o12
      have o26 := hs11.keep 26 _ (by decide) o26
      have o13 := hs11.keep 13 _ (by decide) o13
      have o34 := hs11.keep 34 _ (by decide) o34
      have o49 := hs11.keep 49 _ (by decide) o49
      have D := hs11.defers.trans D
      have S := S.pull 3 rfl
      refine wpIn_seq (pcp_r15 w gn pre.length (by omega) _ S hz11 o9 (fun a12 W9 hs12 S => ?_))
      have hz12 := hs12.size.trans hz11
      have o5 := hs12.keep 5 _ (by decide) o5
      have o6 := hs12.keep 6 _ (by decide) o6
      have o7 := hs12.keep 7 _ (by decide) o7
      have o8 := hs12.keep 8 _ (by decide) o8
      have o9 := hs12.keep 9 _ (by decide) o9
      have o10 := hs12.keep 10 _ (by decide) o10
      have o11 := hs12.keep 11 _ (by decide) o11
      have o12 := hs12.keep 12 _ (by decide) o12
      have o26 := hs12.keep 26 _ (by decide) o26
      have o13 := hs12.keep 13 _ (by decide) o13
      have o34 := hs12.keep 34 _ (by decide) o34
      have o49 := hs12.keep 49 _ (by decide) o49
      have D := hs12.defers.trans D
      refine wpIn_seq (pcp_r16 gn gl (pre.length + 1) lv (S.at_ (l1 := [])) (S.at_ (l1 := [_, _, _, _, _])) _ rfl hz12 o7 o9 (fun a13 hs13 o55 => ?_))
      have hz13 := hs13.size.trans hz12
      have o5 := hs13.keep 5 _ (by decide) o5
      have o6 := hs13.keep 6 _ (by decide) o6
      have o7 := hs13.keep 7 _ (by decide) o7
      have o8 := hs13.keep 8 _ (by decide) o8
      have o9 := hs13.keep 9 _ (by decide) o9
      have o10 := hs13.keep 10 _ (by decide) o10
      have o11 := hs13.keep 11 _ (by decide) o11
      have o12 := hs13.keep 12 _ (by decide) o12
      have o26 := hs13.keep 26 _ (by decide) o26
      have o13 := hs13.keep 13 _ (by decide) o13
      have o34 := hs13.keep 34 _ (by decide) o34
      have o49 := hs13.keep 49 _ (by decide) o49
      have D := hs13.defers.trans D
      have hle : (pre ++ [pre.length]).length = pre.length + 1 := by rw [List.length_append, List.length_singleton]
      cases hlv : (((pre.length + 1 : Nat) : Int) == lv)
      · refine wpIn_cond_false ((o55.eval (by rw [hz13]; decide)).trans (by rw [hlv])) (wpIn_skip ?_)
        simp only [Exit.inBlock, Exit.then]
        have S := ((((((((S.pull 7 rfl).pull 7 rfl).pull 7 rfl).pull 7 rfl).pull 4 rfl).pull 5 rfl).pull 7 rfl).pull 7 rfl)
        refine ⟨S.same2 ho hd, hall _ S.k, ?_⟩
        show Held w _ (L6 ga gn gr gl gz gb A bs.length c m lv (min ((pre ++ [pre.length]).length * m) bs.length) (pre ++ [pre.length]).length false)
        rw [hle, show min ((pre.length + 1) * m) bs.length = pre.length * m + m from by rw [Nat.succ_mul]; omega]
        exact S.drop.drop
      · refine wpIn_cond_true ((o55.eval (by rw [hz13]; decide)).trans (by rw [hlv])) ?_
        have S := S.pull 4 rfl
        refine wpIn_seq (pcp_r17 w gr _ _ S hz13 o8 (fun a14 W10 hs14 S => ?_))
        have hz14 := hs14.size.trans hz13
        have o5 := hs14.keep 5 _ (by decide) o5
        have o6 := hs14.keep 6 _ (by decide) o6
        have o7 := hs14.keep 7 _ (by decide) o7
        have o8 := hs14.keep 8 _ (by decide) o8
        have o9 := hs14.keep 9 _ (by decide) o9
        have o10 := hs14.keep 10 _ (by decide) o10
        have o11 := hs14.keep 11 _ (by decide) o11
        have o12 := hs14.keep 12 _ (by decide) o12
        have o26 := hs14.keep 26 _ (by decide) o26
        have o13 := hs14.keep 13 _ (by decide) o13
        have o34 := hs14.keep 34 _ (by decide) o34
        have o49 := hs14.keep 49 _ (by decide) o49
        have o55 := hs14.keep 55 _ (by decide) o55
        have D := hs14.defers.trans D
        refine wpIn_ret ?_
        simp only [Exit.inBlock, Exit.then]
        have S := ((((((((S.pull 7 rfl).pull 7 rfl).pull 7 rfl).pull 3 rfl).pull 4 rfl).pull 5 rfl).pull 7 rfl).pull 7 rfl)
        exact ⟨S.same2 ho hd, rfl, _, _, S.drop.drop⟩
    · refine wpIn_cond_false ((o34.eval (by rw [hz8]; decide)).trans (by rw [decide_eq_false hms])) (wpIn_skip ?_)
      simp only [Exit.then]
      obtain ⟨A2, c2, run, rd, -⟩ := cut_lh A bs.length c (pre.length * m) (bs.length - pre.length * m) ((pre.length * m : Nat) : Int) ((bs.length : Nat) : Int) rfl (by omega) (by omega) hnc
      have HS := fun (V : World) (kV : Kp [] W6 V) => rsum_any _ _ _ V (rd V bs (hrow V (S.k.trans kV (by simp))))
      rw [show crc ((bs.drop (pre.length * m)).take (bs.length - pre.length * m)) = pcS m bs pre.length from by rw [← pcS_to m bs pre.length, Nat.min_eq_right (by omega)]] at HS
      refine wpIn_seq (wpIn_seq (pcp_r12 A bs.length c (pre.length * m) (bs.length) _ ga gb (S.at_ (l1 := [_, _])) (S.at_ (l1 := [_, _, _, _, _, _, _])) A2 _ c2 run HS hz8 o5 o10 o11 o12 o13 (fun a9 W7 hs9 k7 o49 => ?_)))
      have hz9 := hs9.size.trans hz8
      have o5 := hs9.keep 5 _ (by decide) o5
      have o6 := hs9.keep 6 _ (by decide) o6
      have o7 := hs9.keep 7 _ (by decide) o7
      have o8 := hs9.keep 8 _ (by decide) o8
      have o9 := hs9.keep 9 _ (by decide) o9
      have o10 := hs9.keep 10 _ (by decide) o10
      have o11 := hs9.keep 11 _ (by decide) o11
      have o12 := hs9.keep 12 _ (by decide) o12
      have o26 := hs9.keep 26 _ (by decide) o26
      have o13 := hs9.keep 13 _ (by decide) o13
      have o34 := hs9.keep 34 _ (by decide) o34
      have D := hs9.defers.trans D
      refine wpIn_cond_false (o49.eval (by rw [hz9]; decide)) (wpIn_skip ?_)
      simp only [Exit.then]
      have S := (S.kp k7).pull 2 rfl
      refine wpIn_seq (pcp_r14 w ga _ (bs.length) _ S hz9 o10 o13 (fun a10 W8 hs10 S => ?_))
      have hz10 := hs10.size.trans hz9
      have o5 := hs10.keep 5 _ (by decide) o5
      have o6 := hs10.keep 6 _ (by decide) o6
      have o7 := hs10.keep 7 _ (by decide) o7
      have o8 := hs10.keep 8 _ (by decide) o8
      have o9 := hs10.keep 9 _ (by decide) o9
      have o10 := hs10.keep 10 _ (by decide) o10
      have o11 := hs10.keep 11 _ (by decide) o11
      have o12 := hs10.keep 12 _ (by decide) o12
      have o26 := hs10.keep 26 _ (by decide) o26
      have o13 := hs10.keep 13 _ (by decide) o13
      have o34 := hs10.keep 34 _ (by decide) o34
      have o49 := hs10.keep 49 _ (by decide) o49
      have D := hs10.defers.trans D
      have S := S.pull 3 rfl
      refine wpIn_seq (pcp_r15 w gn pre.length (by omega) _ S hz10 o9 (fun a11 W9 hs11 S => ?_))
      have hz11 := hs11.size.trans hz10
      have o5 := hs11.keep 5 _ (by decide) o5
      have o6 := hs11.keep 6 _ (by decide) o6
      have o7 := hs11.keep 7 _ (by decide) o7
      have o8 := hs11.keep 8 _ (by decide) o8
      have o9 := hs11.keep 9 _ (by decide) o9
      have o10 := hs11.keep 10 _ (by decide) o10
      have o11 := hs11.keep 11 _ (by decide) o11
      have o12 := hs11.keep 12 _ (by decide) o12
      have o26 := hs11.keep 26 _ (by decide) o26
      have o13 := hs11.keep 13 _ (by decide) o13
      have o34 := hs11.keep 34 _ (by decide) o34
      have o49 := hs11.keep 49 _ (by decide) o49
      have D := hs11.defers.trans D
      refine wpIn_seq (pcp_r16 gn gl (pre.length + 1) lv (S.at_ (l1 := [])) (S.at_ (l1 := [_, _, _, _, _])) _ rfl hz11 o7 o9 (fun a12 hs12 o55 => ?_))
      have hz12 := hs12.size.trans hz11
      have o5 := hs12.keep 5 _ (by decide) o5
      have o6 := hs12.keep 6 _ (by decide) o6
      have o7 := hs12.keep 7 _ (by decide) o7
      have o8 := hs12.keep 8 _ (by decide) o8
      have o9 := hs12.keep 9 _ (by decide) o9
      have o10 := hs12.keep 10 _ (by decide) o10
      have o11 := hs12.keep 11 _ (by decide) o11
      have o12 := hs12.keep 12 _ (by decide) o12
      have o26 := hs12.keep 26 _ (by decide) o26
      have o13 := hs12.keep 13 _ (by decide) o13
      have o34 := hs12.keep 34 _ (by decide) o34
      have o49 := hs12.keep 49 _ (by decide) o49
      have D := hs12.defers.trans D
      have hle : (pre ++ [pre.length]).length = pre.length + 1 := by rw [List.length_append, List.length_singleton]
      cases hlv : (((pre.length + 1 : Nat) : Int) == lv)
      · refine wpIn_cond_false ((o55.eval (by rw [hz12]; decide)).trans (by rw [hlv])) (wpIn_skip ?_)
        simp only [Exit.inBlock, Exit.then]
        have S := ((((((((S.pull 7 rfl).pull 7 rfl).pull 7 rfl).pull 7 rfl).pull 4 rfl).pull 5 rfl).pull 7 rfl).pull 7 rfl)
        refine ⟨S.same2 ho hd, hall _ S.k, ?_⟩
        show Held w _ (L6 ga gn gr gl gz gb A bs.length c m lv (min ((pre ++ [pre.length]).length * m) bs.length) (pre ++ [pre.length]).length false)
        rw [hle, show min ((pre.length + 1) * m) bs.length = bs.length from by rw [Nat.succ_mul]; omega]
        exact S.drop.drop
      · refine wpIn_cond_true ((o55.eval (by rw [hz12]; decide)).trans (by rw [hlv])) ?_
        have S := S.pull 4 rfl
        refine wpIn_seq (pcp_r17 w gr _ _ S hz12 o8 (fun a13 W10 hs13 S => ?_))
        have hz13 := hs13.size.trans hz12
        have o5 := hs13.keep 5 _ (by decide) o5
        have o6 := hs13.keep 6 _ (by decide) o6
        have o7 := hs13.keep 7 _ (by decide) o7
        have o8 := hs13.keep 8 _ (by decide) o8
        have o9 := hs13.keep 9 _ (by decide) o9
        have o10 := hs13.keep 10 _ (by decide) o10
        have o11 := hs13.keep 11 _ (by decide) o11
        have o12 := hs13.keep 12 _ (by decide) o12
        have o26 := hs13.keep 26 _ (by decide) o26
        have o13 := hs13.keep 13 _ (by decide) o13
        have o34 := hs13.keep 34 _ (by decide) o34
        have o49 := hs13.keep 49 _ (by decide) o49
        have o55 := hs13.keep 55 _ (by decide) o55
        have D := hs13.defers.trans D
        refine wpIn_ret ?_
        simp only [Exit.inBlock, Exit.then]
        have S := ((((((((S.pull 7 rfl).pull 7 rfl).pull 7 rfl).pull 3 rfl).pull 4 rfl).pull 5 rfl).pull 7 rfl).pull 7 rfl)
        exact ⟨S.same2 ho hd, rfl, _, _, S.drop.drop⟩
end
end Go.Proofs.Ytgldgkdnnimglaa
