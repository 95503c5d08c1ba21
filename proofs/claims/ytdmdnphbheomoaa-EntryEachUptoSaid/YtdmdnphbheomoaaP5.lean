/- Several texts in one: EeH, EeI, InRG, EeJ, EeK, EeL, RegM. -/
import Derived.Test.YtdmdnphbheomoaaP4
set_option linter.unusedVariables false
set_option linter.unusedSimpArgs false
set_option maxRecDepth 100000
set_option maxHeartbeats 8000000
namespace Go.Proofs.Ytdmdnphbheomoaa
/- EntryEach: the regions of its third loop. -/
section
open Go.RowKit Go.Shelf
-- REG ecc27
set_option maxRecDepth 100000 in
set_option maxHeartbeats 2000000 in
theorem ecc_r27 {Q : Exit → Act → World → Prop} {a : Act} {w : World} (w0 : World) (L : List Res) (S : Held w0 w L) (hsz : a.tmps.size = 193) 
    (hend : ∀ (a' : Act) (W : World), Same a a' [12] → (∃ g, Sl a' 12 (.pointer (some ⟨g, 0, none⟩)) ∧ Held w0 W (blkR g 3 #[.int .i64 ((0 : Nat) : Int)] :: L)) → Q .normal a' W) : (Code.region 27 (opsOf 27 Try.f7).toArray false).wp Try.prog Q a w := by
  refine wp_region_lit (l := (opsOf 27 Try.f7)) ?_
  conv => arg 4; whnf
  have S1 := S.newBlk 3 #[.int .i64 ((0 : Nat) : Int)]
  obtain ⟨c1, c2, c3⟩ := Blk.c1 (S1.at_ (l1 := []))
  have S1 := Lib.hid S1
  go_wp2_with fail
  try simp only [Act.put]
  exact hend _ _ (by repeat (first | (with_reducible refine same_set (by decide) ?_) | (with_reducible exact same_nil))) (⟨_, (by unfold Sl; simp [hsz]), S1.out⟩)
-- END ecc27
-- REG ecc30
set_option maxRecDepth 100000 in
set_option maxHeartbeats 2000000 in
theorem ecc_r30 {Q : Exit → Act → World → Prop} {a : Act} {w : World} (w0 : World) (L : List Res) (S : Held w0 w L) (hsz : a.tmps.size = 193) 
    (hend : ∀ (a' : Act) (W : World), Same a a' [13] → (∃ g, Sl a' 13 (.pointer (some ⟨g, 0, none⟩)) ∧ Held w0 W (blkR g 3 #[.int .i64 ((0 : Nat) : Int)] :: L)) → Q .normal a' W) : (Code.region 30 (opsOf 30 Try.f7).toArray false).wp Try.prog Q a w := by
  refine wp_region_lit (l := (opsOf 30 Try.f7)) ?_
  conv => arg 4; whnf
  have S1 := S.newBlk 3 #[.int .i64 ((0 : Nat) : Int)]
  obtain ⟨c1, c2, c3⟩ := Blk.c1 (S1.at_ (l1 := []))
  have S1 := Lib.hid S1
  go_wp2_with fail
  try simp only [Act.put]
  exact hend _ _ (by repeat (first | (with_reducible refine same_set (by decide) ?_) | (with_reducible exact same_nil))) (⟨_, (by unfold Sl; simp [hsz]), S1.out⟩)
-- END ecc30
-- REG ecc45
set_option maxRecDepth 100000 in
set_option maxHeartbeats 2000000 in
theorem ecc_r45 {Q : Exit → Act → World → Prop} {a : Act} {w : World} (w0 : World) (t : Nat) (L : List Res) (S : Held w0 w L) (hsz : a.tmps.size = 193) (o191 : Sl a 191 (.int .i64 ((t : Nat) : Int)))
    (hend : ∀ (a' : Act) (W : World), Same a a' [12] → (∃ g, Sl a' 12 (.pointer (some ⟨g, 0, none⟩)) ∧ Held w0 W (blkR g 3 #[.int .i64 ((t : Nat) : Int)] :: L)) → Q .normal a' W) : (Code.region 45 (opsOf 45 Try.f7).toArray false).wp Try.prog Q a w := by
  refine wp_region_lit (l := (opsOf 45 Try.f7)) ?_
  conv => arg 4; whnf
  unfold Sl at o191
  have S1 := S.newBlk 3 #[.int .i64 ((t : Nat) : Int)]
  obtain ⟨c1, c2, c3⟩ := Blk.c1 (S1.at_ (l1 := []))
  have S1 := Lib.hid S1
  go_wp2_with fail
  try simp only [Act.put]
  exact hend _ _ (by repeat (first | (with_reducible refine same_set (by decide) ?_) | (with_reducible exact same_nil))) (⟨_, (by unfold Sl; simp [hsz]), S1.out⟩)
-- END ecc45
-- REG ecc28
set_option maxRecDepth 100000 in
set_option maxHeartbeats 2000000 in
theorem ecc_r28 {Q : Exit → Act → World → Prop} {a : Act} {w : World} (gt t : Nat) (hbt : Blk w gt 3 #[.int .i64 ((t : Nat) : Int)]) (hsz : a.tmps.size = 193) (o12 : Sl a 12 (.pointer (some ⟨gt, 0, none⟩)))
    (hend : ∀ (a' : Act), Same a a' [121, 122] → Sl a' 122 (.bool (decide ((t : Int) < 3))) → Q .normal a' (w)) : (Code.region 28 (opsOf 28 Try.f7).toArray false).wp Try.prog Q a w := by
  refine wp_region_lit (l := (opsOf 28 Try.f7)) ?_
  conv => arg 4; whnf
  unfold Sl at o12
  have c0 : w.cell? ⟨gt, 0, none⟩ = some (.int .i64 ((t : Nat) : Int)) := hbt.cell 0
  go_wp2_with fail
  try simp only [Act.put]
  exact hend _ (by repeat (first | (with_reducible refine same_set (by decide) ?_) | (with_reducible exact same_nil))) (by unfold Sl; first | (simp [hsz]; done) | (simp [hsz]; omega))
-- END ecc28
-- REG ecc44
set_option maxRecDepth 100000 in
set_option maxHeartbeats 2000000 in
theorem ecc_r44 {Q : Exit → Act → World → Prop} {a : Act} {w : World} (gt t : Nat) (hbt : Blk w gt 3 #[.int .i64 ((t : Nat) : Int)]) (hsz : a.tmps.size = 193) (o12 : Sl a 12 (.pointer (some ⟨gt, 0, none⟩)))
    (hend : ∀ (a' : Act), Same a a' [191] → Sl a' 191 (.int .i64 ((t : Nat) : Int)) → Q .normal a' (w)) : (Code.region 44 (opsOf 44 Try.f7).toArray false).wp Try.prog Q a w := by
  refine wp_region_lit (l := (opsOf 44 Try.f7)) ?_
  conv => arg 4; whnf
  unfold Sl at o12
  have c0 : w.cell? ⟨gt, 0, none⟩ = some (.int .i64 ((t : Nat) : Int)) := hbt.cell 0
  go_wp2_with fail
  try simp only [Act.put]
  exact hend _ (by repeat (first | (with_reducible refine same_set (by decide) ?_) | (with_reducible exact same_nil))) (by unfold Sl; first | (simp [hsz]; done) | (simp [hsz]; omega))
-- END ecc44
-- REG ecc31
set_option maxRecDepth 100000 in
set_option maxHeartbeats 2000000 in
theorem ecc_r31 {Q : Exit → Act → World → Prop} {a : Act} {w : World} (x : Value) (hsz : a.tmps.size = 193) (o10 : Sl a 10 (x))
    (hend : ∀ (a' : Act), Same a a' [125] → Sl a' 125 (x) → Q .normal a' (w)) : (Code.region 31 (opsOf 31 Try.f7).toArray false).wp Try.prog Q a w := by
  refine wp_region_lit (l := (opsOf 31 Try.f7)) ?_
  conv => arg 4; whnf
  unfold Sl at o10
  go_wp2_with fail
  try simp only [Act.put]
  exact hend _ (by repeat (first | (with_reducible refine same_set (by decide) ?_) | (with_reducible exact same_nil))) (by unfold Sl; first | (simp [hsz]; done) | (simp [hsz]; omega))
-- END ecc31
-- REG ecc29
set_option maxRecDepth 100000 in
set_option maxHeartbeats 2000000 in
theorem ecc_r29 {Q : Exit → Act → World → Prop} {a : Act} {w : World} (w0 : World) (gn k : Nat) (hk : k ≤ 2000000) (L : List Res) (S : Held w0 w (blkR gn 3 #[.int .i64 ((k : Nat) : Int)] :: L)) (hsz : a.tmps.size = 193) (o12 : Sl a 12 (.pointer (some ⟨gn, 0, none⟩)))
    (hend : ∀ (a' : Act) (W : World), Same a a' [123, 124] → (Held w0 W (blkR gn 3 #[.int .i64 ((k + 1 : Nat) : Int)] :: L)) → Q .normal a' W) : (Code.region 29 (opsOf 29 Try.f7).toArray false).wp Try.prog Q a w := by
  refine wp_region_lit (l := (opsOf 29 Try.f7)) ?_
  conv => arg 4; whnf
  unfold Sl at o12
  have S := Lib.hid S
  obtain ⟨c1, c2, c3⟩ := Blk.c1 (S.out.at_ (l1 := []))
  have hw : wrap64 ((k : Int) + 1) = (k : Int) + 1 := by unfold wrap64; omega
  have S2 := Lib.hid (S.out.set (l1 := []) 0 (.int .i64 ((k : Int) + 1)))
  go_wp2_with fail
  try simp only [Act.put]
  exact hend _ _ (by repeat (first | (with_reducible refine same_set (by decide) ?_) | (with_reducible exact same_nil))) (S2.out)
-- END ecc29
-- REG ecc40
set_option maxRecDepth 100000 in
set_option maxHeartbeats 2000000 in
theorem ecc_r40 {Q : Exit → Act → World → Prop} {a : Act} {w : World} {rl nn : Nat} (w0 : World) (gn k : Nat) (hk : k ≤ 2000000) (L : List Res) (S : Held w0 w (blkR gn 3 #[.int .i64 ((k : Nat) : Int)] :: L)) (hsz : a.tmps.size = 193) (o13 : Sl a 13 (.pointer (some ⟨gn, 0, none⟩)))
    (hend : ∀ (a' : Act) (W : World), Same a a' [159, 160] → (Held w0 W (blkR gn 3 #[.int .i64 ((k + 1 : Nat) : Int)] :: L)) → Q .normal a' W) : (Code.region 40 (opsOf 40 Try.f7).toArray false).wpIn (Fence.wide.inRound rl) nn Try.prog Q a w := by
  refine in_region (l := (opsOf 40 Try.f7)) (by kernel_rfl) ?_
  conv => arg 4; whnf
  unfold Sl at o13
  have S := Lib.hid S
  obtain ⟨c1, c2, c3⟩ := Blk.c1 (S.out.at_ (l1 := []))
  have hw : wrap64 ((k : Int) + 1) = (k : Int) + 1 := by unfold wrap64; omega
  have S2 := Lib.hid (S.out.set (l1 := []) 0 (.int .i64 ((k : Int) + 1)))
  go_wp2_with fail
  try simp only [Act.put]
  exact ⟨rfl, hend _ _ (by repeat (first | (with_reducible refine same_set (by decide) ?_) | (with_reducible exact same_nil))) (S2.out)⟩
-- END ecc40
-- REG ecc32
set_option maxRecDepth 100000 in
set_option maxHeartbeats 2000000 in
theorem ecc_r32 {Q : Exit → Act → World → Prop} {a : Act} {w : World} {rl nn : Nat} (x : Value) (hsz : a.tmps.size = 193) (o126 : Sl a 126 (x))
    (hend : ∀ (a' : Act), Same a a' [14] → Sl a' 14 (x) → Q .normal a' (w)) : (Code.region 32 (opsOf 32 Try.f7).toArray false).wpIn (Fence.wide.inRound rl) nn Try.prog Q a w := by
  refine in_region (l := (opsOf 32 Try.f7)) (by kernel_rfl) ?_
  conv => arg 4; whnf
  unfold Sl at o126
  go_wp2_with fail
  try simp only [Act.put]
  exact ⟨rfl, hend _ (by repeat (first | (with_reducible refine same_set (by decide) ?_) | (with_reducible exact same_nil))) (by unfold Sl; first | (simp [hsz]; done) | (simp [hsz]; omega))⟩
-- END ecc32
-- REG ecc33
set_option maxRecDepth 100000 in
set_option maxHeartbeats 2000000 in
theorem ecc_r33 {Q : Exit → Act → World → Prop} {a : Act} {w : World} {rl nn : Nat} (x : Value) (hsz : a.tmps.size = 193) (o127 : Sl a 127 (x))
    (hend : ∀ (a' : Act), Same a a' [15] → Sl a' 15 (x) → Q .normal a' (w)) : (Code.region 33 (opsOf 33 Try.f7).toArray false).wpIn (Fence.wide.inRound rl) nn Try.prog Q a w := by
  refine in_region (l := (opsOf 33 Try.f7)) (by kernel_rfl) ?_
  conv => arg 4; whnf
  unfold Sl at o127
  go_wp2_with fail
  try simp only [Act.put]
  exact ⟨rfl, hend _ (by repeat (first | (with_reducible refine same_set (by decide) ?_) | (with_reducible exact same_nil))) (by unfold Sl; first | (simp [hsz]; done) | (simp [hsz]; omega))⟩
-- END ecc33
-- REG ecc36
set_option maxRecDepth 100000 in
set_option maxHeartbeats 2000000 in
theorem ecc_r36 {Q : Exit → Act → World → Prop} {a : Act} {w : World} {rl nn : Nat}  (hsz : a.tmps.size = 193) 
    (hend : ∀ (a' : Act), Same a a' [16] → Sl a' 16 (.int .i64 ((0 : Nat) : Int)) → Q .normal a' (w)) : (Code.region 36 (opsOf 36 Try.f7).toArray false).wpIn (Fence.wide.inRound rl) nn Try.prog Q a w := by
  refine in_region (l := (opsOf 36 Try.f7)) (by kernel_rfl) ?_
  conv => arg 4; whnf
  go_wp2_with fail
  try simp only [Act.put]
  exact ⟨rfl, hend _ (by repeat (first | (with_reducible refine same_set (by decide) ?_) | (with_reducible exact same_nil))) (by unfold Sl; first | (simp [hsz]; done) | (simp [hsz]; omega))⟩
-- END ecc36
-- REG ecc37
set_option maxRecDepth 100000 in
set_option maxHeartbeats 2000000 in
theorem ecc_r37 {Q : Exit → Act → World → Prop} {a : Act} {w : World} {rl nn : Nat} (A : Option Addr) (n c k : Nat) (hsz : a.tmps.size = 193) (o15 : Sl a 15 (.slice A n c)) (o16 : Sl a 16 (.int .i64 ((k : Nat) : Int)))
    (hend : ∀ (a' : Act), Same a a' [150, 151, 152, 153] → Sl a' 153 (.bool (decide (k < n))) → Q .normal a' (w)) : (Code.region 37 (opsOf 37 Try.f7).toArray false).wpIn (Fence.wide.inRound rl) nn Try.prog Q a w := by
  refine in_region (l := (opsOf 37 Try.f7)) (by kernel_rfl) ?_
  conv => arg 4; whnf
  unfold Sl at o15 o16
  go_wp2_with fail
  try simp only [Act.put]
  exact ⟨rfl, hend _ (by repeat (first | (with_reducible refine same_set (by decide) ?_) | (with_reducible exact same_nil))) (by unfold Sl; first | (simp [hsz]; done) | (simp [hsz]; omega))⟩
-- END ecc37
-- REG ecc38
set_option maxRecDepth 100000 in
set_option maxHeartbeats 2000000 in
theorem ecc_r38 {Q : Exit → Act → World → Prop} {a : Act} {w : World} {rl nn : Nat} (k : Nat) (hk : k < 9223372036854775807) (hsz : a.tmps.size = 193) (o16 : Sl a 16 (.int .i64 ((k : Nat) : Int)))
    (hend : ∀ (a' : Act), Same a a' [154, 155, 16] → Sl a' 16 (.int .i64 ((k + 1 : Nat) : Int)) → Q .normal a' (w)) : (Code.region 38 (opsOf 38 Try.f7).toArray false).wpIn (Fence.wide.inRound rl) nn Try.prog Q a w := by
  refine in_region (l := (opsOf 38 Try.f7)) (by kernel_rfl) ?_
  conv => arg 4; whnf
  unfold Sl at o16
  have hw : wrap64 ((k : Int) + 1) = (k : Int) + 1 := by unfold wrap64; omega
  go_wp2_with fail
  try simp only [Act.put]
  exact ⟨rfl, hend _ (by repeat (first | (with_reducible refine same_set (by decide) ?_) | (with_reducible exact same_nil))) (by unfold Sl; first | (simp [hsz]; done) | (simp [hsz]; omega))⟩
-- END ecc38
-- REG ecc39
set_option maxRecDepth 100000 in
set_option maxHeartbeats 2000000 in
theorem ecc_r39 {Q : Exit → Act → World → Prop} {a : Act} {w : World} {rl nn : Nat} (w0 : World) (ge n c k : Nat) (hk : k < n) (xs : List Value) (L : List Res) (S : Held w0 w (rowR 5 1 (.slice (some ⟨ge, 0, none⟩) n c) n xs :: L)) (hsz : a.tmps.size = 193) (o15 : Sl a 15 (.slice (some ⟨ge, 0, none⟩) n c)) (o16 : Sl a 16 (.int .i64 ((k : Nat) : Int)))
    (hend : ∀ (a' : Act) (W : World), Same a a' [156, 157, 158] → (∃ xs', Held w0 W (rowR 5 1 (.slice (some ⟨ge, 0, none⟩) n c) n xs' :: L)) → Q .normal a' W) : (Code.region 39 (opsOf 39 Try.f7).toArray false).wpIn (Fence.wide.inRound rl) nn Try.prog Q a w := by
  refine in_region (l := (opsOf 39 Try.f7)) (by kernel_rfl) ?_
  conv => arg 4; whnf
  unfold Sl at o15 o16
  have h0 : 0 ≤ (k : Int) := by omega
  have h1 : (k : Int) < (n : Int) := by omega
  have hxl := (S.at_ (l1 := [])).1
  have c0 := (S.at_ (l1 := [])).cellAt k (by omega)
  have f0 := (S.at_ (l1 := [])).frozenAt k
  rw [List.getElem?_eq_getElem (show k < xs.length by omega)] at c0
  have S2 := Lib.hid (S.rowset (l1 := []) ((S.at_ (l1 := [])).stored (g := ge) k (.int .u8 90)).1 ((Kp.refl [ge] w).setCell (p := ⟨ge, k, none⟩) (.inl (by simp)) (.int .u8 90)))
  go_wp2_with fail
  try simp only [Act.put]
  exact ⟨rfl, hend _ _ (by repeat (first | (with_reducible refine same_set (by decide) ?_) | (with_reducible exact same_nil))) (⟨_, S2.out⟩)⟩
-- END ecc39
end
/- EntryEach: the guarded regions of its third loop. -/
section
open Go.RowKit Go.Shelf
-- REG ecc41Y
set_option maxRecDepth 100000 in
set_option maxHeartbeats 2000000 in
theorem ecc_r41Y {Q : Exit → Act → World → Prop} {a : Act} {w : World} {rl nn : Nat} (gt gk gl t k : Nat) (lv : Int) (hbt : Blk w gt 3 #[.int .i64 ((t : Nat) : Int)]) (hbk : Blk w gk 3 #[.int .i64 ((k : Nat) : Int)]) (hbl : Blk w gl 3 #[.int .i64 lv]) (ht : Hid (t = 0)) (b : Bool) (hb : (((k : Nat) : Int) == lv) = b) (hsz : a.tmps.size = 193) (o3 : Sl a 3 (.pointer (some ⟨gl, 0, none⟩))) (o12 : Sl a 12 (.pointer (some ⟨gt, 0, none⟩))) (o13 : Sl a 13 (.pointer (some ⟨gk, 0, none⟩)))
    (hend : ∀ (a' : Act) (W : World), Same a a' [161, 162, 163, 164, 165, 166, 167] → Kp [] w W → Sl a' 167 (.bool b) → Q .normal a' W) : (Code.region 41 (opsOf 41 Try.f7).toArray false).wpIn (Fence.wide.inRound rl) nn Try.prog Q a w := by
  have hap : apartB (opsOf 41 Try.f7) = true := by kernel_rfl
  refine in_region_invS (l := (opsOf 41 Try.f7)) (by kernel_rfl) (fun i v W => match i with | 0 => v = .int .i64 ((t : Nat) : Int) | 1 => v = .bool true | 2 => v = .bool true | 3 => v = .int .i64 ((k : Nat) : Int) | 4 => v = .int .i64 lv | 5 => v = .bool b | 6 => v = .bool b | _ => True) hap ?_ ?_ ?_
  · intro i v W W' h _
    iterate 7 (rcases i with _ | i; · exact h)
    exact h
  · refine ⟨?_, ?_, ?_, ?_, ?_, ?_, ?_, trivial⟩
    · intro vs A' W hA hW hd hu K hK
      refine wpOp_free _ rfl rfl ?_
      conv => arg 2; whnf
      have e12 : A'.tmps[12]?.getD undef = .pointer (some ⟨gt, 0, none⟩) := slot_out hA hap (Nat.lt_of_lt_of_eq (Nat.le_of_ble_eq_true rfl : 12 < 193) hsz.symm) (by kernel_rfl) o12
      clear hA hd hu o3 o12 o13
      have c0 : W.cell? ⟨gt, 0, none⟩ = some (.int .i64 ((t : Nat) : Int)) := (hbt.kp hW (by simp)).cell 0
      go_step
      exact hK _ _ (Kp.refl _ _) rfl
    · intro vs A' W hA hW hd hu K hK
      refine wpOp_free _ rfl rfl ?_
      conv => arg 2; whnf
      have f0 : vs 0 = .int .i64 ((t : Nat) : Int) := hd 0 (by kernel_rfl)
      have e161 : A'.tmps[161]?.getD undef = vs 0 := slot_in hA hap (Nat.lt_of_lt_of_eq (Nat.le_of_ble_eq_true rfl : 161 < 193) hsz.symm) (by kernel_rfl)
      rw [f0] at e161
      clear hA hd hu o3 o12 o13
      go_step
      exact hK _ _ (Kp.refl _ _) (by first | rfl | exact congrArg Value.bool (by have h9 := ht.out; simp; omega))
    · intro vs A' W hA hW hd hu K hK
      refine wpOp_free _ rfl rfl ?_
      conv => arg 2; whnf
      have f1 : vs 1 = .bool true := hd 1 (by kernel_rfl)
      have e162 : A'.tmps[162]?.getD undef = vs 1 := slot_in hA hap (Nat.lt_of_lt_of_eq (Nat.le_of_ble_eq_true rfl : 162 < 193) hsz.symm) (by kernel_rfl)
      rw [f1] at e162
      clear hA hd hu o3 o12 o13
      go_step
      exact hK _ _ (Kp.refl _ _) rfl
    · intro vs A' W hA hW hd hu K hK
      have f2 : vs 2 = .bool true := hd 2 (by kernel_rfl)
      have e163 : A'.tmps[163]?.getD undef = vs 2 := slot_in hA hap (Nat.lt_of_lt_of_eq (Nat.le_of_ble_eq_true rfl : 163 < 193) hsz.symm) (by kernel_rfl)
      rw [f2] at e163
      refine wpOp_go _ rfl 2 163 true rfl rfl e163 ?_
      conv => arg 2; whnf
      have e13 : A'.tmps[13]?.getD undef = .pointer (some ⟨gk, 0, none⟩) := slot_out hA hap (Nat.lt_of_lt_of_eq (Nat.le_of_ble_eq_true rfl : 13 < 193) hsz.symm) (by kernel_rfl) o13
      clear hA hd hu o3 o12 o13
      have c0 : W.cell? ⟨gk, 0, none⟩ = some (.int .i64 ((k : Nat) : Int)) := (hbk.kp hW (by simp)).cell 0
      go_step
      exact hK _ _ (Kp.refl _ _) rfl
    · intro vs A' W hA hW hd hu K hK
      have f2 : vs 2 = .bool true := hd 2 (by kernel_rfl)
      have e163 : A'.tmps[163]?.getD undef = vs 2 := slot_in hA hap (Nat.lt_of_lt_of_eq (Nat.le_of_ble_eq_true rfl : 163 < 193) hsz.symm) (by kernel_rfl)
      rw [f2] at e163
      refine wpOp_go _ rfl 2 163 true rfl rfl e163 ?_
      conv => arg 2; whnf
      have e3 : A'.tmps[3]?.getD undef = .pointer (some ⟨gl, 0, none⟩) := slot_out hA hap (Nat.lt_of_lt_of_eq (Nat.le_of_ble_eq_true rfl : 3 < 193) hsz.symm) (by kernel_rfl) o3
      clear hA hd hu o3 o12 o13
      have c0 : W.cell? ⟨gl, 0, none⟩ = some (.int .i64 lv) := (hbl.kp hW (by simp)).cell 0
      go_step
      exact hK _ _ (Kp.refl _ _) rfl
    · intro vs A' W hA hW hd hu K hK
      have f2 : vs 2 = .bool true := hd 2 (by kernel_rfl)
      have e163 : A'.tmps[163]?.getD undef = vs 2 := slot_in hA hap (Nat.lt_of_lt_of_eq (Nat.le_of_ble_eq_true rfl : 163 < 193) hsz.symm) (by kernel_rfl)
      rw [f2] at e163
      refine wpOp_go _ rfl 2 163 true rfl rfl e163 ?_
      conv => arg 2; whnf
      have f3 : vs 3 = .int .i64 ((k : Nat) : Int) := hd 3 (by kernel_rfl)
      have e164 : A'.tmps[164]?.getD undef = vs 3 := slot_in hA hap (Nat.lt_of_lt_of_eq (Nat.le_of_ble_eq_true rfl : 164 < 193) hsz.symm) (by kernel_rfl)
      rw [f3] at e164
      have f4 : vs 4 = .int .i64 lv := hd 4 (by kernel_rfl)
      have e165 : A'.tmps[165]?.getD undef = vs 4 := slot_in hA hap (Nat.lt_of_lt_of_eq (Nat.le_of_ble_eq_true rfl : 165 < 193) hsz.symm) (by kernel_rfl)
      rw [f4] at e165
      clear hA hd hu o3 o12 o13
      go_step
      exact hK _ _ (Kp.refl _ _) (by first | rfl | exact congrArg Value.bool (hb))
    · intro vs A' W hA hW hd hu K hK
      refine wpOp_free _ rfl rfl ?_
      conv => arg 2; whnf
      have f2 : vs 2 = .bool true := hd 2 (by kernel_rfl)
      have e163 : A'.tmps[163]?.getD undef = vs 2 := slot_in hA hap (Nat.lt_of_lt_of_eq (Nat.le_of_ble_eq_true rfl : 163 < 193) hsz.symm) (by kernel_rfl)
      rw [f2] at e163
      have f5 : vs 5 = .bool b := hd 5 (by kernel_rfl)
      have e166 : A'.tmps[166]?.getD undef = vs 5 := slot_in hA hap (Nat.lt_of_lt_of_eq (Nat.le_of_ble_eq_true rfl : 166 < 193) hsz.symm) (by kernel_rfl)
      rw [f5] at e166
      clear hA hd hu o3 o12 o13
      go_step
      exact hK _ _ (Kp.refl _ _) rfl
  · intro vs W hW hp
    rw [show putAll vs (opsOf 41 Try.f7) 0 a = putD [(161, vs 0), (162, vs 1), (163, vs 2), (164, vs 3), (165, vs 4), (166, vs 5), (167, vs 6)] a from by kernel_rfl]
    exact hend _ W (same_putD _ a) hW (sl_putD _ a 167 _ (by rw [show vs 6 = _ from hp 6 (Nat.le_of_ble_eq_true (by kernel_rfl))]; kernel_rfl))
-- END ecc41Y
-- REG ecc41N
set_option maxRecDepth 100000 in
set_option maxHeartbeats 2000000 in
theorem ecc_r41N {Q : Exit → Act → World → Prop} {a : Act} {w : World} {rl nn : Nat} (gt gk gl t k : Nat) (lv : Int) (hbt : Blk w gt 3 #[.int .i64 ((t : Nat) : Int)]) (hbk : Blk w gk 3 #[.int .i64 ((k : Nat) : Int)]) (hbl : Blk w gl 3 #[.int .i64 lv]) (ht : Hid (¬ t = 0)) (hsz : a.tmps.size = 193) (o3 : Sl a 3 (.pointer (some ⟨gl, 0, none⟩))) (o12 : Sl a 12 (.pointer (some ⟨gt, 0, none⟩))) (o13 : Sl a 13 (.pointer (some ⟨gk, 0, none⟩)))
    (hend : ∀ (a' : Act) (W : World), Same a a' [161, 162, 163, 164, 165, 166, 167] → Kp [] w W → Sl a' 167 (.bool false) → Q .normal a' W) : (Code.region 41 (opsOf 41 Try.f7).toArray false).wpIn (Fence.wide.inRound rl) nn Try.prog Q a w := by
  have hap : apartB (opsOf 41 Try.f7) = true := by kernel_rfl
  refine in_region_invS (l := (opsOf 41 Try.f7)) (by kernel_rfl) (fun i v W => match i with | 0 => v = .int .i64 ((t : Nat) : Int) | 1 => v = .bool false | 2 => v = .bool false | 6 => v = .bool false | _ => True) hap ?_ ?_ ?_
  · intro i v W W' h _
    iterate 7 (rcases i with _ | i; · exact h)
    exact h
  · refine ⟨?_, ?_, ?_, ?_, ?_, ?_, ?_, trivial⟩
    · intro vs A' W hA hW hd hu K hK
      refine wpOp_free _ rfl rfl ?_
      conv => arg 2; whnf
      have e12 : A'.tmps[12]?.getD undef = .pointer (some ⟨gt, 0, none⟩) := slot_out hA hap (Nat.lt_of_lt_of_eq (Nat.le_of_ble_eq_true rfl : 12 < 193) hsz.symm) (by kernel_rfl) o12
      clear hA hd hu o3 o12 o13
      have c0 : W.cell? ⟨gt, 0, none⟩ = some (.int .i64 ((t : Nat) : Int)) := (hbt.kp hW (by simp)).cell 0
      go_step
      exact hK _ _ (Kp.refl _ _) rfl
    · intro vs A' W hA hW hd hu K hK
      refine wpOp_free _ rfl rfl ?_
      conv => arg 2; whnf
      have f0 : vs 0 = .int .i64 ((t : Nat) : Int) := hd 0 (by kernel_rfl)
      have e161 : A'.tmps[161]?.getD undef = vs 0 := slot_in hA hap (Nat.lt_of_lt_of_eq (Nat.le_of_ble_eq_true rfl : 161 < 193) hsz.symm) (by kernel_rfl)
      rw [f0] at e161
      clear hA hd hu o3 o12 o13
      go_step
      exact hK _ _ (Kp.refl _ _) (by first | rfl | exact congrArg Value.bool (by have h9 := ht.out; simp; omega))
    · intro vs A' W hA hW hd hu K hK
      refine wpOp_free _ rfl rfl ?_
      conv => arg 2; whnf
      have f1 : vs 1 = .bool false := hd 1 (by kernel_rfl)
      have e162 : A'.tmps[162]?.getD undef = vs 1 := slot_in hA hap (Nat.lt_of_lt_of_eq (Nat.le_of_ble_eq_true rfl : 162 < 193) hsz.symm) (by kernel_rfl)
      rw [f1] at e162
      clear hA hd hu o3 o12 o13
      go_step
      exact hK _ _ (Kp.refl _ _) rfl
    · intro vs A' W hA hW hd hu K hK
      have f2 : vs 2 = .bool false := hd 2 (by kernel_rfl)
      have e163 : A'.tmps[163]?.getD undef = vs 2 := slot_in hA hap (Nat.lt_of_lt_of_eq (Nat.le_of_ble_eq_true rfl : 163 < 193) hsz.symm) (by kernel_rfl)
      rw [f2] at e163
      refine wpOp_skip _ rfl 2 163 true rfl rfl e163 ?_
      exact hK _ _ (Kp.refl _ _) trivial
    · intro vs A' W hA hW hd hu K hK
      have f2 : vs 2 = .bool false := hd 2 (by kernel_rfl)
      have e163 : A'.tmps[163]?.getD undef = vs 2 := slot_in hA hap (Nat.lt_of_lt_of_eq (Nat.le_of_ble_eq_true rfl : 163 < 193) hsz.symm) (by kernel_rfl)
      rw [f2] at e163
      refine wpOp_skip _ rfl 2 163 true rfl rfl e163 ?_
      exact hK _ _ (Kp.refl _ _) trivial
    · intro vs A' W hA hW hd hu K hK
      have f2 : vs 2 = .bool false := hd 2 (by kernel_rfl)
      have e163 : A'.tmps[163]?.getD undef = vs 2 := slot_in hA hap (Nat.lt_of_lt_of_eq (Nat.le_of_ble_eq_true rfl : 163 < 193) hsz.symm) (by kernel_rfl)
      rw [f2] at e163
      refine wpOp_skip _ rfl 2 163 true rfl rfl e163 ?_
      exact hK _ _ (Kp.refl _ _) trivial
    · intro vs A' W hA hW hd hu K hK
      refine wpOp_free _ rfl rfl ?_
      conv => arg 2; whnf
      have f2 : vs 2 = .bool false := hd 2 (by kernel_rfl)
      have e163 : A'.tmps[163]?.getD undef = vs 2 := slot_in hA hap (Nat.lt_of_lt_of_eq (Nat.le_of_ble_eq_true rfl : 163 < 193) hsz.symm) (by kernel_rfl)
      rw [f2] at e163
      have e166 : A'.tmps[166]?.getD undef = vs 5 := slot_in hA hap (Nat.lt_of_lt_of_eq (Nat.le_of_ble_eq_true rfl : 166 < 193) hsz.symm) (by kernel_rfl)
      clear hA hd hu o3 o12 o13
      go_step
      exact hK _ _ (Kp.refl _ _) rfl
  · intro vs W hW hp
    rw [show putAll vs (opsOf 41 Try.f7) 0 a = putD [(161, vs 0), (162, vs 1), (163, vs 2), (164, vs 3), (165, vs 4), (166, vs 5), (167, vs 6)] a from by kernel_rfl]
    exact hend _ W (same_putD _ a) hW (sl_putD _ a 167 _ (by rw [show vs 6 = _ from hp 6 (Nat.le_of_ble_eq_true (by kernel_rfl))]; kernel_rfl))
-- END ecc41N
-- REG ecc42A
set_option maxRecDepth 100000 in
set_option maxHeartbeats 2000000 in
theorem ecc_r42A {Q : Exit → Act → World → Prop} {a : Act} {w : World} (gt gk gl t k : Nat) (lv : Int) (hbt : Blk w gt 3 #[.int .i64 ((t : Nat) : Int)]) (hbk : Blk w gk 3 #[.int .i64 ((k : Nat) : Int)]) (hbl : Blk w gl 3 #[.int .i64 lv]) (gw n cw : Nat) (Aw : Option Addr) (hbw : Blk w gw 22 #[.slice Aw n cw]) (hx : Hid (0 < t ∧ k = n)) (hsz : a.tmps.size = 193) (o3 : Sl a 3 (.pointer (some ⟨gl, 0, none⟩))) (o7 : Sl a 7 (.pointer (some ⟨gw, 0, none⟩))) (o12 : Sl a 12 (.pointer (some ⟨gt, 0, none⟩))) (o13 : Sl a 13 (.pointer (some ⟨gk, 0, none⟩)))
    (hend : ∀ (a' : Act) (W : World), Same a a' [168, 169, 170, 171, 172, 173, 174, 175, 176, 177, 178, 179, 180, 181, 182, 183, 184, 185, 186, 187, 188, 189, 190] → Kp [] w W → Sl a' 190 (.bool false) → Q .normal a' W) : (Code.region 42 (opsOf 42 Try.f7).toArray false).wp Try.prog Q a w := by
  have hap : apartB (opsOf 42 Try.f7) = true := by kernel_rfl
  refine wp_region_invS (l := (opsOf 42 Try.f7)) (fun i v W => match i with | 0 => v = .int .i64 ((t : Nat) : Int) | 1 => v = .bool true | 2 => v = .bool true | 3 => v = .int .i64 ((k : Nat) : Int) | 4 => v = .slice Aw n cw | 5 => v = .int .i64 ((n : Nat) : Int) | 6 => v = .bool false | 7 => v = .bool false | 8 => v = .bool false | 9 => v = .int .i64 ((t : Nat) : Int) | 10 => v = .bool false | 11 => v = .bool false | 16 => v = .bool false | 17 => v = .bool false | 21 => v = .bool false | 22 => v = .bool false | _ => True) hap ?_ ?_ ?_
  · intro i v W W' h _
    iterate 23 (rcases i with _ | i; · exact h)
    exact h
  · refine ⟨?_, ?_, ?_, ?_, ?_, ?_, ?_, ?_, ?_, ?_, ?_, ?_, ?_, ?_, ?_, ?_, ?_, ?_, ?_, ?_, ?_, ?_, ?_, trivial⟩
    · intro vs A' W hA hW hd hu K hK
      refine wpOp_free _ rfl rfl ?_
      conv => arg 2; whnf
      have e12 : A'.tmps[12]?.getD undef = .pointer (some ⟨gt, 0, none⟩) := slot_out hA hap (Nat.lt_of_lt_of_eq (Nat.le_of_ble_eq_true rfl : 12 < 193) hsz.symm) (by kernel_rfl) o12
      clear hA hd hu o3 o7 o12 o13
      have c0 : W.cell? ⟨gt, 0, none⟩ = some (.int .i64 ((t : Nat) : Int)) := (hbt.kp hW (by simp)).cell 0
      go_step
      exact hK _ _ (Kp.refl _ _) rfl
    · intro vs A' W hA hW hd hu K hK
      refine wpOp_free _ rfl rfl ?_
      conv => arg 2; whnf
      have f0 : vs 0 = .int .i64 ((t : Nat) : Int) := hd 0 (by kernel_rfl)
      have e168 : A'.tmps[168]?.getD undef = vs 0 := slot_in hA hap (Nat.lt_of_lt_of_eq (Nat.le_of_ble_eq_true rfl : 168 < 193) hsz.symm) (by kernel_rfl)
      rw [f0] at e168
      clear hA hd hu o3 o7 o12 o13
      go_step
      exact hK _ _ (Kp.refl _ _) (by first | rfl | exact congrArg Value.bool (by have h9 := hx.out; simp; omega))
    · intro vs A' W hA hW hd hu K hK
      refine wpOp_free _ rfl rfl ?_
      conv => arg 2; whnf
      have f1 : vs 1 = .bool true := hd 1 (by kernel_rfl)
      have e169 : A'.tmps[169]?.getD undef = vs 1 := slot_in hA hap (Nat.lt_of_lt_of_eq (Nat.le_of_ble_eq_true rfl : 169 < 193) hsz.symm) (by kernel_rfl)
      rw [f1] at e169
      clear hA hd hu o3 o7 o12 o13
      go_step
      exact hK _ _ (Kp.refl _ _) rfl
    · intro vs A' W hA hW hd hu K hK
      have f2 : vs 2 = .bool true := hd 2 (by kernel_rfl)
      have e170 : A'.tmps[170]?.getD undef = vs 2 := slot_in hA hap (Nat.lt_of_lt_of_eq (Nat.le_of_ble_eq_true rfl : 170 < 193) hsz.symm) (by kernel_rfl)
      rw [f2] at e170
      refine wpOp_go _ rfl 2 170 true rfl rfl e170 ?_
      conv => arg 2; whnf
      have e13 : A'.tmps[13]?.getD undef = .pointer (some ⟨gk, 0, none⟩) := slot_out hA hap (Nat.lt_of_lt_of_eq (Nat.le_of_ble_eq_true rfl : 13 < 193) hsz.symm) (by kernel_rfl) o13
      clear hA hd hu o3 o7 o12 o13
      have c0 : W.cell? ⟨gk, 0, none⟩ = some (.int .i64 ((k : Nat) : Int)) := (hbk.kp hW (by simp)).cell 0
      go_step
      exact hK _ _ (Kp.refl _ _) rfl
    · intro vs A' W hA hW hd hu K hK
      have f2 : vs 2 = .bool true := hd 2 (by kernel_rfl)
      have e170 : A'.tmps[170]?.getD undef = vs 2 := slot_in hA hap (Nat.lt_of_lt_of_eq (Nat.le_of_ble_eq_true rfl : 170 < 193) hsz.symm) (by kernel_rfl)
      rw [f2] at e170
      refine wpOp_go _ rfl 2 170 true rfl rfl e170 ?_
      conv => arg 2; whnf
      have e7 : A'.tmps[7]?.getD undef = .pointer (some ⟨gw, 0, none⟩) := slot_out hA hap (Nat.lt_of_lt_of_eq (Nat.le_of_ble_eq_true rfl : 7 < 193) hsz.symm) (by kernel_rfl) o7
      clear hA hd hu o3 o7 o12 o13
      have c0 : W.cell? ⟨gw, 0, none⟩ = some (.slice Aw n cw) := (hbw.kp hW (by simp)).cell 0
      go_step
      exact hK _ _ (Kp.refl _ _) rfl
    · intro vs A' W hA hW hd hu K hK
      have f2 : vs 2 = .bool true := hd 2 (by kernel_rfl)
      have e170 : A'.tmps[170]?.getD undef = vs 2 := slot_in hA hap (Nat.lt_of_lt_of_eq (Nat.le_of_ble_eq_true rfl : 170 < 193) hsz.symm) (by kernel_rfl)
      rw [f2] at e170
      refine wpOp_go _ rfl 2 170 true rfl rfl e170 ?_
      conv => arg 2; whnf
      have f4 : vs 4 = .slice Aw n cw := hd 4 (by kernel_rfl)
      have e172 : A'.tmps[172]?.getD undef = vs 4 := slot_in hA hap (Nat.lt_of_lt_of_eq (Nat.le_of_ble_eq_true rfl : 172 < 193) hsz.symm) (by kernel_rfl)
      rw [f4] at e172
      clear hA hd hu o3 o7 o12 o13
      go_step
      exact hK _ _ (Kp.refl _ _) rfl
    · intro vs A' W hA hW hd hu K hK
      have f2 : vs 2 = .bool true := hd 2 (by kernel_rfl)
      have e170 : A'.tmps[170]?.getD undef = vs 2 := slot_in hA hap (Nat.lt_of_lt_of_eq (Nat.le_of_ble_eq_true rfl : 170 < 193) hsz.symm) (by kernel_rfl)
      rw [f2] at e170
      refine wpOp_go _ rfl 2 170 true rfl rfl e170 ?_
      conv => arg 2; whnf
      have f3 : vs 3 = .int .i64 ((k : Nat) : Int) := hd 3 (by kernel_rfl)
      have e171 : A'.tmps[171]?.getD undef = vs 3 := slot_in hA hap (Nat.lt_of_lt_of_eq (Nat.le_of_ble_eq_true rfl : 171 < 193) hsz.symm) (by kernel_rfl)
      rw [f3] at e171
      have f5 : vs 5 = .int .i64 ((n : Nat) : Int) := hd 5 (by kernel_rfl)
      have e173 : A'.tmps[173]?.getD undef = vs 5 := slot_in hA hap (Nat.lt_of_lt_of_eq (Nat.le_of_ble_eq_true rfl : 173 < 193) hsz.symm) (by kernel_rfl)
      rw [f5] at e173
      clear hA hd hu o3 o7 o12 o13
      go_step
      exact hK _ _ (Kp.refl _ _) (by first | rfl | exact congrArg Value.bool (by have h9 := hx.out; simp; omega))
    · intro vs A' W hA hW hd hu K hK
      refine wpOp_free _ rfl rfl ?_
      conv => arg 2; whnf
      have f2 : vs 2 = .bool true := hd 2 (by kernel_rfl)
      have e170 : A'.tmps[170]?.getD undef = vs 2 := slot_in hA hap (Nat.lt_of_lt_of_eq (Nat.le_of_ble_eq_true rfl : 170 < 193) hsz.symm) (by kernel_rfl)
      rw [f2] at e170
      have f6 : vs 6 = .bool false := hd 6 (by kernel_rfl)
      have e174 : A'.tmps[174]?.getD undef = vs 6 := slot_in hA hap (Nat.lt_of_lt_of_eq (Nat.le_of_ble_eq_true rfl : 174 < 193) hsz.symm) (by kernel_rfl)
      rw [f6] at e174
      clear hA hd hu o3 o7 o12 o13
      go_step
      exact hK _ _ (Kp.refl _ _) rfl
    · intro vs A' W hA hW hd hu K hK
      refine wpOp_free _ rfl rfl ?_
      conv => arg 2; whnf
      have f7 : vs 7 = .bool false := hd 7 (by kernel_rfl)
      have e175 : A'.tmps[175]?.getD undef = vs 7 := slot_in hA hap (Nat.lt_of_lt_of_eq (Nat.le_of_ble_eq_true rfl : 175 < 193) hsz.symm) (by kernel_rfl)
      rw [f7] at e175
      clear hA hd hu o3 o7 o12 o13
      go_step
      exact hK _ _ (Kp.refl _ _) rfl
    · intro vs A' W hA hW hd hu K hK
      have f8 : vs 8 = .bool false := hd 8 (by kernel_rfl)
      have e176 : A'.tmps[176]?.getD undef = vs 8 := slot_in hA hap (Nat.lt_of_lt_of_eq (Nat.le_of_ble_eq_true rfl : 176 < 193) hsz.symm) (by kernel_rfl)
      rw [f8] at e176
      refine wpOp_go _ rfl 8 176 false rfl rfl e176 ?_
      conv => arg 2; whnf
      have e12 : A'.tmps[12]?.getD undef = .pointer (some ⟨gt, 0, none⟩) := slot_out hA hap (Nat.lt_of_lt_of_eq (Nat.le_of_ble_eq_true rfl : 12 < 193) hsz.symm) (by kernel_rfl) o12
      clear hA hd hu o3 o7 o12 o13
      have c0 : W.cell? ⟨gt, 0, none⟩ = some (.int .i64 ((t : Nat) : Int)) := (hbt.kp hW (by simp)).cell 0
      go_step
      exact hK _ _ (Kp.refl _ _) rfl
    · intro vs A' W hA hW hd hu K hK
      have f8 : vs 8 = .bool false := hd 8 (by kernel_rfl)
      have e176 : A'.tmps[176]?.getD undef = vs 8 := slot_in hA hap (Nat.lt_of_lt_of_eq (Nat.le_of_ble_eq_true rfl : 176 < 193) hsz.symm) (by kernel_rfl)
      rw [f8] at e176
      refine wpOp_go _ rfl 8 176 false rfl rfl e176 ?_
      conv => arg 2; whnf
      have f9 : vs 9 = .int .i64 ((t : Nat) : Int) := hd 9 (by kernel_rfl)
      have e177 : A'.tmps[177]?.getD undef = vs 9 := slot_in hA hap (Nat.lt_of_lt_of_eq (Nat.le_of_ble_eq_true rfl : 177 < 193) hsz.symm) (by kernel_rfl)
      rw [f9] at e177
      clear hA hd hu o3 o7 o12 o13
      go_step
      exact hK _ _ (Kp.refl _ _) (by first | rfl | exact congrArg Value.bool (by have h9 := hx.out; simp; omega))
    · intro vs A' W hA hW hd hu K hK
      have f8 : vs 8 = .bool false := hd 8 (by kernel_rfl)
      have e176 : A'.tmps[176]?.getD undef = vs 8 := slot_in hA hap (Nat.lt_of_lt_of_eq (Nat.le_of_ble_eq_true rfl : 176 < 193) hsz.symm) (by kernel_rfl)
      rw [f8] at e176
      refine wpOp_go _ rfl 8 176 false rfl rfl e176 ?_
      conv => arg 2; whnf
      have f10 : vs 10 = .bool false := hd 10 (by kernel_rfl)
      have e178 : A'.tmps[178]?.getD undef = vs 10 := slot_in hA hap (Nat.lt_of_lt_of_eq (Nat.le_of_ble_eq_true rfl : 178 < 193) hsz.symm) (by kernel_rfl)
      rw [f10] at e178
      clear hA hd hu o3 o7 o12 o13
      go_step
      exact hK _ _ (Kp.refl _ _) rfl
    · intro vs A' W hA hW hd hu K hK
      have f11 : vs 11 = .bool false := hd 11 (by kernel_rfl)
      have e179 : A'.tmps[179]?.getD undef = vs 11 := slot_in hA hap (Nat.lt_of_lt_of_eq (Nat.le_of_ble_eq_true rfl : 179 < 193) hsz.symm) (by kernel_rfl)
      rw [f11] at e179
      refine wpOp_skip _ rfl 11 179 true rfl rfl e179 ?_
      exact hK _ _ (Kp.refl _ _) trivial
    · intro vs A' W hA hW hd hu K hK
      have f11 : vs 11 = .bool false := hd 11 (by kernel_rfl)
      have e179 : A'.tmps[179]?.getD undef = vs 11 := slot_in hA hap (Nat.lt_of_lt_of_eq (Nat.le_of_ble_eq_true rfl : 179 < 193) hsz.symm) (by kernel_rfl)
      rw [f11] at e179
      refine wpOp_skip _ rfl 11 179 true rfl rfl e179 ?_
      exact hK _ _ (Kp.refl _ _) trivial
    · intro vs A' W hA hW hd hu K hK
      have f11 : vs 11 = .bool false := hd 11 (by kernel_rfl)
      have e179 : A'.tmps[179]?.getD undef = vs 11 := slot_in hA hap (Nat.lt_of_lt_of_eq (Nat.le_of_ble_eq_true rfl : 179 < 193) hsz.symm) (by kernel_rfl)
      rw [f11] at e179
      refine wpOp_skip _ rfl 11 179 true rfl rfl e179 ?_
      exact hK _ _ (Kp.refl _ _) trivial
    · intro vs A' W hA hW hd hu K hK
      have f11 : vs 11 = .bool false := hd 11 (by kernel_rfl)
      have e179 : A'.tmps[179]?.getD undef = vs 11 := slot_in hA hap (Nat.lt_of_lt_of_eq (Nat.le_of_ble_eq_true rfl : 179 < 193) hsz.symm) (by kernel_rfl)
      rw [f11] at e179
      refine wpOp_skip _ rfl 11 179 true rfl rfl e179 ?_
      exact hK _ _ (Kp.refl _ _) trivial
    · intro vs A' W hA hW hd hu K hK
      have f8 : vs 8 = .bool false := hd 8 (by kernel_rfl)
      have e176 : A'.tmps[176]?.getD undef = vs 8 := slot_in hA hap (Nat.lt_of_lt_of_eq (Nat.le_of_ble_eq_true rfl : 176 < 193) hsz.symm) (by kernel_rfl)
      rw [f8] at e176
      refine wpOp_go _ rfl 8 176 false rfl rfl e176 ?_
      conv => arg 2; whnf
      have f11 : vs 11 = .bool false := hd 11 (by kernel_rfl)
      have e179 : A'.tmps[179]?.getD undef = vs 11 := slot_in hA hap (Nat.lt_of_lt_of_eq (Nat.le_of_ble_eq_true rfl : 179 < 193) hsz.symm) (by kernel_rfl)
      rw [f11] at e179
      have e183 : A'.tmps[183]?.getD undef = vs 15 := slot_in hA hap (Nat.lt_of_lt_of_eq (Nat.le_of_ble_eq_true rfl : 183 < 193) hsz.symm) (by kernel_rfl)
      clear hA hd hu o3 o7 o12 o13
      go_step
      exact hK _ _ (Kp.refl _ _) rfl
    · intro vs A' W hA hW hd hu K hK
      have f8 : vs 8 = .bool false := hd 8 (by kernel_rfl)
      have e176 : A'.tmps[176]?.getD undef = vs 8 := slot_in hA hap (Nat.lt_of_lt_of_eq (Nat.le_of_ble_eq_true rfl : 176 < 193) hsz.symm) (by kernel_rfl)
      rw [f8] at e176
      refine wpOp_go _ rfl 8 176 false rfl rfl e176 ?_
      conv => arg 2; whnf
      have f16 : vs 16 = .bool false := hd 16 (by kernel_rfl)
      have e184 : A'.tmps[184]?.getD undef = vs 16 := slot_in hA hap (Nat.lt_of_lt_of_eq (Nat.le_of_ble_eq_true rfl : 184 < 193) hsz.symm) (by kernel_rfl)
      rw [f16] at e184
      clear hA hd hu o3 o7 o12 o13
      go_step
      exact hK _ _ (Kp.refl _ _) rfl
    · intro vs A' W hA hW hd hu K hK
      have f17 : vs 17 = .bool false := hd 17 (by kernel_rfl)
      have e185 : A'.tmps[185]?.getD undef = vs 17 := slot_in hA hap (Nat.lt_of_lt_of_eq (Nat.le_of_ble_eq_true rfl : 185 < 193) hsz.symm) (by kernel_rfl)
      rw [f17] at e185
      refine wpOp_skip _ rfl 17 185 true rfl rfl e185 ?_
      exact hK _ _ (Kp.refl _ _) trivial
    · intro vs A' W hA hW hd hu K hK
      have f17 : vs 17 = .bool false := hd 17 (by kernel_rfl)
      have e185 : A'.tmps[185]?.getD undef = vs 17 := slot_in hA hap (Nat.lt_of_lt_of_eq (Nat.le_of_ble_eq_true rfl : 185 < 193) hsz.symm) (by kernel_rfl)
      rw [f17] at e185
      refine wpOp_skip _ rfl 17 185 true rfl rfl e185 ?_
      exact hK _ _ (Kp.refl _ _) trivial
    · intro vs A' W hA hW hd hu K hK
      have f17 : vs 17 = .bool false := hd 17 (by kernel_rfl)
      have e185 : A'.tmps[185]?.getD undef = vs 17 := slot_in hA hap (Nat.lt_of_lt_of_eq (Nat.le_of_ble_eq_true rfl : 185 < 193) hsz.symm) (by kernel_rfl)
      rw [f17] at e185
      refine wpOp_skip _ rfl 17 185 true rfl rfl e185 ?_
      exact hK _ _ (Kp.refl _ _) trivial
    · intro vs A' W hA hW hd hu K hK
      have f8 : vs 8 = .bool false := hd 8 (by kernel_rfl)
      have e176 : A'.tmps[176]?.getD undef = vs 8 := slot_in hA hap (Nat.lt_of_lt_of_eq (Nat.le_of_ble_eq_true rfl : 176 < 193) hsz.symm) (by kernel_rfl)
      rw [f8] at e176
      refine wpOp_go _ rfl 8 176 false rfl rfl e176 ?_
      conv => arg 2; whnf
      have f17 : vs 17 = .bool false := hd 17 (by kernel_rfl)
      have e185 : A'.tmps[185]?.getD undef = vs 17 := slot_in hA hap (Nat.lt_of_lt_of_eq (Nat.le_of_ble_eq_true rfl : 185 < 193) hsz.symm) (by kernel_rfl)
      rw [f17] at e185
      have e188 : A'.tmps[188]?.getD undef = vs 20 := slot_in hA hap (Nat.lt_of_lt_of_eq (Nat.le_of_ble_eq_true rfl : 188 < 193) hsz.symm) (by kernel_rfl)
      clear hA hd hu o3 o7 o12 o13
      go_step
      exact hK _ _ (Kp.refl _ _) rfl
    · intro vs A' W hA hW hd hu K hK
      refine wpOp_free _ rfl rfl ?_
      conv => arg 2; whnf
      have f8 : vs 8 = .bool false := hd 8 (by kernel_rfl)
      have e176 : A'.tmps[176]?.getD undef = vs 8 := slot_in hA hap (Nat.lt_of_lt_of_eq (Nat.le_of_ble_eq_true rfl : 176 < 193) hsz.symm) (by kernel_rfl)
      rw [f8] at e176
      have f21 : vs 21 = .bool false := hd 21 (by kernel_rfl)
      have e189 : A'.tmps[189]?.getD undef = vs 21 := slot_in hA hap (Nat.lt_of_lt_of_eq (Nat.le_of_ble_eq_true rfl : 189 < 193) hsz.symm) (by kernel_rfl)
      rw [f21] at e189
      clear hA hd hu o3 o7 o12 o13
      go_step
      exact hK _ _ (Kp.refl _ _) rfl
  · intro vs W hW hp
    rw [show putAll vs (opsOf 42 Try.f7) 0 a = putD [(168, vs 0), (169, vs 1), (170, vs 2), (171, vs 3), (172, vs 4), (173, vs 5), (174, vs 6), (175, vs 7), (176, vs 8), (177, vs 9), (178, vs 10), (179, vs 11), (180, vs 12), (181, vs 13), (182, vs 14), (183, vs 15), (184, vs 16), (185, vs 17), (186, vs 18), (187, vs 19), (188, vs 20), (189, vs 21), (190, vs 22)] a from by kernel_rfl]
    exact hend _ W (same_putD _ a) hW (sl_putD _ a 190 _ (by rw [show vs 22 = _ from hp 22 (Nat.le_of_ble_eq_true (by kernel_rfl))]; kernel_rfl))
-- END ecc42A
-- REG ecc42B
set_option maxRecDepth 100000 in
set_option maxHeartbeats 2000000 in
theorem ecc_r42B {Q : Exit → Act → World → Prop} {a : Act} {w : World} (gt gk gl t k : Nat) (lv : Int) (hbt : Blk w gt 3 #[.int .i64 ((t : Nat) : Int)]) (hbk : Blk w gk 3 #[.int .i64 ((k : Nat) : Int)]) (hbl : Blk w gl 3 #[.int .i64 lv]) (gw n cw : Nat) (Aw : Option Addr) (hbw : Blk w gw 22 #[.slice Aw n cw]) (hx : Hid (t = 0 ∧ k = n)) (hsz : a.tmps.size = 193) (o3 : Sl a 3 (.pointer (some ⟨gl, 0, none⟩))) (o7 : Sl a 7 (.pointer (some ⟨gw, 0, none⟩))) (o12 : Sl a 12 (.pointer (some ⟨gt, 0, none⟩))) (o13 : Sl a 13 (.pointer (some ⟨gk, 0, none⟩)))
    (hend : ∀ (a' : Act) (W : World), Same a a' [168, 169, 170, 171, 172, 173, 174, 175, 176, 177, 178, 179, 180, 181, 182, 183, 184, 185, 186, 187, 188, 189, 190] → Kp [] w W → Sl a' 190 (.bool false) → Q .normal a' W) : (Code.region 42 (opsOf 42 Try.f7).toArray false).wp Try.prog Q a w := by
  have hap : apartB (opsOf 42 Try.f7) = true := by kernel_rfl
  refine wp_region_invS (l := (opsOf 42 Try.f7)) (fun i v W => match i with | 0 => v = .int .i64 ((t : Nat) : Int) | 1 => v = .bool false | 2 => v = .bool false | 7 => v = .bool false | 8 => v = .bool false | 9 => v = .int .i64 ((t : Nat) : Int) | 10 => v = .bool true | 11 => v = .bool true | 12 => v = .int .i64 ((k : Nat) : Int) | 13 => v = .slice Aw n cw | 14 => v = .int .i64 ((n : Nat) : Int) | 15 => v = .bool false | 16 => v = .bool false | 17 => v = .bool false | 21 => v = .bool false | 22 => v = .bool false | _ => True) hap ?_ ?_ ?_
  · intro i v W W' h _
    iterate 23 (rcases i with _ | i; · exact h)
    exact h
  · refine ⟨?_, ?_, ?_, ?_, ?_, ?_, ?_, ?_, ?_, ?_, ?_, ?_, ?_, ?_, ?_, ?_, ?_, ?_, ?_, ?_, ?_, ?_, ?_, trivial⟩
    · intro vs A' W hA hW hd hu K hK
      refine wpOp_free _ rfl rfl ?_
      conv => arg 2; whnf
      have e12 : A'.tmps[12]?.getD undef = .pointer (some ⟨gt, 0, none⟩) := slot_out hA hap (Nat.lt_of_lt_of_eq (Nat.le_of_ble_eq_true rfl : 12 < 193) hsz.symm) (by kernel_rfl) o12
      clear hA hd hu o3 o7 o12 o13
      have c0 : W.cell? ⟨gt, 0, none⟩ = some (.int .i64 ((t : Nat) : Int)) := (hbt.kp hW (by simp)).cell 0
      go_step
      exact hK _ _ (Kp.refl _ _) rfl
    · intro vs A' W hA hW hd hu K hK
      refine wpOp_free _ rfl rfl ?_
      conv => arg 2; whnf
      have f0 : vs 0 = .int .i64 ((t : Nat) : Int) := hd 0 (by kernel_rfl)
      have e168 : A'.tmps[168]?.getD undef = vs 0 := slot_in hA hap (Nat.lt_of_lt_of_eq (Nat.le_of_ble_eq_true rfl : 168 < 193) hsz.symm) (by kernel_rfl)
      rw [f0] at e168
      clear hA hd hu o3 o7 o12 o13
      go_step
      exact hK _ _ (Kp.refl _ _) (by first | rfl | exact congrArg Value.bool (by have h9 := hx.out; simp; omega))
    · intro vs A' W hA hW hd hu K hK
      refine wpOp_free _ rfl rfl ?_
      conv => arg 2; whnf
      have f1 : vs 1 = .bool false := hd 1 (by kernel_rfl)
      have e169 : A'.tmps[169]?.getD undef = vs 1 := slot_in hA hap (Nat.lt_of_lt_of_eq (Nat.le_of_ble_eq_true rfl : 169 < 193) hsz.symm) (by kernel_rfl)
      rw [f1] at e169
      clear hA hd hu o3 o7 o12 o13
      go_step
      exact hK _ _ (Kp.refl _ _) rfl
    · intro vs A' W hA hW hd hu K hK
      have f2 : vs 2 = .bool false := hd 2 (by kernel_rfl)
      have e170 : A'.tmps[170]?.getD undef = vs 2 := slot_in hA hap (Nat.lt_of_lt_of_eq (Nat.le_of_ble_eq_true rfl : 170 < 193) hsz.symm) (by kernel_rfl)
      rw [f2] at e170
      refine wpOp_skip _ rfl 2 170 true rfl rfl e170 ?_
      exact hK _ _ (Kp.refl _ _) trivial
    · intro vs A' W hA hW hd hu K hK
      have f2 : vs 2 = .bool false := hd 2 (by kernel_rfl)
      have e170 : A'.tmps[170]?.getD undef = vs 2 := slot_in hA hap (Nat.lt_of_lt_of_eq (Nat.le_of_ble_eq_true rfl : 170 < 193) hsz.symm) (by kernel_rfl)
      rw [f2] at e170
      refine wpOp_skip _ rfl 2 170 true rfl rfl e170 ?_
      exact hK _ _ (Kp.refl _ _) trivial
    · intro vs A' W hA hW hd hu K hK
      have f2 : vs 2 = .bool false := hd 2 (by kernel_rfl)
      have e170 : A'.tmps[170]?.getD undef = vs 2 := slot_in hA hap (Nat.lt_of_lt_of_eq (Nat.le_of_ble_eq_true rfl : 170 < 193) hsz.symm) (by kernel_rfl)
      rw [f2] at e170
      refine wpOp_skip _ rfl 2 170 true rfl rfl e170 ?_
      exact hK _ _ (Kp.refl _ _) trivial
    · intro vs A' W hA hW hd hu K hK
      have f2 : vs 2 = .bool false := hd 2 (by kernel_rfl)
      have e170 : A'.tmps[170]?.getD undef = vs 2 := slot_in hA hap (Nat.lt_of_lt_of_eq (Nat.le_of_ble_eq_true rfl : 170 < 193) hsz.symm) (by kernel_rfl)
      rw [f2] at e170
      refine wpOp_skip _ rfl 2 170 true rfl rfl e170 ?_
      exact hK _ _ (Kp.refl _ _) trivial
    · intro vs A' W hA hW hd hu K hK
      refine wpOp_free _ rfl rfl ?_
      conv => arg 2; whnf
      have f2 : vs 2 = .bool false := hd 2 (by kernel_rfl)
      have e170 : A'.tmps[170]?.getD undef = vs 2 := slot_in hA hap (Nat.lt_of_lt_of_eq (Nat.le_of_ble_eq_true rfl : 170 < 193) hsz.symm) (by kernel_rfl)
      rw [f2] at e170
      have e174 : A'.tmps[174]?.getD undef = vs 6 := slot_in hA hap (Nat.lt_of_lt_of_eq (Nat.le_of_ble_eq_true rfl : 174 < 193) hsz.symm) (by kernel_rfl)
      clear hA hd hu o3 o7 o12 o13
      go_step
      exact hK _ _ (Kp.refl _ _) rfl
    · intro vs A' W hA hW hd hu K hK
      refine wpOp_free _ rfl rfl ?_
      conv => arg 2; whnf
      have f7 : vs 7 = .bool false := hd 7 (by kernel_rfl)
      have e175 : A'.tmps[175]?.getD undef = vs 7 := slot_in hA hap (Nat.lt_of_lt_of_eq (Nat.le_of_ble_eq_true rfl : 175 < 193) hsz.symm) (by kernel_rfl)
      rw [f7] at e175
      clear hA hd hu o3 o7 o12 o13
      go_step
      exact hK _ _ (Kp.refl _ _) rfl
    · intro vs A' W hA hW hd hu K hK
      have f8 : vs 8 = .bool false := hd 8 (by kernel_rfl)
      have e176 : A'.tmps[176]?.getD undef = vs 8 := slot_in hA hap (Nat.lt_of_lt_of_eq (Nat.le_of_ble_eq_true rfl : 176 < 193) hsz.symm) (by kernel_rfl)
      rw [f8] at e176
      refine wpOp_go _ rfl 8 176 false rfl rfl e176 ?_
      conv => arg 2; whnf
      have e12 : A'.tmps[12]?.getD undef = .pointer (some ⟨gt, 0, none⟩) := slot_out hA hap (Nat.lt_of_lt_of_eq (Nat.le_of_ble_eq_true rfl : 12 < 193) hsz.symm) (by kernel_rfl) o12
      clear hA hd hu o3 o7 o12 o13
      have c0 : W.cell? ⟨gt, 0, none⟩ = some (.int .i64 ((t : Nat) : Int)) := (hbt.kp hW (by simp)).cell 0
      go_step
      exact hK _ _ (Kp.refl _ _) rfl
    · intro vs A' W hA hW hd hu K hK
      have f8 : vs 8 = .bool false := hd 8 (by kernel_rfl)
      have e176 : A'.tmps[176]?.getD undef = vs 8 := slot_in hA hap (Nat.lt_of_lt_of_eq (Nat.le_of_ble_eq_true rfl : 176 < 193) hsz.symm) (by kernel_rfl)
      rw [f8] at e176
      refine wpOp_go _ rfl 8 176 false rfl rfl e176 ?_
      conv => arg 2; whnf
      have f9 : vs 9 = .int .i64 ((t : Nat) : Int) := hd 9 (by kernel_rfl)
      have e177 : A'.tmps[177]?.getD undef = vs 9 := slot_in hA hap (Nat.lt_of_lt_of_eq (Nat.le_of_ble_eq_true rfl : 177 < 193) hsz.symm) (by kernel_rfl)
      rw [f9] at e177
      clear hA hd hu o3 o7 o12 o13
      go_step
      exact hK _ _ (Kp.refl _ _) (by first | rfl | exact congrArg Value.bool (by have h9 := hx.out; simp; omega))
    · intro vs A' W hA hW hd hu K hK
      have f8 : vs 8 = .bool false := hd 8 (by kernel_rfl)
      have e176 : A'.tmps[176]?.getD undef = vs 8 := slot_in hA hap (Nat.lt_of_lt_of_eq (Nat.le_of_ble_eq_true rfl : 176 < 193) hsz.symm) (by kernel_rfl)
      rw [f8] at e176
      refine wpOp_go _ rfl 8 176 false rfl rfl e176 ?_
      conv => arg 2; whnf
      have f10 : vs 10 = .bool true := hd 10 (by kernel_rfl)
      have e178 : A'.tmps[178]?.getD undef = vs 10 := slot_in hA hap (Nat.lt_of_lt_of_eq (Nat.le_of_ble_eq_true rfl : 178 < 193) hsz.symm) (by kernel_rfl)
      rw [f10] at e178
      clear hA hd hu o3 o7 o12 o13
      go_step
      exact hK _ _ (Kp.refl _ _) rfl
    · intro vs A' W hA hW hd hu K hK
      have f11 : vs 11 = .bool true := hd 11 (by kernel_rfl)
      have e179 : A'.tmps[179]?.getD undef = vs 11 := slot_in hA hap (Nat.lt_of_lt_of_eq (Nat.le_of_ble_eq_true rfl : 179 < 193) hsz.symm) (by kernel_rfl)
      rw [f11] at e179
      refine wpOp_go _ rfl 11 179 true rfl rfl e179 ?_
      conv => arg 2; whnf
      have e13 : A'.tmps[13]?.getD undef = .pointer (some ⟨gk, 0, none⟩) := slot_out hA hap (Nat.lt_of_lt_of_eq (Nat.le_of_ble_eq_true rfl : 13 < 193) hsz.symm) (by kernel_rfl) o13
      clear hA hd hu o3 o7 o12 o13
      have c0 : W.cell? ⟨gk, 0, none⟩ = some (.int .i64 ((k : Nat) : Int)) := (hbk.kp hW (by simp)).cell 0
      go_step
      exact hK _ _ (Kp.refl _ _) rfl
    · intro vs A' W hA hW hd hu K hK
      have f11 : vs 11 = .bool true := hd 11 (by kernel_rfl)
      have e179 : A'.tmps[179]?.getD undef = vs 11 := slot_in hA hap (Nat.lt_of_lt_of_eq (Nat.le_of_ble_eq_true rfl : 179 < 193) hsz.symm) (by kernel_rfl)
      rw [f11] at e179
      refine wpOp_go _ rfl 11 179 true rfl rfl e179 ?_
      conv => arg 2; whnf
      have e7 : A'.tmps[7]?.getD undef = .pointer (some ⟨gw, 0, none⟩) := slot_out hA hap (Nat.lt_of_lt_of_eq (Nat.le_of_ble_eq_true rfl : 7 < 193) hsz.symm) (by kernel_rfl) o7
      clear hA hd hu o3 o7 o12 o13
      have c0 : W.cell? ⟨gw, 0, none⟩ = some (.slice Aw n cw) := (hbw.kp hW (by simp)).cell 0
      go_step
      exact hK _ _ (Kp.refl _ _) rfl
    · intro vs A' W hA hW hd hu K hK
      have f11 : vs 11 = .bool true := hd 11 (by kernel_rfl)
      have e179 : A'.tmps[179]?.getD undef = vs 11 := slot_in hA hap (Nat.lt_of_lt_of_eq (Nat.le_of_ble_eq_true rfl : 179 < 193) hsz.symm) (by kernel_rfl)
      rw [f11] at e179
      refine wpOp_go _ rfl 11 179 true rfl rfl e179 ?_
      conv => arg 2; whnf
      have f13 : vs 13 = .slice Aw n cw := hd 13 (by kernel_rfl)
      have e181 : A'.tmps[181]?.getD undef = vs 13 := slot_in hA hap (Nat.lt_of_lt_of_eq (Nat.le_of_ble_eq_true rfl : 181 < 193) hsz.symm) (by kernel_rfl)
      rw [f13] at e181
      clear hA hd hu o3 o7 o12 o13
      go_step
      exact hK _ _ (Kp.refl _ _) rfl
    · intro vs A' W hA hW hd hu K hK
      have f11 : vs 11 = .bool true := hd 11 (by kernel_rfl)
      have e179 : A'.tmps[179]?.getD undef = vs 11 := slot_in hA hap (Nat.lt_of_lt_of_eq (Nat.le_of_ble_eq_true rfl : 179 < 193) hsz.symm) (by kernel_rfl)
      rw [f11] at e179
      refine wpOp_go _ rfl 11 179 true rfl rfl e179 ?_
      conv => arg 2; whnf
      have f12 : vs 12 = .int .i64 ((k : Nat) : Int) := hd 12 (by kernel_rfl)
      have e180 : A'.tmps[180]?.getD undef = vs 12 := slot_in hA hap (Nat.lt_of_lt_of_eq (Nat.le_of_ble_eq_true rfl : 180 < 193) hsz.symm) (by kernel_rfl)
      rw [f12] at e180
      have f14 : vs 14 = .int .i64 ((n : Nat) : Int) := hd 14 (by kernel_rfl)
      have e182 : A'.tmps[182]?.getD undef = vs 14 := slot_in hA hap (Nat.lt_of_lt_of_eq (Nat.le_of_ble_eq_true rfl : 182 < 193) hsz.symm) (by kernel_rfl)
      rw [f14] at e182
      clear hA hd hu o3 o7 o12 o13
      go_step
      exact hK _ _ (Kp.refl _ _) (by first | rfl | exact congrArg Value.bool (by have h9 := hx.out; simp; omega))
    · intro vs A' W hA hW hd hu K hK
      have f8 : vs 8 = .bool false := hd 8 (by kernel_rfl)
      have e176 : A'.tmps[176]?.getD undef = vs 8 := slot_in hA hap (Nat.lt_of_lt_of_eq (Nat.le_of_ble_eq_true rfl : 176 < 193) hsz.symm) (by kernel_rfl)
      rw [f8] at e176
      refine wpOp_go _ rfl 8 176 false rfl rfl e176 ?_
      conv => arg 2; whnf
      have f11 : vs 11 = .bool true := hd 11 (by kernel_rfl)
      have e179 : A'.tmps[179]?.getD undef = vs 11 := slot_in hA hap (Nat.lt_of_lt_of_eq (Nat.le_of_ble_eq_true rfl : 179 < 193) hsz.symm) (by kernel_rfl)
      rw [f11] at e179
      have f15 : vs 15 = .bool false := hd 15 (by kernel_rfl)
      have e183 : A'.tmps[183]?.getD undef = vs 15 := slot_in hA hap (Nat.lt_of_lt_of_eq (Nat.le_of_ble_eq_true rfl : 183 < 193) hsz.symm) (by kernel_rfl)
      rw [f15] at e183
      clear hA hd hu o3 o7 o12 o13
      go_step
      exact hK _ _ (Kp.refl _ _) rfl
    · intro vs A' W hA hW hd hu K hK
      have f8 : vs 8 = .bool false := hd 8 (by kernel_rfl)
      have e176 : A'.tmps[176]?.getD undef = vs 8 := slot_in hA hap (Nat.lt_of_lt_of_eq (Nat.le_of_ble_eq_true rfl : 176 < 193) hsz.symm) (by kernel_rfl)
      rw [f8] at e176
      refine wpOp_go _ rfl 8 176 false rfl rfl e176 ?_
      conv => arg 2; whnf
      have f16 : vs 16 = .bool false := hd 16 (by kernel_rfl)
      have e184 : A'.tmps[184]?.getD undef = vs 16 := slot_in hA hap (Nat.lt_of_lt_of_eq (Nat.le_of_ble_eq_true rfl : 184 < 193) hsz.symm) (by kernel_rfl)
      rw [f16] at e184
      clear hA hd hu o3 o7 o12 o13
      go_step
      exact hK _ _ (Kp.refl _ _) rfl
    · intro vs A' W hA hW hd hu K hK
      have f17 : vs 17 = .bool false := hd 17 (by kernel_rfl)
      have e185 : A'.tmps[185]?.getD undef = vs 17 := slot_in hA hap (Nat.lt_of_lt_of_eq (Nat.le_of_ble_eq_true rfl : 185 < 193) hsz.symm) (by kernel_rfl)
      rw [f17] at e185
      refine wpOp_skip _ rfl 17 185 true rfl rfl e185 ?_
      exact hK _ _ (Kp.refl _ _) trivial
    · intro vs A' W hA hW hd hu K hK
      have f17 : vs 17 = .bool false := hd 17 (by kernel_rfl)
      have e185 : A'.tmps[185]?.getD undef = vs 17 := slot_in hA hap (Nat.lt_of_lt_of_eq (Nat.le_of_ble_eq_true rfl : 185 < 193) hsz.symm) (by kernel_rfl)
      rw [f17] at e185
      refine wpOp_skip _ rfl 17 185 true rfl rfl e185 ?_
      exact hK _ _ (Kp.refl _ _) trivial
    · intro vs A' W hA hW hd hu K hK
      have f17 : vs 17 = .bool false := hd 17 (by kernel_rfl)
      have e185 : A'.tmps[185]?.getD undef = vs 17 := slot_in hA hap (Nat.lt_of_lt_of_eq (Nat.le_of_ble_eq_true rfl : 185 < 193) hsz.symm) (by kernel_rfl)
      rw [f17] at e185
      refine wpOp_skip _ rfl 17 185 true rfl rfl e185 ?_
      exact hK _ _ (Kp.refl _ _) trivial
    · intro vs A' W hA hW hd hu K hK
      have f8 : vs 8 = .bool false := hd 8 (by kernel_rfl)
      have e176 : A'.tmps[176]?.getD undef = vs 8 := slot_in hA hap (Nat.lt_of_lt_of_eq (Nat.le_of_ble_eq_true rfl : 176 < 193) hsz.symm) (by kernel_rfl)
      rw [f8] at e176
      refine wpOp_go _ rfl 8 176 false rfl rfl e176 ?_
      conv => arg 2; whnf
      have f17 : vs 17 = .bool false := hd 17 (by kernel_rfl)
      have e185 : A'.tmps[185]?.getD undef = vs 17 := slot_in hA hap (Nat.lt_of_lt_of_eq (Nat.le_of_ble_eq_true rfl : 185 < 193) hsz.symm) (by kernel_rfl)
      rw [f17] at e185
      have e188 : A'.tmps[188]?.getD undef = vs 20 := slot_in hA hap (Nat.lt_of_lt_of_eq (Nat.le_of_ble_eq_true rfl : 188 < 193) hsz.symm) (by kernel_rfl)
      clear hA hd hu o3 o7 o12 o13
      go_step
      exact hK _ _ (Kp.refl _ _) rfl
    · intro vs A' W hA hW hd hu K hK
      refine wpOp_free _ rfl rfl ?_
      conv => arg 2; whnf
      have f8 : vs 8 = .bool false := hd 8 (by kernel_rfl)
      have e176 : A'.tmps[176]?.getD undef = vs 8 := slot_in hA hap (Nat.lt_of_lt_of_eq (Nat.le_of_ble_eq_true rfl : 176 < 193) hsz.symm) (by kernel_rfl)
      rw [f8] at e176
      have f21 : vs 21 = .bool false := hd 21 (by kernel_rfl)
      have e189 : A'.tmps[189]?.getD undef = vs 21 := slot_in hA hap (Nat.lt_of_lt_of_eq (Nat.le_of_ble_eq_true rfl : 189 < 193) hsz.symm) (by kernel_rfl)
      rw [f21] at e189
      clear hA hd hu o3 o7 o12 o13
      go_step
      exact hK _ _ (Kp.refl _ _) rfl
  · intro vs W hW hp
    rw [show putAll vs (opsOf 42 Try.f7) 0 a = putD [(168, vs 0), (169, vs 1), (170, vs 2), (171, vs 3), (172, vs 4), (173, vs 5), (174, vs 6), (175, vs 7), (176, vs 8), (177, vs 9), (178, vs 10), (179, vs 11), (180, vs 12), (181, vs 13), (182, vs 14), (183, vs 15), (184, vs 16), (185, vs 17), (186, vs 18), (187, vs 19), (188, vs 20), (189, vs 21), (190, vs 22)] a from by kernel_rfl]
    exact hend _ W (same_putD _ a) hW (sl_putD _ a 190 _ (by rw [show vs 22 = _ from hp 22 (Nat.le_of_ble_eq_true (by kernel_rfl))]; kernel_rfl))
-- END ecc42B
-- REG ecc42C
set_option maxRecDepth 100000 in
set_option maxHeartbeats 2000000 in
theorem ecc_r42C {Q : Exit → Act → World → Prop} {a : Act} {w : World} (gt gk gl t k : Nat) (lv : Int) (hbt : Blk w gt 3 #[.int .i64 ((t : Nat) : Int)]) (hbk : Blk w gk 3 #[.int .i64 ((k : Nat) : Int)]) (hbl : Blk w gl 3 #[.int .i64 lv]) (gw n cw : Nat) (Aw : Option Addr) (hbw : Blk w gw 22 #[.slice Aw n cw]) (hx : Hid (t = 0 ∧ k ≠ n ∧ (k : Int) = lv)) (hsz : a.tmps.size = 193) (o3 : Sl a 3 (.pointer (some ⟨gl, 0, none⟩))) (o7 : Sl a 7 (.pointer (some ⟨gw, 0, none⟩))) (o12 : Sl a 12 (.pointer (some ⟨gt, 0, none⟩))) (o13 : Sl a 13 (.pointer (some ⟨gk, 0, none⟩)))
    (hend : ∀ (a' : Act) (W : World), Same a a' [168, 169, 170, 171, 172, 173, 174, 175, 176, 177, 178, 179, 180, 181, 182, 183, 184, 185, 186, 187, 188, 189, 190] → Kp [] w W → Sl a' 190 (.bool false) → Q .normal a' W) : (Code.region 42 (opsOf 42 Try.f7).toArray false).wp Try.prog Q a w := by
  have hap : apartB (opsOf 42 Try.f7) = true := by kernel_rfl
  refine wp_region_invS (l := (opsOf 42 Try.f7)) (fun i v W => match i with | 0 => v = .int .i64 ((t : Nat) : Int) | 1 => v = .bool false | 2 => v = .bool false | 7 => v = .bool false | 8 => v = .bool false | 9 => v = .int .i64 ((t : Nat) : Int) | 10 => v = .bool true | 11 => v = .bool true | 12 => v = .int .i64 ((k : Nat) : Int) | 13 => v = .slice Aw n cw | 14 => v = .int .i64 ((n : Nat) : Int) | 15 => v = .bool true | 16 => v = .bool true | 17 => v = .bool true | 18 => v = .int .i64 ((k : Nat) : Int) | 19 => v = .int .i64 lv | 20 => v = .bool false | 21 => v = .bool false | 22 => v = .bool false | _ => True) hap ?_ ?_ ?_
  · intro i v W W' h _
    iterate 23 (rcases i with _ | i; · exact h)
    exact h
  · refine ⟨?_, ?_, ?_, ?_, ?_, ?_, ?_, ?_, ?_, ?_, ?_, ?_, ?_, ?_, ?_, ?_, ?_, ?_, ?_, ?_, ?_, ?_, ?_, trivial⟩
    · intro vs A' W hA hW hd hu K hK
      refine wpOp_free _ rfl rfl ?_
      conv => arg 2; whnf
      have e12 : A'.tmps[12]?.getD undef = .pointer (some ⟨gt, 0, none⟩) := slot_out hA hap (Nat.lt_of_lt_of_eq (Nat.le_of_ble_eq_true rfl : 12 < 193) hsz.symm) (by kernel_rfl) o12
      clear hA hd hu o3 o7 o12 o13
      have c0 : W.cell? ⟨gt, 0, none⟩ = some (.int .i64 ((t : Nat) : Int)) := (hbt.kp hW (by simp)).cell 0
      go_step
      exact hK _ _ (Kp.refl _ _) rfl
    · intro vs A' W hA hW hd hu K hK
      refine wpOp_free _ rfl rfl ?_
      conv => arg 2; whnf
      have f0 : vs 0 = .int .i64 ((t : Nat) : Int) := hd 0 (by kernel_rfl)
      have e168 : A'.tmps[168]?.getD undef = vs 0 := slot_in hA hap (Nat.lt_of_lt_of_eq (Nat.le_of_ble_eq_true rfl : 168 < 193) hsz.symm) (by kernel_rfl)
      rw [f0] at e168
      clear hA hd hu o3 o7 o12 o13
      go_step
      exact hK _ _ (Kp.refl _ _) (by first | rfl | exact congrArg Value.bool (by have h9 := hx.out; simp; omega))
    · intro vs A' W hA hW hd hu K hK
      refine wpOp_free _ rfl rfl ?_
      conv => arg 2; whnf
      have f1 : vs 1 = .bool false := hd 1 (by kernel_rfl)
      have e169 : A'.tmps[169]?.getD undef = vs 1 := slot_in hA hap (Nat.lt_of_lt_of_eq (Nat.le_of_ble_eq_true rfl : 169 < 193) hsz.symm) (by kernel_rfl)
      rw [f1] at e169
      clear hA hd hu o3 o7 o12 o13
      go_step
      exact hK _ _ (Kp.refl _ _) rfl
    · intro vs A' W hA hW hd hu K hK
      have f2 : vs 2 = .bool false := hd 2 (by kernel_rfl)
      have e170 : A'.tmps[170]?.getD undef = vs 2 := slot_in hA hap (Nat.lt_of_lt_of_eq (Nat.le_of_ble_eq_true rfl : 170 < 193) hsz.symm) (by kernel_rfl)
      rw [f2] at e170
      refine wpOp_skip _ rfl 2 170 true rfl rfl e170 ?_
      exact hK _ _ (Kp.refl _ _) trivial
    · intro vs A' W hA hW hd hu K hK
      have f2 : vs 2 = .bool false := hd 2 (by kernel_rfl)
      have e170 : A'.tmps[170]?.getD undef = vs 2 := slot_in hA hap (Nat.lt_of_lt_of_eq (Nat.le_of_ble_eq_true rfl : 170 < 193) hsz.symm) (by kernel_rfl)
      rw [f2] at e170
      refine wpOp_skip _ rfl 2 170 true rfl rfl e170 ?_
      exact hK _ _ (Kp.refl _ _) trivial
    · intro vs A' W hA hW hd hu K hK
      have f2 : vs 2 = .bool false := hd 2 (by kernel_rfl)
      have e170 : A'.tmps[170]?.getD undef = vs 2 := slot_in hA hap (Nat.lt_of_lt_of_eq (Nat.le_of_ble_eq_true rfl : 170 < 193) hsz.symm) (by kernel_rfl)
      rw [f2] at e170
      refine wpOp_skip _ rfl 2 170 true rfl rfl e170 ?_
      exact hK _ _ (Kp.refl _ _) trivial
    · intro vs A' W hA hW hd hu K hK
      have f2 : vs 2 = .bool false := hd 2 (by kernel_rfl)
      have e170 : A'.tmps[170]?.getD undef = vs 2 := slot_in hA hap (Nat.lt_of_lt_of_eq (Nat.le_of_ble_eq_true rfl : 170 < 193) hsz.symm) (by kernel_rfl)
      rw [f2] at e170
      refine wpOp_skip _ rfl 2 170 true rfl rfl e170 ?_
      exact hK _ _ (Kp.refl _ _) trivial
    · intro vs A' W hA hW hd hu K hK
      refine wpOp_free _ rfl rfl ?_
      conv => arg 2; whnf
      have f2 : vs 2 = .bool false := hd 2 (by kernel_rfl)
      have e170 : A'.tmps[170]?.getD undef = vs 2 := slot_in hA hap (Nat.lt_of_lt_of_eq (Nat.le_of_ble_eq_true rfl : 170 < 193) hsz.symm) (by kernel_rfl)
      rw [f2] at e170
      have e174 : A'.tmps[174]?.getD undef = vs 6 := slot_in hA hap (Nat.lt_of_lt_of_eq (Nat.le_of_ble_eq_true rfl : 174 < 193) hsz.symm) (by kernel_rfl)
      clear hA hd hu o3 o7 o12 o13
      go_step
      exact hK _ _ (Kp.refl _ _) rfl
    · intro vs A' W hA hW hd hu K hK
      refine wpOp_free _ rfl rfl ?_
      conv => arg 2; whnf
      have f7 : vs 7 = .bool false := hd 7 (by kernel_rfl)
      have e175 : A'.tmps[175]?.getD undef = vs 7 := slot_in hA hap (Nat.lt_of_lt_of_eq (Nat.le_of_ble_eq_true rfl : 175 < 193) hsz.symm) (by kernel_rfl)
      rw [f7] at e175
      clear hA hd hu o3 o7 o12 o13
      go_step
      exact hK _ _ (Kp.refl _ _) rfl
    · intro vs A' W hA hW hd hu K hK
      have f8 : vs 8 = .bool false := hd 8 (by kernel_rfl)
      have e176 : A'.tmps[176]?.getD undef = vs 8 := slot_in hA hap (Nat.lt_of_lt_of_eq (Nat.le_of_ble_eq_true rfl : 176 < 193) hsz.symm) (by kernel_rfl)
      rw [f8] at e176
      refine wpOp_go _ rfl 8 176 false rfl rfl e176 ?_
      conv => arg 2; whnf
      have e12 : A'.tmps[12]?.getD undef = .pointer (some ⟨gt, 0, none⟩) := slot_out hA hap (Nat.lt_of_lt_of_eq (Nat.le_of_ble_eq_true rfl : 12 < 193) hsz.symm) (by kernel_rfl) o12
      clear hA hd hu o3 o7 o12 o13
      have c0 : W.cell? ⟨gt, 0, none⟩ = some (.int .i64 ((t : Nat) : Int)) := (hbt.kp hW (by simp)).cell 0
      go_step
      exact hK _ _ (Kp.refl _ _) rfl
    · intro vs A' W hA hW hd hu K hK
      have f8 : vs 8 = .bool false := hd 8 (by kernel_rfl)
      have e176 : A'.tmps[176]?.getD undef = vs 8 := slot_in hA hap (Nat.lt_of_lt_of_eq (Nat.le_of_ble_eq_true rfl : 176 < 193) hsz.symm) (by kernel_rfl)
      rw [f8] at e176
      refine wpOp_go _ rfl 8 176 false rfl rfl e176 ?_
      conv => arg 2; whnf
      have f9 : vs 9 = .int .i64 ((t : Nat) : Int) := hd 9 (by kernel_rfl)
      have e177 : A'.tmps[177]?.getD undef = vs 9 := slot_in hA hap (Nat.lt_of_lt_of_eq (Nat.le_of_ble_eq_true rfl : 177 < 193) hsz.symm) (by kernel_rfl)
      rw [f9] at e177
      clear hA hd hu o3 o7 o12 o13
      go_step
      exact hK _ _ (Kp.refl _ _) (by first | rfl | exact congrArg Value.bool (by have h9 := hx.out; simp; omega))
    · intro vs A' W hA hW hd hu K hK
      have f8 : vs 8 = .bool false := hd 8 (by kernel_rfl)
      have e176 : A'.tmps[176]?.getD undef = vs 8 := slot_in hA hap (Nat.lt_of_lt_of_eq (Nat.le_of_ble_eq_true rfl : 176 < 193) hsz.symm) (by kernel_rfl)
      rw [f8] at e176
      refine wpOp_go _ rfl 8 176 false rfl rfl e176 ?_
      conv => arg 2; whnf
      have f10 : vs 10 = .bool true := hd 10 (by kernel_rfl)
      have e178 : A'.tmps[178]?.getD undef = vs 10 := slot_in hA hap (Nat.lt_of_lt_of_eq (Nat.le_of_ble_eq_true rfl : 178 < 193) hsz.symm) (by kernel_rfl)
      rw [f10] at e178
      clear hA hd hu o3 o7 o12 o13
      go_step
      exact hK _ _ (Kp.refl _ _) rfl
    · intro vs A' W hA hW hd hu K hK
      have f11 : vs 11 = .bool true := hd 11 (by kernel_rfl)
      have e179 : A'.tmps[179]?.getD undef = vs 11 := slot_in hA hap (Nat.lt_of_lt_of_eq (Nat.le_of_ble_eq_true rfl : 179 < 193) hsz.symm) (by kernel_rfl)
      rw [f11] at e179
      refine wpOp_go _ rfl 11 179 true rfl rfl e179 ?_
      conv => arg 2; whnf
      have e13 : A'.tmps[13]?.getD undef = .pointer (some ⟨gk, 0, none⟩) := slot_out hA hap (Nat.lt_of_lt_of_eq (Nat.le_of_ble_eq_true rfl : 13 < 193) hsz.symm) (by kernel_rfl) o13
      clear hA hd hu o3 o7 o12 o13
      have c0 : W.cell? ⟨gk, 0, none⟩ = some (.int .i64 ((k : Nat) : Int)) := (hbk.kp hW (by simp)).cell 0
      go_step
      exact hK _ _ (Kp.refl _ _) rfl
    · intro vs A' W hA hW hd hu K hK
      have f11 : vs 11 = .bool true := hd 11 (by kernel_rfl)
      have e179 : A'.tmps[179]?.getD undef = vs 11 := slot_in hA hap (Nat.lt_of_lt_of_eq (Nat.le_of_ble_eq_true rfl : 179 < 193) hsz.symm) (by kernel_rfl)
      rw [f11] at e179
      refine wpOp_go _ rfl 11 179 true rfl rfl e179 ?_
      conv => arg 2; whnf
      have e7 : A'.tmps[7]?.getD undef = .pointer (some ⟨gw, 0, none⟩) := slot_out hA hap (Nat.lt_of_lt_of_eq (Nat.le_of_ble_eq_true rfl : 7 < 193) hsz.symm) (by kernel_rfl) o7
      clear hA hd hu o3 o7 o12 o13
      have c0 : W.cell? ⟨gw, 0, none⟩ = some (.slice Aw n cw) := (hbw.kp hW (by simp)).cell 0
      go_step
      exact hK _ _ (Kp.refl _ _) rfl
    · intro vs A' W hA hW hd hu K hK
      have f11 : vs 11 = .bool true := hd 11 (by kernel_rfl)
      have e179 : A'.tmps[179]?.getD undef = vs 11 := slot_in hA hap (Nat.lt_of_lt_of_eq (Nat.le_of_ble_eq_true rfl : 179 < 193) hsz.symm) (by kernel_rfl)
      rw [f11] at e179
      refine wpOp_go _ rfl 11 179 true rfl rfl e179 ?_
      conv => arg 2; whnf
      have f13 : vs 13 = .slice Aw n cw := hd 13 (by kernel_rfl)
      have e181 : A'.tmps[181]?.getD undef = vs 13 := slot_in hA hap (Nat.lt_of_lt_of_eq (Nat.le_of_ble_eq_true rfl : 181 < 193) hsz.symm) (by kernel_rfl)
      rw [f13] at e181
      clear hA hd hu o3 o7 o12 o13
      go_step
      exact hK _ _ (Kp.refl _ _) rfl
    · intro vs A' W hA hW hd hu K hK
      have f11 : vs 11 = .bool true := hd 11 (by kernel_rfl)
      have e179 : A'.tmps[179]?.getD undef = vs 11 := slot_in hA hap (Nat.lt_of_lt_of_eq (Nat.le_of_ble_eq_true rfl : 179 < 193) hsz.symm) (by kernel_rfl)
      rw [f11] at e179
      refine wpOp_go _ rfl 11 179 true rfl rfl e179 ?_
      conv => arg 2; whnf
      have f12 : vs 12 = .int .i64 ((k : Nat) : Int) := hd 12 (by kernel_rfl)
      have e180 : A'.tmps[180]?.getD undef = vs 12 := slot_in hA hap (Nat.lt_of_lt_of_eq (Nat.le_of_ble_eq_true rfl : 180 < 193) hsz.symm) (by kernel_rfl)
      rw [f12] at e180
      have f14 : vs 14 = .int .i64 ((n : Nat) : Int) := hd 14 (by kernel_rfl)
      have e182 : A'.tmps[182]?.getD undef = vs 14 := slot_in hA hap (Nat.lt_of_lt_of_eq (Nat.le_of_ble_eq_true rfl : 182 < 193) hsz.symm) (by kernel_rfl)
      rw [f14] at e182
      clear hA hd hu o3 o7 o12 o13
      go_step
      exact hK _ _ (Kp.refl _ _) (by first | rfl | exact congrArg Value.bool (by have h9 := hx.out; simp; omega))
    · intro vs A' W hA hW hd hu K hK
      have f8 : vs 8 = .bool false := hd 8 (by kernel_rfl)
      have e176 : A'.tmps[176]?.getD undef = vs 8 := slot_in hA hap (Nat.lt_of_lt_of_eq (Nat.le_of_ble_eq_true rfl : 176 < 193) hsz.symm) (by kernel_rfl)
      rw [f8] at e176
      refine wpOp_go _ rfl 8 176 false rfl rfl e176 ?_
      conv => arg 2; whnf
      have f11 : vs 11 = .bool true := hd 11 (by kernel_rfl)
      have e179 : A'.tmps[179]?.getD undef = vs 11 := slot_in hA hap (Nat.lt_of_lt_of_eq (Nat.le_of_ble_eq_true rfl : 179 < 193) hsz.symm) (by kernel_rfl)
      rw [f11] at e179
      have f15 : vs 15 = .bool true := hd 15 (by kernel_rfl)
      have e183 : A'.tmps[183]?.getD undef = vs 15 := slot_in hA hap (Nat.lt_of_lt_of_eq (Nat.le_of_ble_eq_true rfl : 183 < 193) hsz.symm) (by kernel_rfl)
      rw [f15] at e183
      clear hA hd hu o3 o7 o12 o13
      go_step
      exact hK _ _ (Kp.refl _ _) rfl
    · intro vs A' W hA hW hd hu K hK
      have f8 : vs 8 = .bool false := hd 8 (by kernel_rfl)
      have e176 : A'.tmps[176]?.getD undef = vs 8 := slot_in hA hap (Nat.lt_of_lt_of_eq (Nat.le_of_ble_eq_true rfl : 176 < 193) hsz.symm) (by kernel_rfl)
      rw [f8] at e176
      refine wpOp_go _ rfl 8 176 false rfl rfl e176 ?_
      conv => arg 2; whnf
      have f16 : vs 16 = .bool true := hd 16 (by kernel_rfl)
      have e184 : A'.tmps[184]?.getD undef = vs 16 := slot_in hA hap (Nat.lt_of_lt_of_eq (Nat.le_of_ble_eq_true rfl : 184 < 193) hsz.symm) (by kernel_rfl)
      rw [f16] at e184
      clear hA hd hu o3 o7 o12 o13
      go_step
      exact hK _ _ (Kp.refl _ _) rfl
    · intro vs A' W hA hW hd hu K hK
      have f17 : vs 17 = .bool true := hd 17 (by kernel_rfl)
      have e185 : A'.tmps[185]?.getD undef = vs 17 := slot_in hA hap (Nat.lt_of_lt_of_eq (Nat.le_of_ble_eq_true rfl : 185 < 193) hsz.symm) (by kernel_rfl)
      rw [f17] at e185
      refine wpOp_go _ rfl 17 185 true rfl rfl e185 ?_
      conv => arg 2; whnf
      have e13 : A'.tmps[13]?.getD undef = .pointer (some ⟨gk, 0, none⟩) := slot_out hA hap (Nat.lt_of_lt_of_eq (Nat.le_of_ble_eq_true rfl : 13 < 193) hsz.symm) (by kernel_rfl) o13
      clear hA hd hu o3 o7 o12 o13
      have c0 : W.cell? ⟨gk, 0, none⟩ = some (.int .i64 ((k : Nat) : Int)) := (hbk.kp hW (by simp)).cell 0
      go_step
      exact hK _ _ (Kp.refl _ _) rfl
    · intro vs A' W hA hW hd hu K hK
      have f17 : vs 17 = .bool true := hd 17 (by kernel_rfl)
      have e185 : A'.tmps[185]?.getD undef = vs 17 := slot_in hA hap (Nat.lt_of_lt_of_eq (Nat.le_of_ble_eq_true rfl : 185 < 193) hsz.symm) (by kernel_rfl)
      rw [f17] at e185
      refine wpOp_go _ rfl 17 185 true rfl rfl e185 ?_
      conv => arg 2; whnf
      have e3 : A'.tmps[3]?.getD undef = .pointer (some ⟨gl, 0, none⟩) := slot_out hA hap (Nat.lt_of_lt_of_eq (Nat.le_of_ble_eq_true rfl : 3 < 193) hsz.symm) (by kernel_rfl) o3
      clear hA hd hu o3 o7 o12 o13
      have c0 : W.cell? ⟨gl, 0, none⟩ = some (.int .i64 lv) := (hbl.kp hW (by simp)).cell 0
      go_step
      exact hK _ _ (Kp.refl _ _) rfl
    · intro vs A' W hA hW hd hu K hK
      have f17 : vs 17 = .bool true := hd 17 (by kernel_rfl)
      have e185 : A'.tmps[185]?.getD undef = vs 17 := slot_in hA hap (Nat.lt_of_lt_of_eq (Nat.le_of_ble_eq_true rfl : 185 < 193) hsz.symm) (by kernel_rfl)
      rw [f17] at e185
      refine wpOp_go _ rfl 17 185 true rfl rfl e185 ?_
      conv => arg 2; whnf
      have f18 : vs 18 = .int .i64 ((k : Nat) : Int) := hd 18 (by kernel_rfl)
      have e186 : A'.tmps[186]?.getD undef = vs 18 := slot_in hA hap (Nat.lt_of_lt_of_eq (Nat.le_of_ble_eq_true rfl : 186 < 193) hsz.symm) (by kernel_rfl)
      rw [f18] at e186
      have f19 : vs 19 = .int .i64 lv := hd 19 (by kernel_rfl)
      have e187 : A'.tmps[187]?.getD undef = vs 19 := slot_in hA hap (Nat.lt_of_lt_of_eq (Nat.le_of_ble_eq_true rfl : 187 < 193) hsz.symm) (by kernel_rfl)
      rw [f19] at e187
      clear hA hd hu o3 o7 o12 o13
      go_step
      exact hK _ _ (Kp.refl _ _) (by first | rfl | exact congrArg Value.bool (by have h9 := hx.out; simp; omega))
    · intro vs A' W hA hW hd hu K hK
      have f8 : vs 8 = .bool false := hd 8 (by kernel_rfl)
      have e176 : A'.tmps[176]?.getD undef = vs 8 := slot_in hA hap (Nat.lt_of_lt_of_eq (Nat.le_of_ble_eq_true rfl : 176 < 193) hsz.symm) (by kernel_rfl)
      rw [f8] at e176
      refine wpOp_go _ rfl 8 176 false rfl rfl e176 ?_
      conv => arg 2; whnf
      have f17 : vs 17 = .bool true := hd 17 (by kernel_rfl)
      have e185 : A'.tmps[185]?.getD undef = vs 17 := slot_in hA hap (Nat.lt_of_lt_of_eq (Nat.le_of_ble_eq_true rfl : 185 < 193) hsz.symm) (by kernel_rfl)
      rw [f17] at e185
      have f20 : vs 20 = .bool false := hd 20 (by kernel_rfl)
      have e188 : A'.tmps[188]?.getD undef = vs 20 := slot_in hA hap (Nat.lt_of_lt_of_eq (Nat.le_of_ble_eq_true rfl : 188 < 193) hsz.symm) (by kernel_rfl)
      rw [f20] at e188
      clear hA hd hu o3 o7 o12 o13
      go_step
      exact hK _ _ (Kp.refl _ _) rfl
    · intro vs A' W hA hW hd hu K hK
      refine wpOp_free _ rfl rfl ?_
      conv => arg 2; whnf
      have f8 : vs 8 = .bool false := hd 8 (by kernel_rfl)
      have e176 : A'.tmps[176]?.getD undef = vs 8 := slot_in hA hap (Nat.lt_of_lt_of_eq (Nat.le_of_ble_eq_true rfl : 176 < 193) hsz.symm) (by kernel_rfl)
      rw [f8] at e176
      have f21 : vs 21 = .bool false := hd 21 (by kernel_rfl)
      have e189 : A'.tmps[189]?.getD undef = vs 21 := slot_in hA hap (Nat.lt_of_lt_of_eq (Nat.le_of_ble_eq_true rfl : 189 < 193) hsz.symm) (by kernel_rfl)
      rw [f21] at e189
      clear hA hd hu o3 o7 o12 o13
      go_step
      exact hK _ _ (Kp.refl _ _) rfl
  · intro vs W hW hp
    rw [show putAll vs (opsOf 42 Try.f7) 0 a = putD [(168, vs 0), (169, vs 1), (170, vs 2), (171, vs 3), (172, vs 4), (173, vs 5), (174, vs 6), (175, vs 7), (176, vs 8), (177, vs 9), (178, vs 10), (179, vs 11), (180, vs 12), (181, vs 13), (182, vs 14), (183, vs 15), (184, vs 16), (185, vs 17), (186, vs 18), (187, vs 19), (188, vs 20), (189, vs 21), (190, vs 22)] a from by kernel_rfl]
    exact hend _ W (same_putD _ a) hW (sl_putD _ a 190 _ (by rw [show vs 22 = _ from hp 22 (Nat.le_of_ble_eq_true (by kernel_rfl))]; kernel_rfl))
-- END ecc42C
end
/- Drawn regions with guards over abstract frames in a round of a range over a function. -/
section
section
variable {P : Program} {Q : Exit → Act → World → Prop}
theorem in_region_invG {rl n : Nat} {id : Nat} {a : Act} {w : World} {l : List Oper} (hp : plainB l = true) (PV : Nat → Value → World → Prop) (hm : P.follows .mixedOrders = true) (hap : apartB l = true) (hea : earlierG l 0 = true)
    (hst : ∀ i v W W', PV i v W → Kp [] W W' → PV i v W')
    (hs : InvStepsG P (Qn Q) PV w.drew (fun vs => putAll vs l 0 a) l.toArray l 0)
    (hend : ∀ vs W, Kp [] w.drew W → (∀ i, i < l.length → PV i (vs i) W) → Q .normal (putAll vs l 0 a) W) : (Code.region id l.toArray true).wpIn (Fence.wide.inRound rl) n P Q a w := by
  refine wpIn_region_any hm (any_in hp _ _ _ _ ?_)
  have h := inv_anyG (P := P) (Q := Qn Q) hst hap hea hs (fun vs W k hv => ⟨rfl, hend vs W k hv⟩) l.length (Array.replicate l.length false) (at0 a l) w.drew (by simp) (by simp) (Kp.refl _ _) (fun i hi => by
    simp [Array.getElem?_replicate] at hi
    split at hi <;> simp at hi)
  rw [putAll_at a l 0 (at0 a l) (fun j o ho => by simp [at0, ho])] at h
  simpa using h
end
end
/- EntryEach: the comparison in its third loop. -/
section
open Go.RowKit Go.Shelf
-- REG ecc34
set_option maxRecDepth 100000 in
set_option maxHeartbeats 2000000 in
theorem ecc_r34 {Q : Exit → Act → World → Prop} {a : Act} {w : World} {rl nn : Nat} (gk gw gn gy gz k n cy cz : Nat) (z : Int) (e : List UInt8) (ve vw : Value) (hbk : Blk w.drew gk 3 #[.int .i64 ((k : Nat) : Int)]) (hbw : Blk w.drew gw 22 #[.slice (some ⟨gz, 0, none⟩) n cz]) (hbn : Blk w.drew gn 57 #[.slice (some ⟨gy, 0, none⟩) n cy]) (hk : Hid (k < n)) (hcz : ∀ V, Kp [] w.drew V → V.cell? ⟨gy, k, none⟩ = some (.int .i64 z)) (hcw : ∀ V, Kp [] w.drew V → V.cell? ⟨gz, k, none⟩ = some vw) (hre : Rd w.drew 1 ve e.length (bv e)) (hrw : Rd w.drew 1 vw e.length (bv e)) (hsz : a.tmps.size = 193) (o6 : Sl a 6 (.pointer (some ⟨gn, 0, none⟩))) (o7 : Sl a 7 (.pointer (some ⟨gw, 0, none⟩))) (o13 : Sl a 13 (.pointer (some ⟨gk, 0, none⟩))) (o14 : Sl a 14 (.int .i64 z)) (o15 : Sl a 15 (ve))
    (hend : ∀ (a' : Act) (W : World), Same a a' [128, 129, 130, 131, 132, 133, 134, 135, 136, 137, 138, 139, 140, 141, 142, 143, 144, 145, 146, 147, 148, 149] → Kp [] w.drew W → Sl a' 149 (.bool false) → Q .normal a' W) : (Code.region 34 (opsOf 34 Try.f7).toArray true).wpIn (Fence.wide.inRound rl) nn Try.prog Q a w := by
  have hap : apartB (opsOf 34 Try.f7) = true := by kernel_rfl
  refine in_region_invG (l := (opsOf 34 Try.f7)) (by kernel_rfl) (fun i v W => match i with | 0 => v = .int .i64 ((k : Nat) : Int) | 1 => v = .slice (some ⟨gz, 0, none⟩) n cz | 2 => v = .int .i64 ((n : Nat) : Int) | 3 => v = .bool false | 4 => v = .bool false | 5 => v = .int .i64 z | 6 => v = .slice (some ⟨gy, 0, none⟩) n cy | 7 => v = .int .i64 ((k : Nat) : Int) | 8 => v = .pointer (some ⟨gy, k, none⟩) | 9 => v = .int .i64 z | 10 => v = .bool false | 11 => v = .bool false | 12 => v = .bool false | 13 => v = ve | 14 => v = .string ⟨e.toArray⟩ | 15 => v = .slice (some ⟨gz, 0, none⟩) n cz | 16 => v = .int .i64 ((k : Nat) : Int) | 17 => v = .pointer (some ⟨gz, k, none⟩) | 18 => v = vw | 19 => v = .string ⟨e.toArray⟩ | 20 => v = .bool false | 21 => v = .bool false | _ => True) (by kernel_rfl) hap (by kernel_rfl) ?_ ?_ ?_
  · intro i v W W' h _
    iterate 22 (rcases i with _ | i; · exact h)
    exact h
  · refine ⟨?_, ?_, ?_, ?_, ?_, ?_, ?_, ?_, ?_, ?_, ?_, ?_, ?_, ?_, ?_, ?_, ?_, ?_, ?_, ?_, ?_, ?_, trivial⟩
    · intro vs A' W hA hW hd K hK
      refine wpOp_free _ rfl rfl ?_
      conv => arg 2; whnf
      have e13 : A'.tmps[13]?.getD undef = .pointer (some ⟨gk, 0, none⟩) := slot_out hA hap (Nat.lt_of_lt_of_eq (Nat.le_of_ble_eq_true rfl : 13 < 193) hsz.symm) (by kernel_rfl) o13
      clear hA hd o6 o7 o13 o14 o15
      have c0 : W.cell? ⟨gk, 0, none⟩ = some (.int .i64 ((k : Nat) : Int)) := (hbk.kp hW (by simp)).cell 0
      go_step
      exact hK _ _ (Kp.refl _ _) rfl
    · intro vs A' W hA hW hd K hK
      refine wpOp_free _ rfl rfl ?_
      conv => arg 2; whnf
      have e7 : A'.tmps[7]?.getD undef = .pointer (some ⟨gw, 0, none⟩) := slot_out hA hap (Nat.lt_of_lt_of_eq (Nat.le_of_ble_eq_true rfl : 7 < 193) hsz.symm) (by kernel_rfl) o7
      clear hA hd o6 o7 o13 o14 o15
      have c0 : W.cell? ⟨gw, 0, none⟩ = some (.slice (some ⟨gz, 0, none⟩) n cz) := (hbw.kp hW (by simp)).cell 0
      go_step
      exact hK _ _ (Kp.refl _ _) rfl
    · intro vs A' W hA hW hd K hK
      refine wpOp_free _ rfl rfl ?_
      conv => arg 2; whnf
      have f1 : vs 1 = .slice (some ⟨gz, 0, none⟩) n cz := hd 1 (by kernel_rfl)
      have e129 : A'.tmps[129]?.getD undef = vs 1 := slot_in hA hap (Nat.lt_of_lt_of_eq (Nat.le_of_ble_eq_true rfl : 129 < 193) hsz.symm) (by kernel_rfl)
      rw [f1] at e129
      clear hA hd o6 o7 o13 o14 o15
      go_step
      exact hK _ _ (Kp.refl _ _) rfl
    · intro vs A' W hA hW hd K hK
      refine wpOp_free _ rfl rfl ?_
      conv => arg 2; whnf
      have f0 : vs 0 = .int .i64 ((k : Nat) : Int) := hd 0 (by kernel_rfl)
      have e128 : A'.tmps[128]?.getD undef = vs 0 := slot_in hA hap (Nat.lt_of_lt_of_eq (Nat.le_of_ble_eq_true rfl : 128 < 193) hsz.symm) (by kernel_rfl)
      rw [f0] at e128
      have f2 : vs 2 = .int .i64 ((n : Nat) : Int) := hd 2 (by kernel_rfl)
      have e130 : A'.tmps[130]?.getD undef = vs 2 := slot_in hA hap (Nat.lt_of_lt_of_eq (Nat.le_of_ble_eq_true rfl : 130 < 193) hsz.symm) (by kernel_rfl)
      rw [f2] at e130
      clear hA hd o6 o7 o13 o14 o15
      go_step
      exact hK _ _ (Kp.refl _ _) (by first | rfl | exact congrArg Value.bool (by have h9 := hk.out; simp; omega))
    · intro vs A' W hA hW hd K hK
      refine wpOp_free _ rfl rfl ?_
      conv => arg 2; whnf
      have f3 : vs 3 = .bool false := hd 3 (by kernel_rfl)
      have e131 : A'.tmps[131]?.getD undef = vs 3 := slot_in hA hap (Nat.lt_of_lt_of_eq (Nat.le_of_ble_eq_true rfl : 131 < 193) hsz.symm) (by kernel_rfl)
      rw [f3] at e131
      clear hA hd o6 o7 o13 o14 o15
      go_step
      exact hK _ _ (Kp.refl _ _) rfl
    · intro vs A' W hA hW hd K hK
      have f4 : vs 4 = .bool false := hd 4 (by kernel_rfl)
      have e132 : A'.tmps[132]?.getD undef = vs 4 := slot_in hA hap (Nat.lt_of_lt_of_eq (Nat.le_of_ble_eq_true rfl : 132 < 193) hsz.symm) (by kernel_rfl)
      rw [f4] at e132
      refine wpOp_go _ rfl 4 132 false rfl rfl e132 ?_
      conv => arg 2; whnf
      have e14 : A'.tmps[14]?.getD undef = .int .i64 z := slot_out hA hap (Nat.lt_of_lt_of_eq (Nat.le_of_ble_eq_true rfl : 14 < 193) hsz.symm) (by kernel_rfl) o14
      clear hA hd o6 o7 o13 o14 o15
      go_step
      exact hK _ _ (Kp.refl _ _) rfl
    · intro vs A' W hA hW hd K hK
      have f4 : vs 4 = .bool false := hd 4 (by kernel_rfl)
      have e132 : A'.tmps[132]?.getD undef = vs 4 := slot_in hA hap (Nat.lt_of_lt_of_eq (Nat.le_of_ble_eq_true rfl : 132 < 193) hsz.symm) (by kernel_rfl)
      rw [f4] at e132
      refine wpOp_go _ rfl 4 132 false rfl rfl e132 ?_
      conv => arg 2; whnf
      have e6 : A'.tmps[6]?.getD undef = .pointer (some ⟨gn, 0, none⟩) := slot_out hA hap (Nat.lt_of_lt_of_eq (Nat.le_of_ble_eq_true rfl : 6 < 193) hsz.symm) (by kernel_rfl) o6
      clear hA hd o6 o7 o13 o14 o15
      have c0 : W.cell? ⟨gn, 0, none⟩ = some (.slice (some ⟨gy, 0, none⟩) n cy) := (hbn.kp hW (by simp)).cell 0
      go_step
      exact hK _ _ (Kp.refl _ _) rfl
    · intro vs A' W hA hW hd K hK
      have f4 : vs 4 = .bool false := hd 4 (by kernel_rfl)
      have e132 : A'.tmps[132]?.getD undef = vs 4 := slot_in hA hap (Nat.lt_of_lt_of_eq (Nat.le_of_ble_eq_true rfl : 132 < 193) hsz.symm) (by kernel_rfl)
      rw [f4] at e132
      refine wpOp_go _ rfl 4 132 false rfl rfl e132 ?_
      conv => arg 2; whnf
      have e13 : A'.tmps[13]?.getD undef = .pointer (some ⟨gk, 0, none⟩) := slot_out hA hap (Nat.lt_of_lt_of_eq (Nat.le_of_ble_eq_true rfl : 13 < 193) hsz.symm) (by kernel_rfl) o13
      clear hA hd o6 o7 o13 o14 o15
      have c0 : W.cell? ⟨gk, 0, none⟩ = some (.int .i64 ((k : Nat) : Int)) := (hbk.kp hW (by simp)).cell 0
      go_step
      exact hK _ _ (Kp.refl _ _) rfl
    · intro vs A' W hA hW hd K hK
      have f4 : vs 4 = .bool false := hd 4 (by kernel_rfl)
      have e132 : A'.tmps[132]?.getD undef = vs 4 := slot_in hA hap (Nat.lt_of_lt_of_eq (Nat.le_of_ble_eq_true rfl : 132 < 193) hsz.symm) (by kernel_rfl)
      rw [f4] at e132
      refine wpOp_go _ rfl 4 132 false rfl rfl e132 ?_
      conv => arg 2; whnf
      have f6 : vs 6 = .slice (some ⟨gy, 0, none⟩) n cy := hd 6 (by kernel_rfl)
      have e134 : A'.tmps[134]?.getD undef = vs 6 := slot_in hA hap (Nat.lt_of_lt_of_eq (Nat.le_of_ble_eq_true rfl : 134 < 193) hsz.symm) (by kernel_rfl)
      rw [f6] at e134
      have f7 : vs 7 = .int .i64 ((k : Nat) : Int) := hd 7 (by kernel_rfl)
      have e135 : A'.tmps[135]?.getD undef = vs 7 := slot_in hA hap (Nat.lt_of_lt_of_eq (Nat.le_of_ble_eq_true rfl : 135 < 193) hsz.symm) (by kernel_rfl)
      rw [f7] at e135
      clear hA hd o6 o7 o13 o14 o15
      have h9 := hk.out
      have h0 : 0 ≤ (k : Int) := by omega
      have h1 : (k : Int) < (n : Int) := by omega
      go_step
      exact hK _ _ (Kp.refl _ _) rfl
    · intro vs A' W hA hW hd K hK
      have f4 : vs 4 = .bool false := hd 4 (by kernel_rfl)
      have e132 : A'.tmps[132]?.getD undef = vs 4 := slot_in hA hap (Nat.lt_of_lt_of_eq (Nat.le_of_ble_eq_true rfl : 132 < 193) hsz.symm) (by kernel_rfl)
      rw [f4] at e132
      refine wpOp_go _ rfl 4 132 false rfl rfl e132 ?_
      conv => arg 2; whnf
      have f8 : vs 8 = .pointer (some ⟨gy, k, none⟩) := hd 8 (by kernel_rfl)
      have e136 : A'.tmps[136]?.getD undef = vs 8 := slot_in hA hap (Nat.lt_of_lt_of_eq (Nat.le_of_ble_eq_true rfl : 136 < 193) hsz.symm) (by kernel_rfl)
      rw [f8] at e136
      clear hA hd o6 o7 o13 o14 o15
      have c0 : W.cell? ⟨gy, k, none⟩ = some (.int .i64 z) := hcz W hW
      go_step
      exact hK _ _ (Kp.refl _ _) rfl
    · intro vs A' W hA hW hd K hK
      have f4 : vs 4 = .bool false := hd 4 (by kernel_rfl)
      have e132 : A'.tmps[132]?.getD undef = vs 4 := slot_in hA hap (Nat.lt_of_lt_of_eq (Nat.le_of_ble_eq_true rfl : 132 < 193) hsz.symm) (by kernel_rfl)
      rw [f4] at e132
      refine wpOp_go _ rfl 4 132 false rfl rfl e132 ?_
      conv => arg 2; whnf
      have f5 : vs 5 = .int .i64 z := hd 5 (by kernel_rfl)
      have e133 : A'.tmps[133]?.getD undef = vs 5 := slot_in hA hap (Nat.lt_of_lt_of_eq (Nat.le_of_ble_eq_true rfl : 133 < 193) hsz.symm) (by kernel_rfl)
      rw [f5] at e133
      have f9 : vs 9 = .int .i64 z := hd 9 (by kernel_rfl)
      have e137 : A'.tmps[137]?.getD undef = vs 9 := slot_in hA hap (Nat.lt_of_lt_of_eq (Nat.le_of_ble_eq_true rfl : 137 < 193) hsz.symm) (by kernel_rfl)
      rw [f9] at e137
      clear hA hd o6 o7 o13 o14 o15
      go_step
      exact hK _ _ (Kp.refl _ _) (by first | rfl | exact (show Value.bool (z != z) = Value.bool false from by rw [bne_self_eq_false]))
    · intro vs A' W hA hW hd K hK
      refine wpOp_free _ rfl rfl ?_
      conv => arg 2; whnf
      have f4 : vs 4 = .bool false := hd 4 (by kernel_rfl)
      have e132 : A'.tmps[132]?.getD undef = vs 4 := slot_in hA hap (Nat.lt_of_lt_of_eq (Nat.le_of_ble_eq_true rfl : 132 < 193) hsz.symm) (by kernel_rfl)
      rw [f4] at e132
      have f10 : vs 10 = .bool false := hd 10 (by kernel_rfl)
      have e138 : A'.tmps[138]?.getD undef = vs 10 := slot_in hA hap (Nat.lt_of_lt_of_eq (Nat.le_of_ble_eq_true rfl : 138 < 193) hsz.symm) (by kernel_rfl)
      rw [f10] at e138
      clear hA hd o6 o7 o13 o14 o15
      go_step
      exact hK _ _ (Kp.refl _ _) rfl
    · intro vs A' W hA hW hd K hK
      refine wpOp_free _ rfl rfl ?_
      conv => arg 2; whnf
      have f11 : vs 11 = .bool false := hd 11 (by kernel_rfl)
      have e139 : A'.tmps[139]?.getD undef = vs 11 := slot_in hA hap (Nat.lt_of_lt_of_eq (Nat.le_of_ble_eq_true rfl : 139 < 193) hsz.symm) (by kernel_rfl)
      rw [f11] at e139
      clear hA hd o6 o7 o13 o14 o15
      go_step
      exact hK _ _ (Kp.refl _ _) rfl
    · intro vs A' W hA hW hd K hK
      have f12 : vs 12 = .bool false := hd 12 (by kernel_rfl)
      have e140 : A'.tmps[140]?.getD undef = vs 12 := slot_in hA hap (Nat.lt_of_lt_of_eq (Nat.le_of_ble_eq_true rfl : 140 < 193) hsz.symm) (by kernel_rfl)
      rw [f12] at e140
      refine wpOp_go _ rfl 12 140 false rfl rfl e140 ?_
      conv => arg 2; whnf
      have e15 : A'.tmps[15]?.getD undef = ve := slot_out hA hap (Nat.lt_of_lt_of_eq (Nat.le_of_ble_eq_true rfl : 15 < 193) hsz.symm) (by kernel_rfl) o15
      clear hA hd o6 o7 o13 o14 o15
      go_step
      exact hK _ _ (Kp.refl _ _) rfl
    · intro vs A' W hA hW hd K hK
      have f12 : vs 12 = .bool false := hd 12 (by kernel_rfl)
      have e140 : A'.tmps[140]?.getD undef = vs 12 := slot_in hA hap (Nat.lt_of_lt_of_eq (Nat.le_of_ble_eq_true rfl : 140 < 193) hsz.symm) (by kernel_rfl)
      rw [f12] at e140
      refine wpOp_go _ rfl 12 140 false rfl rfl e140 ?_
      conv => arg 2; whnf
      have f13 : vs 13 = ve := hd 13 (by kernel_rfl)
      have e141 : A'.tmps[141]?.getD undef = vs 13 := slot_in hA hap (Nat.lt_of_lt_of_eq (Nat.le_of_ble_eq_true rfl : 141 < 193) hsz.symm) (by kernel_rfl)
      rw [f13] at e141
      clear hA hd o6 o7 o13 o14 o15
      have q := run_str (P := Try.prog) 25 9 5 Try.underlying25 Try.underlying5 Try.underlying9 (rd_old hre hW)
      go_step
      exact hK _ _ (Kp.refl _ _) rfl
    · intro vs A' W hA hW hd K hK
      have f12 : vs 12 = .bool false := hd 12 (by kernel_rfl)
      have e140 : A'.tmps[140]?.getD undef = vs 12 := slot_in hA hap (Nat.lt_of_lt_of_eq (Nat.le_of_ble_eq_true rfl : 140 < 193) hsz.symm) (by kernel_rfl)
      rw [f12] at e140
      refine wpOp_go _ rfl 12 140 false rfl rfl e140 ?_
      conv => arg 2; whnf
      have e7 : A'.tmps[7]?.getD undef = .pointer (some ⟨gw, 0, none⟩) := slot_out hA hap (Nat.lt_of_lt_of_eq (Nat.le_of_ble_eq_true rfl : 7 < 193) hsz.symm) (by kernel_rfl) o7
      clear hA hd o6 o7 o13 o14 o15
      have c0 : W.cell? ⟨gw, 0, none⟩ = some (.slice (some ⟨gz, 0, none⟩) n cz) := (hbw.kp hW (by simp)).cell 0
      go_step
      exact hK _ _ (Kp.refl _ _) rfl
    · intro vs A' W hA hW hd K hK
      have f12 : vs 12 = .bool false := hd 12 (by kernel_rfl)
      have e140 : A'.tmps[140]?.getD undef = vs 12 := slot_in hA hap (Nat.lt_of_lt_of_eq (Nat.le_of_ble_eq_true rfl : 140 < 193) hsz.symm) (by kernel_rfl)
      rw [f12] at e140
      refine wpOp_go _ rfl 12 140 false rfl rfl e140 ?_
      conv => arg 2; whnf
      have e13 : A'.tmps[13]?.getD undef = .pointer (some ⟨gk, 0, none⟩) := slot_out hA hap (Nat.lt_of_lt_of_eq (Nat.le_of_ble_eq_true rfl : 13 < 193) hsz.symm) (by kernel_rfl) o13
      clear hA hd o6 o7 o13 o14 o15
      have c0 : W.cell? ⟨gk, 0, none⟩ = some (.int .i64 ((k : Nat) : Int)) := (hbk.kp hW (by simp)).cell 0
      go_step
      exact hK _ _ (Kp.refl _ _) rfl
    · intro vs A' W hA hW hd K hK
      have f12 : vs 12 = .bool false := hd 12 (by kernel_rfl)
      have e140 : A'.tmps[140]?.getD undef = vs 12 := slot_in hA hap (Nat.lt_of_lt_of_eq (Nat.le_of_ble_eq_true rfl : 140 < 193) hsz.symm) (by kernel_rfl)
      rw [f12] at e140
      refine wpOp_go _ rfl 12 140 false rfl rfl e140 ?_
      conv => arg 2; whnf
      have f15 : vs 15 = .slice (some ⟨gz, 0, none⟩) n cz := hd 15 (by kernel_rfl)
      have e143 : A'.tmps[143]?.getD undef = vs 15 := slot_in hA hap (Nat.lt_of_lt_of_eq (Nat.le_of_ble_eq_true rfl : 143 < 193) hsz.symm) (by kernel_rfl)
      rw [f15] at e143
      have f16 : vs 16 = .int .i64 ((k : Nat) : Int) := hd 16 (by kernel_rfl)
      have e144 : A'.tmps[144]?.getD undef = vs 16 := slot_in hA hap (Nat.lt_of_lt_of_eq (Nat.le_of_ble_eq_true rfl : 144 < 193) hsz.symm) (by kernel_rfl)
      rw [f16] at e144
      clear hA hd o6 o7 o13 o14 o15
      have h9 := hk.out
      have h0 : 0 ≤ (k : Int) := by omega
      have h1 : (k : Int) < (n : Int) := by omega
      go_step
      exact hK _ _ (Kp.refl _ _) rfl
    · intro vs A' W hA hW hd K hK
      have f12 : vs 12 = .bool false := hd 12 (by kernel_rfl)
      have e140 : A'.tmps[140]?.getD undef = vs 12 := slot_in hA hap (Nat.lt_of_lt_of_eq (Nat.le_of_ble_eq_true rfl : 140 < 193) hsz.symm) (by kernel_rfl)
      rw [f12] at e140
      refine wpOp_go _ rfl 12 140 false rfl rfl e140 ?_
      conv => arg 2; whnf
      have f17 : vs 17 = .pointer (some ⟨gz, k, none⟩) := hd 17 (by kernel_rfl)
      have e145 : A'.tmps[145]?.getD undef = vs 17 := slot_in hA hap (Nat.lt_of_lt_of_eq (Nat.le_of_ble_eq_true rfl : 145 < 193) hsz.symm) (by kernel_rfl)
      rw [f17] at e145
      clear hA hd o6 o7 o13 o14 o15
      have c0 : W.cell? ⟨gz, k, none⟩ = some vw := hcw W hW
      go_step
      exact hK _ _ (Kp.refl _ _) rfl
    · intro vs A' W hA hW hd K hK
      have f12 : vs 12 = .bool false := hd 12 (by kernel_rfl)
      have e140 : A'.tmps[140]?.getD undef = vs 12 := slot_in hA hap (Nat.lt_of_lt_of_eq (Nat.le_of_ble_eq_true rfl : 140 < 193) hsz.symm) (by kernel_rfl)
      rw [f12] at e140
      refine wpOp_go _ rfl 12 140 false rfl rfl e140 ?_
      conv => arg 2; whnf
      have f18 : vs 18 = vw := hd 18 (by kernel_rfl)
      have e146 : A'.tmps[146]?.getD undef = vs 18 := slot_in hA hap (Nat.lt_of_lt_of_eq (Nat.le_of_ble_eq_true rfl : 146 < 193) hsz.symm) (by kernel_rfl)
      rw [f18] at e146
      clear hA hd o6 o7 o13 o14 o15
      have q := run_str (P := Try.prog) 25 9 5 Try.underlying25 Try.underlying5 Try.underlying9 (rd_old hrw hW)
      go_step
      exact hK _ _ (Kp.refl _ _) rfl
    · intro vs A' W hA hW hd K hK
      have f12 : vs 12 = .bool false := hd 12 (by kernel_rfl)
      have e140 : A'.tmps[140]?.getD undef = vs 12 := slot_in hA hap (Nat.lt_of_lt_of_eq (Nat.le_of_ble_eq_true rfl : 140 < 193) hsz.symm) (by kernel_rfl)
      rw [f12] at e140
      refine wpOp_go _ rfl 12 140 false rfl rfl e140 ?_
      conv => arg 2; whnf
      have f14 : vs 14 = .string ⟨e.toArray⟩ := hd 14 (by kernel_rfl)
      have e142 : A'.tmps[142]?.getD undef = vs 14 := slot_in hA hap (Nat.lt_of_lt_of_eq (Nat.le_of_ble_eq_true rfl : 142 < 193) hsz.symm) (by kernel_rfl)
      rw [f14] at e142
      have f19 : vs 19 = .string ⟨e.toArray⟩ := hd 19 (by kernel_rfl)
      have e147 : A'.tmps[147]?.getD undef = vs 19 := slot_in hA hap (Nat.lt_of_lt_of_eq (Nat.le_of_ble_eq_true rfl : 147 < 193) hsz.symm) (by kernel_rfl)
      rw [f19] at e147
      clear hA hd o6 o7 o13 o14 o15
      go_step
      exact hK _ _ (Kp.refl _ _) (by first | rfl | (refine congrArg Value.bool ?_; simp))
    · intro vs A' W hA hW hd K hK
      refine wpOp_free _ rfl rfl ?_
      conv => arg 2; whnf
      have f12 : vs 12 = .bool false := hd 12 (by kernel_rfl)
      have e140 : A'.tmps[140]?.getD undef = vs 12 := slot_in hA hap (Nat.lt_of_lt_of_eq (Nat.le_of_ble_eq_true rfl : 140 < 193) hsz.symm) (by kernel_rfl)
      rw [f12] at e140
      have f20 : vs 20 = .bool false := hd 20 (by kernel_rfl)
      have e148 : A'.tmps[148]?.getD undef = vs 20 := slot_in hA hap (Nat.lt_of_lt_of_eq (Nat.le_of_ble_eq_true rfl : 148 < 193) hsz.symm) (by kernel_rfl)
      rw [f20] at e148
      clear hA hd o6 o7 o13 o14 o15
      go_step
      exact hK _ _ (Kp.refl _ _) rfl
  · intro vs W hW hp
    rw [show putAll vs (opsOf 34 Try.f7) 0 a = putD [(128, vs 0), (129, vs 1), (130, vs 2), (131, vs 3), (132, vs 4), (133, vs 5), (134, vs 6), (135, vs 7), (136, vs 8), (137, vs 9), (138, vs 10), (139, vs 11), (140, vs 12), (141, vs 13), (142, vs 14), (143, vs 15), (144, vs 16), (145, vs 17), (146, vs 18), (147, vs 19), (148, vs 20), (149, vs 21)] a from by kernel_rfl]
    exact hend _ W (same_putD _ a) hW (sl_putD _ a 149 _ (by rw [show vs 21 = _ from hp 21 (Nat.le_of_ble_eq_true (by kernel_rfl))]; kernel_rfl))
-- END ecc34
end
/- EntryEach: lists of what is told; lent rows cut to what they lend. -/
section
open Go.RowKit Go.Shelf
/-- What batches hold, one by one. -/
def elsO (l : List (Int × List (List UInt8))) : List (Int × List UInt8) := l.flatMap fun b => (List.range b.2.length).map fun (j : Nat) => ((b.1 + (j : Int), b.2.getD j []) : Int × List UInt8)
theorem elsE_elsO (ys : List CtV) : elsE ys = elsO (ys.map fun y : CtV => (y.f, y.L)) := by
  simp only [elsE, elsO, List.flatMap_map]
  rfl
theorem row_front {w0 w : World} {l1 l2 : List Res} {e : TypeId} {A : Option Addr} {n c m : Nat} {xs : List Value} (h : Held w0 w (l1 ++ rowR e 1 (.slice A (n + 1) c) (n + 1) xs :: l2)) (hm : m ≤ n + 1) : Held w0 w (l1 ++ rowR e 1 (.slice A m c) m (xs.take m) :: l2) := by
  refine h.turnAt (rowR e 1 (.slice A m c) m (xs.take m)) (Kp.refl _ _) ?_ (fun b hb => .inl (by cases A <;> exact hb))
  have h1 := ow_take (show Ow w e 1 (.slice A (n + 1) c) (n + 1) xs from h.at_) hm (by omega)
  rwa [Nat.mul_one] at h1
theorem marks_texts {w0 w : World} {T : List Res} : ∀ (L : List (List UInt8)) (Bs : List Value) (P : List Res), Held w0 w (P ++ (markR L Bs ++ T)) → Held w0 w (P ++ (textR L Bs ++ T))
  | [], _, P, h => by simpa [markR, textR] using h
  | l :: L, [], P, h => by simpa [markR, textR] using h
  | l :: L, B :: Bs, P, h => by
    have h : Held w0 w (P ++ rowR 5 1 (grow1 B) (l.length + 1) (bv (l ++ [165])) :: (markR L Bs ++ T)) := h
    obtain ⟨A, c, rfl, -⟩ := grow1_form (show Ow w 5 1 (grow1 B) (l.length + 1) (bv (l ++ [165])) from h.at_)
    have h2 : Held w0 w (P ++ rowR 5 1 (.slice A (l.length + 1) c) (l.length + 1) (bv (l ++ [165])) :: (markR L Bs ++ T)) := h
    have h3 := row_front h2 (show l.length ≤ l.length + 1 by omega)
    rw [bv_append, List.take_left' (bv_length l)] at h3
    have h4 := marks_texts L Bs (P ++ [rowR 5 1 (.slice A l.length c) l.length (bv l)]) (by rw [List.append_assoc]; exact h3)
    rw [List.append_assoc] at h4
    exact h4
theorem lent_rows {w0 w : World} {T : List Res} {g c : Nat} {Bs : List Value} {M : Value} {L : List (List UInt8)} (hB : Bs.length = L.length) (h : Held w0 w (lentL (g, c, Bs, M) L ++ T)) :
    Held w0 w (rowR 25 1 (.slice (some ⟨g, 0, none⟩) L.length c) L.length Bs :: (textR L Bs ++ T)) := by
  have h : Held w0 w ([] ++ rowR 25 1 (.slice (some ⟨g, 0, none⟩) (L.length + 1) c) (L.length + 1) (Bs ++ [M]) :: (rdR M 4 (bv mk4) :: (markR L Bs ++ T))) := h
  have h1 := row_front h (show L.length ≤ L.length + 1 by omega)
  rw [List.take_left' hB] at h1
  have h2 : Held w0 w (rowR 25 1 (.slice (some ⟨g, 0, none⟩) L.length c) L.length Bs :: (markR L Bs ++ T)) := h1.some_of (List.Sublist.cons_cons _ (List.Sublist.cons _ (List.Sublist.refl _)))
  exact marks_texts L Bs [_] h2
end
/- EntryEach: its first two loops. -/
section
open Go.RowKit Go.Shelf
/-- A batch that came in, with what is lent of it. -/
abbrev LZ := BtV × LentG
def lzR (zs : List LZ) : List Res := zs.flatMap fun z => lentL z.2 z.1.L
def lzC (zs : List LZ) : List Value := zs.flatMap fun z => [.int .i64 z.1.f, .slice (some ⟨z.2.1, 0, none⟩) z.1.L.length z.2.2.1]
def LzOk (zs : List LZ) : Prop := ∀ z ∈ zs, z.2.2.2.1.length = z.1.L.length
theorem lzC_snoc (zs : List LZ) (z : LZ) : lzC (zs ++ [z]) = lzC zs ++ [.int .i64 z.1.f, .slice (some ⟨z.2.1, 0, none⟩) z.1.L.length z.2.2.1] := by simp [lzC]
theorem lzR_snoc (zs : List LZ) (z : LZ) : lzR (zs ++ [z]) = lzR zs ++ lentL z.2 z.1.L := by simp [lzR]
theorem lzC_get : ∀ {zs : List LZ} {i : Nat} {z : LZ}, zs[i]? = some z → (lzC zs)[i * 2]? = some (.int .i64 z.1.f) ∧ (lzC zs)[i * 2 + 1]? = some (.slice (some ⟨z.2.1, 0, none⟩) z.1.L.length z.2.2.1)
  | x :: zs, 0, z, h => by
    cases h
    exact ⟨rfl, rfl⟩
  | x :: zs, i + 1, z, h => by
    have := lzC_get (zs := zs) (i := i) (z := z) h
    rw [show (i + 1) * 2 = i * 2 + 1 + 1 by omega]
    exact this
theorem lzR_drop {zs : List LZ} {k : Nat} {z : LZ} (h : zs[k]? = some z) : lzR (zs.drop k) = lentL z.2 z.1.L ++ lzR (zs.drop (k + 1)) := by
  obtain ⟨hk, he⟩ := List.getElem?_eq_some_iff.1 h
  rw [List.drop_eq_getElem_cons hk, he]
  rfl
/-- What a batch holds, one by one. -/
def rowO (b : Int × List (List UInt8)) : List (Int × List UInt8) := (List.range b.2.length).map fun (j : Nat) => ((b.1 + (j : Int), b.2.getD j []) : Int × List UInt8)
theorem rowO_length (b : Int × List (List UInt8)) : (rowO b).length = b.2.length := by simp [rowO]
theorem elsO_snoc (l : List (Int × List (List UInt8))) (b : Int × List (List UInt8)) : elsO (l ++ [b]) = elsO l ++ rowO b := by simp [elsO, rowO]
theorem rowO_next {b : Int × List (List UInt8)} {j : Nat} (h : j < b.2.length) : (rowO b).take (j + 1) = (rowO b).take j ++ [(b.1 + (j : Int), b.2[j])] := by
  rw [List.take_add_one]
  congr 1
  simp [rowO, List.getElem?_map, List.getElem?_range h, List.getD_eq_getElem?_getD, List.getElem?_eq_getElem h]
structure FE (a : Act) (s0 : Value) (gL gR gN gW : Nat) (u : Value) : Prop where
  z : a.tmps.size = 193
  D : a.defers = []
  o0 : Sl a 0 s0
  o3 : Sl a 3 (.pointer (some ⟨gL, 0, none⟩))
  o4 : Sl a 4 (.pointer (some ⟨gR, 0, none⟩))
  o5 : Sl a 5 u
  o6 : Sl a 6 (.pointer (some ⟨gN, 0, none⟩))
  o7 : Sl a 7 (.pointer (some ⟨gW, 0, none⟩))
theorem FE.same {a a' : Act} {s0 : Value} {gL gR gN gW : Nat} {u : Value} {ds : List Nat} (h : FE a s0 gL gR gN gW u) (hs : Same a a' ds) (hd : ([0, 3, 4, 5, 6, 7].all fun d => !ds.contains d) = true) : FE a' s0 gL gR gN gW u := by
  simp only [List.all_cons, List.all_nil, Bool.and_true, Bool.and_eq_true, Bool.not_eq_true'] at hd
  obtain ⟨h0, h3, h4, h5, h6, h7⟩ := hd
  exact ⟨hs.size.trans h.z, hs.defers.trans h.D, hs.keep _ _ h0 h.o0, hs.keep _ _ h3 h.o3, hs.keep _ _ h4 h.o4, hs.keep _ _ h5 h.o5, hs.keep _ _ h6 h.o6, hs.keep _ _ h7 h.o7⟩
theorem FE.same5 {a a' : Act} {s0 : Value} {gL gR gN gW : Nat} {u v : Value} {ds : List Nat} (h : FE a s0 gL gR gN gW u) (hs : Same a a' ds) (h5 : Sl a' 5 v) (hd : ([0, 3, 4, 6, 7].all fun d => !ds.contains d) = true) : FE a' s0 gL gR gN gW v := by
  simp only [List.all_cons, List.all_nil, Bool.and_true, Bool.and_eq_true, Bool.not_eq_true'] at hd
  obtain ⟨h0, h3, h4, h6, h7⟩ := hd
  exact ⟨hs.size.trans h.z, hs.defers.trans h.D, hs.keep _ _ h0 h.o0, hs.keep _ _ h3 h.o3, hs.keep _ _ h4 h.o4, h5, hs.keep _ _ h6 h.o6, hs.keep _ _ h7 h.o7⟩
/-- What a list of entries' values reads. -/
def Wan (w : World) (els : List (Int × List UInt8)) (wants : List Value) : Prop := ∀ (j : Nat) (e : Int × List UInt8), els[j]? = some e → ∃ vw, wants[j]? = some vw ∧ ∀ V, Kp [] w V → Rd V 1 vw e.2.length (bv e.2)
theorem Wan.snoc {w : World} {els : List (Int × List UInt8)} {wants : List Value} (h : Wan w els wants) (hl : wants.length = els.length) {e : Int × List UInt8} {v : Value} (he : ∀ V, Kp [] w V → Rd V 1 v e.2.length (bv e.2)) : Wan w (els ++ [e]) (wants ++ [v]) := fun j f hj => by
  by_cases h1 : j < els.length
  · rw [List.getElem?_append_left h1] at hj
    rw [List.getElem?_append_left (by omega)]
    exact h j f hj
  · rw [List.getElem?_append_right (by omega)] at hj
    obtain ⟨h2, h3⟩ := List.getElem?_eq_some_iff.1 hj
    have h4 : j - els.length = 0 := by simpa using h2
    have h5 : j = els.length := by omega
    subst h5
    simp at h3
    subst h3
    exact ⟨v, by rw [List.getElem?_append_right (by omega), hl]; simp, he⟩
abbrev nwL (gN gW : Nat) (els : List (Int × List UInt8)) (uN uW : Value) (wants : List Value) (R : List Res) : List Res := blkR gN 57 #[uN] :: rowR 2 1 uN els.length (els.map fun e => (.int .i64 e.1 : Value)) :: blkR gW 22 #[uW] :: rowR 25 1 uW els.length wants :: R
/-- The law's numbers and what it wants. -/
def NW (w W : World) (gN gW : Nat) (els : List (Int × List UInt8)) (R : List Res) : Prop := ∃ uN uW wants, wants.length = els.length ∧ Wan w els wants ∧ Held w W (nwL gN gW els uN uW wants R)
theorem NW.kp {w W W' : World} {gN gW : Nat} {els : List (Int × List UInt8)} {R : List Res} (h : NW w W gN gW els R) (k : Kp [] W W') : NW w W' gN gW els R := by
  obtain ⟨uN, uW, wants, h1, h2, h3⟩ := h
  exact ⟨uN, uW, wants, h1, h2, h3.kp k⟩
theorem NW.k {w W : World} {gN gW : Nat} {els : List (Int × List UInt8)} {R : List Res} (h : NW w W gN gW els R) : Kp [] w W := by
  obtain ⟨uN, uW, wants, h1, h2, h3⟩ := h
  exact h3.k
set_option maxRecDepth 100000 in
set_option maxHeartbeats 4000000 in
theorem ecc_b2 {Q : Exit → Act → World → Prop} {a : Act} {w0 w : World} (ad : Addr) (n c k : Nat) (hk : k < n) (x : BtV) (u : Value) (gL gR gN gW : Nat) (els0 : List (Int × List UInt8)) (R : List Res) (hq : els0.length ≤ 2000) (hlen : x.L.length ≤ 50)
    (hcV : ∀ V, Kp [] w0 V → ∀ j u, x.C.toList[j]? = some u → V.cell? ((ad.add (k * 2)).add j) = some u) (hok : ∀ V, Kp [] w0 V → BtOk V x)
    (F : FE a (.slice (some ad) n c) gL gR gN gW u) (o8 : Sl a 8 (.int .i64 ((k : Nat) : Int))) (o9 : Sl a 9 (.int .i64 ((0 : Nat) : Int))) (S : NW w0 w gN gW els0 R)
    (hend : ∀ (a' : Act) (W : World) (j : Nat), (chk x.f x.L = 0 → j = x.L.length) → (chk x.f x.L ≠ 0 → j = 0) → FE a' (.slice (some ad) n c) gL gR gN gW u → Sl a' 8 (.int .i64 ((k : Nat) : Int)) → NW w0 W gN gW (els0 ++ (rowO (x.f, x.L)).take j) R → Q .normal a' W) :
    (Code.block 2 (blockOf 2 Try.f7)).wp Try.prog Q a w := by
  refine wp_block ?_
  conv => arg 2; whnf
  refine wp_loop (fun a' w' => ∃ j : Nat, j ≤ x.L.length ∧ (chk x.f x.L ≠ 0 → j = 0) ∧ FE a' (.slice (some ad) n c) gL gR gN gW u ∧ Sl a' 8 (.int .i64 ((k : Nat) : Int)) ∧ Sl a' 9 (.int .i64 ((j : Nat) : Int)) ∧ NW w0 w' gN gW (els0 ++ (rowO (x.f, x.L)).take j) R) (fun a' _ => x.L.length - (intOf (a'.eval (.tmp 9))).toNat) ⟨0, Nat.zero_le _, fun _ => rfl, F, o8, o9, by rw [List.take_zero, List.append_nil]; exact S⟩ ?_
  clear F o8 o9 S
  rintro a1 w1 ⟨j, hj, hj0, F, o8, o9, S⟩
  have e9 := o9.eval (by rw [F.z]; decide)
  have hel : (els0 ++ (rowO (x.f, x.L)).take j).length = els0.length + j := by rw [List.length_append, List.length_take, rowO_length]; simp only; omega
  have hcV1 : ∀ V, Kp [] w1 V → ∀ j u, (#[.int .i64 x.f, .slice x.A x.L.length x.c] : Array Value).toList[j]? = some u → V.cell? ((ad.add (k * 2)).add j) = some u := fun V kV => hcV V (S.k.trans kV (by simp))
  by_cases hlt : j < x.L.length
  · have HC := fun (V : World) (kV : Kp [] w1 V) => rcheck_any x.f (hok V (S.k.trans kV (by simp))).hf _ _ V (hok V (S.k.trans kV (by simp))).txs
    refine wp_seq (wp_seq (ecc_r13Y ad k n c j hk x.f x.A x.L.length x.c hlt hcV1 (chk x.f x.L) HC _ rfl F.z F.o0 o8 o9 (fun a2 w2 hs2 k2 o65 => ?_)))
    by_cases h0 : chk x.f x.L = 0
    · have F := F.same hs2 (by decide)
      have o8 := hs2.keep 8 _ (by decide) o8
      have o9 := hs2.keep 9 _ (by decide) o9
      refine wp_cond_true ((o65.eval (by rw [F.z]; decide)).trans (by rw [h0]; rfl)) (wp_skip ?_)
      simp only [Exit.then]
      obtain ⟨hf0, hf1, hf2, -⟩ := chk0 h0
      obtain ⟨uN, uW, wants, hwl, hwa, T⟩ := S.kp k2
      have hcV0 : ∀ V, Kp [] w0 V → ∀ j u, (#[.int .i64 x.f, .slice x.A x.L.length x.c] : Array Value).toList[j]? = some u → V.cell? ((ad.add (k * 2)).add j) = some u := hcV
      refine wp_seq (wp_block ?_)
      refine wp_seq (ecc_r15 w0 ad k n c _ j gN hk x.f x.A x.L.length x.c ⟨hf0, by omega⟩ uN _ (by rw [hel]; omega) hcV0 _ F.z F.o0 F.o6 o8 o9 T (fun a3 vs gs w3 hs3 T => ?_))
      have F := F.same hs3 (by decide)
      have o8 := hs3.keep 8 _ (by decide) o8
      have o9 := hs3.keep 9 _ (by decide) o9
      have T := (((T.drop).pull 1 rfl).pull 3 rfl).pull 3 rfl
      obtain ⟨ade, hA⟩ : ∃ ade, x.A = some ade := by
        obtain ⟨A', c', e, h1, -⟩ := (hok w0 (Kp.refl _ _)).txs.open_
        injection e with e1
        obtain ⟨ade, h2⟩ := h1 (by omega)
        exact ⟨ade, e1.trans h2⟩
      have hcx : ∃ Ax nx cx, (∀ V, Kp [] w0 V → V.cell? (ade.add j) = some (.slice Ax nx cx)) ∧ ∀ V, Kp [] w0 V → Rd V 1 (.slice Ax nx cx) x.L[j].length (bv x.L[j]) := by
        have h1 := (hok w0 (Kp.refl _ _)).txs
        rw [hA] at h1
        obtain ⟨Ax, cx, h2, h3⟩ := h1.at_ hlt
        exact ⟨Ax, _, cx, fun V kV => cell_kept h2 kV, fun V kV => rd_old h3 kV⟩
      obtain ⟨Ax, nx, cx, hcx, hrx⟩ := hcx
      rw [hA] at hcV0
      refine ecc_r16 w0 ad ade k n c _ j gW hk x.f x.L.length x.c hlt Ax nx cx hcx uW _ (by rw [hel]; omega) hcV0 _ F.z F.o0 F.o7 o8 o9 T (fun a4 vs4 gs4 w4 hs4 T => ?_)
      have F := F.same hs4 (by decide)
      have o8 := hs4.keep 8 _ (by decide) o8
      have o9 := hs4.keep 9 _ (by decide) o9
      have T := (((T.drop).pull 1 rfl).pull 3 rfl).pull 3 rfl
      simp only [Exit.inBlock, Exit.then]
      refine ecc_r14 j (by omega) F.z o9 (fun a5 hs5 o9 => ?_)
      have F := F.same hs5 (by decide)
      have o8 := hs5.keep 8 _ (by decide) o8
      have S5 : NW w0 w4 gN gW (els0 ++ (rowO (x.f, x.L)).take (j + 1)) R := by
        rw [rowO_next hlt, ← List.append_assoc]
        refine ⟨vs 9, vs4 10, wants ++ [.slice Ax nx cx], by rw [List.length_append, List.length_append, hwl]; rfl, hwa.snoc hwl (e := (x.f + (j : Int), x.L[j])) hrx, ?_⟩
        rw [nwL, List.length_append, List.map_append]
        exact T
      refine ⟨⟨j + 1, hlt, fun h => absurd h0 h, F, o8, o9, S5⟩, ?_⟩
      show x.L.length - (intOf _).toNat < x.L.length - (intOf _).toNat
      rw [e9, o9.eval (by rw [F.z]; decide)]
      simp only [intOf]; omega
    · refine wp_cond_false ((o65.eval (by rw [hs2.size, F.z]; decide)).trans ?_) (wp_exit ?_)
      · congr 1
        simp only [beq_eq_false_iff_ne]
        omega
      · simp only [Exit.then, Exit.inBlock]
        exact hend a2 w2 j (fun h => absurd h h0) hj0 (F.same hs2 (by decide)) (hs2.keep 8 _ (by decide) o8) (S.kp k2)
  · refine wp_seq (wp_seq (ecc_r13N ad k n c j hk x.f x.A x.L.length x.c hlt hcV1 F.z F.o0 o8 o9 (fun a2 w2 hs2 k2 o65 => ?_)))
    refine wp_cond_false (o65.eval (by rw [hs2.size, F.z]; decide)) (wp_exit ?_)
    simp only [Exit.then, Exit.inBlock]
    exact hend a2 w2 j (fun _ => by omega) hj0 (F.same hs2 (by decide)) (hs2.keep 8 _ (by decide) o8) (S.kp k2)
theorem elsO_len {l : List BtV} (h : ∀ x ∈ l, x.L.length ≤ 50) : (elsO (okL l)).length ≤ 50 * l.length := by
  induction l with
  | nil => simp [okL, elsO]
  | cons x l ih =>
    have h1 := ih (fun y hy => h y (List.mem_cons_of_mem _ hy))
    have h2 := h x (List.mem_cons_self ..)
    by_cases h0 : chk x.f x.L = 0
    · have e : elsO (okL (x :: l)) = rowO (x.f, x.L) ++ elsO (okL l) := by simp [okL, elsO, rowO, h0]
      rw [e, List.length_append, rowO_length, List.length_cons]
      simp only
      omega
    · have e : okL (x :: l) = okL l := by simp [okL, h0]
      rw [e, List.length_cons]
      omega
set_option maxRecDepth 100000 in
set_option maxHeartbeats 4000000 in
theorem ecc_b0 {Q : Exit → Act → World → Prop} {a : Act} {w0 w : World} (A : Option Addr) (c : Nat) (l : List BtV) (hll : l.length ≤ 20) (hf : BtsF w0 A l) (lv : Int) (gL gR gN gW : Nat)
    (F : FE a (.slice A l.length c) gL gR gN gW (.slice none 0 0)) (o8 : Sl a 8 (.int .i64 ((0 : Nat) : Int))) (S : NW w0 w gN gW [] [blkR gR 4 #[.bool false], blkR gL 3 #[.int .i64 lv]])
    (hret : ∀ (a' : Act) (W : World) (L : List Res) (u : Value), FE a' (.slice A l.length c) gL gR gN gW u → Held w0 W (blkR gR 4 #[.bool true] :: L) → Q .ret a' W)
    (hend : ∀ (a' : Act) (W : World) (zs : List LZ) (u : Value), LzOk zs → zs.map (·.1) = l → (∀ x ∈ l, x.L.length ≤ 50) → FE a' (.slice A l.length c) gL gR gN gW u → NW w0 W gN gW (elsO (okL l)) (rowR 24 2 u l.length (lzC zs) :: blkR gR 4 #[.bool false] :: blkR gL 3 #[.int .i64 lv] :: lzR zs) → Q .normal a' W) :
    (Code.block 0 (blockOf 0 Try.f7)).wp Try.prog Q a w := by
  refine wp_block ?_
  conv => arg 2; whnf
  have S0 : NW w0 w gN gW (elsO (okL (l.take 0))) (rowR 24 2 (.slice none 0 0) 0 (lzC []) :: blkR gR 4 #[.bool false] :: blkR gL 3 #[.int .i64 lv] :: lzR []) := by
    obtain ⟨uN, uW, wants, h1, h2, T⟩ := S
    have h0 : Ow w 24 2 (.slice none 0 0) 0 [] := World.ownsRow_nil _ _ _ _
    have T := ((((T.rownew h0 (Kp.refl [] w) (fun g hg => by cases hg)).pull 4 rfl).pull 4 rfl).pull 4 rfl).pull 4 rfl
    exact ⟨uN, uW, wants, h1, h2, T⟩
  refine wp_loop (fun a' w' => ∃ (k : Nat) (zs : List LZ) (u : Value), k ≤ l.length ∧ LzOk zs ∧ zs.map (·.1) = l.take k ∧ (∀ x ∈ l.take k, x.L.length ≤ 50) ∧ FE a' (.slice A l.length c) gL gR gN gW u ∧ Sl a' 8 (.int .i64 ((k : Nat) : Int)) ∧ NW w0 w' gN gW (elsO (okL (l.take k))) (rowR 24 2 u k (lzC zs) :: blkR gR 4 #[.bool false] :: blkR gL 3 #[.int .i64 lv] :: lzR zs)) (fun a' _ => l.length - (intOf (a'.eval (.tmp 8))).toNat) ⟨0, [], _, Nat.zero_le _, fun z hz => (by cases hz), rfl, fun x hx => (by simp at hx), F, o8, S0⟩ ?_
  clear F o8 S S0
  rintro a1 w1 ⟨k, zs, u, hk, hzk, hzs, h50, F, o8, S⟩
  have e8 := o8.eval (by rw [F.z]; decide)
  have hel := elsO_len h50
  rw [List.length_take_of_le hk] at hel
  refine wp_seq (wp_seq (ecc_r7 A l.length c k F.z F.o0 o8 (fun a2 hs2 o24 => ?_)))
  have F := F.same hs2 (by decide)
  have o8 := hs2.keep 8 _ (by decide) o8
  by_cases hlt : k < l.length
  · refine wp_cond_true ((o24.eval (by rw [F.z]; decide)).trans (by rw [decide_eq_true hlt])) (wp_skip ?_)
    simp only [Exit.then]
    obtain ⟨x, hx⟩ : ∃ x, l[k]? = some x := ⟨_, List.getElem?_eq_getElem hlt⟩
    obtain ⟨ad, rfl, -, hok⟩ := hf k x hx
    have hcV : ∀ V, Kp [] w0 V → ∀ j u, x.C.toList[j]? = some u → V.cell? ((ad.add (k * 2)).add j) = some u := fun V kV => by
      obtain ⟨ad', h1, h2, -⟩ := (hf.kp kV) k x hx
      cases h1
      exact h2
    have hokV : ∀ V, Kp [] w0 V → BtOk V x := fun V kV => hok.kp kV
    refine wp_seq (wp_block ?_)
    refine wp_seq (wp_seq (ecc_r9 ad k l.length c hlt x.f x.A x.L.length x.c (hcV _ S.k) F.z F.o0 o8 (fun a3 hs3 o33 => ?_)))
    have F := F.same hs3 (by decide)
    have o8 := hs3.keep 8 _ (by decide) o8
    by_cases h5 : x.L.length ≤ 50
    · refine wp_cond_false ((o33.eval (by rw [F.z]; decide)).trans (by rw [decide_eq_false (by omega)])) (wp_skip ?_)
      simp only [Exit.then]
      obtain ⟨uN, uW, wants, hwl, hwa, T⟩ := S
      have T := T.pull 4 rfl
      refine wp_seq (ecc_r11 w0 ad k l.length c k hlt x.f x.A x.c u x.L (lzC zs) (by omega) hok.hl hok.hb (fun V kV => (hokV V kV).txs) hcV _ F.z F.o0 F.o5 o8 T (fun a4 vs gs w4 hs4 o46 hv o5 T => ?_))
      have F := F.same5 hs4 o5 (by decide)
      have o8 := hs4.keep 8 _ (by decide) o8
      have T : Held w0 w4 (rowR 24 2 (vs 13) 1 _ :: rowR 24 2 (vs 14) (k + 1) _ :: (blkR gN 57 #[uN] :: rowR 2 1 uN (elsO (okL (l.take k))).length ((elsO (okL (l.take k))).map fun e => (.int .i64 e.1 : Value)) :: blkR gW 22 #[uW] :: rowR 25 1 uW (elsO (okL (l.take k))).length wants :: blkR gR 4 #[.bool false] :: blkR gL 3 #[.int .i64 lv] :: lzR zs) ++ lentL (gs 11) x.L) := T.perm List.perm_append_comm
      have T := ((((T.drop).pull 4 rfl).pull 4 rfl).pull 4 rfl).pull 4 rfl
      have S4 : NW w0 w4 gN gW (elsO (okL (l.take k))) (rowR 24 2 (vs 14) (k + 1) (lzC (zs ++ [(x, gs 11)])) :: blkR gR 4 #[.bool false] :: blkR gL 3 #[.int .i64 lv] :: lzR (zs ++ [(x, gs 11)])) := by
        rw [lzC_snoc, lzR_snoc]
        exact ⟨uN, uW, wants, hwl, hwa, T⟩
      clear T
      refine wp_seq (ecc_r12 F.z (fun a5 hs5 o9 => ?_))
      have F := F.same hs5 (by decide)
      have o8 := hs5.keep 8 _ (by decide) o8
      refine ecc_b2 ad l.length c k hlt x (vs 14) gL gR gN gW _ _ (by omega) h5 hcV hokV F o8 o9 S4 (fun a6 w6 j hj1 hj2 F o8 S6 => ?_)
      simp only [Exit.inBlock, Exit.then]
      have htk : l.take (k + 1) = l.take k ++ [x] := by rw [List.take_add_one, hx]; rfl
      have hels : elsO (okL (l.take k)) ++ (rowO (x.f, x.L)).take j = elsO (okL (l.take (k + 1))) := by
        by_cases h0 : chk x.f x.L = 0
        · rw [okL_yes hx h0, elsO_snoc, hj1 h0, List.take_of_length_le (l := rowO (x.f, x.L)) (by rw [rowO_length]; exact Nat.le_refl _)]
        · rw [okL_no hx h0, hj2 h0, List.take_zero, List.append_nil]
      rw [hels] at S6
      refine ecc_r8 k (by omega) F.z o8 (fun a7 hs7 o8 => ?_)
      have F := F.same hs7 (by decide)
      refine ⟨⟨k + 1, zs ++ [(x, gs 11)], vs 14, hlt, ?_, ?_, ?_, F, o8, S6⟩, ?_⟩
      · intro z hz
        rcases List.mem_append.1 hz with h | h
        · exact hzk z h
        · rw [List.mem_singleton.1 h]
          exact hv.2
      · rw [List.map_append, hzs, htk]; rfl
      · intro y hy
        rw [htk] at hy
        rcases List.mem_append.1 hy with h | h
        · exact h50 y h
        · rw [List.mem_singleton.1 h]
          exact h5
      · show l.length - (intOf _).toNat < l.length - (intOf _).toNat
        rw [e8, o8.eval (by rw [F.z]; decide)]
        simp only [intOf]; omega
    · refine wp_cond_true ((o33.eval (by rw [F.z]; decide)).trans (by rw [decide_eq_true (by omega)])) ?_
      obtain ⟨uN, uW, wants, hwl, hwa, T⟩ := S
      have T := T.pull 5 rfl
      refine wp_seq (ecc_r10 w0 gR _ _ T F.z F.o4 (fun a4 w4 hs4 T => ?_))
      refine wp_ret ?_
      simp only [Exit.then, Exit.inBlock]
      exact hret _ _ _ u (F.same hs4 (by decide)) T
  · refine wp_cond_false ((o24.eval (by rw [F.z]; decide)).trans (by rw [decide_eq_false hlt])) (wp_exit ?_)
    simp only [Exit.then, Exit.inBlock]
    obtain rfl : k = l.length := by omega
    rw [List.take_length] at hzs h50 S
    exact hend _ _ zs u hzk hzs h50 F S
set_option maxRecDepth 100000 in
set_option maxHeartbeats 4000000 in
theorem ecc_b4 {Q : Exit → Act → World → Prop} {a : Act} {w0 w : World} (A : Option Addr) (c : Nat) (l : List BtV) (hll : l.length ≤ 20) (hf : BtsF w0 A l) (hB : ∀ x ∈ l, x.L.length ≤ 50 ∧ ∀ e ∈ x.L, e.length ≤ 1073741824) (gL gR gN gW : Nat) (u v10 : Value) (zs : List LZ) (hzk : LzOk zs) (hzs : zs.map (·.1) = l) (R : List Res)
    (F : FE a (.slice A l.length c) gL gR gN gW u) (o10 : Sl a 10 v10) (o11 : Sl a 11 (.int .i64 ((0 : Nat) : Int))) (S : Held w0 w (rowR 24 2 u l.length (lzC zs) :: (lzR zs ++ R)))
    (hend : ∀ (a' : Act) (W : World), FE a' (.slice A l.length c) gL gR gN gW u → Sl a' 10 v10 → Held w0 W R → Q .normal a' W) :
    (Code.block 4 (blockOf 4 Try.f7)).wp Try.prog Q a w := by
  have hzl : zs.length = l.length := by rw [← hzs, List.length_map]
  refine wp_block ?_
  conv => arg 2; whnf
  rcases Nat.eq_zero_or_pos l.length with hn | hn
  · have S : Held w0 w R := by
      have : zs = [] := List.length_eq_zero_iff.1 (by omega)
      subst this
      exact S.drop
    refine wp_loop (fun a' w' => FE a' (.slice A l.length c) gL gR gN gW u ∧ Sl a' 10 v10 ∧ Sl a' 11 (.int .i64 ((0 : Nat) : Int)) ∧ Held w0 w' R) (fun _ _ => 0) ⟨F, o10, o11, S⟩ ?_
    clear F o10 o11 S
    rintro a1 w1 ⟨F, o10, o11, S⟩
    refine wp_seq (wp_seq (ecc_r21 A l.length c 0 F.z F.o0 o11 (fun a2 hs2 o96 => ?_)))
    have F := F.same hs2 (by decide)
    have o10 := hs2.keep 10 _ (by decide) o10
    refine wp_cond_false ((o96.eval (by rw [F.z]; decide)).trans (by rw [decide_eq_false (by omega)])) (wp_exit ?_)
    simp only [Exit.then, Exit.inBlock]
    exact hend _ _ F o10 S
  obtain ⟨gm, cm, rfl, -, -⟩ := ow_some (S.at_ (l1 := [])) hn
  obtain ⟨cur, S, hcs, hct, hnc, -⟩ := S.rowB
  have hcu : ∀ (j : Nat) (z : LZ), 0 ≤ j → zs[j]? = some z → cur[j * 2 + 1]? = some (.slice (some ⟨z.2.1, 0, none⟩) z.1.L.length z.2.2.1) := fun j z _ hz => by
    have h1 := (lzC_get hz).2
    have h2 := (List.getElem?_eq_some_iff.1 hz).1
    rw [← hct, List.getElem?_take_of_lt (by omega)] at h1
    rw [← Array.getElem?_toList]
    exact h1
  refine wp_loop (fun a' w' => ∃ (k : Nat) (cur : Array Value), k ≤ l.length ∧ cur.size = cm * 2 ∧ (∀ (j : Nat) (z : LZ), k ≤ j → zs[j]? = some z → cur[j * 2 + 1]? = some (.slice (some ⟨z.2.1, 0, none⟩) z.1.L.length z.2.2.1)) ∧ FE a' (.slice A l.length c) gL gR gN gW (.slice (some ⟨gm, 0, none⟩) l.length cm) ∧ Sl a' 10 v10 ∧ Sl a' 11 (.int .i64 ((k : Nat) : Int)) ∧ Held w0 w' (blkR gm 24 cur :: (lzR (zs.drop k) ++ R))) (fun a' _ => l.length - (intOf (a'.eval (.tmp 11))).toNat) ⟨0, cur, Nat.zero_le _, hcs, hcu, F, o10, o11, S⟩ ?_
  clear F o10 o11 S hcu hct hcs cur
  rintro a1 w1 ⟨k, cur, hk, hcs, hcu, F, o10, o11, S⟩
  have e11 := o11.eval (by rw [F.z]; decide)
  refine wp_seq (wp_seq (ecc_r21 A l.length c k F.z F.o0 o11 (fun a2 hs2 o96 => ?_)))
  have F := F.same hs2 (by decide)
  have o10 := hs2.keep 10 _ (by decide) o10
  have o11 := hs2.keep 11 _ (by decide) o11
  by_cases hlt : k < l.length
  · refine wp_cond_true ((o96.eval (by rw [F.z]; decide)).trans (by rw [decide_eq_true hlt])) (wp_skip ?_)
    simp only [Exit.then]
    obtain ⟨z, hz⟩ : ∃ z, zs[k]? = some z := ⟨_, List.getElem?_eq_getElem (by omega)⟩
    obtain ⟨x, y⟩ := z
    obtain ⟨gx, cx, Bs, M⟩ := y
    have hx : l[k]? = some x := by rw [← hzs, List.getElem?_map, hz]; rfl
    have hzm := hzk _ (List.mem_of_getElem? hz)
    simp only at hzm
    obtain ⟨hx50, hxb⟩ := hB x (List.mem_of_getElem? hx)
    obtain ⟨ad, rfl, -, hok⟩ := hf k x hx
    have hcV : ∀ V, Kp [] w0 V → ∀ j u, x.C.toList[j]? = some u → V.cell? ((ad.add (k * 2)).add j) = some u := fun V kV => by
      obtain ⟨ad', h1, h2, -⟩ := (hf.kp kV) k x hx
      cases h1
      exact h2
    rw [lzR_drop hz] at S
    have hcx := hcu k _ (Nat.le_refl _) hz
    have kd : ∀ V, Kp [] w1.drew V → Kp [] w1 V := fun V kV => ((Kp.refl [] w1).drew).trans kV (by simp)
    refine wp_seq (wp_block ?_)
    have HK : ∀ V, Kp [] w1.drew V → Calls Try.prog 18 #[.slice (some ⟨gx, 0, none⟩) x.L.length cx, .slice x.A x.L.length x.c] V fun e w' => e = .returned (.bool true) ∧ Kp [] V w' := fun V kV => by
      have SV := S.kp (kd V kV)
      refine kept15_any gx cx Bs M _ x.L V (Lent.of hzm SV ?_ ?_ ?_) (hok.kp (S.k.trans (kd V kV) (by simp))).txs hok.hl hok.hb
      · simp [lentL]
      · simp [lentL]
      · intro r hr
        simp [lentL, hr]
    refine wp_seq (wp_seq (ecc_r23 ad k l.length c hlt x.f x.A x.L.length x.c (fun V kV => hcV V (S.k.trans (kd V kV) (by simp))) gm cm cur gx cx hcx (S.at_ (l1 := [])).drew HK F.z F.o0 F.o5 o11 (fun a3 w3 hs3 k3 o110 => ?_)))
    have F := F.same hs3 (by decide)
    have o10 := hs3.keep 10 _ (by decide) o10
    have o11 := hs3.keep 11 _ (by decide) o11
    refine wp_cond_false (o110.eval (by rw [F.z]; decide)) (wp_skip ?_)
    simp only [Exit.then]
    have S := S.kp (kd _ k3)
    have S2 : Held w0 w3 (lentL (gx, cx, Bs, M) x.L ++ (blkR gm 24 cur :: (lzR (zs.drop (k + 1)) ++ R))) := by
      rw [List.append_assoc] at S
      exact S.perm List.perm_middle.symm
    have HS := spoilt15_any (T := blkR gm 24 cur :: (lzR (zs.drop (k + 1)) ++ R)) _ x.L Bs w3 hzm.symm hxb (by omega) (lent_rows hzm S2)
    refine wp_seq (ecc_r25 k l.length hlt x.L.length gm cm cur gx cx hcx (S.at_ (l1 := [])) _ HS F.z F.o5 o11 (fun a4 w4 hs4 S => ?_))
    have F := F.same hs4 (by decide)
    have o10 := hs4.keep 10 _ (by decide) o10
    have o11 := hs4.keep 11 _ (by decide) o11
    refine ecc_r26 w0 k l.length hlt gm cm cur (by omega) _ S F.z F.o5 o11 (fun a5 w5 hs5 h5 => ?_)
    obtain ⟨cur', hcs', hcc', S⟩ := h5
    have F := F.same hs5 (by decide)
    have o10 := hs5.keep 10 _ (by decide) o10
    have o11 := hs5.keep 11 _ (by decide) o11
    simp only [Exit.inBlock, Exit.then]
    refine ecc_r22 k (by omega) F.z o11 (fun a6 hs6 o11 => ?_)
    have F := F.same hs6 (by decide)
    have o10 := hs6.keep 10 _ (by decide) o10
    refine ⟨⟨k + 1, cur', hlt, hcs'.trans hcs, fun j z hj hz => ?_, F, o10, o11, S⟩, ?_⟩
    · rw [hcc' _ (by omega)]
      exact hcu j z (by omega) hz
    · show l.length - (intOf _).toNat < l.length - (intOf _).toNat
      rw [e11, o11.eval (by rw [F.z]; decide)]
      simp only [intOf]; omega
  · refine wp_cond_false ((o96.eval (by rw [F.z]; decide)).trans (by rw [decide_eq_false hlt])) (wp_exit ?_)
    simp only [Exit.then, Exit.inBlock]
    obtain rfl : k = l.length := by omega
    rw [List.drop_of_length_le (by omega)] at S
    exact hend _ _ F o10 S.drop
end
/- A function that ranges over functions, its frame abstract; what is held, and things made later. -/
section
open Go.RowKit Go.Shelf
/-- A call of a function that ranges over functions, its frame abstract. -/
theorem calls_mfr {P : Program} {f : FuncId} {fn : Func} {c : Code} {args : Array Value} {w : World} {R : Ending → World → Prop} (hf : P.funcs[f]? = some fn) (hb : fn.body = some c) (N : Nat) (hN : args.size + (fn.ntmps - args.size) = N)
    (h : ∀ a : Act, a.tmps.size = N → a.defers = [] → (∀ i v, args[i]? = some v → Sl a i v) → c.wp P (bodyPostM Fence.wide 3 P fn R) a w) : Calls P f args w R :=
  calls_marks hf hb (h _ (by simp only [Array.size_append, Array.size_replicate]; exact hN) rfl (fun i v hi => sl_of (by
    rw [Array.getElem?_append_left (Array.getElem?_eq_some_iff.1 hi).1]; exact hi)))
theorem sl_setI {a : Act} {d e : Nat} {v u : Value} {D : List Deferred} (h : Sl a d v) (hne : e ≠ d) : Sl { tmps := a.tmps.setIfInBounds e u, defers := D } d v := sl_put1 (u := u) h hne
theorem sl_newI {a : Act} {e : Nat} {u : Value} {D : List Deferred} : Sl { tmps := a.tmps.setIfInBounds e u, defers := D } e u := by
  intro h
  simp
/-- The frame in which a round begins: two slots hold what was told. -/
theorem same_range2 {a : Act} {p q : Nat} {u v : Value} {D : List Deferred} (hpq : p ≠ q) : ∀ a' : Act, a' = { tmps := (a.tmps.setIfInBounds p u).setIfInBounds q v, defers := D } → a'.tmps.size = a.tmps.size ∧ a'.defers = D ∧ (∀ d x, ([p, q].contains d) = false → Sl a d x → Sl a' d x) ∧ Sl a' p u ∧ Sl a' q v := by
  rintro a' rfl
  refine ⟨by simp, rfl, fun d x hd hs => ?_, ?_, ?_⟩
  · simp only [List.contains_cons, List.contains_nil, Bool.or_false, Bool.or_eq_false_iff, beq_eq_false_iff_ne, ne_eq] at hd
    exact sl_setI (a := ⟨a.tmps.setIfInBounds p u, D⟩) (sl_setI hs (fun e => hd.1 e.symm)) (fun e => hd.2 e.symm)
  · exact sl_setI (a := ⟨a.tmps.setIfInBounds p u, D⟩) (sl_newI (a := a) (D := D)) (fun e => hpq e.symm)
  · exact sl_newI (a := ⟨a.tmps.setIfInBounds p u, D⟩)
/-- All lies below B. -/
def Low (B : Nat) (L : List Res) : Prop := ∀ r ∈ L, ∀ b ∈ r.fp, b < B
theorem Low.of {w0 W : World} {L : List Res} (S : Held w0 W L) : Low W.heap.size L := fun r hr b hb => r.lt W (S.ok r hr) b hb
theorem Low.same {B : Nat} {r r' : Res} {L : List Res} (h : Low B (r :: L)) (e : r'.fp = r.fp) : Low B (r' :: L) := fun s hs => by
  rcases List.mem_cons.1 hs with rfl | hs
  · rw [e]; exact h r (List.mem_cons_self ..)
  · exact h s (List.mem_cons_of_mem _ hs)
/-- A thing made later, held elsewhere. -/
theorem Held.also {w0 W : World} {L L' : List Res} {r : Res} {B : Nat} (S : Held w0 W L) (T : Held w0 W (r :: L')) (hL : Low B L) (hB : ∀ b ∈ r.fp, B ≤ b) : Held w0 W (r :: L) :=
  ⟨S.k, fun s hs => by
    rcases List.mem_cons.1 hs with rfl | hs
    · exact T.ok _ (List.mem_cons_self ..)
    · exact S.ok s hs, fun s hs => by
    rcases List.mem_cons.1 hs with rfl | hs
    · exact T.base _ (List.mem_cons_self ..)
    · exact S.base s hs, List.pairwise_cons.2 ⟨fun s hs b hb hb' => by
      have h1 := hL s hs b hb'
      have h2 := hB b hb
      omega, S.apart⟩⟩
theorem stays_size (B n : Nat) : Stays B (fun W => n ≤ W.heap.size) := by
  intro W W' h hk
  rcases hk with hk | ⟨l, o, o', hl, hlo, ho, rfl⟩
  · exact Nat.le_trans h hk.size
  · simpa using h
end
end Go.Proofs.Ytdmdnphbheomoaa
