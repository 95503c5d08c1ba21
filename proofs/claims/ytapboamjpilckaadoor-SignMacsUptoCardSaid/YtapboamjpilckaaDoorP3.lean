/- Several texts in one: ShaW, ShaV, ShaE, Cut, ShaI, PtN, PtE, PtF, PtG, ShaJ, ShaK, ShaL. -/
import Derived.Laws.CopyOwn
import Derived.Lib.ItoaNum
import Derived.Lib.ParseIntB
import Derived.Lib.Bytealg
import Derived.WalkKit
import Derived.Test.YtapboamjpilckaaDoorShelf
import Derived.Lib.SmallJoins
import Derived.Lib.AtoiErrMem
import Derived.Test.YtapboamjpilckaaDoorP2
/- Block of sha: the words' regions, each a theorem. -/
namespace Go.Proofs.YtapboamjpilckaaDoor
open Go.RowKit
-- REG sblk3
set_option maxRecDepth 100000 in
set_option maxHeartbeats 2000000 in
theorem sblk_r3 {Q : Exit → Act → World → Prop} {a : Act} {w : World} (k : Nat) (hsz : a.tmps.size = 172) (o18 : Sl a 18 (.int .i64 (k : Int)))
    (hend : ∀ (a' : Act), Same a a' [19] → Sl a' 19 (.bool (decide ((k : Int) < 16))) → Q .normal a' (w)) : (Code.region 3 (opsOf 3 Tryd.f82).toArray false).wp Tryd.prog Q a w := by
  refine wp_region_lit (l := (opsOf 3 Tryd.f82)) ?_
  conv => arg 4; whnf
  unfold Sl at o18
  go_wp2_with fail
  try simp only [Act.put]
  exact hend _ (by repeat (first | (with_reducible refine same_set (by decide) ?_) | (with_reducible exact same_nil))) (by unfold Sl; first | (simp [hsz]; done) | (simp [hsz]; omega))
-- END sblk3
-- REG sblk4
set_option maxRecDepth 100000 in
set_option maxHeartbeats 2000000 in
theorem sblk_r4 {Q : Exit → Act → World → Prop} {a : Act} {w : World} (k : Nat) (hsz : a.tmps.size = 172) (o18 : Sl a 18 (.int .i64 (k : Int)))
    (hend : ∀ (a' : Act), Same a a' [20, 6] → Sl a' 6 (.int .i64 (k : Int)) → Q .normal a' (w)) : (Code.region 4 (opsOf 4 Tryd.f82).toArray false).wp Tryd.prog Q a w := by
  refine wp_region_lit (l := (opsOf 4 Tryd.f82)) ?_
  conv => arg 4; whnf
  unfold Sl at o18
  go_wp2_with fail
  try simp only [Act.put]
  exact hend _ (by repeat (first | (with_reducible refine same_set (by decide) ?_) | (with_reducible exact same_nil))) (by unfold Sl; first | (simp [hsz]; done) | (simp [hsz]; omega))
-- END sblk4
-- REG sblk5
set_option maxRecDepth 100000 in
set_option maxHeartbeats 2000000 in
theorem sblk_r5 {Q : Exit → Act → World → Prop} {a : Act} {w : World} (w0 : World) (k g5 g3 : Nat) (L : List Nat) (b : List UInt8) (R : List Res) (hlt : k < 16) (hbl : b.length = 64) (hL : L.length = k) (S : Held w0 w (blkR g5 144 (u32A (pz L)) :: blkR g3 76 (hashA b) :: R)) (hsz : a.tmps.size = 172) (o3 : Sl a 3 (.pointer (some ⟨g3, 0, none⟩))) (o5 : Sl a 5 (.pointer (some ⟨g5, 0, none⟩))) (o6 : Sl a 6 (.int .i64 (k : Int)))
    (hend : ∀ (a' : Act) (W : World), Same a a' [21, 22, 23, 24, 25, 26] → (Held w0 W (blkR g5 144 (u32A (pz (L ++ [num ((b.drop (4 * k)).take 4)]))) :: blkR g3 76 (hashA b) :: R)) → Q .normal a' W) : (Code.region 5 (opsOf 5 Tryd.f82).toArray false).wp Tryd.prog Q a w := by
  refine wp_region_lit (l := (opsOf 5 Tryd.f82)) ?_
  conv => arg 4; whnf
  unfold Sl at o3 o5 o6
  have S := Lib.hid S
  have HBl := Lib.hid hbl
  have HP := Lib.hid (pz_next (l := L) (by omega) (num ((b.drop (4 * k)).take 4)))
  rw [hL] at HP
  have HR : Hid (Calls Tryd.prog 97 #[.slice (some ⟨g3, 4 * k, none⟩) (64 - 4 * k) (64 - 4 * k)] w fun e w' => e = .returned (.int .u32 ((num ((b.drop (4 * k)).take 4) : Nat) : Int)) ∧ w = w') := Lib.hid (by
    have := bytes_rd (S.out.at_ (l1 := [_])) (4 * k) (by rw [hbl]; omega) (by rw [hbl]; omega)
    rw [hbl] at this
    exact word_any _ _ _ (by omega) w this)
  generalize num ((b.drop (4 * k)).take 4) = nw at *
  have hpl : k < (pz L).length := by rw [pz_length (by omega)]; omega
  have q1 := u32_cell (S.out.at_ (l1 := [])) k _ (getD_at hpl)
  have q2 := (S.out.at_ (l1 := [])).frozen k
  have q3 := (S.out.at_ (l1 := [])).lt
  have S2 : Hid (Held w0 (w.setCell ⟨g5, k, none⟩ (.int .u32 (nw : Int))) _) := Lib.hid (S.out.set (l1 := []) k (.int .u32 (nw : Int)))
  rw [u32A_set, HP.out] at S2
  clear hpl hL hbl
  have hs := Tryd.slice64 g3 w (4 * k) (4 * (k : Int)) (by omega) (by omega)
  go_wp2_with fail
  refine HR.out.mono ?_
  rintro e w' ⟨rfl, rfl⟩
  go_wp2
  try simp only [Act.put]
  exact hend _ _ (by repeat (first | (with_reducible refine same_set (by decide) ?_) | (with_reducible exact same_nil))) (S2.out)
-- END sblk5
-- REG sblk6
set_option maxRecDepth 100000 in
set_option maxHeartbeats 2000000 in
theorem sblk_r6 {Q : Exit → Act → World → Prop} {a : Act} {w : World} (k : Nat) (hk : k < 16) (hsz : a.tmps.size = 172) (o18 : Sl a 18 (.int .i64 (k : Int)))
    (hend : ∀ (a' : Act), Same a a' [27, 18] → Sl a' 18 (.int .i64 ((k + 1 : Nat) : Int)) → Q .normal a' (w)) : (Code.region 6 (opsOf 6 Tryd.f82).toArray false).wp Tryd.prog Q a w := by
  refine wp_region_lit (l := (opsOf 6 Tryd.f82)) ?_
  conv => arg 4; whnf
  unfold Sl at o18
  go_wp2_with fail
  try simp only [Act.put]
  exact hend _ (by repeat (first | (with_reducible refine same_set (by decide) ?_) | (with_reducible exact same_nil))) (by unfold Sl; first | (simp [hsz]; done) | (simp [hsz]; omega))
-- END sblk6
-- REG sblk8
set_option maxRecDepth 100000 in
set_option maxHeartbeats 2000000 in
theorem sblk_r8 {Q : Exit → Act → World → Prop} {a : Act} {w : World} (n : Nat) (hsz : a.tmps.size = 172) (o7 : Sl a 7 (.int .i64 (n : Int)))
    (hend : ∀ (a' : Act), Same a a' [28, 29] → Sl a' 29 (.bool (decide ((n : Int) < 64))) → Q .normal a' (w)) : (Code.region 8 (opsOf 8 Tryd.f82).toArray false).wp Tryd.prog Q a w := by
  refine wp_region_lit (l := (opsOf 8 Tryd.f82)) ?_
  conv => arg 4; whnf
  unfold Sl at o7
  go_wp2_with fail
  try simp only [Act.put]
  exact hend _ (by repeat (first | (with_reducible refine same_set (by decide) ?_) | (with_reducible exact same_nil))) (by unfold Sl; first | (simp [hsz]; done) | (simp [hsz]; omega))
-- END sblk8
-- REG sblk9
set_option maxRecDepth 100000 in
set_option maxHeartbeats 2000000 in
theorem sblk_r9 {Q : Exit → Act → World → Prop} {a : Act} {w : World} (n : Nat) (hn : n < 64) (hsz : a.tmps.size = 172) (o7 : Sl a 7 (.int .i64 (n : Int)))
    (hend : ∀ (a' : Act), Same a a' [30, 31, 7] → Sl a' 7 (.int .i64 ((n + 1 : Nat) : Int)) → Q .normal a' (w)) : (Code.region 9 (opsOf 9 Tryd.f82).toArray false).wp Tryd.prog Q a w := by
  refine wp_region_lit (l := (opsOf 9 Tryd.f82)) ?_
  conv => arg 4; whnf
  unfold Sl at o7
  go_wp2_with fail
  try simp only [Act.put]
  exact hend _ (by repeat (first | (with_reducible refine same_set (by decide) ?_) | (with_reducible exact same_nil))) (by unfold Sl; first | (simp [hsz]; done) | (simp [hsz]; omega))
-- END sblk9
-- REG sblk10
set_option maxRecDepth 100000 in
set_option maxHeartbeats 2000000 in
theorem sblk_r10 {Q : Exit → Act → World → Prop} {a : Act} {w : World} (j g5 x y : Nat) (L : List Nat) (hlt : j < 48) (HX : Hid (L[j + 1]? = some x)) (HY : Hid (L[j + 14]? = some y)) (HW : Hid (∀ V, Kp [] w V → ∀ i x : Nat, L[i]? = some x → V.cell? ⟨g5, i, none⟩ = some (.int .u32 (x : Int)))) (hsz : a.tmps.size = 172) (o5 : Sl a 5 (.pointer (some ⟨g5, 0, none⟩))) (o7 : Sl a 7 (.int .i64 ((j + 16 : Nat) : Int)))
    (hend : ∀ (a' : Act) (W : World), Same a a' [32, 33, 34, 35, 36, 37, 38, 39, 8, 9] → Kp [] w.drew W → Sl a' 8 (.int .u32 (x : Int)) → Sl a' 9 (.int .u32 (y : Int)) → Q .normal a' W) : (Code.region 10 (opsOf 10 Tryd.f82).toArray true).wp Tryd.prog Q a w := by
  have hap : apartB (opsOf 10 Tryd.f82) = true := by kernel_rfl
  refine wp_region_inv (l := (opsOf 10 Tryd.f82)) (fun i v W => match i with | 0 => v = .int .i64 ((j + 16 : Nat) : Int) | 1 => v = .int .i64 ((j + 1 : Nat) : Int) | 2 => v = .pointer (some ⟨g5, j + 1, none⟩) | 3 => v = .int .u32 (x : Int) | 4 => v = .int .i64 ((j + 16 : Nat) : Int) | 5 => v = .int .i64 ((j + 14 : Nat) : Int) | 6 => v = .pointer (some ⟨g5, j + 14, none⟩) | 7 => v = .int .u32 (y : Int) | 8 => v = .int .u32 (x : Int) | 9 => v = .int .u32 (y : Int) | _ => True) (by kernel_rfl) hap (by kernel_rfl) ?_ ?_ ?_
  · intro i v W W' h _
    iterate 10 (rcases i with _ | i; · exact h)
    exact h
  · refine ⟨?_, ?_, ?_, ?_, ?_, ?_, ?_, ?_, ?_, ?_, trivial⟩
    · intro vs A' W hA hW hd K hK
      have e7 : A'.tmps[7]?.getD undef = .int .i64 ((j + 16 : Nat) : Int) := slot_out hA hap (Nat.lt_of_lt_of_eq (Nat.le_of_ble_eq_true rfl : 7 < 172) hsz.symm) (by kernel_rfl) o7
      clear hA hd o5 o7
      go_step
      exact hK _ _ (Kp.refl _ _) rfl
    · intro vs A' W hA hW hd K hK
      have f0 : vs 0 = .int .i64 ((j + 16 : Nat) : Int) := hd 0 (by kernel_rfl)
      have e32 : A'.tmps[32]?.getD undef = vs 0 := slot_in hA hap (Nat.lt_of_lt_of_eq (Nat.le_of_ble_eq_true rfl : 32 < 172) hsz.symm) (by kernel_rfl)
      rw [f0] at e32
      clear hA hd o5 o7
      go_step
      exact hK _ _ (Kp.refl _ _) (congrArg (Value.int .i64) (by first | omega | (unfold wrap64; omega)))
    · intro vs A' W hA hW hd K hK
      have e5 : A'.tmps[5]?.getD undef = .pointer (some ⟨g5, 0, none⟩) := slot_out hA hap (Nat.lt_of_lt_of_eq (Nat.le_of_ble_eq_true rfl : 5 < 172) hsz.symm) (by kernel_rfl) o5
      have f1 : vs 1 = .int .i64 ((j + 1 : Nat) : Int) := hd 1 (by kernel_rfl)
      have e33 : A'.tmps[33]?.getD undef = vs 1 := slot_in hA hap (Nat.lt_of_lt_of_eq (Nat.le_of_ble_eq_true rfl : 33 < 172) hsz.symm) (by kernel_rfl)
      rw [f1] at e33
      clear hA hd o5 o7
      have h0 : 0 ≤ (j : Int) + 1 := by omega
      have h1 : (j : Int) + 1 < 64 := by omega
      go_step
      exact hK _ _ (Kp.refl _ _) rfl
    · intro vs A' W hA hW hd K hK
      have f2 : vs 2 = .pointer (some ⟨g5, j + 1, none⟩) := hd 2 (by kernel_rfl)
      have e34 : A'.tmps[34]?.getD undef = vs 2 := slot_in hA hap (Nat.lt_of_lt_of_eq (Nat.le_of_ble_eq_true rfl : 34 < 172) hsz.symm) (by kernel_rfl)
      rw [f2] at e34
      clear hA hd o5 o7
      have c0 := HW.out W ((Kp.refl [] _).drew.trans hW (by simp)) (j + 1) x HX.out
      go_step
      exact hK _ _ (Kp.refl _ _) rfl
    · intro vs A' W hA hW hd K hK
      have e7 : A'.tmps[7]?.getD undef = .int .i64 ((j + 16 : Nat) : Int) := slot_out hA hap (Nat.lt_of_lt_of_eq (Nat.le_of_ble_eq_true rfl : 7 < 172) hsz.symm) (by kernel_rfl) o7
      clear hA hd o5 o7
      go_step
      exact hK _ _ (Kp.refl _ _) rfl
    · intro vs A' W hA hW hd K hK
      have f4 : vs 4 = .int .i64 ((j + 16 : Nat) : Int) := hd 4 (by kernel_rfl)
      have e36 : A'.tmps[36]?.getD undef = vs 4 := slot_in hA hap (Nat.lt_of_lt_of_eq (Nat.le_of_ble_eq_true rfl : 36 < 172) hsz.symm) (by kernel_rfl)
      rw [f4] at e36
      clear hA hd o5 o7
      go_step
      exact hK _ _ (Kp.refl _ _) (congrArg (Value.int .i64) (by first | omega | (unfold wrap64; omega)))
    · intro vs A' W hA hW hd K hK
      have e5 : A'.tmps[5]?.getD undef = .pointer (some ⟨g5, 0, none⟩) := slot_out hA hap (Nat.lt_of_lt_of_eq (Nat.le_of_ble_eq_true rfl : 5 < 172) hsz.symm) (by kernel_rfl) o5
      have f5 : vs 5 = .int .i64 ((j + 14 : Nat) : Int) := hd 5 (by kernel_rfl)
      have e37 : A'.tmps[37]?.getD undef = vs 5 := slot_in hA hap (Nat.lt_of_lt_of_eq (Nat.le_of_ble_eq_true rfl : 37 < 172) hsz.symm) (by kernel_rfl)
      rw [f5] at e37
      clear hA hd o5 o7
      have h0 : 0 ≤ (j : Int) + 14 := by omega
      have h1 : (j : Int) + 14 < 64 := by omega
      go_step
      exact hK _ _ (Kp.refl _ _) rfl
    · intro vs A' W hA hW hd K hK
      have f6 : vs 6 = .pointer (some ⟨g5, j + 14, none⟩) := hd 6 (by kernel_rfl)
      have e38 : A'.tmps[38]?.getD undef = vs 6 := slot_in hA hap (Nat.lt_of_lt_of_eq (Nat.le_of_ble_eq_true rfl : 38 < 172) hsz.symm) (by kernel_rfl)
      rw [f6] at e38
      clear hA hd o5 o7
      have c0 := HW.out W ((Kp.refl [] _).drew.trans hW (by simp)) (j + 14) y HY.out
      go_step
      exact hK _ _ (Kp.refl _ _) rfl
    · intro vs A' W hA hW hd K hK
      have f3 : vs 3 = .int .u32 (x : Int) := hd 3 (by kernel_rfl)
      have e35 : A'.tmps[35]?.getD undef = vs 3 := slot_in hA hap (Nat.lt_of_lt_of_eq (Nat.le_of_ble_eq_true rfl : 35 < 172) hsz.symm) (by kernel_rfl)
      rw [f3] at e35
      clear hA hd o5 o7
      go_step
      exact hK _ _ (Kp.refl _ _) rfl
    · intro vs A' W hA hW hd K hK
      have f7 : vs 7 = .int .u32 (y : Int) := hd 7 (by kernel_rfl)
      have e39 : A'.tmps[39]?.getD undef = vs 7 := slot_in hA hap (Nat.lt_of_lt_of_eq (Nat.le_of_ble_eq_true rfl : 39 < 172) hsz.symm) (by kernel_rfl)
      rw [f7] at e39
      clear hA hd o5 o7
      go_step
      exact hK _ _ (Kp.refl _ _) rfl
  · intro vs W hW hp
    rw [show putAll vs (opsOf 10 Tryd.f82) 0 a = putD [(32, vs 0), (33, vs 1), (34, vs 2), (35, vs 3), (36, vs 4), (37, vs 5), (38, vs 6), (39, vs 7), (8, vs 8), (9, vs 9)] a from by kernel_rfl]
    exact hend _ W (same_putD _ a) hW (sl_putD _ a 8 _ (by rw [show vs 8 = _ from hp 8 (Nat.le_of_ble_eq_true (by kernel_rfl))]; kernel_rfl)) (sl_putD _ a 9 _ (by rw [show vs 9 = _ from hp 9 (Nat.le_of_ble_eq_true (by kernel_rfl))]; kernel_rfl))
-- END sblk10
-- REG sblk11
set_option maxRecDepth 100000 in
set_option maxHeartbeats 2000000 in
theorem sblk_r11 {Q : Exit → Act → World → Prop} {a : Act} {w : World} (w0 : World) (j g5 : Nat) (L : List Nat) (R : List Res) (hlt : j < 48) (a1 c m : Nat) (HA : L[j]? = some a1) (HC : L[j + 9]? = some c) (HM : L[j + 16]? = some m) (hsz : a.tmps.size = 172) (o5 : Sl a 5 (.pointer (some ⟨g5, 0, none⟩))) (o7 : Sl a 7 (.int .i64 ((j + 16 : Nat) : Int)))
    (S0 : Held w0 w (blkR g5 144 (u32A L) :: R))
    (hend : ∀ (a' : Act) (W : World), Same a a' [40, 41, 42, 43, 44, 45, 46, 47, 48, 49, 50] → Held w0 W (blkR g5 144 (u32A (L.set (j + 16) ((a1 + c) % 4294967296))) :: R) → Q .normal a' W) : (Code.region 11 (opsOf 11 Tryd.f82).toArray true).wp Tryd.prog Q a w := by
  have hap : apartB (opsOf 11 Tryd.f82) = true := by kernel_rfl
  refine wp_region_sep (Γ := Unit) (l := (opsOf 11 Tryd.f82)) 2 [0, 1, 2, 3, 4, 5, 6, 7, 8, 9, 10, 11, 13]
    (fun i vs gs => match i with | 0 => vs 0 = .int .i64 ((j + 16 : Nat) : Int) | 1 => vs 1 = .int .i64 ((j + 16 : Nat) : Int) | 2 => vs 2 = .int .i64 (j : Int) | 3 => vs 3 = .pointer (some ⟨g5, j, none⟩) | 4 => vs 4 = .int .u32 ((a1 : Nat) : Int) | 5 => vs 5 = .int .i64 ((j + 16 : Nat) : Int) | 6 => vs 6 = .int .i64 ((j + 9 : Nat) : Int) | 7 => vs 7 = .pointer (some ⟨g5, j + 9, none⟩) | 8 => vs 8 = .int .u32 ((c : Nat) : Int) | 9 => vs 9 = .int .u32 (((a1 + c) % 4294967296 : Nat) : Int) | 10 => vs 10 = .pointer (some ⟨g5, j + 16, none⟩) | _ => True)
    (fun i vs gs => match i with | 11 => [blkR g5 144 (u32A (L.set (j + 16) ((a1 + c) % 4294967296)))] | 12 => [blkR g5 144 (u32A (L))] | 13 => R | _ => [])
    (fun i => match i with | 11 => [12] | _ => []) (fun i => match i with | 4 => [12] | 8 => [12] | _ => []) S0 (by kernel_rfl) hap (by kernel_rfl) (by kernel_rfl) (fun i => match i with | 0 => [0] | 1 => [1] | 2 => [2] | 3 => [3] | 4 => [4] | 5 => [5] | 6 => [6] | 7 => [7] | 8 => [8] | 9 => [9] | 10 => [10] | _ => []) (by kernel_rfl) ?_ (by kernel_rfl) ?_ ?_ ?_
  · intro s vs vs' gs gs' h
    iterate 14 (rcases s with _ | s; · (first | exact ⟨rfl, id⟩ | (simp only [List.mem_cons, List.not_mem_nil, or_false, forall_eq] at h; simp [h])))
    exact ⟨rfl, id⟩
  · simp only [List.range, List.range.loop, List.flatMap_cons, List.flatMap_nil, List.append_nil]
    exact List.Perm.refl _
  · clear S0 hend
    refine ⟨?_, ?_, ?_, ?_, ?_, ?_, ?_, ?_, ?_, ?_, ?_, ?_, trivial⟩
    · intro vs gs A' W LF hA S hR hd hu K hK
      replace hK := hK default
      have e7 : A'.tmps[7]?.getD undef = .int .i64 ((j + 16 : Nat) : Int) := slot_out hA hap (Nat.lt_of_lt_of_eq (Nat.le_of_ble_eq_true rfl : 7 < 172) hsz.symm) (by kernel_rfl) o7
      clear hA o5 o7
      go_step
      exact hK _ _ S rfl
    · intro vs gs A' W LF hA S hR hd hu K hK
      replace hK := hK default
      have e7 : A'.tmps[7]?.getD undef = .int .i64 ((j + 16 : Nat) : Int) := slot_out hA hap (Nat.lt_of_lt_of_eq (Nat.le_of_ble_eq_true rfl : 7 < 172) hsz.symm) (by kernel_rfl) o7
      clear hA o5 o7
      go_step
      exact hK _ _ S rfl
    · intro vs gs A' W LF hA S hR hd hu K hK
      replace hK := hK default
      have f1 : vs 1 = .int .i64 ((j + 16 : Nat) : Int) := hd 1 (by kernel_rfl)
      have e41 : A'.tmps[41]?.getD undef = vs 1 := slot_in hA hap (Nat.lt_of_lt_of_eq (Nat.le_of_ble_eq_true rfl : 41 < 172) hsz.symm) (by kernel_rfl)
      rw [f1] at e41
      clear hA o5 o7
      go_step
      exact hK _ _ S (congrArg (Value.int .i64) (by first | omega | (unfold wrap64; omega)))
    · intro vs gs A' W LF hA S hR hd hu K hK
      replace hK := hK default
      have e5 : A'.tmps[5]?.getD undef = .pointer (some ⟨g5, 0, none⟩) := slot_out hA hap (Nat.lt_of_lt_of_eq (Nat.le_of_ble_eq_true rfl : 5 < 172) hsz.symm) (by kernel_rfl) o5
      have f2 : vs 2 = .int .i64 (j : Int) := hd 2 (by kernel_rfl)
      have e42 : A'.tmps[42]?.getD undef = vs 2 := slot_in hA hap (Nat.lt_of_lt_of_eq (Nat.le_of_ble_eq_true rfl : 42 < 172) hsz.symm) (by kernel_rfl)
      rw [f2] at e42
      clear hA o5 o7
      have h0 : 0 ≤ (j : Int) := by omega
      have h1 : (j : Int) < 64 := by omega
      go_step
      exact hK _ _ S rfl
    · intro vs gs A' W LF hA S hR hd hu K hK
      replace hK := hK default
      have f3 : vs 3 = .pointer (some ⟨g5, j, none⟩) := hd 3 (by kernel_rfl)
      have e43 : A'.tmps[43]?.getD undef = vs 3 := slot_in hA hap (Nat.lt_of_lt_of_eq (Nat.le_of_ble_eq_true rfl : 43 < 172) hsz.symm) (by kernel_rfl)
      rw [f3] at e43
      clear hA o5 o7
      have c0 := u32_cell (S.ok (blkR g5 144 (u32A (L))) (hR 12 (List.mem_singleton.2 rfl) _ (List.mem_singleton.2 rfl))) (j) (a1) HA
      go_step
      exact hK _ _ S rfl
    · intro vs gs A' W LF hA S hR hd hu K hK
      replace hK := hK default
      have e7 : A'.tmps[7]?.getD undef = .int .i64 ((j + 16 : Nat) : Int) := slot_out hA hap (Nat.lt_of_lt_of_eq (Nat.le_of_ble_eq_true rfl : 7 < 172) hsz.symm) (by kernel_rfl) o7
      clear hA o5 o7
      go_step
      exact hK _ _ S rfl
    · intro vs gs A' W LF hA S hR hd hu K hK
      replace hK := hK default
      have f5 : vs 5 = .int .i64 ((j + 16 : Nat) : Int) := hd 5 (by kernel_rfl)
      have e45 : A'.tmps[45]?.getD undef = vs 5 := slot_in hA hap (Nat.lt_of_lt_of_eq (Nat.le_of_ble_eq_true rfl : 45 < 172) hsz.symm) (by kernel_rfl)
      rw [f5] at e45
      clear hA o5 o7
      go_step
      exact hK _ _ S (congrArg (Value.int .i64) (by first | omega | (unfold wrap64; omega)))
    · intro vs gs A' W LF hA S hR hd hu K hK
      replace hK := hK default
      have e5 : A'.tmps[5]?.getD undef = .pointer (some ⟨g5, 0, none⟩) := slot_out hA hap (Nat.lt_of_lt_of_eq (Nat.le_of_ble_eq_true rfl : 5 < 172) hsz.symm) (by kernel_rfl) o5
      have f6 : vs 6 = .int .i64 ((j + 9 : Nat) : Int) := hd 6 (by kernel_rfl)
      have e46 : A'.tmps[46]?.getD undef = vs 6 := slot_in hA hap (Nat.lt_of_lt_of_eq (Nat.le_of_ble_eq_true rfl : 46 < 172) hsz.symm) (by kernel_rfl)
      rw [f6] at e46
      clear hA o5 o7
      have h0 : 0 ≤ (j : Int) + 9 := by omega
      have h1 : (j : Int) + 9 < 64 := by omega
      go_step
      exact hK _ _ S rfl
    · intro vs gs A' W LF hA S hR hd hu K hK
      replace hK := hK default
      have f7 : vs 7 = .pointer (some ⟨g5, j + 9, none⟩) := hd 7 (by kernel_rfl)
      have e47 : A'.tmps[47]?.getD undef = vs 7 := slot_in hA hap (Nat.lt_of_lt_of_eq (Nat.le_of_ble_eq_true rfl : 47 < 172) hsz.symm) (by kernel_rfl)
      rw [f7] at e47
      clear hA o5 o7
      have c0 := u32_cell (S.ok (blkR g5 144 (u32A (L))) (hR 12 (List.mem_singleton.2 rfl) _ (List.mem_singleton.2 rfl))) (j + 9) (c) HC
      go_step
      exact hK _ _ S rfl
    · intro vs gs A' W LF hA S hR hd hu K hK
      replace hK := hK default
      have f4 : vs 4 = .int .u32 ((a1 : Nat) : Int) := hd 4 (by kernel_rfl)
      have e44 : A'.tmps[44]?.getD undef = vs 4 := slot_in hA hap (Nat.lt_of_lt_of_eq (Nat.le_of_ble_eq_true rfl : 44 < 172) hsz.symm) (by kernel_rfl)
      rw [f4] at e44
      have f8 : vs 8 = .int .u32 ((c : Nat) : Int) := hd 8 (by kernel_rfl)
      have e48 : A'.tmps[48]?.getD undef = vs 8 := slot_in hA hap (Nat.lt_of_lt_of_eq (Nat.le_of_ble_eq_true rfl : 48 < 172) hsz.symm) (by kernel_rfl)
      rw [f8] at e48
      clear hA o5 o7
      go_step
      exact hK _ _ S (congrArg (Value.int .u32) (by first | omega | rfl))
    · intro vs gs A' W LF hA S hR hd hu K hK
      replace hK := hK default
      have e5 : A'.tmps[5]?.getD undef = .pointer (some ⟨g5, 0, none⟩) := slot_out hA hap (Nat.lt_of_lt_of_eq (Nat.le_of_ble_eq_true rfl : 5 < 172) hsz.symm) (by kernel_rfl) o5
      have f0 : vs 0 = .int .i64 ((j + 16 : Nat) : Int) := hd 0 (by kernel_rfl)
      have e40 : A'.tmps[40]?.getD undef = vs 0 := slot_in hA hap (Nat.lt_of_lt_of_eq (Nat.le_of_ble_eq_true rfl : 40 < 172) hsz.symm) (by kernel_rfl)
      rw [f0] at e40
      clear hA o5 o7
      have h0 : 0 ≤ (j : Int) + 16 := by omega
      have h1 : (j : Int) + 16 < 64 := by omega
      go_step
      exact hK _ _ S rfl
    · intro vs gs A' W LF hA S hR hd hu K hK
      replace hK := hK default
      have f10 : vs 10 = .pointer (some ⟨g5, j + 16, none⟩) := hd 10 (by kernel_rfl)
      have e50 : A'.tmps[50]?.getD undef = vs 10 := slot_in hA hap (Nat.lt_of_lt_of_eq (Nat.le_of_ble_eq_true rfl : 50 < 172) hsz.symm) (by kernel_rfl)
      rw [f10] at e50
      have f9 : vs 9 = .int .u32 (((a1 + c) % 4294967296 : Nat) : Int) := hd 9 (by kernel_rfl)
      have e49 : A'.tmps[49]?.getD undef = vs 9 := slot_in hA hap (Nat.lt_of_lt_of_eq (Nat.le_of_ble_eq_true rfl : 49 < 172) hsz.symm) (by kernel_rfl)
      rw [f9] at e49
      clear hA o5 o7
      have S1 : Held w0 W (blkR g5 144 (u32A (L)) :: LF) := S
      have q1 := u32_cell (S1.at_ (l1 := [])) (j + 16) _ (HM)
      have q2 := (S1.at_ (l1 := [])).frozen (j + 16)
      have q3 := (S1.at_ (l1 := [])).lt
      go_step
      have S2 := S1.set (l1 := []) (j + 16) (.int .u32 (((a1 + c) % 4294967296 : Nat) : Int))
      rw [u32A_set] at S2
      exact hK undef _ S2 trivial
  · intro vs gs W S hp
    have S : Held w0 W (blkR g5 144 (u32A (L.set (j + 16) ((a1 + c) % 4294967296))) :: R) := by simpa only [List.flatMap_cons, List.flatMap_nil, List.append_nil, List.nil_append, List.cons_append, List.append_assoc] using S
    rw [show putAll vs (opsOf 11 Tryd.f82) 0 a = putD [(40, vs 0), (41, vs 1), (42, vs 2), (43, vs 3), (44, vs 4), (45, vs 5), (46, vs 6), (47, vs 7), (48, vs 8), (49, vs 9), (50, vs 10)] a from by kernel_rfl]
    exact hend _ W (same_putD _ a)  S
-- END sblk11
-- REG sblk12
set_option maxRecDepth 100000 in
set_option maxHeartbeats 2000000 in
theorem sblk_r12 {Q : Exit → Act → World → Prop} {a : Act} {w : World} (w0 : World) (j g5 : Nat) (L : List Nat) (R : List Res) (hlt : j < 48) (m x : Nat) (HM : L[j + 16]? = some m) (HXl : x < 4294967296) (hsz : a.tmps.size = 172) (o5 : Sl a 5 (.pointer (some ⟨g5, 0, none⟩))) (o7 : Sl a 7 (.int .i64 ((j + 16 : Nat) : Int))) (o8 : Sl a 8 (.int .u32 ((x : Nat) : Int)))
    (S0 : Held w0 w (blkR g5 144 (u32A L) :: R))
    (hend : ∀ (a' : Act) (W : World), Same a a' [51, 52, 53, 54, 55, 56, 57, 58, 59, 60, 61, 62, 63] → Held w0 W (blkR g5 144 (u32A (L.set (j + 16) ((m + sg0 x) % 4294967296))) :: R) → Q .normal a' W) : (Code.region 12 (opsOf 12 Tryd.f82).toArray true).wp Tryd.prog Q a w := by
  have hap : apartB (opsOf 12 Tryd.f82) = true := by kernel_rfl
  refine wp_region_sep (Γ := Unit) (l := (opsOf 12 Tryd.f82)) 2 [0, 1, 2, 3, 4, 5, 6, 7, 8, 9, 10, 11, 12, 13, 15]
    (fun i vs gs => match i with | 0 => vs 0 = .int .i64 ((j + 16 : Nat) : Int) | 1 => vs 1 = .pointer (some ⟨g5, j + 16, none⟩) | 2 => vs 2 = .int .u32 ((m : Nat) : Int) | 3 => vs 3 = .int .u32 ((x : Nat) : Int) | 4 => vs 4 = .int .u32 ((rotr x 7 : Nat) : Int) | 5 => vs 5 = .int .u32 ((x : Nat) : Int) | 6 => vs 6 = .int .u32 ((rotr x 18 : Nat) : Int) | 7 => vs 7 = .int .u32 ((rotr x 7 ^^^ rotr x 18 : Nat) : Int) | 8 => vs 8 = .int .u32 ((x : Nat) : Int) | 9 => vs 9 = .int .u32 ((x / 8 : Nat) : Int) | 10 => vs 10 = .int .u32 ((sg0 x : Nat) : Int) | 11 => vs 11 = .int .u32 (((m + sg0 x) % 4294967296 : Nat) : Int) | 12 => vs 12 = .pointer (some ⟨g5, j + 16, none⟩) | _ => True)
    (fun i vs gs => match i with | 13 => [blkR g5 144 (u32A (L.set (j + 16) ((m + sg0 x) % 4294967296)))] | 14 => [blkR g5 144 (u32A (L))] | 15 => R | _ => [])
    (fun i => match i with | 13 => [14] | _ => []) (fun i => match i with | 2 => [14] | _ => []) S0 (by kernel_rfl) hap (by kernel_rfl) (by kernel_rfl) (fun i => match i with | 0 => [0] | 1 => [1] | 2 => [2] | 3 => [3] | 4 => [4] | 5 => [5] | 6 => [6] | 7 => [7] | 8 => [8] | 9 => [9] | 10 => [10] | 11 => [11] | 12 => [12] | _ => []) (by kernel_rfl) ?_ (by kernel_rfl) ?_ ?_ ?_
  · intro s vs vs' gs gs' h
    iterate 16 (rcases s with _ | s; · (first | exact ⟨rfl, id⟩ | (simp only [List.mem_cons, List.not_mem_nil, or_false, forall_eq] at h; simp [h])))
    exact ⟨rfl, id⟩
  · simp only [List.range, List.range.loop, List.flatMap_cons, List.flatMap_nil, List.append_nil]
    exact List.Perm.refl _
  · clear S0 hend
    refine ⟨?_, ?_, ?_, ?_, ?_, ?_, ?_, ?_, ?_, ?_, ?_, ?_, ?_, ?_, trivial⟩
    · intro vs gs A' W LF hA S hR hd hu K hK
      replace hK := hK default
      have e7 : A'.tmps[7]?.getD undef = .int .i64 ((j + 16 : Nat) : Int) := slot_out hA hap (Nat.lt_of_lt_of_eq (Nat.le_of_ble_eq_true rfl : 7 < 172) hsz.symm) (by kernel_rfl) o7
      clear hA o5 o7 o8
      go_step
      exact hK _ _ S rfl
    · intro vs gs A' W LF hA S hR hd hu K hK
      replace hK := hK default
      have e5 : A'.tmps[5]?.getD undef = .pointer (some ⟨g5, 0, none⟩) := slot_out hA hap (Nat.lt_of_lt_of_eq (Nat.le_of_ble_eq_true rfl : 5 < 172) hsz.symm) (by kernel_rfl) o5
      have f0 : vs 0 = .int .i64 ((j + 16 : Nat) : Int) := hd 0 (by kernel_rfl)
      have e51 : A'.tmps[51]?.getD undef = vs 0 := slot_in hA hap (Nat.lt_of_lt_of_eq (Nat.le_of_ble_eq_true rfl : 51 < 172) hsz.symm) (by kernel_rfl)
      rw [f0] at e51
      clear hA o5 o7 o8
      have h0 : 0 ≤ (j : Int) + 16 := by omega
      have h1 : (j : Int) + 16 < 64 := by omega
      go_step
      exact hK _ _ S rfl
    · intro vs gs A' W LF hA S hR hd hu K hK
      replace hK := hK default
      have f1 : vs 1 = .pointer (some ⟨g5, j + 16, none⟩) := hd 1 (by kernel_rfl)
      have e52 : A'.tmps[52]?.getD undef = vs 1 := slot_in hA hap (Nat.lt_of_lt_of_eq (Nat.le_of_ble_eq_true rfl : 52 < 172) hsz.symm) (by kernel_rfl)
      rw [f1] at e52
      clear hA o5 o7 o8
      have c0 := u32_cell (S.ok (blkR g5 144 (u32A (L))) (hR 14 (List.mem_singleton.2 rfl) _ (List.mem_singleton.2 rfl))) (j + 16) (m) HM
      go_step
      exact hK _ _ S rfl
    · intro vs gs A' W LF hA S hR hd hu K hK
      replace hK := hK default
      have e8 : A'.tmps[8]?.getD undef = .int .u32 ((x : Nat) : Int) := slot_out hA hap (Nat.lt_of_lt_of_eq (Nat.le_of_ble_eq_true rfl : 8 < 172) hsz.symm) (by kernel_rfl) o8
      clear hA o5 o7 o8
      go_step
      exact hK _ _ S rfl
    · intro vs gs A' W LF hA S hR hd hu K hK
      replace hK := hK default
      have f3 : vs 3 = .int .u32 ((x : Nat) : Int) := hd 3 (by kernel_rfl)
      have e54 : A'.tmps[54]?.getD undef = vs 3 := slot_in hA hap (Nat.lt_of_lt_of_eq (Nat.le_of_ble_eq_true rfl : 54 < 172) hsz.symm) (by kernel_rfl)
      rw [f3] at e54
      clear hA o5 o7 o8
      go_step
      refine (srot_any x 7 7 rfl HXl (by unfold rotK; omega) W).mono ?_
      rintro e w' ⟨rfl, rfl⟩
      exact hK _ _ S rfl
    · intro vs gs A' W LF hA S hR hd hu K hK
      replace hK := hK default
      have e8 : A'.tmps[8]?.getD undef = .int .u32 ((x : Nat) : Int) := slot_out hA hap (Nat.lt_of_lt_of_eq (Nat.le_of_ble_eq_true rfl : 8 < 172) hsz.symm) (by kernel_rfl) o8
      clear hA o5 o7 o8
      go_step
      exact hK _ _ S rfl
    · intro vs gs A' W LF hA S hR hd hu K hK
      replace hK := hK default
      have f5 : vs 5 = .int .u32 ((x : Nat) : Int) := hd 5 (by kernel_rfl)
      have e56 : A'.tmps[56]?.getD undef = vs 5 := slot_in hA hap (Nat.lt_of_lt_of_eq (Nat.le_of_ble_eq_true rfl : 56 < 172) hsz.symm) (by kernel_rfl)
      rw [f5] at e56
      clear hA o5 o7 o8
      go_step
      refine (srot_any x 18 18 rfl HXl (by unfold rotK; omega) W).mono ?_
      rintro e w' ⟨rfl, rfl⟩
      exact hK _ _ S rfl
    · intro vs gs A' W LF hA S hR hd hu K hK
      replace hK := hK default
      have f4 : vs 4 = .int .u32 ((rotr x 7 : Nat) : Int) := hd 4 (by kernel_rfl)
      have e55 : A'.tmps[55]?.getD undef = vs 4 := slot_in hA hap (Nat.lt_of_lt_of_eq (Nat.le_of_ble_eq_true rfl : 55 < 172) hsz.symm) (by kernel_rfl)
      rw [f4] at e55
      have f6 : vs 6 = .int .u32 ((rotr x 18 : Nat) : Int) := hd 6 (by kernel_rfl)
      have e57 : A'.tmps[57]?.getD undef = vs 6 := slot_in hA hap (Nat.lt_of_lt_of_eq (Nat.le_of_ble_eq_true rfl : 57 < 172) hsz.symm) (by kernel_rfl)
      rw [f6] at e57
      clear hA o5 o7 o8
      go_step
      exact hK _ _ S (congrArg (Value.int .u32) (u32_x _ _ (rotr_lt HXl) (rotr_lt HXl)))
    · intro vs gs A' W LF hA S hR hd hu K hK
      replace hK := hK default
      have e8 : A'.tmps[8]?.getD undef = .int .u32 ((x : Nat) : Int) := slot_out hA hap (Nat.lt_of_lt_of_eq (Nat.le_of_ble_eq_true rfl : 8 < 172) hsz.symm) (by kernel_rfl) o8
      clear hA o5 o7 o8
      go_step
      exact hK _ _ S rfl
    · intro vs gs A' W LF hA S hR hd hu K hK
      replace hK := hK default
      have f8 : vs 8 = .int .u32 ((x : Nat) : Int) := hd 8 (by kernel_rfl)
      have e59 : A'.tmps[59]?.getD undef = vs 8 := slot_in hA hap (Nat.lt_of_lt_of_eq (Nat.le_of_ble_eq_true rfl : 59 < 172) hsz.symm) (by kernel_rfl)
      rw [f8] at e59
      clear hA o5 o7 o8
      go_step
      exact hK _ _ S (congrArg (Value.int .u32) (by first | omega | rfl))
    · intro vs gs A' W LF hA S hR hd hu K hK
      replace hK := hK default
      have f7 : vs 7 = .int .u32 ((rotr x 7 ^^^ rotr x 18 : Nat) : Int) := hd 7 (by kernel_rfl)
      have e58 : A'.tmps[58]?.getD undef = vs 7 := slot_in hA hap (Nat.lt_of_lt_of_eq (Nat.le_of_ble_eq_true rfl : 58 < 172) hsz.symm) (by kernel_rfl)
      rw [f7] at e58
      have f9 : vs 9 = .int .u32 ((x / 8 : Nat) : Int) := hd 9 (by kernel_rfl)
      have e60 : A'.tmps[60]?.getD undef = vs 9 := slot_in hA hap (Nat.lt_of_lt_of_eq (Nat.le_of_ble_eq_true rfl : 60 < 172) hsz.symm) (by kernel_rfl)
      rw [f9] at e60
      clear hA o5 o7 o8
      go_step
      exact hK _ _ S (congrArg (Value.int .u32) (u32_x _ _ (xor_lt (rotr_lt HXl) (rotr_lt HXl)) (div_lt HXl)))
    · intro vs gs A' W LF hA S hR hd hu K hK
      replace hK := hK default
      have f2 : vs 2 = .int .u32 ((m : Nat) : Int) := hd 2 (by kernel_rfl)
      have e53 : A'.tmps[53]?.getD undef = vs 2 := slot_in hA hap (Nat.lt_of_lt_of_eq (Nat.le_of_ble_eq_true rfl : 53 < 172) hsz.symm) (by kernel_rfl)
      rw [f2] at e53
      have f10 : vs 10 = .int .u32 ((sg0 x : Nat) : Int) := hd 10 (by kernel_rfl)
      have e61 : A'.tmps[61]?.getD undef = vs 10 := slot_in hA hap (Nat.lt_of_lt_of_eq (Nat.le_of_ble_eq_true rfl : 61 < 172) hsz.symm) (by kernel_rfl)
      rw [f10] at e61
      clear hA o5 o7 o8
      go_step
      exact hK _ _ S (congrArg (Value.int .u32) (by first | omega | rfl))
    · intro vs gs A' W LF hA S hR hd hu K hK
      replace hK := hK default
      have e5 : A'.tmps[5]?.getD undef = .pointer (some ⟨g5, 0, none⟩) := slot_out hA hap (Nat.lt_of_lt_of_eq (Nat.le_of_ble_eq_true rfl : 5 < 172) hsz.symm) (by kernel_rfl) o5
      have f0 : vs 0 = .int .i64 ((j + 16 : Nat) : Int) := hd 0 (by kernel_rfl)
      have e51 : A'.tmps[51]?.getD undef = vs 0 := slot_in hA hap (Nat.lt_of_lt_of_eq (Nat.le_of_ble_eq_true rfl : 51 < 172) hsz.symm) (by kernel_rfl)
      rw [f0] at e51
      clear hA o5 o7 o8
      have h0 : 0 ≤ (j : Int) + 16 := by omega
      have h1 : (j : Int) + 16 < 64 := by omega
      go_step
      exact hK _ _ S rfl
    · intro vs gs A' W LF hA S hR hd hu K hK
      replace hK := hK default
      have f12 : vs 12 = .pointer (some ⟨g5, j + 16, none⟩) := hd 12 (by kernel_rfl)
      have e63 : A'.tmps[63]?.getD undef = vs 12 := slot_in hA hap (Nat.lt_of_lt_of_eq (Nat.le_of_ble_eq_true rfl : 63 < 172) hsz.symm) (by kernel_rfl)
      rw [f12] at e63
      have f11 : vs 11 = .int .u32 (((m + sg0 x) % 4294967296 : Nat) : Int) := hd 11 (by kernel_rfl)
      have e62 : A'.tmps[62]?.getD undef = vs 11 := slot_in hA hap (Nat.lt_of_lt_of_eq (Nat.le_of_ble_eq_true rfl : 62 < 172) hsz.symm) (by kernel_rfl)
      rw [f11] at e62
      clear hA o5 o7 o8
      have S1 : Held w0 W (blkR g5 144 (u32A (L)) :: LF) := S
      have q1 := u32_cell (S1.at_ (l1 := [])) (j + 16) _ (HM)
      have q2 := (S1.at_ (l1 := [])).frozen (j + 16)
      have q3 := (S1.at_ (l1 := [])).lt
      go_step
      have S2 := S1.set (l1 := []) (j + 16) (.int .u32 (((m + sg0 x) % 4294967296 : Nat) : Int))
      rw [u32A_set] at S2
      exact hK undef _ S2 trivial
  · intro vs gs W S hp
    have S : Held w0 W (blkR g5 144 (u32A (L.set (j + 16) ((m + sg0 x) % 4294967296))) :: R) := by simpa only [List.flatMap_cons, List.flatMap_nil, List.append_nil, List.nil_append, List.cons_append, List.append_assoc] using S
    rw [show putAll vs (opsOf 12 Tryd.f82) 0 a = putD [(51, vs 0), (52, vs 1), (53, vs 2), (54, vs 3), (55, vs 4), (56, vs 5), (57, vs 6), (58, vs 7), (59, vs 8), (60, vs 9), (61, vs 10), (62, vs 11), (63, vs 12)] a from by kernel_rfl]
    exact hend _ W (same_putD _ a)  S
-- END sblk12
-- REG sblk13
set_option maxRecDepth 100000 in
set_option maxHeartbeats 2000000 in
theorem sblk_r13 {Q : Exit → Act → World → Prop} {a : Act} {w : World} (w0 : World) (j g5 : Nat) (L : List Nat) (R : List Res) (hlt : j < 48) (m y : Nat) (HM : L[j + 16]? = some m) (HYl : y < 4294967296) (hsz : a.tmps.size = 172) (o5 : Sl a 5 (.pointer (some ⟨g5, 0, none⟩))) (o7 : Sl a 7 (.int .i64 ((j + 16 : Nat) : Int))) (o9 : Sl a 9 (.int .u32 ((y : Nat) : Int)))
    (S0 : Held w0 w (blkR g5 144 (u32A L) :: R))
    (hend : ∀ (a' : Act) (W : World), Same a a' [64, 65, 66, 67, 68, 69, 70, 71, 72, 73, 74, 75, 76] → Held w0 W (blkR g5 144 (u32A (L.set (j + 16) ((m + sg1 y) % 4294967296))) :: R) → Q .normal a' W) : (Code.region 13 (opsOf 13 Tryd.f82).toArray true).wp Tryd.prog Q a w := by
  have hap : apartB (opsOf 13 Tryd.f82) = true := by kernel_rfl
  refine wp_region_sep (Γ := Unit) (l := (opsOf 13 Tryd.f82)) 2 [0, 1, 2, 3, 4, 5, 6, 7, 8, 9, 10, 11, 12, 13, 15]
    (fun i vs gs => match i with | 0 => vs 0 = .int .i64 ((j + 16 : Nat) : Int) | 1 => vs 1 = .pointer (some ⟨g5, j + 16, none⟩) | 2 => vs 2 = .int .u32 ((m : Nat) : Int) | 3 => vs 3 = .int .u32 ((y : Nat) : Int) | 4 => vs 4 = .int .u32 ((rotr y 17 : Nat) : Int) | 5 => vs 5 = .int .u32 ((y : Nat) : Int) | 6 => vs 6 = .int .u32 ((rotr y 19 : Nat) : Int) | 7 => vs 7 = .int .u32 ((rotr y 17 ^^^ rotr y 19 : Nat) : Int) | 8 => vs 8 = .int .u32 ((y : Nat) : Int) | 9 => vs 9 = .int .u32 ((y / 1024 : Nat) : Int) | 10 => vs 10 = .int .u32 ((sg1 y : Nat) : Int) | 11 => vs 11 = .int .u32 (((m + sg1 y) % 4294967296 : Nat) : Int) | 12 => vs 12 = .pointer (some ⟨g5, j + 16, none⟩) | _ => True)
    (fun i vs gs => match i with | 13 => [blkR g5 144 (u32A (L.set (j + 16) ((m + sg1 y) % 4294967296)))] | 14 => [blkR g5 144 (u32A (L))] | 15 => R | _ => [])
    (fun i => match i with | 13 => [14] | _ => []) (fun i => match i with | 2 => [14] | _ => []) S0 (by kernel_rfl) hap (by kernel_rfl) (by kernel_rfl) (fun i => match i with | 0 => [0] | 1 => [1] | 2 => [2] | 3 => [3] | 4 => [4] | 5 => [5] | 6 => [6] | 7 => [7] | 8 => [8] | 9 => [9] | 10 => [10] | 11 => [11] | 12 => [12] | _ => []) (by kernel_rfl) ?_ (by kernel_rfl) ?_ ?_ ?_
  · intro s vs vs' gs gs' h
    iterate 16 (rcases s with _ | s; · (first | exact ⟨rfl, id⟩ | (simp only [List.mem_cons, List.not_mem_nil, or_false, forall_eq] at h; simp [h])))
    exact ⟨rfl, id⟩
  · simp only [List.range, List.range.loop, List.flatMap_cons, List.flatMap_nil, List.append_nil]
    exact List.Perm.refl _
  · clear S0 hend
    refine ⟨?_, ?_, ?_, ?_, ?_, ?_, ?_, ?_, ?_, ?_, ?_, ?_, ?_, ?_, trivial⟩
    · intro vs gs A' W LF hA S hR hd hu K hK
      replace hK := hK default
      have e7 : A'.tmps[7]?.getD undef = .int .i64 ((j + 16 : Nat) : Int) := slot_out hA hap (Nat.lt_of_lt_of_eq (Nat.le_of_ble_eq_true rfl : 7 < 172) hsz.symm) (by kernel_rfl) o7
      clear hA o5 o7 o9
      go_step
      exact hK _ _ S rfl
    · intro vs gs A' W LF hA S hR hd hu K hK
      replace hK := hK default
      have e5 : A'.tmps[5]?.getD undef = .pointer (some ⟨g5, 0, none⟩) := slot_out hA hap (Nat.lt_of_lt_of_eq (Nat.le_of_ble_eq_true rfl : 5 < 172) hsz.symm) (by kernel_rfl) o5
      have f0 : vs 0 = .int .i64 ((j + 16 : Nat) : Int) := hd 0 (by kernel_rfl)
      have e64 : A'.tmps[64]?.getD undef = vs 0 := slot_in hA hap (Nat.lt_of_lt_of_eq (Nat.le_of_ble_eq_true rfl : 64 < 172) hsz.symm) (by kernel_rfl)
      rw [f0] at e64
      clear hA o5 o7 o9
      have h0 : 0 ≤ (j : Int) + 16 := by omega
      have h1 : (j : Int) + 16 < 64 := by omega
      go_step
      exact hK _ _ S rfl
    · intro vs gs A' W LF hA S hR hd hu K hK
      replace hK := hK default
      have f1 : vs 1 = .pointer (some ⟨g5, j + 16, none⟩) := hd 1 (by kernel_rfl)
      have e65 : A'.tmps[65]?.getD undef = vs 1 := slot_in hA hap (Nat.lt_of_lt_of_eq (Nat.le_of_ble_eq_true rfl : 65 < 172) hsz.symm) (by kernel_rfl)
      rw [f1] at e65
      clear hA o5 o7 o9
      have c0 := u32_cell (S.ok (blkR g5 144 (u32A (L))) (hR 14 (List.mem_singleton.2 rfl) _ (List.mem_singleton.2 rfl))) (j + 16) (m) HM
      go_step
      exact hK _ _ S rfl
    · intro vs gs A' W LF hA S hR hd hu K hK
      replace hK := hK default
      have e9 : A'.tmps[9]?.getD undef = .int .u32 ((y : Nat) : Int) := slot_out hA hap (Nat.lt_of_lt_of_eq (Nat.le_of_ble_eq_true rfl : 9 < 172) hsz.symm) (by kernel_rfl) o9
      clear hA o5 o7 o9
      go_step
      exact hK _ _ S rfl
    · intro vs gs A' W LF hA S hR hd hu K hK
      replace hK := hK default
      have f3 : vs 3 = .int .u32 ((y : Nat) : Int) := hd 3 (by kernel_rfl)
      have e67 : A'.tmps[67]?.getD undef = vs 3 := slot_in hA hap (Nat.lt_of_lt_of_eq (Nat.le_of_ble_eq_true rfl : 67 < 172) hsz.symm) (by kernel_rfl)
      rw [f3] at e67
      clear hA o5 o7 o9
      go_step
      refine (srot_any y 17 17 rfl HYl (by unfold rotK; omega) W).mono ?_
      rintro e w' ⟨rfl, rfl⟩
      exact hK _ _ S rfl
    · intro vs gs A' W LF hA S hR hd hu K hK
      replace hK := hK default
      have e9 : A'.tmps[9]?.getD undef = .int .u32 ((y : Nat) : Int) := slot_out hA hap (Nat.lt_of_lt_of_eq (Nat.le_of_ble_eq_true rfl : 9 < 172) hsz.symm) (by kernel_rfl) o9
      clear hA o5 o7 o9
      go_step
      exact hK _ _ S rfl
    · intro vs gs A' W LF hA S hR hd hu K hK
      replace hK := hK default
      have f5 : vs 5 = .int .u32 ((y : Nat) : Int) := hd 5 (by kernel_rfl)
      have e69 : A'.tmps[69]?.getD undef = vs 5 := slot_in hA hap (Nat.lt_of_lt_of_eq (Nat.le_of_ble_eq_true rfl : 69 < 172) hsz.symm) (by kernel_rfl)
      rw [f5] at e69
      clear hA o5 o7 o9
      go_step
      refine (srot_any y 19 19 rfl HYl (by unfold rotK; omega) W).mono ?_
      rintro e w' ⟨rfl, rfl⟩
      exact hK _ _ S rfl
    · intro vs gs A' W LF hA S hR hd hu K hK
      replace hK := hK default
      have f4 : vs 4 = .int .u32 ((rotr y 17 : Nat) : Int) := hd 4 (by kernel_rfl)
      have e68 : A'.tmps[68]?.getD undef = vs 4 := slot_in hA hap (Nat.lt_of_lt_of_eq (Nat.le_of_ble_eq_true rfl : 68 < 172) hsz.symm) (by kernel_rfl)
      rw [f4] at e68
      have f6 : vs 6 = .int .u32 ((rotr y 19 : Nat) : Int) := hd 6 (by kernel_rfl)
      have e70 : A'.tmps[70]?.getD undef = vs 6 := slot_in hA hap (Nat.lt_of_lt_of_eq (Nat.le_of_ble_eq_true rfl : 70 < 172) hsz.symm) (by kernel_rfl)
      rw [f6] at e70
      clear hA o5 o7 o9
      go_step
      exact hK _ _ S (congrArg (Value.int .u32) (u32_x _ _ (rotr_lt HYl) (rotr_lt HYl)))
    · intro vs gs A' W LF hA S hR hd hu K hK
      replace hK := hK default
      have e9 : A'.tmps[9]?.getD undef = .int .u32 ((y : Nat) : Int) := slot_out hA hap (Nat.lt_of_lt_of_eq (Nat.le_of_ble_eq_true rfl : 9 < 172) hsz.symm) (by kernel_rfl) o9
      clear hA o5 o7 o9
      go_step
      exact hK _ _ S rfl
    · intro vs gs A' W LF hA S hR hd hu K hK
      replace hK := hK default
      have f8 : vs 8 = .int .u32 ((y : Nat) : Int) := hd 8 (by kernel_rfl)
      have e72 : A'.tmps[72]?.getD undef = vs 8 := slot_in hA hap (Nat.lt_of_lt_of_eq (Nat.le_of_ble_eq_true rfl : 72 < 172) hsz.symm) (by kernel_rfl)
      rw [f8] at e72
      clear hA o5 o7 o9
      go_step
      exact hK _ _ S (congrArg (Value.int .u32) (by first | omega | rfl))
    · intro vs gs A' W LF hA S hR hd hu K hK
      replace hK := hK default
      have f7 : vs 7 = .int .u32 ((rotr y 17 ^^^ rotr y 19 : Nat) : Int) := hd 7 (by kernel_rfl)
      have e71 : A'.tmps[71]?.getD undef = vs 7 := slot_in hA hap (Nat.lt_of_lt_of_eq (Nat.le_of_ble_eq_true rfl : 71 < 172) hsz.symm) (by kernel_rfl)
      rw [f7] at e71
      have f9 : vs 9 = .int .u32 ((y / 1024 : Nat) : Int) := hd 9 (by kernel_rfl)
      have e73 : A'.tmps[73]?.getD undef = vs 9 := slot_in hA hap (Nat.lt_of_lt_of_eq (Nat.le_of_ble_eq_true rfl : 73 < 172) hsz.symm) (by kernel_rfl)
      rw [f9] at e73
      clear hA o5 o7 o9
      go_step
      exact hK _ _ S (congrArg (Value.int .u32) (u32_x _ _ (xor_lt (rotr_lt HYl) (rotr_lt HYl)) (div_lt HYl)))
    · intro vs gs A' W LF hA S hR hd hu K hK
      replace hK := hK default
      have f2 : vs 2 = .int .u32 ((m : Nat) : Int) := hd 2 (by kernel_rfl)
      have e66 : A'.tmps[66]?.getD undef = vs 2 := slot_in hA hap (Nat.lt_of_lt_of_eq (Nat.le_of_ble_eq_true rfl : 66 < 172) hsz.symm) (by kernel_rfl)
      rw [f2] at e66
      have f10 : vs 10 = .int .u32 ((sg1 y : Nat) : Int) := hd 10 (by kernel_rfl)
      have e74 : A'.tmps[74]?.getD undef = vs 10 := slot_in hA hap (Nat.lt_of_lt_of_eq (Nat.le_of_ble_eq_true rfl : 74 < 172) hsz.symm) (by kernel_rfl)
      rw [f10] at e74
      clear hA o5 o7 o9
      go_step
      exact hK _ _ S (congrArg (Value.int .u32) (by first | omega | rfl))
    · intro vs gs A' W LF hA S hR hd hu K hK
      replace hK := hK default
      have e5 : A'.tmps[5]?.getD undef = .pointer (some ⟨g5, 0, none⟩) := slot_out hA hap (Nat.lt_of_lt_of_eq (Nat.le_of_ble_eq_true rfl : 5 < 172) hsz.symm) (by kernel_rfl) o5
      have f0 : vs 0 = .int .i64 ((j + 16 : Nat) : Int) := hd 0 (by kernel_rfl)
      have e64 : A'.tmps[64]?.getD undef = vs 0 := slot_in hA hap (Nat.lt_of_lt_of_eq (Nat.le_of_ble_eq_true rfl : 64 < 172) hsz.symm) (by kernel_rfl)
      rw [f0] at e64
      clear hA o5 o7 o9
      have h0 : 0 ≤ (j : Int) + 16 := by omega
      have h1 : (j : Int) + 16 < 64 := by omega
      go_step
      exact hK _ _ S rfl
    · intro vs gs A' W LF hA S hR hd hu K hK
      replace hK := hK default
      have f12 : vs 12 = .pointer (some ⟨g5, j + 16, none⟩) := hd 12 (by kernel_rfl)
      have e76 : A'.tmps[76]?.getD undef = vs 12 := slot_in hA hap (Nat.lt_of_lt_of_eq (Nat.le_of_ble_eq_true rfl : 76 < 172) hsz.symm) (by kernel_rfl)
      rw [f12] at e76
      have f11 : vs 11 = .int .u32 (((m + sg1 y) % 4294967296 : Nat) : Int) := hd 11 (by kernel_rfl)
      have e75 : A'.tmps[75]?.getD undef = vs 11 := slot_in hA hap (Nat.lt_of_lt_of_eq (Nat.le_of_ble_eq_true rfl : 75 < 172) hsz.symm) (by kernel_rfl)
      rw [f11] at e75
      clear hA o5 o7 o9
      have S1 : Held w0 W (blkR g5 144 (u32A (L)) :: LF) := S
      have q1 := u32_cell (S1.at_ (l1 := [])) (j + 16) _ (HM)
      have q2 := (S1.at_ (l1 := [])).frozen (j + 16)
      have q3 := (S1.at_ (l1 := [])).lt
      go_step
      have S2 := S1.set (l1 := []) (j + 16) (.int .u32 (((m + sg1 y) % 4294967296 : Nat) : Int))
      rw [u32A_set] at S2
      exact hK undef _ S2 trivial
  · intro vs gs W S hp
    have S : Held w0 W (blkR g5 144 (u32A (L.set (j + 16) ((m + sg1 y) % 4294967296))) :: R) := by simpa only [List.flatMap_cons, List.flatMap_nil, List.append_nil, List.nil_append, List.cons_append, List.append_assoc] using S
    rw [show putAll vs (opsOf 13 Tryd.f82) 0 a = putD [(64, vs 0), (65, vs 1), (66, vs 2), (67, vs 3), (68, vs 4), (69, vs 5), (70, vs 6), (71, vs 7), (72, vs 8), (73, vs 9), (74, vs 10), (75, vs 11), (76, vs 12)] a from by kernel_rfl]
    exact hend _ W (same_putD _ a)  S
-- END sblk13
end Go.Proofs.YtapboamjpilckaaDoor
/- Block of sha: the other regions, each a theorem. -/
namespace Go.Proofs.YtapboamjpilckaaDoor
open Go.RowKit
-- REG sblk0
set_option maxRecDepth 100000 in
set_option maxHeartbeats 2000000 in
theorem sblk_r0 {Q : Exit → Act → World → Prop} {a : Act} {w : World} (w0 : World) (st : List Nat) (b : List UInt8) (L : List Res) (S : Held w0 w L) (hsz : a.tmps.size = 172) (o0 : Sl a 0 (.agg (u32A st))) (o1 : Sl a 1 (.agg (hashA b)))
    (hend : ∀ (a' : Act) (W : World), Same a a' [2, 3, 4] → (∃ g2 g3 g4, Sl a' 2 (.pointer (some ⟨g2, 0, none⟩)) ∧ Sl a' 3 (.pointer (some ⟨g3, 0, none⟩)) ∧ Sl a' 4 (.pointer (some ⟨g4, 0, none⟩)) ∧ Held w0 W (blkR g4 111 (u32A (List.replicate 8 0)) :: blkR g3 76 (hashA b) :: blkR g2 111 (u32A st) :: L)) → Q .normal a' W) : (Code.region 0 (opsOf 0 Tryd.f82).toArray false).wp Tryd.prog Q a w := by
  refine wp_region_lit (l := (opsOf 0 Tryd.f82)) ?_
  conv => arg 4; whnf
  unfold Sl at o0 o1
  have S0 := Lib.hid (((S.newBlk 111 (u32A st)).newBlk 76 (hashA b)).newBlk 111 (u32A (List.replicate 8 0)))
  simp only [World.size_alloc] at S0
  generalize hca : u32A st = ca at *
  generalize hcb : hashA b = cb at *
  go_wp2
  try simp only [Act.put]
  exact hend _ _ (by repeat (first | (with_reducible refine same_set (by decide) ?_) | (with_reducible exact same_nil))) (⟨w.heap.size, w.heap.size + 1, w.heap.size + 1 + 1, (by unfold Sl; simp [hsz]), (by unfold Sl; simp [hsz]), (by unfold Sl; simp [hsz]), S0.out⟩)
-- END sblk0
-- REG sblk1
set_option maxRecDepth 100000 in
set_option maxHeartbeats 2000000 in
theorem sblk_r1 {Q : Exit → Act → World → Prop} {a : Act} {w : World} (w0 : World) (L : List Res) (S : Held w0 w L) (hsz : a.tmps.size = 172) 
    (hend : ∀ (a' : Act) (W : World), Same a a' [5] → (∃ g5, Sl a' 5 (.pointer (some ⟨g5, 0, none⟩)) ∧ Held w0 W (blkR g5 144 (u32A (List.replicate 64 0)) :: L)) → Q .normal a' W) : (Code.region 1 (opsOf 1 Tryd.f82).toArray false).wp Tryd.prog Q a w := by
  refine wp_region_lit (l := (opsOf 1 Tryd.f82)) ?_
  conv => arg 4; whnf
  have S0 := Lib.hid (S.newBlk 144 (u32A (List.replicate 64 0)))
  go_wp2
  try simp only [Act.put]
  exact hend _ _ (by repeat (first | (with_reducible refine same_set (by decide) ?_) | (with_reducible exact same_nil))) (⟨w.heap.size, (by unfold Sl; simp [hsz]), S0.out⟩)
-- END sblk1
-- REG sblk2
set_option maxRecDepth 100000 in
set_option maxHeartbeats 2000000 in
theorem sblk_r2 {Q : Exit → Act → World → Prop} {a : Act} {w : World}  (hsz : a.tmps.size = 172) 
    (hend : ∀ (a' : Act), Same a a' [18] → Sl a' 18 (.int .i64 ((0 : Nat) : Int)) → Q .normal a' (w)) : (Code.region 2 (opsOf 2 Tryd.f82).toArray false).wp Tryd.prog Q a w := by
  refine wp_region_lit (l := (opsOf 2 Tryd.f82)) ?_
  conv => arg 4; whnf
  go_wp2_with fail
  try simp only [Act.put]
  exact hend _ (by repeat (first | (with_reducible refine same_set (by decide) ?_) | (with_reducible exact same_nil))) (by unfold Sl; first | (simp [hsz]; done) | (simp [hsz]; omega))
-- END sblk2
-- REG sblk7
set_option maxRecDepth 100000 in
set_option maxHeartbeats 2000000 in
theorem sblk_r7 {Q : Exit → Act → World → Prop} {a : Act} {w : World}  (hsz : a.tmps.size = 172) 
    (hend : ∀ (a' : Act), Same a a' [7] → Sl a' 7 (.int .i64 ((16 : Nat) : Int)) → Q .normal a' (w)) : (Code.region 7 (opsOf 7 Tryd.f82).toArray false).wp Tryd.prog Q a w := by
  refine wp_region_lit (l := (opsOf 7 Tryd.f82)) ?_
  conv => arg 4; whnf
  go_wp2_with fail
  try simp only [Act.put]
  exact hend _ (by repeat (first | (with_reducible refine same_set (by decide) ?_) | (with_reducible exact same_nil))) (by unfold Sl; first | (simp [hsz]; done) | (simp [hsz]; omega))
-- END sblk7
-- REG sblk14
set_option maxRecDepth 100000 in
set_option maxHeartbeats 2000000 in
theorem sblk_r14 {Q : Exit → Act → World → Prop} {a : Act} {w : World} (w0 : World) (L : List Res) (S : Held w0 w L) (hsz : a.tmps.size = 172) 
    (hend : ∀ (a' : Act) (W : World), Same a a' [77, 10] → (∃ g10, Sl a' 10 (.pointer (some ⟨g10, 0, none⟩)) ∧ Held w0 W (blkR g10 144 (u32A kT) :: L)) → Q .normal a' W) : (Code.region 14 (opsOf 14 Tryd.f82).toArray false).wp Tryd.prog Q a w := by
  refine wp_region_lit (l := (opsOf 14 Tryd.f82)) ?_
  conv => arg 4; whnf
  have S := Lib.hid S
  go_wp2_with fail
  refine (stable_any _).mono ?_
  rintro e w5 ⟨rfl, k5⟩
  have S5 := Lib.hid (S.out.kp k5)
  clear k5
  go_wp2_with (refine wpList_store_blk rfl 144 (.tmp 10) (.tmp 77) rfl w5.heap.size (by simp [Act.eval, Act.put, hsz]) (u32A kT) (by simp [Act.eval, Act.put, hsz]) 144 _ (Blk.new w5 144 _) (by rw [u32A_size]; exact Tryd.info64w) (by rw [u32A_size]; rfl) (u32A_one kT) ?_; intro w6 b6 k6; have S6 := Lib.hid (Held.setBlk (l1 := []) (S5.out.newBlk 144 _) b6 k6); clear b6 k6)
  try simp only [Act.put]
  exact hend _ _ (by repeat (first | (with_reducible refine same_set (by decide) ?_) | (with_reducible exact same_nil))) (⟨_, (by unfold Sl; simp [hsz]), S6.out⟩)
-- END sblk14
-- REG sblk15
set_option maxRecDepth 100000 in
set_option maxHeartbeats 2000000 in
theorem sblk_r15 {Q : Exit → Act → World → Prop} {a : Act} {w : World} (w0 : World) (g2 : Nat) (st : List Nat) (hsl : st.length = 8) (L1 L2 : List Res) (S : Held w0 w (L1 ++ blkR g2 111 (u32A st) :: L2)) (hsz : a.tmps.size = 172) (o2 : Sl a 2 (.pointer (some ⟨g2, 0, none⟩)))
    (hend : ∀ (a' : Act) (W : World), Same a a' [78, 11] → (∃ g11, Sl a' 11 (.pointer (some ⟨g11, 0, none⟩)) ∧ Held w0 W (blkR g11 111 (u32A st) :: (L1 ++ blkR g2 111 (u32A st) :: L2))) → Q .normal a' W) : (Code.region 15 (opsOf 15 Tryd.f82).toArray false).wp Tryd.prog Q a w := by
  refine wp_region_lit (l := (opsOf 15 Tryd.f82)) ?_
  conv => arg 4; whnf
  unfold Sl at o2
  have S := Lib.hid S
  have HSl := Lib.hid hsl
  clear hsl
  go_wp2_with (first
    | (refine wpList_load_blk rfl 111 (.tmp 2) rfl g2 (by simp [Act.eval, Act.put, hsz, o2]) 111 _ S.out.at_ _ Tryd.underlying111 rfl (by rw [u32A_size, HSl.out]; exact Tryd.info8w) ?_)
    | (refine wpList_store_blk rfl 111 (.tmp 11) (.tmp 78) rfl w.heap.size (by simp [Act.eval, Act.put, hsz]) (u32A st) (by simp [Act.eval, Act.put, hsz]) 111 _ (Blk.new w 111 _) (by rw [u32A_size, HSl.out]; exact Tryd.info8w) (by rw [u32A_size, HSl.out]; rfl) (u32A_one st) ?_; intro w7 b7 k7; have S7 := Lib.hid (Held.setBlk (l1 := []) (S.out.newBlk 111 _) b7 k7); clear b7 k7))
  try simp only [Act.put]
  exact hend _ _ (by repeat (first | (with_reducible refine same_set (by decide) ?_) | (with_reducible exact same_nil))) (⟨_, (by unfold Sl; simp [hsz]), S7.out⟩)
-- END sblk15
-- REG sblk16
set_option maxRecDepth 100000 in
set_option maxHeartbeats 2000000 in
theorem sblk_r16 {Q : Exit → Act → World → Prop} {a : Act} {w : World}  (hsz : a.tmps.size = 172) 
    (hend : ∀ (a' : Act), Same a a' [79] → Sl a' 79 (.int .i64 0) → Q .normal a' (w)) : (Code.region 16 (opsOf 16 Tryd.f82).toArray false).wp Tryd.prog Q a w := by
  refine wp_region_lit (l := (opsOf 16 Tryd.f82)) ?_
  conv => arg 4; whnf
  go_wp2_with fail
  try simp only [Act.put]
  exact hend _ (by repeat (first | (with_reducible refine same_set (by decide) ?_) | (with_reducible exact same_nil))) (by unfold Sl; first | (simp [hsz]; done) | (simp [hsz]; omega))
-- END sblk16
-- REG sblk24
set_option maxRecDepth 100000 in
set_option maxHeartbeats 2000000 in
theorem sblk_r24 {Q : Exit → Act → World → Prop} {a : Act} {w : World}  (hsz : a.tmps.size = 172) 
    (hend : ∀ (a' : Act), Same a a' [159] → Sl a' 159 (.int .i64 ((0 : Nat) : Int)) → Q .normal a' (w)) : (Code.region 24 (opsOf 24 Tryd.f82).toArray false).wp Tryd.prog Q a w := by
  refine wp_region_lit (l := (opsOf 24 Tryd.f82)) ?_
  conv => arg 4; whnf
  go_wp2_with fail
  try simp only [Act.put]
  exact hend _ (by repeat (first | (with_reducible refine same_set (by decide) ?_) | (with_reducible exact same_nil))) (by unfold Sl; first | (simp [hsz]; done) | (simp [hsz]; omega))
-- END sblk24
-- REG sblk25
set_option maxRecDepth 100000 in
set_option maxHeartbeats 2000000 in
theorem sblk_r25 {Q : Exit → Act → World → Prop} {a : Act} {w : World} (k : Nat) (hsz : a.tmps.size = 172) (o159 : Sl a 159 (.int .i64 (k : Int)))
    (hend : ∀ (a' : Act), Same a a' [160] → Sl a' 160 (.bool (decide ((k : Int) < 8))) → Q .normal a' (w)) : (Code.region 25 (opsOf 25 Tryd.f82).toArray false).wp Tryd.prog Q a w := by
  refine wp_region_lit (l := (opsOf 25 Tryd.f82)) ?_
  conv => arg 4; whnf
  unfold Sl at o159
  go_wp2_with fail
  try simp only [Act.put]
  exact hend _ (by repeat (first | (with_reducible refine same_set (by decide) ?_) | (with_reducible exact same_nil))) (by unfold Sl; first | (simp [hsz]; done) | (simp [hsz]; omega))
-- END sblk25
-- REG sblk26
set_option maxRecDepth 100000 in
set_option maxHeartbeats 2000000 in
theorem sblk_r26 {Q : Exit → Act → World → Prop} {a : Act} {w : World} (k : Nat) (hsz : a.tmps.size = 172) (o159 : Sl a 159 (.int .i64 (k : Int)))
    (hend : ∀ (a' : Act), Same a a' [161, 17] → Sl a' 17 (.int .i64 (k : Int)) → Q .normal a' (w)) : (Code.region 26 (opsOf 26 Tryd.f82).toArray false).wp Tryd.prog Q a w := by
  refine wp_region_lit (l := (opsOf 26 Tryd.f82)) ?_
  conv => arg 4; whnf
  unfold Sl at o159
  go_wp2_with fail
  try simp only [Act.put]
  exact hend _ (by repeat (first | (with_reducible refine same_set (by decide) ?_) | (with_reducible exact same_nil))) (by unfold Sl; first | (simp [hsz]; done) | (simp [hsz]; omega))
-- END sblk26
-- REG sblk28
set_option maxRecDepth 100000 in
set_option maxHeartbeats 2000000 in
theorem sblk_r28 {Q : Exit → Act → World → Prop} {a : Act} {w : World} (k : Nat) (hk : k < 8) (hsz : a.tmps.size = 172) (o159 : Sl a 159 (.int .i64 (k : Int)))
    (hend : ∀ (a' : Act), Same a a' [170, 159] → Sl a' 159 (.int .i64 ((k + 1 : Nat) : Int)) → Q .normal a' (w)) : (Code.region 28 (opsOf 28 Tryd.f82).toArray false).wp Tryd.prog Q a w := by
  refine wp_region_lit (l := (opsOf 28 Tryd.f82)) ?_
  conv => arg 4; whnf
  unfold Sl at o159
  go_wp2_with fail
  try simp only [Act.put]
  exact hend _ (by repeat (first | (with_reducible refine same_set (by decide) ?_) | (with_reducible exact same_nil))) (by unfold Sl; first | (simp [hsz]; done) | (simp [hsz]; omega))
-- END sblk28
-- REG sblk29
set_option maxRecDepth 100000 in
set_option maxHeartbeats 2000000 in
theorem sblk_r29 {Q : Exit → Act → World → Prop} {a : Act} {w : World} (w0 : World) (g11 g4 : Nat) (v c4 : List Nat) (hvl : v.length = 8) (h4l : c4.length = 8) (L1 L2 : List Res) (S : Held w0 w (blkR g11 111 (u32A v) :: (L1 ++ blkR g4 111 (u32A c4) :: L2))) (hsz : a.tmps.size = 172) (o4 : Sl a 4 (.pointer (some ⟨g4, 0, none⟩))) (o11 : Sl a 11 (.pointer (some ⟨g11, 0, none⟩)))
    (hend : ∀ (a' : Act) (W : World), Same a a' [171] → (Held w0 W (blkR g11 111 (u32A v) :: (L1 ++ blkR g4 111 (u32A v) :: L2))) → Q .normal a' W) : (Code.region 29 (opsOf 29 Tryd.f82).toArray false).wp Tryd.prog Q a w := by
  refine wp_region_lit (l := (opsOf 29 Tryd.f82)) ?_
  conv => arg 4; whnf
  unfold Sl at o4 o11
  have S := Lib.hid S
  have HV := Lib.hid hvl
  have H4 := Lib.hid h4l
  clear hvl h4l
  go_wp2_with (first
    | (refine wpList_load_blk rfl 111 (.tmp 11) rfl g11 (by simp [Act.eval, Act.put, hsz, o11]) 111 _ (S.out.at_ (l1 := [])) _ Tryd.underlying111 rfl (by rw [u32A_size, HV.out]; exact Tryd.info8w) ?_)
    | (refine wpList_store_blk rfl 111 (.tmp 4) (.tmp 171) rfl g4 (by simp [Act.eval, Act.put, hsz, o4]) (u32A v) (by simp [Act.eval, Act.put, hsz]) 111 _ (S.out.at_ (l1 := _ :: L1)) (by rw [u32A_size, HV.out]; exact Tryd.info8w) (by rw [u32A_size, u32A_size, HV.out, H4.out]) (u32A_one v) ?_; intro w7 b7 k7; have S7 := Lib.hid (Held.setBlk (l1 := _ :: L1) S.out b7 k7); clear b7 k7))
  try simp only [Act.put]
  exact hend _ _ (by repeat (first | (with_reducible refine same_set (by decide) ?_) | (with_reducible exact same_nil))) (S7.out)
-- END sblk29
-- REG sblk27
set_option maxRecDepth 100000 in
set_option maxHeartbeats 2000000 in
theorem sblk_r27 {Q : Exit → Act → World → Prop} {a : Act} {w : World} (w0 : World) (k g11 g2 : Nat) (V st : List Nat) (R1 R2 : List Res) (hlt : k < 8) (x y : Nat) (HX : V[k]? = some x) (HY : st[k]? = some y) (hsz : a.tmps.size = 172) (o2 : Sl a 2 (.pointer (some ⟨g2, 0, none⟩))) (o11 : Sl a 11 (.pointer (some ⟨g11, 0, none⟩))) (o17 : Sl a 17 (.int .i64 (k : Int)))
    (S0 : Held w0 w (blkR g11 111 (u32A V) :: (R1 ++ blkR g2 111 (u32A st) :: R2)))
    (hend : ∀ (a' : Act) (W : World), Same a a' [162, 163, 164, 165, 166, 167, 168, 169] → Held w0 W (blkR g11 111 (u32A (V.set k ((x + y) % 4294967296))) :: R1 ++ blkR g2 111 (u32A st) :: R2) → Q .normal a' W) : (Code.region 27 (opsOf 27 Tryd.f82).toArray true).wp Tryd.prog Q a w := by
  have hap : apartB (opsOf 27 Tryd.f82) = true := by kernel_rfl
  refine wp_region_sep (Γ := Unit) (l := (opsOf 27 Tryd.f82)) 2 [0, 1, 2, 3, 4, 5, 6, 7, 8, 10]
    (fun i vs gs => match i with | 0 => vs 0 = .int .i64 (k : Int) | 1 => vs 1 = .pointer (some ⟨g11, k, none⟩) | 2 => vs 2 = .int .u32 ((x : Nat) : Int) | 3 => vs 3 = .int .i64 (k : Int) | 4 => vs 4 = .pointer (some ⟨g2, k, none⟩) | 5 => vs 5 = .int .u32 ((y : Nat) : Int) | 6 => vs 6 = .int .u32 (((x + y) % 4294967296 : Nat) : Int) | 7 => vs 7 = .pointer (some ⟨g11, k, none⟩) | _ => True)
    (fun i vs gs => match i with | 8 => [blkR g11 111 (u32A (V.set k ((x + y) % 4294967296)))] | 9 => [blkR g11 111 (u32A V)] | 10 => R1 ++ blkR g2 111 (u32A st) :: R2 | _ => [])
    (fun i => match i with | 8 => [9] | _ => []) (fun i => match i with | 2 => [9] | 5 => [10] | _ => []) S0 (by kernel_rfl) hap (by kernel_rfl) (by kernel_rfl) (fun i => match i with | 0 => [0] | 1 => [1] | 2 => [2] | 3 => [3] | 4 => [4] | 5 => [5] | 6 => [6] | 7 => [7] | _ => []) (by kernel_rfl) ?_ (by kernel_rfl) ?_ ?_ ?_
  · intro s vs vs' gs gs' h
    iterate 11 (rcases s with _ | s; · (first | exact ⟨rfl, id⟩ | (simp only [List.mem_cons, List.not_mem_nil, or_false, forall_eq] at h; simp [h])))
    exact ⟨rfl, id⟩
  · simp only [List.range, List.range.loop, List.flatMap_cons, List.flatMap_nil, List.append_nil]
    exact List.Perm.refl _
  · clear S0 hend
    refine ⟨?_, ?_, ?_, ?_, ?_, ?_, ?_, ?_, ?_, trivial⟩
    · intro vs gs A' W LF hA S hR hd hu K hK
      replace hK := hK default
      have e17 : A'.tmps[17]?.getD undef = .int .i64 (k : Int) := slot_out hA hap (Nat.lt_of_lt_of_eq (Nat.le_of_ble_eq_true rfl : 17 < 172) hsz.symm) (by kernel_rfl) o17
      clear hA o2 o11 o17
      go_step
      exact hK _ _ S rfl
    · intro vs gs A' W LF hA S hR hd hu K hK
      replace hK := hK default
      have e11 : A'.tmps[11]?.getD undef = .pointer (some ⟨g11, 0, none⟩) := slot_out hA hap (Nat.lt_of_lt_of_eq (Nat.le_of_ble_eq_true rfl : 11 < 172) hsz.symm) (by kernel_rfl) o11
      have f0 : vs 0 = .int .i64 (k : Int) := hd 0 (by kernel_rfl)
      have e162 : A'.tmps[162]?.getD undef = vs 0 := slot_in hA hap (Nat.lt_of_lt_of_eq (Nat.le_of_ble_eq_true rfl : 162 < 172) hsz.symm) (by kernel_rfl)
      rw [f0] at e162
      clear hA o2 o11 o17
      have h0 : 0 ≤ (k : Int) := by omega
      have h1 : (k : Int) < 8 := by omega
      go_step
      exact hK _ _ S rfl
    · intro vs gs A' W LF hA S hR hd hu K hK
      replace hK := hK default
      have f1 : vs 1 = .pointer (some ⟨g11, k, none⟩) := hd 1 (by kernel_rfl)
      have e163 : A'.tmps[163]?.getD undef = vs 1 := slot_in hA hap (Nat.lt_of_lt_of_eq (Nat.le_of_ble_eq_true rfl : 163 < 172) hsz.symm) (by kernel_rfl)
      rw [f1] at e163
      clear hA o2 o11 o17
      have c0 := u32_cell (S.ok (blkR g11 111 (u32A V)) (hR 9 (List.mem_singleton.2 rfl) _ (List.mem_singleton.2 rfl))) k x HX
      go_step
      exact hK _ _ S rfl
    · intro vs gs A' W LF hA S hR hd hu K hK
      replace hK := hK default
      have e17 : A'.tmps[17]?.getD undef = .int .i64 (k : Int) := slot_out hA hap (Nat.lt_of_lt_of_eq (Nat.le_of_ble_eq_true rfl : 17 < 172) hsz.symm) (by kernel_rfl) o17
      clear hA o2 o11 o17
      go_step
      exact hK _ _ S rfl
    · intro vs gs A' W LF hA S hR hd hu K hK
      replace hK := hK default
      have e2 : A'.tmps[2]?.getD undef = .pointer (some ⟨g2, 0, none⟩) := slot_out hA hap (Nat.lt_of_lt_of_eq (Nat.le_of_ble_eq_true rfl : 2 < 172) hsz.symm) (by kernel_rfl) o2
      have f3 : vs 3 = .int .i64 (k : Int) := hd 3 (by kernel_rfl)
      have e165 : A'.tmps[165]?.getD undef = vs 3 := slot_in hA hap (Nat.lt_of_lt_of_eq (Nat.le_of_ble_eq_true rfl : 165 < 172) hsz.symm) (by kernel_rfl)
      rw [f3] at e165
      clear hA o2 o11 o17
      have h0 : 0 ≤ (k : Int) := by omega
      have h1 : (k : Int) < 8 := by omega
      go_step
      exact hK _ _ S rfl
    · intro vs gs A' W LF hA S hR hd hu K hK
      replace hK := hK default
      have f4 : vs 4 = .pointer (some ⟨g2, k, none⟩) := hd 4 (by kernel_rfl)
      have e166 : A'.tmps[166]?.getD undef = vs 4 := slot_in hA hap (Nat.lt_of_lt_of_eq (Nat.le_of_ble_eq_true rfl : 166 < 172) hsz.symm) (by kernel_rfl)
      rw [f4] at e166
      clear hA o2 o11 o17
      have c0 := u32_cell (S.ok (blkR g2 111 (u32A st)) (hR 10 (List.mem_singleton.2 rfl) _ (List.mem_append_right _ (List.mem_cons_self ..)))) k y HY
      go_step
      exact hK _ _ S rfl
    · intro vs gs A' W LF hA S hR hd hu K hK
      replace hK := hK default
      have f2 : vs 2 = .int .u32 ((x : Nat) : Int) := hd 2 (by kernel_rfl)
      have e164 : A'.tmps[164]?.getD undef = vs 2 := slot_in hA hap (Nat.lt_of_lt_of_eq (Nat.le_of_ble_eq_true rfl : 164 < 172) hsz.symm) (by kernel_rfl)
      rw [f2] at e164
      have f5 : vs 5 = .int .u32 ((y : Nat) : Int) := hd 5 (by kernel_rfl)
      have e167 : A'.tmps[167]?.getD undef = vs 5 := slot_in hA hap (Nat.lt_of_lt_of_eq (Nat.le_of_ble_eq_true rfl : 167 < 172) hsz.symm) (by kernel_rfl)
      rw [f5] at e167
      clear hA o2 o11 o17
      go_step
      exact hK _ _ S (congrArg (Value.int .u32) (by first | omega | rfl))
    · intro vs gs A' W LF hA S hR hd hu K hK
      replace hK := hK default
      have e11 : A'.tmps[11]?.getD undef = .pointer (some ⟨g11, 0, none⟩) := slot_out hA hap (Nat.lt_of_lt_of_eq (Nat.le_of_ble_eq_true rfl : 11 < 172) hsz.symm) (by kernel_rfl) o11
      have f0 : vs 0 = .int .i64 (k : Int) := hd 0 (by kernel_rfl)
      have e162 : A'.tmps[162]?.getD undef = vs 0 := slot_in hA hap (Nat.lt_of_lt_of_eq (Nat.le_of_ble_eq_true rfl : 162 < 172) hsz.symm) (by kernel_rfl)
      rw [f0] at e162
      clear hA o2 o11 o17
      have h0 : 0 ≤ (k : Int) := by omega
      have h1 : (k : Int) < 8 := by omega
      go_step
      exact hK _ _ S rfl
    · intro vs gs A' W LF hA S hR hd hu K hK
      replace hK := hK default
      have f7 : vs 7 = .pointer (some ⟨g11, k, none⟩) := hd 7 (by kernel_rfl)
      have e169 : A'.tmps[169]?.getD undef = vs 7 := slot_in hA hap (Nat.lt_of_lt_of_eq (Nat.le_of_ble_eq_true rfl : 169 < 172) hsz.symm) (by kernel_rfl)
      rw [f7] at e169
      have f6 : vs 6 = .int .u32 (((x + y) % 4294967296 : Nat) : Int) := hd 6 (by kernel_rfl)
      have e168 : A'.tmps[168]?.getD undef = vs 6 := slot_in hA hap (Nat.lt_of_lt_of_eq (Nat.le_of_ble_eq_true rfl : 168 < 172) hsz.symm) (by kernel_rfl)
      rw [f6] at e168
      clear hA o2 o11 o17
      have S1 : Held w0 W (blkR g11 111 (u32A V) :: LF) := S
      have q1 := u32_cell (S1.at_ (l1 := [])) k _ HX
      have q2 := (S1.at_ (l1 := [])).frozen k
      have q3 := (S1.at_ (l1 := [])).lt
      go_step
      have S2 := S1.set (l1 := []) k (.int .u32 (((x + y) % 4294967296 : Nat) : Int))
      rw [u32A_set] at S2
      exact hK undef _ S2 trivial
  · intro vs gs W S hp
    have S : Held w0 W (blkR g11 111 (u32A (V.set k ((x + y) % 4294967296))) :: R1 ++ blkR g2 111 (u32A st) :: R2) := by simpa only [List.flatMap_cons, List.flatMap_nil, List.append_nil, List.nil_append, List.cons_append, List.append_assoc] using S
    rw [show putAll vs (opsOf 27 Tryd.f82) 0 a = putD [(162, vs 0), (163, vs 1), (164, vs 2), (165, vs 3), (166, vs 4), (167, vs 5), (168, vs 6), (169, vs 7)] a from by kernel_rfl]
    exact hend _ W (same_putD _ a)  S
-- END sblk27
end Go.Proofs.YtapboamjpilckaaDoor
/- Block of sha. -/
namespace Go.Proofs.YtapboamjpilckaaDoor
open Go.RowKit
def dsL1 : List Nat := [6, 18, 19, 20, 21, 22, 23, 24, 25, 26, 27]
def dsL2 : List Nat := [7, 8, 9, 28, 29, 30, 31, 32, 33, 34, 35, 36, 37, 38, 39, 40, 41, 42, 43, 44, 45, 46, 47, 48, 49, 50, 51, 52, 53, 54, 55, 56, 57, 58, 59, 60, 61, 62, 63, 64, 65, 66, 67, 68, 69, 70, 71, 72, 73, 74, 75, 76]
def dsL4 : List Nat := [17, 159, 160, 161, 162, 163, 164, 165, 166, 167, 168, 169, 170]
set_option maxRecDepth 100000 in
set_option maxHeartbeats 2000000 in
theorem sblk_l1 {Q : Exit → Act → World → Prop} {a : Act} {w0 w : World} (b : List UInt8) (hbl : b.length = 64) (g5 g3 : Nat) (R : List Res) (hsz : a.tmps.size = 172)
    (o3 : Sl a 3 (.pointer (some ⟨g3, 0, none⟩))) (o5 : Sl a 5 (.pointer (some ⟨g5, 0, none⟩))) (o18 : Sl a 18 (.int .i64 ((0 : Nat) : Int)))
    (S : Held w0 w (blkR g5 144 (u32A (List.replicate 64 0)) :: blkR g3 76 (hashA b) :: R))
    (hend : ∀ (a' : Act) (W : World), Same a a' dsL1 → Held w0 W (blkR g5 144 (u32A (pz (wsN b 16))) :: blkR g3 76 (hashA b) :: R) → Q .normal a' W) :
    (Code.block 0 (blockOf 0 Tryd.f82)).wp Tryd.prog Q a w := by
  refine wp_block ?_
  conv => arg 2; whnf
  refine wp_loop (fun a' w' => ∃ k : Nat, k ≤ 16 ∧ Same a a' dsL1 ∧ Sl a' 18 (.int .i64 (k : Int)) ∧ Held w0 w' (blkR g5 144 (u32A (pz (wsN b k))) :: blkR g3 76 (hashA b) :: R)) (fun a' _ => 16 - (intOf (a'.eval (.tmp 18))).toNat) ⟨0, by omega, Same.refl _ _, o18, S⟩ ?_
  clear o18 S
  rintro a1 w1 ⟨k, hk, hs, o18, S⟩
  have o3 := hs.keep 3 _ (by decide) o3
  have o5 := hs.keep 5 _ (by decide) o5
  have hz := hs.size.trans hsz
  refine wp_seq (sblk_r3 k hz o18 (fun a2 hs2 o19 => ?_))
  have e18 := o18.eval (by rw [hz]; decide)
  have hz2 := hs2.size.trans hz
  by_cases hlt : k < 16
  · refine wp_seq (wp_cond_true ((o19.eval (by rw [hz2]; decide)).trans (by rw [decide_eq_true (by omega)])) (wp_skip ?_))
    have o18 := hs2.keep 18 _ (by decide) o18
    refine wp_seq (wp_block ?_)
    refine wp_seq (sblk_r4 k hz2 o18 (fun a3 hs3 o6 => ?_))
    have T := (hs.trans hs2).trans hs3
    have hz3 := hs3.size.trans hz2
    have o18 := hs3.keep 18 _ (by decide) o18
    have o3 := (hs2.trans hs3).keep 3 _ (by decide) o3
    have o5 := (hs2.trans hs3).keep 5 _ (by decide) o5
    refine sblk_r5 w0 k g5 g3 (wsN b k) b R hlt hbl (wsN_length b k) S hz3 o3 o5 o6 (fun a4 W4 hs4 S4 => ?_)
    rw [← wsN_next16 b hlt] at S4
    have hz4 := hs4.size.trans hz3
    have o18 := hs4.keep 18 _ (by decide) o18
    refine sblk_r6 k hlt hz4 o18 (fun a5 hs5 o18 => ?_)
    have hz5 := hs5.size.trans hz4
    refine ⟨⟨k + 1, by omega, ((T.trans hs4).trans hs5).more (by decide +kernel), o18, S4⟩, ?_⟩
    show 16 - (intOf (a5.eval (.tmp 18))).toNat < 16 - (intOf (a1.eval (.tmp 18))).toNat
    rw [e18, o18.eval (by rw [hz5]; decide)]
    simp [intOf]; omega
  · obtain rfl : k = 16 := by omega
    refine wp_seq (wp_cond_false ((o19.eval (by rw [hz2]; decide)).trans (by rw [decide_eq_false (by omega)])) (wp_exit ?_))
    exact hend _ _ ((hs.trans hs2).more (by decide +kernel)) S
set_option maxRecDepth 100000 in
set_option maxHeartbeats 2000000 in
theorem sblk_l2 {Q : Exit → Act → World → Prop} {a : Act} {w0 w : World} (b : List UInt8) (g5 : Nat) (R : List Res) (hsz : a.tmps.size = 172)
    (o5 : Sl a 5 (.pointer (some ⟨g5, 0, none⟩))) (o7 : Sl a 7 (.int .i64 ((16 : Nat) : Int)))
    (S : Held w0 w (blkR g5 144 (u32A (pz (wsN b 16))) :: R))
    (hend : ∀ (a' : Act) (W : World), Same a a' dsL2 → Held w0 W (blkR g5 144 (u32A (wsN b 64)) :: R) → Q .normal a' W) :
    (Code.block 2 (blockOf 2 Tryd.f82)).wp Tryd.prog Q a w := by
  refine wp_block ?_
  conv => arg 2; whnf
  refine wp_loop (fun a' w' => ∃ k : Nat, 16 ≤ k ∧ k ≤ 64 ∧ Same a a' dsL2 ∧ Sl a' 7 (.int .i64 (k : Int)) ∧ Held w0 w' (blkR g5 144 (u32A (pz (wsN b k))) :: R)) (fun a' _ => 64 - (intOf (a'.eval (.tmp 7))).toNat) ⟨16, by omega, by omega, Same.refl _ _, o7, S⟩ ?_
  clear o7 S
  rintro a1 w1 ⟨n, hn16, hn, hs, o7, S⟩
  have o5 := hs.keep 5 _ (by decide) o5
  have hz := hs.size.trans hsz
  refine wp_seq (wp_seq (sblk_r8 n hz o7 (fun a2 hs2 o29 => ?_)))
  have e7 := o7.eval (by rw [hz]; decide)
  have hz2 := hs2.size.trans hz
  by_cases hlt : n < 64
  · refine wp_cond_true ((o29.eval (by rw [hz2]; decide)).trans (by rw [decide_eq_true (by omega)])) (wp_skip ?_)
    have o7 := hs2.keep 7 _ (by decide) o7
    have o5 := hs2.keep 5 _ (by decide) o5
    obtain ⟨j, rfl⟩ : ∃ j, n = j + 16 := ⟨n - 16, by omega⟩
    have HWl := wsN_lt b (j + 16)
    have HWn := wsN_length b (j + 16)
    have Hnx := wsN_next48 b j
    generalize hl : wsN b (j + 16) = l at *
    have hpl : (pz l).length = 64 := pz_length (by omega)
    have HA : (pz l)[j]? = some (l.getD j 0) := pz_at (getD_at (by omega))
    have HC : (pz l)[j + 9]? = some (l.getD (j + 9) 0) := pz_at (getD_at (by omega))
    have HX : (pz l)[j + 1]? = some (l.getD (j + 1) 0) := pz_at (getD_at (by omega))
    have HY : (pz l)[j + 14]? = some (l.getD (j + 14) 0) := pz_at (getD_at (by omega))
    have HM : (pz l)[j + 16]? = some ((pz l).getD (j + 16) 0) := getD_at (by omega)
    have HXl := getD_lt HWl (j + 1)
    have HYl := getD_lt HWl (j + 14)
    have HE : ∀ x, (pz l).set (j + 16) x = pz (l ++ [x]) := fun x => by rw [← HWn]; exact pz_next (by omega) x
    generalize l.getD j 0 = v at *
    generalize l.getD (j + 9) 0 = c at *
    generalize l.getD (j + 1) 0 = x at *
    generalize l.getD (j + 14) 0 = y at *
    have hs2i : ∀ m : Nat, ((pz l).set (j + 16) m)[j + 16]? = some m := fun m => by rw [List.getElem?_set_self (by omega)]
    refine wp_seq (wp_block ?_)
    refine wp_seq (sblk_r10 j g5 x y (pz l) (by omega) (Lib.hid HX) (Lib.hid HY) (Lib.hid (fun V kk i x h => u32_cell ((S.at_ (l1 := [])).kp kk (by simp)) i x h)) hz2 o5 o7 (fun a3 W3 hs3 k3 o8 o9 => ?_))
    have S3 := S.kp ((Kp.refl [] _).drew.trans k3 (by simp))
    have T := (hs.trans hs2).trans hs3
    have hz3 := hs3.size.trans hz2
    have o7 := hs3.keep 7 _ (by decide) o7
    have o5 := hs3.keep 5 _ (by decide) o5
    refine wp_seq (sblk_r11 w0 j g5 (pz l) R (by omega) v c _ HA HC HM hz3 o5 o7 S3 (fun a4 W4 hs4 S4 => ?_))
    have hz4 := hs4.size.trans hz3
    have o7 := hs4.keep 7 _ (by decide) o7
    have o5 := hs4.keep 5 _ (by decide) o5
    have o8 := hs4.keep 8 _ (by decide) o8
    have o9 := hs4.keep 9 _ (by decide) o9
    refine wp_seq (sblk_r12 w0 j g5 _ R (by omega) _ x (hs2i _) HXl hz4 o5 o7 o8 S4 (fun a5 W5 hs5 S5 => ?_))
    rw [List.set_set] at S5
    have hz5 := hs5.size.trans hz4
    have o7 := hs5.keep 7 _ (by decide) o7
    have o5 := hs5.keep 5 _ (by decide) o5
    have o9 := hs5.keep 9 _ (by decide) o9
    refine sblk_r13 w0 j g5 _ R (by omega) _ y (hs2i _) HYl hz5 o5 o7 o9 S5 (fun a6 W6 hs6 S6 => ?_)
    rw [List.set_set, HE] at S6
    have hz6 := hs6.size.trans hz5
    have o7 := hs6.keep 7 _ (by decide) o7
    refine sblk_r9 (j + 16) hlt hz6 o7 (fun a7 hs7 o7 => ?_)
    have hz7 := hs7.size.trans hz6
    refine ⟨⟨j + 16 + 1, by omega, by omega, (((((T.trans hs4).trans hs5).trans hs6).trans hs7)).more (by decide +kernel), o7, ?_⟩, ?_⟩
    · rw [Hnx]
      have e : (((v + c) % 4294967296 + sg0 x) % 4294967296 + sg1 y) % 4294967296 = (v + sg0 x + c + sg1 y) % 4294967296 := by omega
      rw [e] at S6
      exact S6
    · show 64 - (intOf (a7.eval (.tmp 7))).toNat < 64 - (intOf (a1.eval (.tmp 7))).toNat
      rw [e7, o7.eval (by rw [hz7]; decide)]
      simp [intOf]; omega
  · obtain rfl : n = 64 := by omega
    refine wp_cond_false ((o29.eval (by rw [hz2]; decide)).trans (by rw [decide_eq_false (by omega)])) (wp_exit ?_)
    rw [pz_full (wsN_length b 64)] at S
    exact hend _ _ ((hs.trans hs2).more (by decide +kernel)) S
def addN (v st : List Nat) (k : Nat) : List Nat := (List.zipWith (fun x y => (x + y) % 4294967296) v st).take k ++ v.drop k
theorem addN_at {v st : List Nat} (hv : v.length = 8) (hst : st.length = 8) {k : Nat} (hk : k < 8) : (addN v st k)[k]? = some (v.getD k 0) := by
  unfold addN
  have h1 : ((List.zipWith (fun x y => (x + y) % 4294967296) v st).take k).length = k := by rw [List.length_take, List.length_zipWith]; omega
  rw [List.getElem?_append_right (by omega), h1, Nat.sub_self, List.getElem?_drop, Nat.add_zero]
  exact getD_at (by omega)
theorem addN_next {v st : List Nat} (hv : v.length = 8) (hst : st.length = 8) {k : Nat} (hk : k < 8) : (addN v st k).set k ((v.getD k 0 + st.getD k 0) % 4294967296) = addN v st (k + 1) := by
  unfold addN
  have h1 : ((List.zipWith (fun x y => (x + y) % 4294967296) v st).take k).length = k := by rw [List.length_take, List.length_zipWith]; omega
  rw [List.set_append_right _ _ (by omega), h1, Nat.sub_self, List.drop_eq_getElem_cons (by omega : k < v.length), List.set_cons_zero]
  rw [List.take_add_one, List.getElem?_zipWith, getD_at (show k < v.length by omega), getD_at (show k < st.length by omega)]
  simp
set_option maxRecDepth 100000 in
set_option maxHeartbeats 2000000 in
theorem sblk_l4 {Q : Exit → Act → World → Prop} {a : Act} {w0 w : World} (v st : List Nat) (hv : v.length = 8) (hst : st.length = 8) (g11 g2 : Nat) (R1 R2 : List Res) (hsz : a.tmps.size = 172)
    (o2 : Sl a 2 (.pointer (some ⟨g2, 0, none⟩))) (o11 : Sl a 11 (.pointer (some ⟨g11, 0, none⟩))) (o159 : Sl a 159 (.int .i64 ((0 : Nat) : Int)))
    (S : Held w0 w (blkR g11 111 (u32A v) :: (R1 ++ blkR g2 111 (u32A st) :: R2)))
    (hend : ∀ (a' : Act) (W : World), Same a a' dsL4 → Held w0 W (blkR g11 111 (u32A (List.zipWith (fun x y => (x + y) % 4294967296) v st)) :: (R1 ++ blkR g2 111 (u32A st) :: R2)) → Q .normal a' W) :
    (Code.block 6 (blockOf 6 Tryd.f82)).wp Tryd.prog Q a w := by
  refine wp_block ?_
  conv => arg 2; whnf
  refine wp_loop (fun a' w' => ∃ k : Nat, k ≤ 8 ∧ Same a a' dsL4 ∧ Sl a' 159 (.int .i64 (k : Int)) ∧ Held w0 w' (blkR g11 111 (u32A (addN v st k)) :: (R1 ++ blkR g2 111 (u32A st) :: R2))) (fun a' _ => 8 - (intOf (a'.eval (.tmp 159))).toNat) ⟨0, by omega, Same.refl _ _, o159, S⟩ ?_
  clear o159 S
  rintro a1 w1 ⟨k, hk, hs, o159, S⟩
  have o2 := hs.keep 2 _ (by decide) o2
  have o11 := hs.keep 11 _ (by decide) o11
  have hz := hs.size.trans hsz
  refine wp_seq (sblk_r25 k hz o159 (fun a2 hs2 o160 => ?_))
  have e159 := o159.eval (by rw [hz]; decide)
  have hz2 := hs2.size.trans hz
  by_cases hlt : k < 8
  · refine wp_seq (wp_cond_true ((o160.eval (by rw [hz2]; decide)).trans (by rw [decide_eq_true (by omega)])) (wp_skip ?_))
    have o159 := hs2.keep 159 _ (by decide) o159
    refine wp_seq (wp_block ?_)
    refine wp_seq (sblk_r26 k hz2 o159 (fun a3 hs3 o17 => ?_))
    have T := (hs.trans hs2).trans hs3
    have hz3 := hs3.size.trans hz2
    have o159 := hs3.keep 159 _ (by decide) o159
    have o2 := (hs2.trans hs3).keep 2 _ (by decide) o2
    have o11 := (hs2.trans hs3).keep 11 _ (by decide) o11
    refine sblk_r27 w0 k g11 g2 _ st R1 R2 hlt _ _ (addN_at hv hst hlt) (getD_at (by omega)) hz3 o2 o11 o17 S (fun a4 W4 hs4 S4 => ?_)
    rw [addN_next hv hst hlt] at S4
    have hz4 := hs4.size.trans hz3
    have o159 := hs4.keep 159 _ (by decide) o159
    refine sblk_r28 k hlt hz4 o159 (fun a5 hs5 o159 => ?_)
    have hz5 := hs5.size.trans hz4
    refine ⟨⟨k + 1, by omega, ((T.trans hs4).trans hs5).more (by decide +kernel), o159, S4⟩, ?_⟩
    show 8 - (intOf (a5.eval (.tmp 159))).toNat < 8 - (intOf (a1.eval (.tmp 159))).toNat
    rw [e159, o159.eval (by rw [hz5]; decide)]
    simp [intOf]; omega
  · obtain rfl : k = 8 := by omega
    refine wp_seq (wp_cond_false ((o160.eval (by rw [hz2]; decide)).trans (by rw [decide_eq_false (by omega)])) (wp_exit ?_))
    have e : addN v st 8 = List.zipWith (fun x y => (x + y) % 4294967296) v st := by
      unfold addN
      rw [List.drop_of_length_le (by omega), List.append_nil, List.take_of_length_le (by rw [List.length_zipWith]; omega)]
    rw [e] at S
    exact hend _ _ ((hs.trans hs2).more (by decide +kernel)) S
set_option maxRecDepth 100000 in
set_option maxHeartbeats 2000000 in
theorem sblock_any (st : List Nat) (hst : Ws st) (hsl : st.length = 8) (b : List UInt8) (hbl : b.length = 64) (w : World) : Calls Tryd.prog 82 #[.agg (u32A st), .agg (hashA b)] w fun e w' => e = .returned (.agg (u32A (blkF st b))) ∧ Kp [] w w' := by
  refine calls_fr Tryd.func82 rfl 172 rfl (fun a hsz hdf hA => ?_)
  refine wp_seq (sblk_r0 w st b [] (Held.start w) hsz (hA 0 _ rfl) (hA 1 _ rfl) (fun a1 w1 hs1 h => ?_))
  obtain ⟨g2, g3, g4, o2, o3, o4, S⟩ := h
  have hz1 := hs1.size.trans hsz
  refine wp_seq (sblk_r1 w _ S hz1 (fun a2 w2 hs2 h => ?_))
  obtain ⟨g5, o5, S⟩ := h
  have hz2 := hs2.size.trans hz1
  have o2 := hs2.keep 2 _ (by decide) o2
  have o3 := hs2.keep 3 _ (by decide) o3
  have o4 := hs2.keep 4 _ (by decide) o4
  refine wp_seq (wp_seq (sblk_r2 hz2 (fun a3 hs3 o18 => ?_)))
  have hz3 := hs3.size.trans hz2
  have o2 := hs3.keep 2 _ (by decide) o2
  have o3 := hs3.keep 3 _ (by decide) o3
  have o4 := hs3.keep 4 _ (by decide) o4
  have o5 := hs3.keep 5 _ (by decide) o5
  have D3 := (hs3.defers.trans (hs2.defers.trans hs1.defers)).trans hdf
  refine sblk_l1 b hbl g5 g3 _ hz3 o3 o5 o18 (S.perm (List.Perm.cons _ (List.Perm.swap _ _ _))) (fun a4 w4 hs4 S => ?_)
  have hz4 := hs4.size.trans hz3
  have o2 := hs4.keep 2 _ (by decide) o2
  have o3 := hs4.keep 3 _ (by decide) o3
  have o4 := hs4.keep 4 _ (by decide) o4
  have o5 := hs4.keep 5 _ (by decide) o5
  refine wp_seq (wp_seq (sblk_r7 hz4 (fun a5 hs5 o7 => ?_)))
  have hz5 := hs5.size.trans hz4
  have o2 := hs5.keep 2 _ (by decide) o2
  have o4 := hs5.keep 4 _ (by decide) o4
  have o5 := hs5.keep 5 _ (by decide) o5
  refine sblk_l2 b g5 _ hz5 o5 o7 S (fun a6 w6 hs6 S => ?_)
  have hz6 := hs6.size.trans hz5
  have o2 := hs6.keep 2 _ (by decide) o2
  have o4 := hs6.keep 4 _ (by decide) o4
  have o5 := hs6.keep 5 _ (by decide) o5
  refine wp_seq (sblk_r14 w _ S hz6 (fun a7 w7 hs7 h => ?_))
  obtain ⟨g10, o10, S⟩ := h
  have hz7 := hs7.size.trans hz6
  have o2 := hs7.keep 2 _ (by decide) o2
  have o4 := hs7.keep 4 _ (by decide) o4
  have o5 := hs7.keep 5 _ (by decide) o5
  refine wp_seq (sblk_r15 w g2 st hsl [_, _, _, _] _ S hz7 o2 (fun a8 w8 hs8 h => ?_))
  obtain ⟨g11, o11, S⟩ := h
  have hz8 := hs8.size.trans hz7
  have o2 := hs8.keep 2 _ (by decide) o2
  have o4 := hs8.keep 4 _ (by decide) o4
  have o5 := hs8.keep 5 _ (by decide) o5
  have o10 := hs8.keep 10 _ (by decide) o10
  refine wp_seq (wp_seq (sblk_r16 hz8 (fun a9 hs9 o79 => ?_)))
  have hz9 := hs9.size.trans hz8
  have o2 := hs9.keep 2 _ (by decide) o2
  have o4 := hs9.keep 4 _ (by decide) o4
  have o5 := hs9.keep 5 _ (by decide) o5
  have o10 := hs9.keep 10 _ (by decide) o10
  have o11 := hs9.keep 11 _ (by decide) o11
  refine sblk_l3 st (wsN b 64) hst hsl (wsN_length b 64) g5 g10 g11 _ hz9 o5 o10 o11 o79 S (fun a10 w10 hs10 S => ?_)
  have hz10 := hs10.size.trans hz9
  have o2 := hs10.keep 2 _ (by decide) o2
  have o4 := hs10.keep 4 _ (by decide) o4
  have o11 := hs10.keep 11 _ (by decide) o11
  refine wp_seq (wp_seq (sblk_r24 hz10 (fun a11 hs11 o159 => ?_)))
  have hz11 := hs11.size.trans hz10
  have o2 := hs11.keep 2 _ (by decide) o2
  have o4 := hs11.keep 4 _ (by decide) o4
  have o11 := hs11.keep 11 _ (by decide) o11
  refine sblk_l4 _ st ((rnds_length st _ 64).trans hsl) hsl g11 g2 [_, _, _, _] _ hz11 o2 o11 o159 S (fun a12 w12 hs12 S => ?_)
  have hz12 := hs12.size.trans hz11
  have o4 := hs12.keep 4 _ (by decide) o4
  have o11 := hs12.keep 11 _ (by decide) o11
  have hbl8 := (blkF_length st b).trans hsl
  refine wp_seq (sblk_r29 w g11 g4 _ (List.replicate 8 0) hbl8 rfl [_, _, _] _ S hz12 o4 o11 (fun a13 w13 hs13 S => ?_))
  have hz13 := hs13.size.trans hz12
  have o4 := hs13.keep 4 _ (by decide) o4
  refine wp_ret (bodyPost_ret (results_cell1 (by rfl) (o4.eval (by rw [hz13]; decide)) (S.at_ (l1 := [_, _, _, _])) Tryd.underlying111 rfl (by rw [u32A_size, hbl8]; exact Tryd.info8w)) ?_ ⟨rfl, S.k⟩)
  rw [hs13.defers, hs12.defers, hs11.defers, hs10.defers, hs9.defers, hs8.defers, hs7.defers, hs6.defers, hs5.defers, hs4.defers]
  exact D3
end Go.Proofs.YtapboamjpilckaaDoor
/- Slices of bytes, cut: one run equation each, with what the cut reads. -/
namespace Go.Proofs.YtapboamjpilckaaDoor
open Go.RowKit

/-- What a cut slice is good for. -/
def CutOf (A : Option Addr) (n c lo m : Nat) (A' : Option Addr) (c' : Nat) : Prop :=
  ∀ (W : World) (bs : List UInt8), Rd W 1 (.slice A n c) n (bv bs) → Rd W 1 (.slice A' m c') m (bv ((bs.drop lo).take m))
theorem cut_of {A : Option Addr} {n c lo m : Nat} (h : lo + m ≤ n) : ∃ A' c', sliced A lo (lo + m) c 1 = .slice A' m c' ∧ CutOf A n c lo m A' c' ∧ ∀ g, (Value.slice A' m c').ownBlock = some g → (Value.slice A n c).ownBlock = some g := by
  by_cases e : c = lo
  · refine ⟨A, c - lo, by simp [sliced, e], fun W bs h1 => ?_, fun g hg => by cases A <;> simp_all [Value.ownBlock]⟩
    have := h1.cut0 (a := lo) (k := m) h e
    rwa [bv_drop] at this
  · refine ⟨A.map (fun x => x.add lo), c - lo, by simp [sliced, e], fun W bs h1 => ?_, fun g hg => ?_⟩
    · have := h1.cut (a := lo) (k := m) h e
      rwa [bv_drop] at this
    · cases A with
      | none => simp [Value.ownBlock] at hg
      | some ad =>
        simp only [Option.map_some, Value.ownBlock] at hg ⊢
        rw [← hg]; simp [block_of_add]
theorem run_size_u8 (w : World) : (sizeOf 5).run Tryd.prog w = .ok 1 w := by
  obtain ⟨i0, hi, hz0, hz1, hz2⟩ := info_parts Tryd.infoU8
  simp [sizeOf, typeInfo, hi, hz1]
theorem cut_at (w : World) (x : Value) (lo hi mx : Option Value) : (Instr.sliceAt 22 x lo hi mx).run Tryd.prog w = (Instr.slice 22 x lo hi mx).run Tryd.prog w := by
  simp [Instr.sliceAt, run_underlying Tryd.underlying22]
theorem elem_u8 : Tryd.prog.elem 22 = 5 := by kernel_rfl
theorem und_u8 : Tryd.prog.underlying 22 = some (.slice (Tryd.prog.elem 22)) := by rw [elem_u8]; exact Tryd.underlying22
theorem cut_hi (A : Option Addr) (n c k : Nat) (h : Int) (hh : h = k) (hk : k ≤ n) (hc : n ≤ c) : ∃ A' c', (∀ w, (Instr.sliceAt 22 (.slice A n c) none (some (.int .i64 h)) none).run Tryd.prog w = .ok (.slice A' k c') w) ∧ CutOf A n c 0 k A' c' ∧ ∀ g, (Value.slice A' k c').ownBlock = some g → (Value.slice A n c).ownBlock = some g := by
  subst hh
  obtain ⟨A', c', e, h1, h2⟩ := cut_of (A := A) (n := n) (c := c) (lo := 0) (m := k) (by omega)
  refine ⟨A', c', fun w => ?_, h1, h2⟩
  rw [cut_at, run_slice_h w 22 A n c und_u8 .i64 k (by omega) (by omega), elem_u8, run_size_u8]
  simp only [Result.andThen_ok, Int.toNat_natCast]
  rw [Nat.zero_add] at e
  rw [e]
theorem cut_lo (A : Option Addr) (n c lo m : Nat) (l : Int) (hl : l = lo) (hm : lo + m = n) : ∃ A' c', (∀ w, (Instr.sliceAt 22 (.slice A n c) (some (.int .i64 l)) none none).run Tryd.prog w = .ok (.slice A' m c') w) ∧ CutOf A n c lo m A' c' ∧ ∀ g, (Value.slice A' m c').ownBlock = some g → (Value.slice A n c).ownBlock = some g := by
  subst hl
  obtain ⟨A', c', e, h1, h2⟩ := cut_of (A := A) (n := n) (c := c) (lo := lo) (m := m) (by omega)
  refine ⟨A', c', fun w => ?_, h1, h2⟩
  rw [cut_at, run_slice_l w 22 A n c und_u8 .i64 lo (by omega) (by omega), elem_u8, run_size_u8]
  simp only [Result.andThen_ok, Int.toNat_natCast]
  rw [← hm, e]
end Go.Proofs.YtapboamjpilckaaDoor
/- A sum under way in memory; copy into a block; parts of a block. -/
namespace Go.Proofs.YtapboamjpilckaaDoor
open Go.RowKit
/-- The cells of a sum under way. -/
def shaL (st : List Nat) (blk : List UInt8) (n : Nat) : List Value := u32L st ++ (bv blk ++ [.int .i64 (n : Int), .bool true])
def shaC (st : List Nat) (blk : List UInt8) (n : Nat) : Array Value := (shaL st blk n).toArray
section
variable {st : List Nat} {blk : List UInt8} {n : Nat}
theorem shaL_length (hs : st.length = 8) (hb : blk.length = 64) : (shaL st blk n).length = 74 := by
  unfold shaL
  simp only [List.length_append, u32L_length, bv_length, List.length_cons, List.length_nil]
  omega
theorem shaC_size (hs : st.length = 8) (hb : blk.length = 64) : (shaC st blk n).size = 74 := by
  simp only [shaC, List.size_toArray]; exact shaL_length hs hb
theorem shaL_drop8 (hs : st.length = 8) : (shaL st blk n).drop 8 = bv blk ++ [.int .i64 (n : Int), .bool true] := by
  unfold shaL; rw [List.drop_left' (by rw [u32L_length, hs])]
theorem shaC_len (hs : st.length = 8) (hb : blk.length = 64) : (shaC st blk n)[72]? = some (.int .i64 (n : Int)) := by
  simp only [shaC, List.getElem?_toArray, shaL]
  rw [List.getElem?_append_right (by rw [u32L_length]; omega), u32L_length, List.getElem?_append_right (by rw [bv_length]; omega), bv_length, hs, hb]
  rfl
theorem shaC_made (hs : st.length = 8) (hb : blk.length = 64) : (shaC st blk n)[73]? = some (.bool true) := by
  simp only [shaC, List.getElem?_toArray, shaL]
  rw [List.getElem?_append_right (by rw [u32L_length]; omega), u32L_length, List.getElem?_append_right (by rw [bv_length]; omega), bv_length, hs, hb]
  rfl
theorem shaC_setLen (hs : st.length = 8) (hb : blk.length = 64) (m : Nat) : (shaC st blk n).setIfInBounds 72 (.int .i64 (m : Int)) = shaC st blk m := by
  unfold shaC shaL
  rw [List.setIfInBounds_toArray, List.set_append_right _ _ (by rw [u32L_length]; omega), u32L_length, List.set_append_right _ _ (by rw [bv_length]; omega), bv_length, hs, hb]
  rfl
theorem shaC_splice (hs : st.length = 8) (hb : blk.length = 64) (k : Nat) (x : List UInt8) (h : k + x.length ≤ 64) : (splice (shaC st blk n).toList (8 + k) (bv x)).toArray = shaC st (lay blk k x) n := by
  unfold splice shaC shaL lay
  rw [List.toList_toArray]
  congr 1
  rw [List.take_append, List.take_of_length_le (l := u32L st) (by rw [u32L_length]; omega), u32L_length, hs, show 8 + k - 8 = k from by omega, List.take_append_of_le_length (by rw [bv_length]; omega),
    List.drop_append, List.drop_of_length_le (l := u32L st) (by rw [u32L_length]; omega), u32L_length, hs, bv_length, show 8 + k + x.length - 8 = k + x.length from by omega, List.drop_append_of_le_length (by rw [bv_length]; omega)]
  simp only [List.append_assoc, List.nil_append, bv, List.map_append, List.map_take, List.map_drop]
theorem shaC_state (hs : st.length = 8) (st' : List Nat) (hs' : st'.length = 8) : ((shaC st blk n).toList.take 0 ++ (u32A st').toList ++ (shaC st blk n).toList.drop (0 + (u32A st').size)).toArray = shaC st' blk n := by
  rw [u32A_size, hs']
  unfold shaC
  rw [List.toList_toArray, List.take_zero, List.nil_append, Nat.zero_add, shaL_drop8 hs]
  rfl
theorem sha_stateAt {w : World} {g : Nat} {t : TypeId} (h : Blk w g t (shaC st blk n)) (hs : st.length = 8) : ∀ j u, (u32A st).toList[j]? = some u → w.cell? ((⟨g, 0, none⟩ : Addr).add j) = some u := by
  intro j u hu
  have hj : j < 8 := by
    have := (List.getElem?_eq_some_iff.1 hu).1
    simpa [u32A, u32L, hs] using this
  refine h.agg j u ?_
  simp only [shaC, List.toList_toArray, shaL]
  rw [List.getElem?_append_left (by rw [u32L_length]; omega)]
  exact hu
theorem sha_blockAt {w : World} {g : Nat} {t : TypeId} (h : Blk w g t (shaC st blk n)) (hs : st.length = 8) (hb : blk.length = 64) : ∀ j u, (hashA blk).toList[j]? = some u → w.cell? ((⟨g, 8, none⟩ : Addr).add j) = some u := by
  intro j u hu
  have hj : j < 64 := by
    have := (List.getElem?_eq_some_iff.1 hu).1
    rw [hashA_list, bv_length] at this
    omega
  have h1 := h.agg (8 + j) u (by
    simp only [shaC, List.toList_toArray, shaL]
    rw [List.getElem?_append_right (by rw [u32L_length]; omega), u32L_length, hs, show 8 + j - 8 = j from by omega, List.getElem?_append_left (by rw [bv_length]; omega)]
    exact hu)
  rw [← h1, ← add_of_add]
  congr 2
theorem shaC_one (st : List Nat) (blk : List UInt8) (n : Nat) : ∀ u, u ∈ (shaC st blk n).toList → u.oneCell' = true := by
  intro u hu
  simp only [shaC, List.toList_toArray, shaL, List.mem_append, List.mem_cons, List.not_mem_nil, or_false] at hu
  rcases hu with hu | hu | rfl | rfl
  · exact u32L_one st u hu
  · exact bv_one blk u hu
  · rfl
  · rfl
end
theorem Tryd.infoSha : (Tryd.prog.info? 134).map (·.size) = some 74 := by kernel_rfl
theorem Tryd.info64u8s : (Tryd.prog.info? 76).map (·.size) = some 64 := by kernel_rfl
/-- s[k:] of 64 bytes that lie in a block from place b on. -/
theorem Tryd.slice64at (g b : Nat) (w : World) (k : Nat) (z : Int) (hz : z = k) (hk : k < 64) : (Instr.sliceAt 76 (.pointer (some ⟨g, b, none⟩)) (some (.int .i64 z)) none none).run Tryd.prog w = .ok (.slice (some ⟨g, b + k, none⟩) (64 - k) (64 - k)) w := by
  subst hz
  obtain ⟨i0, hi, hz0, hz1, hz2⟩ := info_parts Tryd.infoU8
  rw [run_sliceAt_array_l w 76 ⟨g, b, none⟩ (by kernel_rfl) .i64 (k : Int) (by omega) (by rw [Tryd.len64u8]; omega), Tryd.len64u8, show Tryd.prog.elem 76 = 5 from by kernel_rfl]
  have e : (⟨g, b, none⟩ : Addr).add (k * 1) = ⟨g, b + k, none⟩ := by unfold Addr.add; split <;> simp <;> omega
  simp only [sizeOf, typeInfo, hi, hz1, Sem.run_bind, Sem.run_pure, Result.andThen, run_program, slicedAt, Int.toNat_natCast, e]
  rw [if_neg (by omega)]
/-- copy into a part of a block. -/
theorem wpList_copy_blk {P : Program} {w : World} {ops : Array Oper} {rest : List Oper} {o : Oper} {a : Act} {Q : Exit → Act → World → Prop} (hgd : o.guard = none) (d s : Operand) (dT sT : TypeId)
    (ho : o.op = .call { callee := .builtin .copy, args := #[d, s], argTypes := #[dT, sT] }) (elem : TypeId) (hu : P.underlying dT = some (.slice elem)) (hsz : (P.info? elem).map (·.size) = some 1)
    (g off dLen dCap : Nat) (hd : a.eval d = .slice (some ⟨g, off, none⟩) dLen dCap) (y : Value) (hs : a.eval s = y) (n : Nat) (xs : List Value) (hr : Rd w 1 y n xs)
    (t : TypeId) (cur : Array Value) (hb : Blk w g t cur) (hfit : off + dLen ≤ cur.size) (h1 : ∀ v ∈ xs, v.oneCell' = true) (m : Nat) (hm : min n dLen = m)
    (h : ∀ w', Blk w' g t (splice cur.toList off (xs.take dLen)).toArray → Kp [g] w w' → wpList P ops Q rest (a.put o.dst (goInt (m : Int))) w') : wpList P ops Q (o :: rest) a w := by
  subst hm
  obtain ⟨hl, A, c, rfl, h2, h3, hA, hc⟩ := hr
  by_cases h0 : min n dLen = 0
  · refine wpList_copy_nothing hgd d s dT sT ho elem hu hsz (some ⟨g, off, none⟩) A dLen dCap n c hd hs h0 ?_
    have e : xs.take dLen = [] := by
      apply List.eq_nil_of_length_eq_zero
      rw [List.length_take]; omega
    have := h w (by rw [e]; simpa [splice] using hb) (Kp.refl _ _)
    rwa [h0] at this
  · rcases A with _ | ad
    · have := hA rfl; omega
    · have hcl : (xs.take dLen).length = min n dLen := by rw [List.length_take]; omega
      refine wpList_copy_own hgd d s dT sT ho elem hu hsz g off dLen dCap ad n c hd hs cur t hb (xs.take dLen) (by rw [hcl]) ?_ (by rw [hcl]; omega) (fun v hv => h1 v (List.mem_of_mem_take hv)) ?_
      · intro j v hv
        refine hc ad rfl j v ?_
        rw [List.getElem?_take] at hv
        split at hv
        · exact hv
        · cases hv
      · rw [hcl]
        refine h _ ?_ (setRow_blk hb).2
        have := (setRow_blk (cs := (cur.toList.take off ++ (xs.take dLen ++ cur.toList.drop (off + min n dLen))).toArray) hb).1
        unfold splice
        rw [hcl]
        exact this
end Go.Proofs.YtapboamjpilckaaDoor
/- A point's text: the plain mathematics. -/
namespace Go.Proofs.YtapboamjpilckaaDoor
open Go.RowKit
def dec (n : Nat) : List UInt8 := Lib.decDigits n
theorem dec_small {n : Nat} (h : n < 10) : dec n = [UInt8.ofNat (48 + n)] := by unfold dec; rw [Lib.decDigits, dif_pos h]
theorem dec_big {n : Nat} (h : ¬ n < 10) : dec n = dec (n / 10) ++ [UInt8.ofNat (48 + n % 10)] := by
  unfold dec
  conv => lhs; rw [Lib.decDigits, dif_neg h]
theorem dec_length_le : ∀ (k n : Nat), n < 10 ^ (k + 1) → (dec n).length ≤ k + 1
  | 0, n, h => by rw [dec_small (by simpa using h)]; simp
  | k + 1, n, h => by
    by_cases h2 : n < 10
    · rw [dec_small h2]; simp
    · rw [dec_big h2, List.length_append]
      have := dec_length_le k (n / 10) (by rw [Nat.pow_succ] at h; omega)
      simp; omega
theorem dec_19 {n : Nat} (h : n < 9223372036854775808) : (dec n).length ≤ 19 := dec_length_le 18 n (by omega)
/-- What ParseInt answers, whatever stands there. -/
def pv (l : List UInt8) : Int := match Lib.parseIntB 64 l with
  | .ok v => v
  | Lib.NumEnd.syntax => 0
  | .range => Lib.intSat 64 l
/-- A text cut at a byte. -/
def ct (c : UInt8) (l : List UInt8) : List UInt8 × List UInt8 × Bool := if c ∈ l then (l.take (l.idxOf c), l.drop (l.idxOf c + 1), true) else (l, [], false)
/-- A point's text. -/
def titleL : List UInt8 := [110, 111, 116, 97, 114, 121]
def told (n : Nat) (h : List UInt8) : List UInt8 := titleL ++ 10 :: (dec n ++ 10 :: (hexS h ++ [10]))
theorem told_length (n : Nat) (h : List UInt8) : (told n h).length = 9 + (dec n).length + (hexS h).length := by
  simp [told, titleL]; omega
end Go.Proofs.YtapboamjpilckaaDoor
/- Numbers in decimal digits; cuts; what the listed variables hold. -/
namespace Go.Proofs.YtapboamjpilckaaDoor
open Go.RowKit Go.Shelf
/-- The listed table, as it is laid. -/
structure LD (w : World) : Prop where
  tab : Lib.TabIs Tryd.prog w "internal/strconv.uint64pow10" .u64 Lib.pow10Tab
/-- The listed variables, as they are laid. -/
structure LP (w : World) : Prop extends LD w where
  syn : ∃ tp p, w.var? Tryd.prog "strconv.ErrSyntax" = some #[.iface tp p]
  rng : ∃ tp p, w.var? Tryd.prog "strconv.ErrRange" = some #[.iface tp p]
theorem Tryd.named1 : (Tryd.prog.globalNamed "internal/strconv.uint64pow10").isSome = true := by kernel_rfl
theorem LD.kp {w w' : World} (h : LD w) (k : Kp [] w w') : LD w' := by
  have hb : Below w.heap.size w w' := k.below (Nat.le_refl _) (by simp)
  obtain ⟨g1, h1⟩ := Option.isSome_iff_exists.1 Tryd.named1
  exact ⟨Joins.tab_stays h1 h.tab hb (Nat.le_refl _)⟩
theorem Tryd.named2 : (Tryd.prog.globalNamed "strconv.ErrSyntax").isSome = true := by kernel_rfl
theorem Tryd.named3 : (Tryd.prog.globalNamed "strconv.ErrRange").isSome = true := by kernel_rfl
theorem LP.kp {w w' : World} (h : LP w) (k : Kp [] w w') : LP w' := by
  have hb : Below w.heap.size w w' := k.below (Nat.le_refl _) (by simp)
  obtain ⟨g2, h2⟩ := Option.isSome_iff_exists.1 Tryd.named2
  obtain ⟨g3, h3⟩ := Option.isSome_iff_exists.1 Tryd.named3
  obtain ⟨t1, p1, e1⟩ := h.syn
  obtain ⟨t2, p2, e2⟩ := h.rng
  exact ⟨h.toLD.kp k, ⟨t1, p1, Joins.var_stays h2 e1 hb (Nat.le_refl _)⟩, ⟨t2, p2, Joins.var_stays h3 e2 hb (Nat.le_refl _)⟩⟩
theorem Kp.grew {w : World} (n : Nat) (os : Array Obj) : Kp [] w (Sort.grow (w.drewN n) os) :=
  ⟨rfl, rfl, rfl, by simp [Sort.grow], fun k hk _ => by
    show ((w.drewN n).heap ++ os)[k]? = _
    rw [Array.getElem?_append_left (by simpa using hk)]; rfl⟩
theorem fmt_any (n : Nat) (hn : n < 9223372036854775808) (w : World) (h : LD w) : Calls Tryd.prog 72 #[.int .i64 n, .int .i64 10] w fun e w' => e = .returned (.string ⟨(dec n).toArray⟩) ∧ Kp [] w w' := by
  refine (Tryd.strconv_FormatInt_10 n (by omega) (by omega) w h.tab).mono ?_
  rintro e w' ⟨rfl, k, os, rfl⟩
  refine ⟨?_, Kp.grew k os⟩
  unfold dec Lib.itoa
  rw [if_neg (by omega), Int.toNat_natCast]
theorem str_add (a b : List UInt8) : (ByteArray.mk a.toArray) ++ (ByteArray.mk b.toArray) = ⟨(a ++ b).toArray⟩ := by
  apply ByteArray.ext
  rw [ByteArray.data_append]
  simp
end Go.Proofs.YtapboamjpilckaaDoor
/- Text of point and of the reference. -/
namespace Go.Proofs.YtapboamjpilckaaDoor
open Go.RowKit
/-- The cells of a point. -/
def ptA (s : Int) (h : List UInt8) : Array Value := (Value.int .i64 s :: bv h).toArray
theorem ptA_size {s : Int} {h : List UInt8} (hh : h.length = 32) : (ptA s h).size = 33 := by simp [ptA, bv_length, hh]
theorem pt_c0 {w : World} {g : Nat} {t : TypeId} {s : Int} {h : List UInt8} (b : Blk w g t (ptA s h)) : w.cell? ⟨g, 0, none⟩ = some (.int .i64 s) := b.cell 0
theorem pt_root {w : World} {g : Nat} {t : TypeId} {s : Int} {h : List UInt8} (b : Blk w g t (ptA s h)) : ∀ j u, (bv h)[j]? = some u → w.cell? ((⟨g, 1, none⟩ : Addr).add j) = some u := by
  intro j u hu
  have h1 := b.cell (1 + j)
  have h2 : (ptA s h)[1 + j]? = some u := by
    unfold ptA
    rw [List.getElem?_toArray, Nat.add_comm, List.getElem?_cons_succ]
    exact hu
  rw [h2] at h1
  by_cases hj : j = 0
  · subst hj; exact h1
  · simpa [Addr.add, hj] using h1
theorem run_pt_root {w : World} {g : Nat} {t : TypeId} {s : Int} {h : List UInt8} (b : Blk w g t (ptA s h)) (hh : h.length = 32) : (Instr.loadAt 25 (.pointer (some ⟨g, 1, none⟩))).run Tryd.prog w = .ok (.agg (hashA h)) w :=
  run_loadAt_agg w ⟨g, 1, none⟩ 25 (bv h) _ (pt_root b) Tryd.underlying25 rfl (by rw [bv_length, hh]; exact Tryd.infoHashP)
def txt (s : Int) (h : List UInt8) : List UInt8 := if s < 0 then [] else told s.toNat h
def txE (s : Int) : Int := if s < 0 then 2 else 0
def TextPost (s : Int) (h : List UInt8) (w : World) (e : Ending) (w' : World) : Prop := e = .returned (.tuple #[.string ⟨(txt s h).toArray⟩, .int .i64 (txE s)]) ∧ Kp [] w w'
theorem told_str (n : Nat) (h : List UInt8) : ((({ data := #[110, 111, 116, 97, 114, 121, 10] } : ByteArray) ++ ⟨(dec n).toArray⟩ ++ { data := #[10] }) ++ ⟨(hexS h).toArray⟩ ++ { data := #[10] }) = ⟨(told n h).toArray⟩ := by
  rw [show ({ data := #[110, 111, 116, 97, 114, 121, 10] } : ByteArray) = ⟨([110, 111, 116, 97, 114, 121, 10] : List UInt8).toArray⟩ from rfl, show ({ data := #[10] } : ByteArray) = ⟨([10] : List UInt8).toArray⟩ from rfl]
  rw [str_add, str_add, str_add, str_add]
  congr 2
  simp [told, titleL]
set_option maxRecDepth 100000 in
set_option maxHeartbeats 2000000 in
theorem ptext_any (s : Int) (hs : -9223372036854775808 ≤ s ∧ s ≤ 9223372036854775807) (h : List UInt8) (hh : h.length = 32) (w : World) (L : LD w) : Calls Tryd.prog 47 #[.agg (ptA s h)] w (TextPost s h w) := by
  have B0 := Lib.hid (Blk.new w 33 (ptA s h))
  have K0 := Lib.hid ((Kp.refl [] w).alloc (.cells (ptA s h) 33))
  have HL := Lib.hid L
  have HH := Lib.hid hh
  clear L hh
  by_cases h0 : s < 0
  · have HT : Hid (txt s h = [] ∧ txE s = 2) := Lib.hid ⟨if_pos h0, if_pos h0⟩
    have c0 := pt_c0 B0.out
    obtain ⟨cs, HC⟩ : ∃ cs, Hid (ptA s h = cs) := ⟨_, Lib.hid rfl⟩
    rw [HC.out] at B0 K0 c0 ⊢
    go_enter Tryd.func47, Tryd.ntmps47
    go_wp2
    go_ret2
    exact ⟨by rw [HT.out.1, HT.out.2]; rfl, K0.out⟩
  · obtain ⟨n, rfl⟩ : ∃ n : Nat, s = n := ⟨s.toNat, by omega⟩
    have HT : Hid (txt n h = told n h ∧ txE n = 0) := Lib.hid ⟨by unfold txt; rw [if_neg h0, Int.toNat_natCast], if_neg h0⟩
    have hl1 : (dec n).length ≤ 19 := dec_19 (by omega)
    have hl2 : (hexS h).length ≤ 64 := by rw [hexS_length, HH.out]; omega
    have c0 := pt_c0 B0.out
    have T0 := Lib.hid ((K0.out).drew)
    have BF := Lib.hid (fun V (kk : Kp [] (w.alloc (.cells (ptA n h) 33)) V) => B0.out.kp kk (by simp))
    have HF := Lib.hid (fun V (LV : LD V) => fmt_any n (by omega) V LV)
    have HX := Lib.hid (fun V => hex_any h HH.out V)
    have HLD := Lib.hid (fun V (kk : Kp [] (w.alloc (.cells (ptA n h) 33)) V) => HL.out.kp (K0.out.trans kk (by simp)))
    obtain ⟨cs, HC⟩ : ∃ cs, Hid (ptA n h = cs) := ⟨_, Lib.hid rfl⟩
    rw [HC.out] at B0 K0 c0 BF T0 HLD ⊢
    go_enter Tryd.func47, Tryd.ntmps47
    go_wp2
    generalize hW1 : w.alloc (.cells cs 33) = w1 at *
    generalize hg1 : w.heap.size = g1 at *
    have T1 := Lib.hid ((Kp.refl [] w1).drew)
    refine wp_region_lexf [2, 7] [] (fun V : World => Kp [] w1 V) (by kernel_rfl) (by kernel_rfl) T1.out (fun σ hne fw hf hsur => ?_); have Hsur := Lib.hid hsur; clear hsur
    have q0 := fun y => pt_c0 (HC.out ▸ BF.out _ (hf y))
    clear hf
    have hld : ∀ V, Kp [] w1 V → (Instr.loadAt 25 (.pointer (some ⟨g1, 1, none⟩))).run Tryd.prog V = .ok (.agg (hashA h)) V := fun V kk => run_pt_root (HC.out ▸ BF.out V kk) HH.out
    have HLoad := Lib.hid hld
    clear hld
    go_wp2_with (first
      | (refine lex_qk (.agg (hashA h)) rfl rfl (fun V hV => exec_load rfl rfl (HLoad.out V hV)) ?_; intro K hK; go_simp; refine hK _ _ ?_; clear hK K)
      | (refine lex_qq Hsur.out rfl rfl rfl ?_; intro K hK; go_big_quiet_op; go_big_quiet_on) | (refine lex_skipk rfl ?_; intro K hK; go_simp; refine hK _ _ ?_; clear hK K) | (refine lex_e rfl rfl ?_; intro K hK; go_step) | (refine lex_nil ?_)
      | (go_at_call 72; ((with_reducible refine (HF.out _ (HLD.out _ T1.out)).mono ?_); rintro r w2 ⟨rfl, k2⟩; have T2 := Lib.hid (T1.out.trans k2 (by simp)); clear k2))
      | (go_at_call 55; ((with_reducible refine (HX.out _).mono ?_); rintro r w3 ⟨rfl, k3⟩; have T3 := Lib.hid (T2.out.trans k3 (by simp)); clear k3))
      | ((with_reducible apply And.intro); · (intro hl; first | (exact ls_absurd hl rfl) | exact T3.out))
      | ((with_reducible apply And.intro); · (intro hl; first | (exact ls_absurd hl rfl) | exact T2.out)))
    go_ret2
    exact ⟨by rw [HT.out.1, HT.out.2, ← told_str]; rfl, K0.out.trans T3.out (by simp)⟩
end Go.Proofs.YtapboamjpilckaaDoor
/- Parse of point. -/
namespace Go.Proofs.YtapboamjpilckaaDoor
open Go.RowKit
/-- A part of a block written. -/
theorem op_store_part {P : Program} {o : Oper} {a : Act} {w : World} {K : Act → World → Prop} {Q : Exit → Act → World → Prop} (x y : Operand) (ty : TypeId) (ho : o.op = .store ty x y) (g off : Nat) (hx : a.eval x = .pointer (some ⟨g, off, none⟩)) (xs : Array Value) (hy : a.eval y = .agg xs)
    (t : TypeId) (cur : Array Value) (hb : Blk w g t cur) (hi : (P.info? ty).map (·.size) = some xs.size) (hfit : off + xs.size ≤ cur.size) (h1 : ∀ u, u ∈ xs.toList → u.oneCell' = true)
    (hK : ∀ w', Blk w' g t (cur.toList.take off ++ xs.toList ++ cur.toList.drop (off + xs.size)).toArray → Kp [g] w w' → K (a.put o.dst undef) w') : o.wp P a w K Q := by
  unfold Oper.wp
  rw [exec_store ho hx hy (run_storeAt_agg w g off t ty xs cur hb hi hfit h1)]
  exact hK _ (setRow_blk hb).1 (setRow_blk hb).2
end Go.Proofs.YtapboamjpilckaaDoor
/- (*Sha).take. -/
namespace Go.Proofs.YtapboamjpilckaaDoor
open Go.RowKit
-- REG stk0
set_option maxRecDepth 100000 in
set_option maxHeartbeats 2000000 in
theorem stk_r0 {Q : Exit → Act → World → Prop} {a : Act} {w : World} (A : Option Addr) (n c : Nat) (hsz : a.tmps.size = 48) (o1 : Sl a 1 (.slice A n c))
    (hend : ∀ (a' : Act), Same a a' [6, 7, 8] → Sl a' 8 (.bool (decide (0 < n))) → Q .normal a' (w)) : (Code.region 0 (opsOf 0 Tryd.f63).toArray false).wp Tryd.prog Q a w := by
  refine wp_region_lit (l := (opsOf 0 Tryd.f63)) ?_
  conv => arg 4; whnf
  unfold Sl at o1
  go_wp2_with fail
  try simp only [Act.put]
  exact hend _ (by repeat (first | (with_reducible refine same_set (by decide) ?_) | (with_reducible exact same_nil))) (by unfold Sl; first | (simp [hsz]; done) | (simp [hsz]; omega))
-- END stk0
-- REG stk1
set_option maxRecDepth 100000 in
set_option maxHeartbeats 2000000 in
theorem stk_r1 {Q : Exit → Act → World → Prop} {a : Act} {w : World} (w0 : World) (g n : Nat) (st : List Nat) (blk : List UInt8) (hs : st.length = 8) (hb : blk.length = 64) (L : List Res) (S : Held w0 w (blkR g 134 (shaC st blk n) :: L)) (hsz : a.tmps.size = 48) (o0 : Sl a 0 (.pointer (some ⟨g, 0, none⟩)))
    (hend : ∀ (a' : Act), Same a a' [9, 10, 11, 12, 13, 4] → Sl a' 4 (.int .i64 ((n % 64 : Nat) : Int)) → Q .normal a' (w)) : (Code.region 1 (opsOf 1 Tryd.f63).toArray false).wp Tryd.prog Q a w := by
  refine wp_region_lit (l := (opsOf 1 Tryd.f63)) ?_
  conv => arg 4; whnf
  unfold Sl at o0
  have c1 : w.cell? ⟨g, 72, none⟩ = some (.int .i64 (n : Int)) := by rw [(S.at_ (l1 := [])).cell]; exact shaC_len hs hb
  have ht : Int.tmod (n : Int) 64 = ((n % 64 : Nat) : Int) := rfl
  clear S hs hb
  go_wp2_with fail
  try simp only [Act.put]
  exact hend _ (by repeat (first | (with_reducible refine same_set (by decide) ?_) | (with_reducible exact same_nil))) (by unfold Sl; first | (simp [hsz]; done) | (simp [hsz]; omega))
-- END stk1
-- REG stk2
set_option maxRecDepth 100000 in
set_option maxHeartbeats 2000000 in
theorem stk_r2 {Q : Exit → Act → World → Prop} {a : Act} {w : World} (w0 : World) (g n : Nat) (st : List Nat) (blk : List UInt8) (hs : st.length = 8) (hb : blk.length = 64) (L : List Res) (S : Held w0 w (blkR g 134 (shaC st blk n) :: L)) (k : Nat) (hk : k < 64) (y : Value) (l : List UInt8) (hy : Rd w 1 y l.length (bv l)) (A : Option Addr) (c : Nat) (hyf : y = .slice A l.length c) (hsz : a.tmps.size = 48) (o0 : Sl a 0 (.pointer (some ⟨g, 0, none⟩))) (o1 : Sl a 1 (.slice A l.length c)) (o4 : Sl a 4 (.int .i64 (k : Int)))
    (hend : ∀ (a' : Act) (W : World), Same a a' [14, 15, 16, 17, 18, 19, 20, 5] → Sl a' 5 (.int .i64 ((min l.length (64 - k) : Nat) : Int)) → (Kp [g] w W) → (Held w0 W (blkR g 134 (shaC st (lay blk k (l.take (64 - k))) n) :: L)) → Q .normal a' W) : (Code.region 2 (opsOf 2 Tryd.f63).toArray false).wp Tryd.prog Q a w := by
  refine wp_region_lit (l := (opsOf 2 Tryd.f63)) ?_
  conv => arg 4; whnf
  unfold Sl at o0 o1 o4
  subst hyf
  have hsl := Tryd.slice64at g 8 w k (k : Int) rfl hk
  have HB := Lib.hid hb
  have HS := Lib.hid hs
  have S := Lib.hid S
  have Hy := Lib.hid hy
  clear hb hs hy
  obtain ⟨ll, hll⟩ : ∃ ll, l.length = ll := ⟨_, rfl⟩
  have HLL := Lib.hid hll
  rw [hll] at o1 Hy
  clear hll
  obtain ⟨mm, hmm⟩ : ∃ mm, min ll (64 - k) = mm := ⟨_, rfl⟩
  have HM := Lib.hid hmm
  clear hmm
  go_wp2_with (refine wpList_copy_blk rfl (.tmp 18) (.tmp 19) 22 22 rfl 5 Tryd.underlying22 (by kernel_rfl) g (8 + k) (64 - k) (64 - k) (by simp [Act.eval, Act.put, hsz]) _ (by simp [Act.eval, Act.put, hsz]) ll (bv l) Hy.out 134 _ (S.out.at_ (l1 := [])) (by rw [shaC_size HS.out HB.out]; omega) (bv_one l) mm HM.out ?_; intro w2 b2 k2; have S2 := Lib.hid (Held.setBlk (l1 := []) S.out b2 k2); have K2 := Lib.hid k2; clear b2 k2)
  rw [show (bv l).take (64 - k) = bv (l.take (64 - k)) from by simp [bv, List.map_take], shaC_splice HS.out HB.out k _ (by rw [List.length_take]; omega)] at S2
  have e5 : min l.length (64 - k) = mm := by rw [HLL.out]; exact HM.out
  rw [e5] at hend
  try simp only [Act.put]
  exact hend _ _ (by repeat (first | (with_reducible refine same_set (by decide) ?_) | (with_reducible exact same_nil))) (by unfold Sl; first | (simp [hsz]; done) | (simp [hsz]; omega)) (K2.out) (S2.out)
-- END stk2
-- REG stk3
set_option maxRecDepth 100000 in
set_option maxHeartbeats 2000000 in
theorem stk_r3 {Q : Exit → Act → World → Prop} {a : Act} {w : World} (A A1 : Option Addr) (n m c c1 k : Nat) (hr : ∀ w, (Instr.sliceAt 22 (.slice A n c) (some (.int .i64 (k : Int))) none none).run Tryd.prog w = .ok (.slice A1 m c1) w) (hsz : a.tmps.size = 48) (o1 : Sl a 1 (.slice A n c)) (o5 : Sl a 5 (.int .i64 (k : Int)))
    (hend : ∀ (a' : Act), Same a a' [21, 22, 23, 1] → Sl a' 1 (.slice A1 m c1) → Q .normal a' (w)) : (Code.region 3 (opsOf 3 Tryd.f63).toArray false).wp Tryd.prog Q a w := by
  refine wp_region_lit (l := (opsOf 3 Tryd.f63)) ?_
  conv => arg 4; whnf
  unfold Sl at o1 o5
  go_wp2_with fail
  try simp only [Act.put]
  exact hend _ (by repeat (first | (with_reducible refine same_set (by decide) ?_) | (with_reducible exact same_nil))) (by unfold Sl; first | (simp [hsz]; done) | (simp [hsz]; omega))
-- END stk3
-- REG stk4
set_option maxRecDepth 100000 in
set_option maxHeartbeats 2000000 in
theorem stk_r4 {Q : Exit → Act → World → Prop} {a : Act} {w : World} (w0 : World) (g n : Nat) (st : List Nat) (blk : List UInt8) (hs : st.length = 8) (hb : blk.length = 64) (L : List Res) (S : Held w0 w (blkR g 134 (shaC st blk n) :: L)) (k : Nat) (hn : n + k < 9223372036854775808) (hsz : a.tmps.size = 48) (o0 : Sl a 0 (.pointer (some ⟨g, 0, none⟩))) (o5 : Sl a 5 (.int .i64 (k : Int)))
    (hend : ∀ (a' : Act) (W : World), Same a a' [24, 25, 26, 27, 28, 29, 30, 31] → (Kp [g] w W) → (Held w0 W (blkR g 134 (shaC st blk (n + k)) :: L)) → Q .normal a' W) : (Code.region 4 (opsOf 4 Tryd.f63).toArray false).wp Tryd.prog Q a w := by
  refine wp_region_lit (l := (opsOf 4 Tryd.f63)) ?_
  conv => arg 4; whnf
  unfold Sl at o0 o5
  have c1 : w.cell? ⟨g, 72, none⟩ = some (.int .i64 (n : Int)) := by rw [(S.at_ (l1 := [])).cell]; exact shaC_len hs hb
  have c2 := (S.at_ (l1 := [])).frozen 72
  have S2 : Hid (Held w0 (w.setCell ⟨g, 72, none⟩ (.int .i64 ((n + k : Nat) : Int))) _) := Lib.hid (S.set (l1 := []) 72 (.int .i64 ((n + k : Nat) : Int)))
  rw [shaC_setLen hs hb] at S2
  have hw := Lib.hid (show wrap64 ((n : Int) + (k : Int)) = ((n + k : Nat) : Int) from by unfold wrap64; omega)
  have K2 := Lib.hid ((Kp.refl [g] w).setCell (p := ⟨g, 72, none⟩) (.inl (by simp)) (.int .i64 ((n + k : Nat) : Int)))
  clear S hs hb hn
  go_wp2
  rw [hw.out]
  try simp only [Act.put]
  exact hend _ _ (by repeat (first | (with_reducible refine same_set (by decide) ?_) | (with_reducible exact same_nil))) (K2.out) (S2.out)
-- END stk4
-- REG stk5
set_option maxRecDepth 100000 in
set_option maxHeartbeats 2000000 in
theorem stk_r5 {Q : Exit → Act → World → Prop} {a : Act} {w : World} (k j : Nat) (hk : k + j ≤ 64) (hsz : a.tmps.size = 48) (o4 : Sl a 4 (.int .i64 (k : Int))) (o5 : Sl a 5 (.int .i64 (j : Int)))
    (hend : ∀ (a' : Act), Same a a' [32, 33, 34, 35] → Sl a' 35 (.bool ((k : Int) + (j : Int) == 64)) → Q .normal a' (w)) : (Code.region 5 (opsOf 5 Tryd.f63).toArray false).wp Tryd.prog Q a w := by
  refine wp_region_lit (l := (opsOf 5 Tryd.f63)) ?_
  conv => arg 4; whnf
  unfold Sl at o4 o5
  have hw : wrap64 ((k : Int) + (j : Int)) = ((k + j : Nat) : Int) := by unfold wrap64; omega
  go_wp2_with fail
  try simp only [Act.put]
  exact hend _ (by repeat (first | (with_reducible refine same_set (by decide) ?_) | (with_reducible exact same_nil))) (by unfold Sl; first | (simp [hsz]; done) | (simp [hsz]; omega))
-- END stk5
-- REG stk6
set_option maxRecDepth 100000 in
set_option maxHeartbeats 2000000 in
theorem stk_r6 {Q : Exit → Act → World → Prop} {a : Act} {w : World} (w0 : World) (g n : Nat) (st : List Nat) (blk : List UInt8) (hs : st.length = 8) (hst : Ws st) (hb : blk.length = 64) (L : List Res) (hsz : a.tmps.size = 48) (o0 : Sl a 0 (.pointer (some ⟨g, 0, none⟩)))
    (S0 : Held w0 w (blkR g 134 (shaC st blk n) :: L))
    (hend : ∀ (a' : Act) (W : World), Same a a' [36, 37, 38, 39, 40, 41, 42, 43, 44, 45, 46, 47] → Held w0 W (blkR g 134 (shaC (blkF st blk) blk n) :: L) → Q .normal a' W) : (Code.region 6 (opsOf 6 Tryd.f63).toArray true).wp Tryd.prog Q a w := by
  have hap : apartB (opsOf 6 Tryd.f63) = true := by kernel_rfl
  refine wp_region_sep (Γ := Unit) (l := (opsOf 6 Tryd.f63)) 2 [0, 1, 2, 3, 4, 5, 6, 7, 8, 9, 10, 11, 12, 14]
    (fun i vs gs => match i with | 0 => vs 0 = .pointer (some ⟨g, 0, none⟩) | 1 => vs 1 = .pointer (some ⟨g, 0, none⟩) | 2 => vs 2 = .pointer (some ⟨g, 0, none⟩) | 3 => vs 3 = .pointer (some ⟨g, 0, none⟩) | 4 => vs 4 = .agg (u32A st) | 5 => vs 5 = .pointer (some ⟨g, 0, none⟩) | 6 => vs 6 = .pointer (some ⟨g, 0, none⟩) | 7 => vs 7 = .pointer (some ⟨g, 8, none⟩) | 8 => vs 8 = .agg (hashA blk) | 9 => vs 9 = .agg (u32A (blkF st blk)) | 10 => vs 10 = .pointer (some ⟨g, 0, none⟩) | 11 => vs 11 = .pointer (some ⟨g, 0, none⟩) | _ => True)
    (fun i vs gs => match i with | 12 => [blkR g 134 (shaC (blkF st blk) blk n)] | 13 => [blkR g 134 (shaC st blk n)] | 14 => L | _ => [])
    (fun i => match i with | 12 => [13] | _ => []) (fun i => match i with | 4 => [13] | 8 => [13] | _ => []) S0 (by kernel_rfl) hap (by kernel_rfl) (by kernel_rfl) (fun i => match i with | 0 => [0] | 1 => [1] | 2 => [2] | 3 => [3] | 4 => [4] | 5 => [5] | 6 => [6] | 7 => [7] | 8 => [8] | 9 => [9] | 10 => [10] | 11 => [11] | _ => []) (by kernel_rfl) ?_ (by kernel_rfl) ?_ ?_ ?_
  · intro s vs vs' gs gs' h
    iterate 15 (rcases s with _ | s; · (first | exact ⟨rfl, id⟩ | (simp only [List.mem_cons, List.not_mem_nil, or_false, forall_eq] at h; simp [h])))
    exact ⟨rfl, id⟩
  · simp only [List.range, List.range.loop, List.flatMap_cons, List.flatMap_nil, List.append_nil]
    exact List.Perm.refl _
  · clear S0 hend
    refine ⟨?_, ?_, ?_, ?_, ?_, ?_, ?_, ?_, ?_, ?_, ?_, ?_, ?_, trivial⟩
    · intro vs gs A' W LF hA S hR hd hu K hK
      replace hK := hK default
      have e0 : A'.tmps[0]?.getD undef = .pointer (some ⟨g, 0, none⟩) := slot_out hA hap (Nat.lt_of_lt_of_eq (Nat.le_of_ble_eq_true rfl : 0 < 48) hsz.symm) (by kernel_rfl) o0
      clear hA o0
      go_step
      exact hK _ _ S rfl
    · intro vs gs A' W LF hA S hR hd hu K hK
      replace hK := hK default
      have e0 : A'.tmps[0]?.getD undef = .pointer (some ⟨g, 0, none⟩) := slot_out hA hap (Nat.lt_of_lt_of_eq (Nat.le_of_ble_eq_true rfl : 0 < 48) hsz.symm) (by kernel_rfl) o0
      clear hA o0
      go_step
      exact hK _ _ S rfl
    · intro vs gs A' W LF hA S hR hd hu K hK
      replace hK := hK default
      have f1 : vs 1 = .pointer (some ⟨g, 0, none⟩) := hd 1 (by kernel_rfl)
      have e37 : A'.tmps[37]?.getD undef = vs 1 := slot_in hA hap (Nat.lt_of_lt_of_eq (Nat.le_of_ble_eq_true rfl : 37 < 48) hsz.symm) (by kernel_rfl)
      rw [f1] at e37
      clear hA o0
      go_step
      exact hK _ _ S rfl
    · intro vs gs A' W LF hA S hR hd hu K hK
      replace hK := hK default
      have f2 : vs 2 = .pointer (some ⟨g, 0, none⟩) := hd 2 (by kernel_rfl)
      have e38 : A'.tmps[38]?.getD undef = vs 2 := slot_in hA hap (Nat.lt_of_lt_of_eq (Nat.le_of_ble_eq_true rfl : 38 < 48) hsz.symm) (by kernel_rfl)
      rw [f2] at e38
      clear hA o0
      go_step
      exact hK _ _ S rfl
    · intro vs gs A' W LF hA S hR hd hu K hK
      replace hK := hK default
      have f3 : vs 3 = .pointer (some ⟨g, 0, none⟩) := hd 3 (by kernel_rfl)
      have e39 : A'.tmps[39]?.getD undef = vs 3 := slot_in hA hap (Nat.lt_of_lt_of_eq (Nat.le_of_ble_eq_true rfl : 39 < 48) hsz.symm) (by kernel_rfl)
      rw [f3] at e39
      clear hA o0
      refine op_runs (v := .agg (u32A st)) (w' := W) (exec_load rfl (by simpa [Act.eval] using e39) (run_loadAt_agg W ⟨g, 0, none⟩ 111 (u32A st).toList _ (sha_stateAt (show Blk W g 134 (shaC st blk n) from S.ok (blkR g 134 (shaC st blk n)) (hR 13 (List.mem_singleton.2 rfl) _ (List.mem_singleton.2 rfl))) hs) Tryd.underlying111 rfl (by rw [Array.length_toList, u32A_size, hs]; exact Tryd.info8w))) ?_
      exact hK _ _ S rfl
    · intro vs gs A' W LF hA S hR hd hu K hK
      replace hK := hK default
      have e0 : A'.tmps[0]?.getD undef = .pointer (some ⟨g, 0, none⟩) := slot_out hA hap (Nat.lt_of_lt_of_eq (Nat.le_of_ble_eq_true rfl : 0 < 48) hsz.symm) (by kernel_rfl) o0
      clear hA o0
      go_step
      exact hK _ _ S rfl
    · intro vs gs A' W LF hA S hR hd hu K hK
      replace hK := hK default
      have f5 : vs 5 = .pointer (some ⟨g, 0, none⟩) := hd 5 (by kernel_rfl)
      have e41 : A'.tmps[41]?.getD undef = vs 5 := slot_in hA hap (Nat.lt_of_lt_of_eq (Nat.le_of_ble_eq_true rfl : 41 < 48) hsz.symm) (by kernel_rfl)
      rw [f5] at e41
      clear hA o0
      go_step
      exact hK _ _ S rfl
    · intro vs gs A' W LF hA S hR hd hu K hK
      replace hK := hK default
      have f6 : vs 6 = .pointer (some ⟨g, 0, none⟩) := hd 6 (by kernel_rfl)
      have e42 : A'.tmps[42]?.getD undef = vs 6 := slot_in hA hap (Nat.lt_of_lt_of_eq (Nat.le_of_ble_eq_true rfl : 42 < 48) hsz.symm) (by kernel_rfl)
      rw [f6] at e42
      clear hA o0
      go_step
      exact hK _ _ S rfl
    · intro vs gs A' W LF hA S hR hd hu K hK
      replace hK := hK default
      have f7 : vs 7 = .pointer (some ⟨g, 8, none⟩) := hd 7 (by kernel_rfl)
      have e43 : A'.tmps[43]?.getD undef = vs 7 := slot_in hA hap (Nat.lt_of_lt_of_eq (Nat.le_of_ble_eq_true rfl : 43 < 48) hsz.symm) (by kernel_rfl)
      rw [f7] at e43
      clear hA o0
      refine op_runs (v := .agg (hashA blk)) (w' := W) (exec_load rfl (by simpa [Act.eval] using e43) (run_loadAt_agg W ⟨g, 8, none⟩ 76 (hashA blk).toList _ (sha_blockAt (show Blk W g 134 (shaC st blk n) from S.ok (blkR g 134 (shaC st blk n)) (hR 13 (List.mem_singleton.2 rfl) _ (List.mem_singleton.2 rfl))) hs hb) Tryd.underlying76 rfl (by rw [Array.length_toList, hashA_size, hb]; exact Tryd.info64u8s))) ?_
      exact hK _ _ S rfl
    · intro vs gs A' W LF hA S hR hd hu K hK
      replace hK := hK default
      have f4 : vs 4 = .agg (u32A st) := hd 4 (by kernel_rfl)
      have e40 : A'.tmps[40]?.getD undef = vs 4 := slot_in hA hap (Nat.lt_of_lt_of_eq (Nat.le_of_ble_eq_true rfl : 40 < 48) hsz.symm) (by kernel_rfl)
      rw [f4] at e40
      have f8 : vs 8 = .agg (hashA blk) := hd 8 (by kernel_rfl)
      have e44 : A'.tmps[44]?.getD undef = vs 8 := slot_in hA hap (Nat.lt_of_lt_of_eq (Nat.le_of_ble_eq_true rfl : 44 < 48) hsz.symm) (by kernel_rfl)
      rw [f8] at e44
      clear hA o0
      generalize hca : u32A st = ca at *
      generalize hcb : hashA blk = cb at *
      go_step
      rw [← hca, ← hcb]
      refine (sblock_any st hst hs blk hb _).mono ?_
      rintro e w' ⟨rfl, kq⟩
      exact hK _ _ (S.kp kq) rfl
    · intro vs gs A' W LF hA S hR hd hu K hK
      replace hK := hK default
      have f0 : vs 0 = .pointer (some ⟨g, 0, none⟩) := hd 0 (by kernel_rfl)
      have e36 : A'.tmps[36]?.getD undef = vs 0 := slot_in hA hap (Nat.lt_of_lt_of_eq (Nat.le_of_ble_eq_true rfl : 36 < 48) hsz.symm) (by kernel_rfl)
      rw [f0] at e36
      clear hA o0
      go_step
      exact hK _ _ S rfl
    · intro vs gs A' W LF hA S hR hd hu K hK
      replace hK := hK default
      have f10 : vs 10 = .pointer (some ⟨g, 0, none⟩) := hd 10 (by kernel_rfl)
      have e46 : A'.tmps[46]?.getD undef = vs 10 := slot_in hA hap (Nat.lt_of_lt_of_eq (Nat.le_of_ble_eq_true rfl : 46 < 48) hsz.symm) (by kernel_rfl)
      rw [f10] at e46
      clear hA o0
      go_step
      exact hK _ _ S rfl
    · intro vs gs A' W LF hA S hR hd hu K hK
      replace hK := hK default
      have f11 : vs 11 = .pointer (some ⟨g, 0, none⟩) := hd 11 (by kernel_rfl)
      have e47 : A'.tmps[47]?.getD undef = vs 11 := slot_in hA hap (Nat.lt_of_lt_of_eq (Nat.le_of_ble_eq_true rfl : 47 < 48) hsz.symm) (by kernel_rfl)
      rw [f11] at e47
      have f9 : vs 9 = .agg (u32A (blkF st blk)) := hd 9 (by kernel_rfl)
      have e45 : A'.tmps[45]?.getD undef = vs 9 := slot_in hA hap (Nat.lt_of_lt_of_eq (Nat.le_of_ble_eq_true rfl : 45 < 48) hsz.symm) (by kernel_rfl)
      rw [f9] at e45
      clear hA o0
      have S1 : Held w0 W (blkR g 134 (shaC st blk n) :: LF) := S
      refine op_store_part (.tmp 47) (.tmp 45) 111 rfl g 0 (by simpa [Act.eval] using e47) (u32A (blkF st blk)) (by simpa [Act.eval] using e45) 134 _ (S1.at_ (l1 := [])) (by rw [u32A_size, blkF_length, hs]; exact Tryd.info8w) (by rw [u32A_size, blkF_length, hs, shaC_size hs hb]; omega) (u32A_one _) (fun w' hbk k => hK undef _ ?_ trivial)
      rw [shaC_state hs _ ((blkF_length _ _).trans hs)] at hbk
      exact Held.setBlk (l1 := []) S1 hbk k
  · intro vs gs W S hp
    have S : Held w0 W (blkR g 134 (shaC (blkF st blk) blk n) :: L) := by simpa only [List.flatMap_cons, List.flatMap_nil, List.append_nil, List.nil_append, List.cons_append, List.append_assoc] using S
    rw [show putAll vs (opsOf 6 Tryd.f63) 0 a = putD [(36, vs 0), (37, vs 1), (38, vs 2), (39, vs 3), (40, vs 4), (41, vs 5), (42, vs 6), (43, vs 7), (44, vs 8), (45, vs 9), (46, vs 10), (47, vs 11)] a from by kernel_rfl]
    exact hend _ W (same_putD _ a)  S
-- END stk6
end Go.Proofs.YtapboamjpilckaaDoor
/- (*Sha).take, whole. -/
namespace Go.Proofs.YtapboamjpilckaaDoor
open Go.RowKit
def dsTk : List Nat := [1, 4, 5, 6, 7, 8, 9, 10, 11, 12, 13, 14, 15, 16, 17, 18, 19, 20, 21, 22, 23, 24, 25, 26, 27, 28, 29, 30, 31, 32, 33, 34, 35, 36, 37, 38, 39, 40, 41, 42, 43, 44, 45, 46, 47]
def lenV : Value → Nat
  | .slice _ n _ => n
  | _ => 0
theorem Und.len8 {m : List UInt8} {st : List Nat} {blk : List UInt8} (h : Und m st blk) : st.length = 8 := by rw [h.st]; exact shaN_length _ _
theorem Und.ws {m : List UInt8} {st : List Nat} {blk : List UInt8} (h : Und m st blk) : Ws st := by rw [h.st]; exact shaN_lt _ _
set_option maxRecDepth 100000 in
set_option maxHeartbeats 2000000 in
theorem take_any (w0 : World) (g : Nat) (m l : List UInt8) (st : List Nat) (blk : List UInt8) (hU : Und m st blk) (hml : m.length + l.length < 4611686018427387904) (x : Value) (L : List Res) (w : World) (HB : ∀ V cs, Held w0 V (blkR g 134 cs :: L) → Rd V 1 x l.length (bv l))
    (S : Held w0 w (blkR g 134 (shaC st blk m.length) :: L)) :
    Calls Tryd.prog 63 #[.pointer (some ⟨g, 0, none⟩), x] w fun e w' => e = .returned (.tuple #[]) ∧ ∃ st' blk', Und (m ++ l) st' blk' ∧ Held w0 w' (blkR g 134 (shaC st' blk' (m ++ l).length) :: L) := by
  obtain ⟨A0, c0, rfl⟩ := rd_form (HB w _ S)
  refine calls_fr Tryd.func63 rfl 48 rfl (fun a hsz hdf hAr => ?_)
  have hsz : a.tmps.size = 48 := hsz
  have o0 := hAr 0 _ rfl
  have o1 := hAr 1 _ rfl
  refine wp_block ?_
  refine wp_loop (fun a' w' => ∃ (pre suf : List UInt8) (st : List Nat) (blk : List UInt8) (A : Option Addr) (c : Nat), pre ++ suf = l ∧ Und (m ++ pre) st blk ∧ Same a a' dsTk ∧ Sl a' 1 (.slice A suf.length c) ∧ (∀ V cs, Held w0 V (blkR g 134 cs :: L) → Rd V 1 (.slice A suf.length c) suf.length (bv suf)) ∧ Held w0 w' (blkR g 134 (shaC st blk (m ++ pre).length) :: L))
    (fun a' _ => lenV (a'.eval (.tmp 1))) ⟨[], l, st, blk, A0, c0, rfl, by rw [List.append_nil]; exact hU, Same.refl _ _, o1, HB, by rw [List.append_nil]; exact S⟩ ?_
  clear hU S HB o1
  rintro a1 w1 ⟨pre, suf, st, blk, A, c, hps, hU, T, o1, HB, S⟩
  have hz1 := T.size.trans hsz
  have o0 := T.keep 0 _ (by decide) o0
  have h8 := hU.len8
  have h64 := hU.len
  have hlen : (m ++ pre).length + suf.length = m.length + l.length := by rw [← hps]; simp only [List.length_append]; omega
  have eCtr := o1.eval (by rw [hz1]; decide)
  refine wp_seq (wp_seq (stk_r0 A suf.length c hz1 o1 (fun a2 hs2 o8 => ?_)))
  have hz2 := hs2.size.trans hz1
  have o0 := hs2.keep 0 _ (by decide) o0
  have o1 := hs2.keep 1 _ (by decide) o1
  have T := T.trans hs2
  by_cases hlt : 0 < suf.length
  · refine wp_cond_true ((o8.eval (by rw [hz2]; decide)).trans (by rw [decide_eq_true hlt])) (wp_skip ?_)
    generalize hnn : (m ++ pre).length = n at *
    refine wp_block ?_
    refine wp_seq (stk_r1 w0 g n st blk h8 h64 L S hz2 o0 (fun a3 hs3 o4 => ?_))
    have hz3 := hs3.size.trans hz2
    have o0 := hs3.keep 0 _ (by decide) o0
    have o1 := hs3.keep 1 _ (by decide) o1
    have o8 := hs3.keep 8 _ (by decide) o8
    have T := T.trans hs3
    have hk : n % 64 < 64 := Nat.mod_lt _ (by decide)
    refine wp_seq (stk_r2 w0 g n st blk h8 h64 L S (n % 64) hk _ suf (HB w1 _ S) A c rfl hz3 o0 o1 o4 (fun a4 w2 hs4 o5 K2 S => ?_))
    have hz4 := hs4.size.trans hz3
    have o0 := hs4.keep 0 _ (by decide) o0
    have o1 := hs4.keep 1 _ (by decide) o1
    have o8 := hs4.keep 8 _ (by decide) o8
    have o4 := hs4.keep 4 _ (by decide) o4
    have T := T.trans hs4
    have hb2 : (lay blk (n % 64) (suf.take (64 - n % 64))).length = 64 := by rw [lay_length (by rw [List.length_take]; omega)]; exact h64
    obtain ⟨q, hq⟩ : ∃ q, min suf.length (64 - n % 64) = q := ⟨_, rfl⟩
    rw [hq] at o5
    have hxl : (suf.take (64 - n % 64)).length = q := by rw [List.length_take, Nat.min_comm]; exact hq
    obtain ⟨A1, c1, run1, rd1, -⟩ := cut_lo A suf.length c q (suf.length - q) (q : Int) rfl (by omega)
    refine wp_seq (stk_r3 A A1 suf.length (suf.length - q) c c1 q run1 hz4 o1 o5 (fun a5 hs5 o1 => ?_))
    have hz5 := hs5.size.trans hz4
    have o0 := hs5.keep 0 _ (by decide) o0
    have o8 := hs5.keep 8 _ (by decide) o8
    have o4 := hs5.keep 4 _ (by decide) o4
    have o5 := hs5.keep 5 _ (by decide) o5
    have T := T.trans hs5
    refine wp_seq (stk_r4 w0 g n st _ h8 hb2 L S q (by omega) hz5 o0 o5 (fun a6 w3 hs6 K3 S => ?_))
    have hz6 := hs6.size.trans hz5
    have o0 := hs6.keep 0 _ (by decide) o0
    have o1 := hs6.keep 1 _ (by decide) o1
    have o8 := hs6.keep 8 _ (by decide) o8
    have o4 := hs6.keep 4 _ (by decide) o4
    have o5 := hs6.keep 5 _ (by decide) o5
    have T := T.trans hs6
    refine wp_seq (stk_r5 (n % 64) q (by omega) hz6 o4 o5 (fun a7 hs7 o35 => ?_))
    have hz7 := hs7.size.trans hz6
    have o0 := hs7.keep 0 _ (by decide) o0
    have o1 := hs7.keep 1 _ (by decide) o1
    have o8 := hs7.keep 8 _ (by decide) o8
    have o4 := hs7.keep 4 _ (by decide) o4
    have o5 := hs7.keep 5 _ (by decide) o5
    have T := T.trans hs7
    have hsuf : suf.take (64 - n % 64) ++ suf.drop q = suf := by
      by_cases hc : suf.length ≤ 64 - n % 64
      · rw [List.take_of_length_le hc, List.drop_of_length_le (by omega), List.append_nil]
      · rw [show q = 64 - n % 64 from by omega, List.take_append_drop]
    have hdl : (suf.drop q).length = suf.length - q := List.length_drop
    have HB1 : ∀ V cs, Held w0 V (blkR g 134 cs :: L) → Rd V 1 (.slice A1 (suf.drop q).length c1) (suf.drop q).length (bv (suf.drop q)) := fun V cs kv => by
      have := rd1 V suf (HB V cs kv)
      rw [List.take_of_length_le (by omega)] at this
      rw [hdl]; exact this
    have hpl : (m ++ (pre ++ suf.take (64 - n % 64))).length = n + q := by rw [← List.append_assoc, List.length_append, hnn, hxl]
    have hmu : ∀ (a' : Act), a'.tmps.size = 48 → Sl a' 1 (.slice A1 (suf.length - q) c1) → lenV (a'.eval (.tmp 1)) < lenV (a1.eval (.tmp 1)) := fun a' hz' h => by
      rw [eCtr, h.eval (by rw [hz']; decide)]
      show suf.length - q < suf.length
      omega
    rw [← hdl] at o1
    have hU0 := hU
    by_cases hfull : n % 64 + q = 64
    · refine wp_cond_true ((o35.eval (by rw [hz7]; decide)).trans (by rw [show ((((n % 64 : Nat) : Int) + (q : Int)) == 64) = true from by rw [beq_iff_eq]; omega])) ?_
      refine stk_r6 w0 g (n + q) st _ h8 hU.ws hb2 L hz7 o0 S (fun a8 w4 hs8 S => ?_)
      have hz8 := hs8.size.trans hz7
      have o0 := hs8.keep 0 _ (by decide) o0
      have o1 := hs8.keep 1 _ (by decide) o1
      have o8 := hs8.keep 8 _ (by decide) o8
      have o4 := hs8.keep 4 _ (by decide) o4
      have o5 := hs8.keep 5 _ (by decide) o5
      have o35 := hs8.keep 35 _ (by decide) o35
      have T := T.trans hs8
      have hU := hU.full (x := suf.take (64 - n % 64)) (by rw [hnn, hxl]; exact hfull)
      rw [hnn, List.append_assoc] at hU
      exact ⟨⟨pre ++ suf.take (64 - n % 64), suf.drop q, _, _, A1, c1, by rw [List.append_assoc, hsuf, hps], hU, T.more (by decide +kernel), o1, HB1, by rw [hpl]; exact S⟩, hmu _ hz8 (by rw [← hdl]; exact o1)⟩
    · refine wp_cond_false ((o35.eval (by rw [hz7]; decide)).trans (by rw [show ((((n % 64 : Nat) : Int) + (q : Int)) == 64) = false from by rw [beq_eq_false_iff_ne]; omega])) (wp_skip ?_)
      have hU := hU.part (x := suf.take (64 - n % 64)) (by rw [hnn, hxl]; omega)
      rw [hnn, List.append_assoc] at hU
      exact ⟨⟨pre ++ suf.take (64 - n % 64), suf.drop q, _, _, A1, c1, by rw [List.append_assoc, hsuf, hps], hU, T.more (by decide +kernel), o1, HB1, by rw [hpl]; exact S⟩, hmu _ hz7 (by rw [← hdl]; exact o1)⟩
  · obtain rfl : suf = [] := List.eq_nil_of_length_eq_zero (by omega)
    refine wp_cond_false ((o8.eval (by rw [hz2]; decide)).trans (by rw [decide_eq_false hlt])) (wp_exit ?_)
    rw [List.append_nil] at hps
    subst hps
    exact ⟨T.defers.trans hdf, .tuple #[], results_none rfl _ _ _, rfl, st, blk, hU, S⟩
end Go.Proofs.YtapboamjpilckaaDoor
/- sha: New, none, Write, put. -/
namespace Go.Proofs.YtapboamjpilckaaDoor
open Go.RowKit
set_option maxRecDepth 100000 in
theorem none_any (g : Nat) (cs : Array Value) (hc : cs[73]? = some (.bool true)) (w : World) (hb : Blk w g 134 cs) : Calls Tryd.prog 83 #[.pointer (some ⟨g, 0, none⟩)] w fun e w' => e = .returned (.bool false) ∧ w = w' := by
  have c1 : w.cell? ⟨g, 73, none⟩ = some (.bool true) := by rw [hb.cell]; exact hc
  clear hb hc
  go_enter Tryd.func83, Tryd.ntmps83
  go_wp2
  go_ret
  exact ⟨rfl, rfl⟩
theorem Tryd.built_sha : Tryd.prog.built 134 [(0, .agg (u32A hF)), (3, .bool true)] = some (shaC hF (List.replicate 64 0) 0) := by kernel_rfl
set_option maxRecDepth 100000 in
theorem snew_any (w0 w : World) (L : List Res) (S : Held w0 w L) : Calls Tryd.prog 62 #[] w fun e w' => ∃ g, e = .returned (.pointer (some ⟨g, 0, none⟩)) ∧ Held w0 w' (blkR g 134 (shaC hF (List.replicate 64 0) 0) :: L) := by
  have S := Lib.hid S
  have HB := Lib.hid Tryd.built_sha
  obtain ⟨cs, hcs⟩ : ∃ cs, Hid (shaC hF (List.replicate 64 0) 0 = cs) := ⟨_, Lib.hid rfl⟩
  rw [hcs.out] at HB ⊢
  go_enter Tryd.func62, Tryd.ntmps62
  go_wp2_with fail
  refine (sfirst_any _).mono ?_
  rintro e w' ⟨rfl, k1⟩
  have S1 := Lib.hid ((S.out.kp k1).newBlk 134 cs)
  clear k1
  obtain ⟨ca, hca⟩ : ∃ ca, Hid (u32A hF = ca) := ⟨_, Lib.hid rfl⟩
  rw [hca.out] at HB ⊢
  go_wp2_with (refine wpList_buildC rfl 134 _ rfl [(0, .agg ca), (3, .bool true)] (by simp [Act.eval]) _ HB.out ?_)
  go_ret
  exact ⟨_, rfl, S1.out⟩
theorem lay_snoc {cs x : List UInt8} {o : Nat} (c : UInt8) (h : o + x.length < cs.length) : (lay cs o x).set (o + x.length) c = lay cs o (x ++ [c]) := by
  unfold lay
  have h1 : (cs.take o ++ x).length = o + x.length := by rw [List.length_append, List.length_take]; omega
  rw [List.set_append_right _ _ (by omega), h1, Nat.sub_self, List.drop_eq_getElem_cons h, List.set_cons_zero, List.length_append, List.length_singleton]
  simp [Nat.add_assoc]
theorem be4_take (W k : Nat) (h : k < 4) : (be 4 W).take (k + 1) = (be 4 W).take k ++ [UInt8.ofNat (W / 2 ^ (24 - 8 * k))] := by
  rcases (by omega : k = 0 ∨ k = 1 ∨ k = 2 ∨ k = 3) with rfl | rfl | rfl | rfl <;> rfl
set_option maxRecDepth 100000 in
theorem put_any (w0 : World) (g : Nat) (t : TypeId) (cs : List UInt8) (o n c W : Nat) (hn : 4 ≤ n) (ho : o + 4 ≤ cs.length) (L : List Res) (w : World) (S : Held w0 w (blkR g t (hashA cs) :: L)) :
    Calls Tryd.prog 84 #[.slice (some ⟨g, o, none⟩) n c, .int .u32 (W : Int)] w fun e w' => e = .returned (.tuple #[]) ∧ Held w0 w' (blkR g t (hashA (lay cs o (be 4 W))) :: L) := by
  have S := Lib.hid S
  go_enter Tryd.func84, Tryd.ntmps84
  go_wp2
  go_loopw [4, 5] (fun _ i wr => ∃ k : Nat, k ≤ 4 ∧ i = .int .i64 (k : Int) ∧ Held w0 wr (blkR g t (hashA (lay cs o ((be 4 W).take k))) :: L)) (fun _ i _ => 4 - (intOf i).toNat)
  case atStart =>
    refine ⟨0, by omega, rfl, ?_⟩
    have e : lay cs o ((be 4 W).take 0) = cs := by unfold lay; simp
    rw [e]
    exact S.out
  case round =>
    clear S
    obtain ⟨k, hk, rfl, S⟩ := hrel
    have S := Lib.hid S
    have hxl : ((be 4 W).take k).length = k := by rw [List.length_take, be_length]; omega
    by_cases hlt : k < 4
    · have hw : (lay cs o ((be 4 W).take k)).length = cs.length := lay_length (by omega)
      have hb : (lay cs o ((be 4 W).take k))[o + k]? = some ((lay cs o ((be 4 W).take k)).getD (o + k) 0) := by
        rw [List.getD_eq_getElem?_getD, List.getElem?_eq_getElem (by omega)]; rfl
      have q1 : wr.cell? ⟨g, o + k, none⟩ = some (.int .u8 (((lay cs o ((be 4 W).take k)).getD (o + k) 0).toNat : Int)) := by
        rw [(S.out.at_ (l1 := [])).cell]
        simp only [hashA, List.getElem?_toArray]
        rw [bv_get, hb]
        rfl
      have q2 := (S.out.at_ (l1 := [])).frozen (o + k)
      have S2 : Hid (Held w0 (wr.setCell ⟨g, o + k, none⟩ (.int .u8 ((UInt8.ofNat (W / 2 ^ (24 - 8 * k))).toNat : Int))) _) := Lib.hid (S.out.set (l1 := []) (o + k) (.int .u8 ((UInt8.ofNat (W / 2 ^ (24 - 8 * k))).toNat : Int)))
      rw [hashA_set, show o + k = o + ((be 4 W).take k).length from by rw [hxl], lay_snoc _ (by omega), ← be4_take W k hlt, hxl] at S2
      generalize (lay cs o ((be 4 W).take k)).getD (o + k) 0 = old at *
      clear hw hb hxl S
      have hki : (k : Int) < n := by omega
      generalize hv : (UInt8.ofNat (W / 2 ^ (24 - 8 * k))).toNat = v at *
      have hv2 : Hid (v = W / 2 ^ (24 - 8 * k) % 256) := Lib.hid (by rw [← hv]; simp)
      clear hv
      have add0 : ((⟨g, o, none⟩ : Addr).add k) = ⟨g, o + k, none⟩ := by unfold Addr.add; split <;> simp_all
      have h0 : 0 ≤ (24 : Int) - 8 * (k : Int) := by omega
      rcases (by omega : k = 0 ∨ k = 1 ∨ k = 2 ∨ k = 3) with rfl | rfl | rfl | rfl
      all_goals
        simp only [Nat.add_zero, Nat.mul_zero, Nat.mul_one, Nat.reduceMul, Nat.reduceSub, Nat.reducePow, Nat.sub_self, Nat.pow_zero, Nat.div_one, Nat.sub_zero] at q1 q2 hv2 S2
        go_wp2
        first
          | rw [show (W : Int) / 16777216 % 256 = (v : Int) from by have := hv2.out; omega]
          | rw [show (W : Int) / 65536 % 256 = (v : Int) from by have := hv2.out; omega]
          | rw [show (W : Int) / 256 % 256 = (v : Int) from by have := hv2.out; omega]
          | rw [show (W : Int) % 256 = (v : Int) from by have := hv2.out; omega]
        go_roundw
        case rel => exact ⟨_, (by omega : _ + 1 ≤ 4), by go_num, S2.out⟩
        case measure => simp [intOf]
    · obtain rfl : k = 4 := by omega
      go_wp2
      go_end0
      refine ⟨rfl, ?_⟩
      have := S.out
      rwa [List.take_of_length_le (by simp)] at this
end Go.Proofs.YtapboamjpilckaaDoor
