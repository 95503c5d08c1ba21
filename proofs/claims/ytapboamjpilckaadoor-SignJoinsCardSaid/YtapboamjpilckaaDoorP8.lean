/- Several texts in one: SigAS, SigAT, SigAU, SigAV, SigAP. -/
import Derived.Test.YtapboamjpilckaaDoorP7
/- find, lay, Same of the reference; lent, left of the law: their regions. -/
namespace Go.Proofs.YtapboamjpilckaaDoor
open Go.RowKit
def loA (A : Option Addr) (k c : Nat) : Option Addr := if c = k then A else A.map (·.add (k * 33))
theorem cut_loT (A : Option Addr) (n c k : Nat) (hk : k ≤ n) (w : World) : (Instr.sliceAt 34 (.slice A n c) (some (.int .i64 (k : Int))) none none).run Tryd.prog w = .ok (.slice (loA A k c) (n - k) (c - k)) w := cut_loS A n c k hk w
theorem rd_loT {w : World} {A : Option Addr} {n c k : Nat} {l : List SigD} (hok : SgOk l) (h : Rd w 33 (.slice A n c) n (sgsC l)) (hn : n = l.length) (hk : k ≤ n) : Rd w 33 (.slice (loA A k c) (n - k) (c - k)) (n - k) (sgsC (l.drop k)) := rd_loS hok h hn hk
def roomS : SigD := ([114, 111, 111, 109], List.replicate 32 0)
theorem Tryd.built_room : Tryd.prog.built 81 [(0, .string ⟨#[114, 111, 111, 109]⟩)] = some (sgA roomS) := by kernel_rfl
theorem op_sigs1 {o : Oper} {a : Act} {w : World} {K : Act → World → Prop} {Q : Exit → Act → World → Prop} (x : Operand) (ho : o.op = .buildSlice 34 1 #[(0, x)]) (cs : Array Value) (hcs : cs.size = 33) (hx : a.eval x = .agg cs)
    (h : K (a.put o.dst (.slice (some ⟨w.heap.size, 0, none⟩) 1 1)) (w.alloc (.cells cs 81))) : o.wp Tryd.prog a w K Q := by
  obtain ⟨i0, hi, hz, hsize, -⟩ := info_parts Tryd.infoSigZ
  refine wp_buildSlice 34 81 1 #[(0, x)] ho cs i0 _ Tryd.underlying34 hi hz (by rw [hsize]; decide) (by rw [hsize]; decide) ?_ h
  rw [hsize, show ((#[(0, x)] : Array (Nat × Operand)).map fun (i, x) => (i, a.eval x)).toList = [(0, .agg cs)] from by simp [hx]]
  exact fill_sig hcs
theorem wpList_sigs1 {ops : Array Oper} {rest : List Oper} {o : Oper} {a : Act} {w : World} {Q : Exit → Act → World → Prop} (hg : o.guard = none) (x : Operand) (ho : o.op = .buildSlice 34 1 #[(0, x)]) (cs : Array Value) (hcs : cs.size = 33) (hx : a.eval x = .agg cs)
    (h : wpList Tryd.prog ops Q rest (a.put o.dst (.slice (some ⟨w.heap.size, 0, none⟩) 1 1)) (w.alloc (.cells cs 81))) : wpList Tryd.prog ops Q (o :: rest) a w :=
  wpList_plain hg fun _ hK => op_sigs1 x ho cs hcs hx (hK _ _ h)
-- REG sfd0
set_option maxRecDepth 100000 in
set_option maxHeartbeats 2000000 in
theorem sfd_r0 {Q : Exit → Act → World → Prop} {a : Act} {w : World}  (hsz : a.tmps.size = 20) 
    (hend : ∀ (a' : Act), Same a a' [4] → Sl a' 4 (.int .i64 (0 : Int)) → Q .normal a' (w)) : (Code.region 0 (opsOf 0 Tryd.f51).toArray false).wp Tryd.prog Q a w := by
  refine wp_region_lit (l := (opsOf 0 Tryd.f51)) ?_
  conv => arg 4; whnf
  go_wp2_with fail
  try simp only [Act.put]
  exact hend _ (by repeat (first | (with_reducible refine same_set (by decide) ?_) | (with_reducible exact same_nil))) (by unfold Sl; first | (simp [hsz]; done) | (simp [hsz]; omega))
-- END sfd0
-- REG sfd1
set_option maxRecDepth 100000 in
set_option maxHeartbeats 2000000 in
theorem sfd_r1 {Q : Exit → Act → World → Prop} {a : Act} {w : World}  (hsz : a.tmps.size = 20) 
    (hend : ∀ (a' : Act), Same a a' [5] → Sl a' 5 (.int .i64 ((0 : Nat) : Int)) → Q .normal a' (w)) : (Code.region 1 (opsOf 1 Tryd.f51).toArray false).wp Tryd.prog Q a w := by
  refine wp_region_lit (l := (opsOf 1 Tryd.f51)) ?_
  conv => arg 4; whnf
  go_wp2_with fail
  try simp only [Act.put]
  exact hend _ (by repeat (first | (with_reducible refine same_set (by decide) ?_) | (with_reducible exact same_nil))) (by unfold Sl; first | (simp [hsz]; done) | (simp [hsz]; omega))
-- END sfd1
-- REG sfd2
set_option maxRecDepth 100000 in
set_option maxHeartbeats 2000000 in
theorem sfd_r2 {Q : Exit → Act → World → Prop} {a : Act} {w : World} (A : Option Addr) (k n c : Nat) (hsz : a.tmps.size = 20) (o0 : Sl a 0 (.slice A n c)) (o5 : Sl a 5 (.int .i64 ((k : Nat) : Int)))
    (hend : ∀ (a' : Act), Same a a' [6, 7, 8, 9] → Sl a' 9 (.bool (decide (k < n))) → Q .normal a' (w)) : (Code.region 2 (opsOf 2 Tryd.f51).toArray false).wp Tryd.prog Q a w := by
  refine wp_region_lit (l := (opsOf 2 Tryd.f51)) ?_
  conv => arg 4; whnf
  unfold Sl at o0 o5
  go_wp2_with fail
  try simp only [Act.put]
  exact hend _ (by repeat (first | (with_reducible refine same_set (by decide) ?_) | (with_reducible exact same_nil))) (by unfold Sl; first | (simp [hsz]; done) | (simp [hsz]; omega))
-- END sfd2
-- REG sfd4
set_option maxRecDepth 100000 in
set_option maxHeartbeats 2000000 in
theorem sfd_r4 {Q : Exit → Act → World → Prop} {a : Act} {w : World} (ad : Addr) (k n c : Nat) (hk : k < n) (ns nm : ByteArray) (hc : w.cell? (ad.add (k * 33)) = some (.string ns)) (b : Bool) (hb : (ns.toList == nm.toList) = b) (hsz : a.tmps.size = 20) (o0 : Sl a 0 (.slice (some ad) n c)) (o1 : Sl a 1 (.string nm)) (o5 : Sl a 5 (.int .i64 ((k : Nat) : Int)))
    (hend : ∀ (a' : Act), Same a a' [12, 13, 14, 15, 16, 17, 18] → Sl a' 18 (.bool b) → Q .normal a' (w)) : (Code.region 4 (opsOf 4 Tryd.f51).toArray false).wp Tryd.prog Q a w := by
  refine wp_region_lit (l := (opsOf 4 Tryd.f51)) ?_
  conv => arg 4; whnf
  unfold Sl at o0 o1 o5
  have h0 : 0 ≤ (k : Int) := by omega
  have h1 : (k : Int) < (n : Int) := by omega
  go_wp2_with fail
  try simp only [Act.put]
  exact hend _ (by repeat (first | (with_reducible refine same_set (by decide) ?_) | (with_reducible exact same_nil))) (by unfold Sl; first | (simp [hsz]; done) | (simp [hsz]; omega))
-- END sfd4
-- REG sfd5
set_option maxRecDepth 100000 in
set_option maxHeartbeats 2000000 in
theorem sfd_r5 {Q : Exit → Act → World → Prop} {a : Act} {w : World} (k : Nat) (hsz : a.tmps.size = 20) (o5 : Sl a 5 (.int .i64 ((k : Nat) : Int)))
    (hend : ∀ (a' : Act), Same a a' [19, 4] → Sl a' 4 (.int .i64 ((k : Nat) : Int)) → Q .normal a' (w)) : (Code.region 5 (opsOf 5 Tryd.f51).toArray false).wp Tryd.prog Q a w := by
  refine wp_region_lit (l := (opsOf 5 Tryd.f51)) ?_
  conv => arg 4; whnf
  unfold Sl at o5
  go_wp2_with fail
  try simp only [Act.put]
  exact hend _ (by repeat (first | (with_reducible refine same_set (by decide) ?_) | (with_reducible exact same_nil))) (by unfold Sl; first | (simp [hsz]; done) | (simp [hsz]; omega))
-- END sfd5
-- REG sfd3
set_option maxRecDepth 100000 in
set_option maxHeartbeats 2000000 in
theorem sfd_r3 {Q : Exit → Act → World → Prop} {a : Act} {w : World} (k : Nat) (hk : k < 9223372036854775807) (hsz : a.tmps.size = 20) (o5 : Sl a 5 (.int .i64 ((k : Nat) : Int)))
    (hend : ∀ (a' : Act), Same a a' [10, 11, 5] → Sl a' 5 (.int .i64 ((k + 1 : Nat) : Int)) → Q .normal a' (w)) : (Code.region 3 (opsOf 3 Tryd.f51).toArray false).wp Tryd.prog Q a w := by
  refine wp_region_lit (l := (opsOf 3 Tryd.f51)) ?_
  conv => arg 4; whnf
  unfold Sl at o5
  have hw : wrap64 ((k : Int) + 1) = (k : Int) + 1 := by unfold wrap64; omega
  go_wp2_with fail
  try simp only [Act.put]
  exact hend _ (by repeat (first | (with_reducible refine same_set (by decide) ?_) | (with_reducible exact same_nil))) (by unfold Sl; first | (simp [hsz]; done) | (simp [hsz]; omega))
-- END sfd3
-- REG sfd6
set_option maxRecDepth 100000 in
set_option maxHeartbeats 2000000 in
theorem sfd_r6 {Q : Exit → Act → World → Prop} {a : Act} {w : World}  (hsz : a.tmps.size = 20) 
    (hend : ∀ (a' : Act), Same a a' [4] → Sl a' 4 (.int .i64 (-1 : Int)) → Q .normal a' (w)) : (Code.region 6 (opsOf 6 Tryd.f51).toArray false).wp Tryd.prog Q a w := by
  refine wp_region_lit (l := (opsOf 6 Tryd.f51)) ?_
  conv => arg 4; whnf
  go_wp2_with fail
  try simp only [Act.put]
  exact hend _ (by repeat (first | (with_reducible refine same_set (by decide) ?_) | (with_reducible exact same_nil))) (by unfold Sl; first | (simp [hsz]; done) | (simp [hsz]; omega))
-- END sfd6
-- REG sly0
set_option maxRecDepth 100000 in
set_option maxHeartbeats 2000000 in
theorem sly_r0 {Q : Exit → Act → World → Prop} {a : Act} {w : World} (w0 : World) (s : SigD) (L : List Res) (S : Held w0 w L) (hsz : a.tmps.size = 36) (o1 : Sl a 1 (.agg (sgA s)))
    (hend : ∀ (a' : Act) (W : World), Same a a' [3, 4] → Sl a' 4 (.slice none 0 0) → (∃ g, Sl a' 3 (.pointer (some ⟨g, 0, none⟩)) ∧ Held w0 W (blkR g 81 (sgA s) :: L)) → Q .normal a' W) : (Code.region 0 (opsOf 0 Tryd.f52).toArray false).wp Tryd.prog Q a w := by
  refine wp_region_lit (l := (opsOf 0 Tryd.f52)) ?_
  conv => arg 4; whnf
  unfold Sl at o1
  have S0 := Lib.hid (S.newBlk 81 (sgA s))
  generalize sgA s = cs at *
  go_wp2_with fail
  try simp only [Act.put]
  exact hend _ _ (by repeat (first | (with_reducible refine same_set (by decide) ?_) | (with_reducible exact same_nil))) (by unfold Sl; first | (simp [hsz]; done) | (simp [hsz]; omega)) (⟨_, (by unfold Sl; simp [hsz]), S0.out⟩)
-- END sly0
-- REG sly1
set_option maxRecDepth 100000 in
set_option maxHeartbeats 2000000 in
theorem sly_r1 {Q : Exit → Act → World → Prop} {a : Act} {w : World}  (hsz : a.tmps.size = 36) 
    (hend : ∀ (a' : Act), Same a a' [5] → Sl a' 5 (.int .i64 ((0 : Nat) : Int)) → Q .normal a' (w)) : (Code.region 1 (opsOf 1 Tryd.f52).toArray false).wp Tryd.prog Q a w := by
  refine wp_region_lit (l := (opsOf 1 Tryd.f52)) ?_
  conv => arg 4; whnf
  go_wp2_with fail
  try simp only [Act.put]
  exact hend _ (by repeat (first | (with_reducible refine same_set (by decide) ?_) | (with_reducible exact same_nil))) (by unfold Sl; first | (simp [hsz]; done) | (simp [hsz]; omega))
-- END sly1
-- REG sly2N
set_option maxRecDepth 100000 in
set_option maxHeartbeats 2000000 in
theorem sly_r2N {Q : Exit → Act → World → Prop} {a : Act} {w : World} (A : Option Addr) (k n c : Nat) (hk : ¬ k < n) (hsz : a.tmps.size = 36) (o0 : Sl a 0 (.slice A n c)) (o5 : Sl a 5 (.int .i64 ((k : Nat) : Int)))
    (hend : ∀ (a' : Act) (W : World), Same a a' [7, 8, 9, 10, 11, 12, 13, 14, 15, 16, 17, 18, 19, 20] → Kp [] w.drew W → Sl a' 20 (.bool false) → Q .normal a' W) : (Code.region 2 (opsOf 2 Tryd.f52).toArray true).wp Tryd.prog Q a w := by
  have hap : apartB (opsOf 2 Tryd.f52) = true := by kernel_rfl
  refine wp_region_invG (l := (opsOf 2 Tryd.f52)) (fun i v W => match i with | 0 => v = .int .i64 ((k : Nat) : Int) | 1 => v = .slice A n c | 2 => v = .int .i64 ((n : Nat) : Int) | 3 => v = .bool false | 4 => v = .bool false | 13 => v = .bool false | _ => True) (by kernel_rfl) hap (by kernel_rfl) ?_ ?_ ?_
  · intro i v W W' h _
    iterate 14 (rcases i with _ | i; · exact h)
    exact h
  · refine ⟨?_, ?_, ?_, ?_, ?_, ?_, ?_, ?_, ?_, ?_, ?_, ?_, ?_, ?_, trivial⟩
    · intro vs A' W hA hW hd K hK
      refine wpOp_free _ rfl rfl ?_
      conv => arg 2; whnf
      have e5 : A'.tmps[5]?.getD undef = .int .i64 ((k : Nat) : Int) := slot_out hA hap (Nat.lt_of_lt_of_eq (Nat.le_of_ble_eq_true rfl : 5 < 36) hsz.symm) (by kernel_rfl) o5
      clear hA hd o0 o5
      go_step
      exact hK _ _ (Kp.refl _ _) rfl
    · intro vs A' W hA hW hd K hK
      refine wpOp_free _ rfl rfl ?_
      conv => arg 2; whnf
      have e0 : A'.tmps[0]?.getD undef = .slice A n c := slot_out hA hap (Nat.lt_of_lt_of_eq (Nat.le_of_ble_eq_true rfl : 0 < 36) hsz.symm) (by kernel_rfl) o0
      clear hA hd o0 o5
      go_step
      exact hK _ _ (Kp.refl _ _) rfl
    · intro vs A' W hA hW hd K hK
      refine wpOp_free _ rfl rfl ?_
      conv => arg 2; whnf
      have f1 : vs 1 = .slice A n c := hd 1 (by kernel_rfl)
      have e8 : A'.tmps[8]?.getD undef = vs 1 := slot_in hA hap (Nat.lt_of_lt_of_eq (Nat.le_of_ble_eq_true rfl : 8 < 36) hsz.symm) (by kernel_rfl)
      rw [f1] at e8
      clear hA hd o0 o5
      go_step
      exact hK _ _ (Kp.refl _ _) rfl
    · intro vs A' W hA hW hd K hK
      refine wpOp_free _ rfl rfl ?_
      conv => arg 2; whnf
      have f0 : vs 0 = .int .i64 ((k : Nat) : Int) := hd 0 (by kernel_rfl)
      have e7 : A'.tmps[7]?.getD undef = vs 0 := slot_in hA hap (Nat.lt_of_lt_of_eq (Nat.le_of_ble_eq_true rfl : 7 < 36) hsz.symm) (by kernel_rfl)
      rw [f0] at e7
      have f2 : vs 2 = .int .i64 ((n : Nat) : Int) := hd 2 (by kernel_rfl)
      have e9 : A'.tmps[9]?.getD undef = vs 2 := slot_in hA hap (Nat.lt_of_lt_of_eq (Nat.le_of_ble_eq_true rfl : 9 < 36) hsz.symm) (by kernel_rfl)
      rw [f2] at e9
      clear hA hd o0 o5
      have hk2 : ¬ (k : Int) < (n : Int) := by omega
      go_step
      exact hK _ _ (Kp.refl _ _) (by first | rfl | (congr 1; exact decide_eq_false (by omega)))
    · intro vs A' W hA hW hd K hK
      refine wpOp_free _ rfl rfl ?_
      conv => arg 2; whnf
      have f3 : vs 3 = .bool false := hd 3 (by kernel_rfl)
      have e10 : A'.tmps[10]?.getD undef = vs 3 := slot_in hA hap (Nat.lt_of_lt_of_eq (Nat.le_of_ble_eq_true rfl : 10 < 36) hsz.symm) (by kernel_rfl)
      rw [f3] at e10
      clear hA hd o0 o5
      go_step
      exact hK _ _ (Kp.refl _ _) rfl
    · intro vs A' W hA hW hd K hK
      have f4 : vs 4 = .bool false := hd 4 (by kernel_rfl)
      have e11 : A'.tmps[11]?.getD undef = vs 4 := slot_in hA hap (Nat.lt_of_lt_of_eq (Nat.le_of_ble_eq_true rfl : 11 < 36) hsz.symm) (by kernel_rfl)
      rw [f4] at e11
      refine wpOp_skip _ rfl 4 11 true rfl rfl e11 ?_
      exact hK _ _ (Kp.refl _ _) trivial
    · intro vs A' W hA hW hd K hK
      have f4 : vs 4 = .bool false := hd 4 (by kernel_rfl)
      have e11 : A'.tmps[11]?.getD undef = vs 4 := slot_in hA hap (Nat.lt_of_lt_of_eq (Nat.le_of_ble_eq_true rfl : 11 < 36) hsz.symm) (by kernel_rfl)
      rw [f4] at e11
      refine wpOp_skip _ rfl 4 11 true rfl rfl e11 ?_
      exact hK _ _ (Kp.refl _ _) trivial
    · intro vs A' W hA hW hd K hK
      have f4 : vs 4 = .bool false := hd 4 (by kernel_rfl)
      have e11 : A'.tmps[11]?.getD undef = vs 4 := slot_in hA hap (Nat.lt_of_lt_of_eq (Nat.le_of_ble_eq_true rfl : 11 < 36) hsz.symm) (by kernel_rfl)
      rw [f4] at e11
      refine wpOp_skip _ rfl 4 11 true rfl rfl e11 ?_
      exact hK _ _ (Kp.refl _ _) trivial
    · intro vs A' W hA hW hd K hK
      have f4 : vs 4 = .bool false := hd 4 (by kernel_rfl)
      have e11 : A'.tmps[11]?.getD undef = vs 4 := slot_in hA hap (Nat.lt_of_lt_of_eq (Nat.le_of_ble_eq_true rfl : 11 < 36) hsz.symm) (by kernel_rfl)
      rw [f4] at e11
      refine wpOp_skip _ rfl 4 11 true rfl rfl e11 ?_
      exact hK _ _ (Kp.refl _ _) trivial
    · intro vs A' W hA hW hd K hK
      have f4 : vs 4 = .bool false := hd 4 (by kernel_rfl)
      have e11 : A'.tmps[11]?.getD undef = vs 4 := slot_in hA hap (Nat.lt_of_lt_of_eq (Nat.le_of_ble_eq_true rfl : 11 < 36) hsz.symm) (by kernel_rfl)
      rw [f4] at e11
      refine wpOp_skip _ rfl 4 11 true rfl rfl e11 ?_
      exact hK _ _ (Kp.refl _ _) trivial
    · intro vs A' W hA hW hd K hK
      have f4 : vs 4 = .bool false := hd 4 (by kernel_rfl)
      have e11 : A'.tmps[11]?.getD undef = vs 4 := slot_in hA hap (Nat.lt_of_lt_of_eq (Nat.le_of_ble_eq_true rfl : 11 < 36) hsz.symm) (by kernel_rfl)
      rw [f4] at e11
      refine wpOp_skip _ rfl 4 11 true rfl rfl e11 ?_
      exact hK _ _ (Kp.refl _ _) trivial
    · intro vs A' W hA hW hd K hK
      have f4 : vs 4 = .bool false := hd 4 (by kernel_rfl)
      have e11 : A'.tmps[11]?.getD undef = vs 4 := slot_in hA hap (Nat.lt_of_lt_of_eq (Nat.le_of_ble_eq_true rfl : 11 < 36) hsz.symm) (by kernel_rfl)
      rw [f4] at e11
      refine wpOp_skip _ rfl 4 11 true rfl rfl e11 ?_
      exact hK _ _ (Kp.refl _ _) trivial
    · intro vs A' W hA hW hd K hK
      have f4 : vs 4 = .bool false := hd 4 (by kernel_rfl)
      have e11 : A'.tmps[11]?.getD undef = vs 4 := slot_in hA hap (Nat.lt_of_lt_of_eq (Nat.le_of_ble_eq_true rfl : 11 < 36) hsz.symm) (by kernel_rfl)
      rw [f4] at e11
      refine wpOp_skip _ rfl 4 11 true rfl rfl e11 ?_
      exact hK _ _ (Kp.refl _ _) trivial
    · intro vs A' W hA hW hd K hK
      refine wpOp_free _ rfl rfl ?_
      conv => arg 2; whnf
      have f4 : vs 4 = .bool false := hd 4 (by kernel_rfl)
      have e11 : A'.tmps[11]?.getD undef = vs 4 := slot_in hA hap (Nat.lt_of_lt_of_eq (Nat.le_of_ble_eq_true rfl : 11 < 36) hsz.symm) (by kernel_rfl)
      rw [f4] at e11
      have e19 : A'.tmps[19]?.getD undef = vs 12 := slot_in hA hap (Nat.lt_of_lt_of_eq (Nat.le_of_ble_eq_true rfl : 19 < 36) hsz.symm) (by kernel_rfl)
      clear hA hd o0 o5
      go_step
      exact hK _ _ (Kp.refl _ _) rfl
  · intro vs W hW hp
    rw [show putAll vs (opsOf 2 Tryd.f52) 0 a = putD [(7, vs 0), (8, vs 1), (9, vs 2), (10, vs 3), (11, vs 4), (12, vs 5), (13, vs 6), (14, vs 7), (15, vs 8), (16, vs 9), (17, vs 10), (18, vs 11), (19, vs 12), (20, vs 13)] a from by kernel_rfl]
    exact hend _ W (same_putD _ a) hW (sl_putD _ a 20 _ (by rw [show vs 13 = _ from hp 13 (Nat.le_of_ble_eq_true (by kernel_rfl))]; kernel_rfl))
-- END sly2N
-- REG sly2Y
set_option maxRecDepth 100000 in
set_option maxHeartbeats 2000000 in
theorem sly_r2Y {Q : Exit → Act → World → Prop} {a : Act} {w : World} (ad : Addr) (k n c : Nat) (hk : k < n) (nx ns : ByteArray) (hc : ∀ V, Kp [] w.drew V → V.cell? (ad.add (k * 33)) = some (.string nx)) (g : Nat) (s : SigD) (hns : strV s.1 = .string ns) (hb : Blk w.drew g 81 (sgA s)) (b : Bool) (hlt : Op.bytesLess nx.toList ns.toList = b) (hsz : a.tmps.size = 36) (o0 : Sl a 0 (.slice (some ad) n c)) (o3 : Sl a 3 (.pointer (some ⟨g, 0, none⟩))) (o5 : Sl a 5 (.int .i64 ((k : Nat) : Int)))
    (hend : ∀ (a' : Act) (W : World), Same a a' [7, 8, 9, 10, 11, 12, 13, 14, 15, 16, 17, 18, 19, 20] → Kp [] w.drew W → Sl a' 20 (.bool b) → Q .normal a' W) : (Code.region 2 (opsOf 2 Tryd.f52).toArray true).wp Tryd.prog Q a w := by
  have hap : apartB (opsOf 2 Tryd.f52) = true := by kernel_rfl
  refine wp_region_invG (l := (opsOf 2 Tryd.f52)) (fun i v W => match i with | 0 => v = .int .i64 ((k : Nat) : Int) | 1 => v = .slice (some ad) n c | 2 => v = .int .i64 ((n : Nat) : Int) | 3 => v = .bool true | 4 => v = .bool true | 5 => v = .slice (some ad) n c | 6 => v = .int .i64 ((k : Nat) : Int) | 7 => v = .pointer (some (ad.add (k * 33))) | 8 => v = .pointer (some (ad.add (k * 33))) | 9 => v = .string nx | 10 => v = .pointer (some ⟨g, 0, none⟩) | 11 => v = .string ns | 12 => v = .bool b | 13 => v = .bool b | _ => True) (by kernel_rfl) hap (by kernel_rfl) ?_ ?_ ?_
  · intro i v W W' h _
    iterate 14 (rcases i with _ | i; · exact h)
    exact h
  · refine ⟨?_, ?_, ?_, ?_, ?_, ?_, ?_, ?_, ?_, ?_, ?_, ?_, ?_, ?_, trivial⟩
    · intro vs A' W hA hW hd K hK
      refine wpOp_free _ rfl rfl ?_
      conv => arg 2; whnf
      have e5 : A'.tmps[5]?.getD undef = .int .i64 ((k : Nat) : Int) := slot_out hA hap (Nat.lt_of_lt_of_eq (Nat.le_of_ble_eq_true rfl : 5 < 36) hsz.symm) (by kernel_rfl) o5
      clear hA hd o0 o3 o5
      go_step
      exact hK _ _ (Kp.refl _ _) rfl
    · intro vs A' W hA hW hd K hK
      refine wpOp_free _ rfl rfl ?_
      conv => arg 2; whnf
      have e0 : A'.tmps[0]?.getD undef = .slice (some ad) n c := slot_out hA hap (Nat.lt_of_lt_of_eq (Nat.le_of_ble_eq_true rfl : 0 < 36) hsz.symm) (by kernel_rfl) o0
      clear hA hd o0 o3 o5
      go_step
      exact hK _ _ (Kp.refl _ _) rfl
    · intro vs A' W hA hW hd K hK
      refine wpOp_free _ rfl rfl ?_
      conv => arg 2; whnf
      have f1 : vs 1 = .slice (some ad) n c := hd 1 (by kernel_rfl)
      have e8 : A'.tmps[8]?.getD undef = vs 1 := slot_in hA hap (Nat.lt_of_lt_of_eq (Nat.le_of_ble_eq_true rfl : 8 < 36) hsz.symm) (by kernel_rfl)
      rw [f1] at e8
      clear hA hd o0 o3 o5
      go_step
      exact hK _ _ (Kp.refl _ _) rfl
    · intro vs A' W hA hW hd K hK
      refine wpOp_free _ rfl rfl ?_
      conv => arg 2; whnf
      have f0 : vs 0 = .int .i64 ((k : Nat) : Int) := hd 0 (by kernel_rfl)
      have e7 : A'.tmps[7]?.getD undef = vs 0 := slot_in hA hap (Nat.lt_of_lt_of_eq (Nat.le_of_ble_eq_true rfl : 7 < 36) hsz.symm) (by kernel_rfl)
      rw [f0] at e7
      have f2 : vs 2 = .int .i64 ((n : Nat) : Int) := hd 2 (by kernel_rfl)
      have e9 : A'.tmps[9]?.getD undef = vs 2 := slot_in hA hap (Nat.lt_of_lt_of_eq (Nat.le_of_ble_eq_true rfl : 9 < 36) hsz.symm) (by kernel_rfl)
      rw [f2] at e9
      clear hA hd o0 o3 o5
      have hk2 : (k : Int) < (n : Int) := by omega
      go_step
      exact hK _ _ (Kp.refl _ _) (by first | rfl | (congr 1; exact decide_eq_true (by omega)))
    · intro vs A' W hA hW hd K hK
      refine wpOp_free _ rfl rfl ?_
      conv => arg 2; whnf
      have f3 : vs 3 = .bool true := hd 3 (by kernel_rfl)
      have e10 : A'.tmps[10]?.getD undef = vs 3 := slot_in hA hap (Nat.lt_of_lt_of_eq (Nat.le_of_ble_eq_true rfl : 10 < 36) hsz.symm) (by kernel_rfl)
      rw [f3] at e10
      clear hA hd o0 o3 o5
      go_step
      exact hK _ _ (Kp.refl _ _) rfl
    · intro vs A' W hA hW hd K hK
      have f4 : vs 4 = .bool true := hd 4 (by kernel_rfl)
      have e11 : A'.tmps[11]?.getD undef = vs 4 := slot_in hA hap (Nat.lt_of_lt_of_eq (Nat.le_of_ble_eq_true rfl : 11 < 36) hsz.symm) (by kernel_rfl)
      rw [f4] at e11
      refine wpOp_go _ rfl 4 11 true rfl rfl e11 ?_
      conv => arg 2; whnf
      have e0 : A'.tmps[0]?.getD undef = .slice (some ad) n c := slot_out hA hap (Nat.lt_of_lt_of_eq (Nat.le_of_ble_eq_true rfl : 0 < 36) hsz.symm) (by kernel_rfl) o0
      clear hA hd o0 o3 o5
      go_step
      exact hK _ _ (Kp.refl _ _) rfl
    · intro vs A' W hA hW hd K hK
      have f4 : vs 4 = .bool true := hd 4 (by kernel_rfl)
      have e11 : A'.tmps[11]?.getD undef = vs 4 := slot_in hA hap (Nat.lt_of_lt_of_eq (Nat.le_of_ble_eq_true rfl : 11 < 36) hsz.symm) (by kernel_rfl)
      rw [f4] at e11
      refine wpOp_go _ rfl 4 11 true rfl rfl e11 ?_
      conv => arg 2; whnf
      have e5 : A'.tmps[5]?.getD undef = .int .i64 ((k : Nat) : Int) := slot_out hA hap (Nat.lt_of_lt_of_eq (Nat.le_of_ble_eq_true rfl : 5 < 36) hsz.symm) (by kernel_rfl) o5
      clear hA hd o0 o3 o5
      go_step
      exact hK _ _ (Kp.refl _ _) rfl
    · intro vs A' W hA hW hd K hK
      have f4 : vs 4 = .bool true := hd 4 (by kernel_rfl)
      have e11 : A'.tmps[11]?.getD undef = vs 4 := slot_in hA hap (Nat.lt_of_lt_of_eq (Nat.le_of_ble_eq_true rfl : 11 < 36) hsz.symm) (by kernel_rfl)
      rw [f4] at e11
      refine wpOp_go _ rfl 4 11 true rfl rfl e11 ?_
      conv => arg 2; whnf
      have f5 : vs 5 = .slice (some ad) n c := hd 5 (by kernel_rfl)
      have e12 : A'.tmps[12]?.getD undef = vs 5 := slot_in hA hap (Nat.lt_of_lt_of_eq (Nat.le_of_ble_eq_true rfl : 12 < 36) hsz.symm) (by kernel_rfl)
      rw [f5] at e12
      have f6 : vs 6 = .int .i64 ((k : Nat) : Int) := hd 6 (by kernel_rfl)
      have e13 : A'.tmps[13]?.getD undef = vs 6 := slot_in hA hap (Nat.lt_of_lt_of_eq (Nat.le_of_ble_eq_true rfl : 13 < 36) hsz.symm) (by kernel_rfl)
      rw [f6] at e13
      clear hA hd o0 o3 o5
      have h0 : 0 ≤ (k : Int) := by omega
      have h1 : (k : Int) < (n : Int) := by omega
      go_step
      exact hK _ _ (Kp.refl _ _) rfl
    · intro vs A' W hA hW hd K hK
      have f4 : vs 4 = .bool true := hd 4 (by kernel_rfl)
      have e11 : A'.tmps[11]?.getD undef = vs 4 := slot_in hA hap (Nat.lt_of_lt_of_eq (Nat.le_of_ble_eq_true rfl : 11 < 36) hsz.symm) (by kernel_rfl)
      rw [f4] at e11
      refine wpOp_go _ rfl 4 11 true rfl rfl e11 ?_
      conv => arg 2; whnf
      have f7 : vs 7 = .pointer (some (ad.add (k * 33))) := hd 7 (by kernel_rfl)
      have e14 : A'.tmps[14]?.getD undef = vs 7 := slot_in hA hap (Nat.lt_of_lt_of_eq (Nat.le_of_ble_eq_true rfl : 14 < 36) hsz.symm) (by kernel_rfl)
      rw [f7] at e14
      clear hA hd o0 o3 o5
      go_step
      exact hK _ _ (Kp.refl _ _) rfl
    · intro vs A' W hA hW hd K hK
      have f4 : vs 4 = .bool true := hd 4 (by kernel_rfl)
      have e11 : A'.tmps[11]?.getD undef = vs 4 := slot_in hA hap (Nat.lt_of_lt_of_eq (Nat.le_of_ble_eq_true rfl : 11 < 36) hsz.symm) (by kernel_rfl)
      rw [f4] at e11
      refine wpOp_go _ rfl 4 11 true rfl rfl e11 ?_
      conv => arg 2; whnf
      have f8 : vs 8 = .pointer (some (ad.add (k * 33))) := hd 8 (by kernel_rfl)
      have e15 : A'.tmps[15]?.getD undef = vs 8 := slot_in hA hap (Nat.lt_of_lt_of_eq (Nat.le_of_ble_eq_true rfl : 15 < 36) hsz.symm) (by kernel_rfl)
      rw [f8] at e15
      clear hA hd o0 o3 o5
      have c0 := hc _ hW
      go_step
      exact hK _ _ (Kp.refl _ _) rfl
    · intro vs A' W hA hW hd K hK
      have f4 : vs 4 = .bool true := hd 4 (by kernel_rfl)
      have e11 : A'.tmps[11]?.getD undef = vs 4 := slot_in hA hap (Nat.lt_of_lt_of_eq (Nat.le_of_ble_eq_true rfl : 11 < 36) hsz.symm) (by kernel_rfl)
      rw [f4] at e11
      refine wpOp_go _ rfl 4 11 true rfl rfl e11 ?_
      conv => arg 2; whnf
      have e3 : A'.tmps[3]?.getD undef = .pointer (some ⟨g, 0, none⟩) := slot_out hA hap (Nat.lt_of_lt_of_eq (Nat.le_of_ble_eq_true rfl : 3 < 36) hsz.symm) (by kernel_rfl) o3
      clear hA hd o0 o3 o5
      go_step
      exact hK _ _ (Kp.refl _ _) rfl
    · intro vs A' W hA hW hd K hK
      have f4 : vs 4 = .bool true := hd 4 (by kernel_rfl)
      have e11 : A'.tmps[11]?.getD undef = vs 4 := slot_in hA hap (Nat.lt_of_lt_of_eq (Nat.le_of_ble_eq_true rfl : 11 < 36) hsz.symm) (by kernel_rfl)
      rw [f4] at e11
      refine wpOp_go _ rfl 4 11 true rfl rfl e11 ?_
      conv => arg 2; whnf
      have f10 : vs 10 = .pointer (some ⟨g, 0, none⟩) := hd 10 (by kernel_rfl)
      have e17 : A'.tmps[17]?.getD undef = vs 10 := slot_in hA hap (Nat.lt_of_lt_of_eq (Nat.le_of_ble_eq_true rfl : 17 < 36) hsz.symm) (by kernel_rfl)
      rw [f10] at e17
      clear hA hd o0 o3 o5
      have c0 : W.cell? ⟨g, 0, none⟩ = some (.string ns) := by rw [(hb.kp hW (by simp)).cell, ← hns]; rfl
      go_step
      exact hK _ _ (Kp.refl _ _) rfl
    · intro vs A' W hA hW hd K hK
      have f4 : vs 4 = .bool true := hd 4 (by kernel_rfl)
      have e11 : A'.tmps[11]?.getD undef = vs 4 := slot_in hA hap (Nat.lt_of_lt_of_eq (Nat.le_of_ble_eq_true rfl : 11 < 36) hsz.symm) (by kernel_rfl)
      rw [f4] at e11
      refine wpOp_go _ rfl 4 11 true rfl rfl e11 ?_
      conv => arg 2; whnf
      have f9 : vs 9 = .string nx := hd 9 (by kernel_rfl)
      have e16 : A'.tmps[16]?.getD undef = vs 9 := slot_in hA hap (Nat.lt_of_lt_of_eq (Nat.le_of_ble_eq_true rfl : 16 < 36) hsz.symm) (by kernel_rfl)
      rw [f9] at e16
      have f11 : vs 11 = .string ns := hd 11 (by kernel_rfl)
      have e18 : A'.tmps[18]?.getD undef = vs 11 := slot_in hA hap (Nat.lt_of_lt_of_eq (Nat.le_of_ble_eq_true rfl : 18 < 36) hsz.symm) (by kernel_rfl)
      rw [f11] at e18
      clear hA hd o0 o3 o5
      go_step
      exact hK _ _ (Kp.refl _ _) (by first | rfl | exact congrArg Value.bool hlt)
    · intro vs A' W hA hW hd K hK
      refine wpOp_free _ rfl rfl ?_
      conv => arg 2; whnf
      have f4 : vs 4 = .bool true := hd 4 (by kernel_rfl)
      have e11 : A'.tmps[11]?.getD undef = vs 4 := slot_in hA hap (Nat.lt_of_lt_of_eq (Nat.le_of_ble_eq_true rfl : 11 < 36) hsz.symm) (by kernel_rfl)
      rw [f4] at e11
      have f12 : vs 12 = .bool b := hd 12 (by kernel_rfl)
      have e19 : A'.tmps[19]?.getD undef = vs 12 := slot_in hA hap (Nat.lt_of_lt_of_eq (Nat.le_of_ble_eq_true rfl : 19 < 36) hsz.symm) (by kernel_rfl)
      rw [f12] at e19
      clear hA hd o0 o3 o5
      go_step
      exact hK _ _ (Kp.refl _ _) rfl
  · intro vs W hW hp
    rw [show putAll vs (opsOf 2 Tryd.f52) 0 a = putD [(7, vs 0), (8, vs 1), (9, vs 2), (10, vs 3), (11, vs 4), (12, vs 5), (13, vs 6), (14, vs 7), (15, vs 8), (16, vs 9), (17, vs 10), (18, vs 11), (19, vs 12), (20, vs 13)] a from by kernel_rfl]
    exact hend _ W (same_putD _ a) hW (sl_putD _ a 20 _ (by rw [show vs 13 = _ from hp 13 (Nat.le_of_ble_eq_true (by kernel_rfl))]; kernel_rfl))
-- END sly2Y
-- REG sly3
set_option maxRecDepth 100000 in
set_option maxHeartbeats 2000000 in
theorem sly_r3 {Q : Exit → Act → World → Prop} {a : Act} {w : World} (k : Nat) (hk : k < 9223372036854775807) (hsz : a.tmps.size = 36) (o5 : Sl a 5 (.int .i64 ((k : Nat) : Int)))
    (hend : ∀ (a' : Act), Same a a' [21, 22, 5] → Sl a' 5 (.int .i64 ((k + 1 : Nat) : Int)) → Q .normal a' (w)) : (Code.region 3 (opsOf 3 Tryd.f52).toArray false).wp Tryd.prog Q a w := by
  refine wp_region_lit (l := (opsOf 3 Tryd.f52)) ?_
  conv => arg 4; whnf
  unfold Sl at o5
  have hw : wrap64 ((k : Int) + 1) = (k : Int) + 1 := by unfold wrap64; omega
  go_wp2_with fail
  try simp only [Act.put]
  exact hend _ (by repeat (first | (with_reducible refine same_set (by decide) ?_) | (with_reducible exact same_nil))) (by unfold Sl; first | (simp [hsz]; done) | (simp [hsz]; omega))
-- END sly3
-- REG sly4
set_option maxRecDepth 100000 in
set_option maxHeartbeats 2000000 in
theorem sly_r4 {Q : Exit → Act → World → Prop} {a : Act} {w : World} (w0 : World) (A : Option Addr) (c : Nat) (l : List SigD) (hok : SgOk l) (hll : l.length ≤ 2000000) (k : Nat) (hk : k ≤ l.length) (hv : ∀ V, Kp [] w0 V → Rd V 33 (.slice A l.length c) l.length (sgsC l)) (hc : l.length ≤ c) (L : List Res) (S : Held w0 w L) (hsz : a.tmps.size = 36) (o0 : Sl a 0 (.slice A l.length c)) (o5 : Sl a 5 (.int .i64 ((k : Nat) : Int)))
    (hend : ∀ (a' : Act) (W : World), Same a a' [23, 24, 25, 26, 6] → (∃ v, Sl a' 6 v ∧ Held w0 W (rowR 81 33 v k (sgsC (l.take k)) :: L)) → Q .normal a' W) : (Code.region 4 (opsOf 4 Tryd.f52).toArray false).wp Tryd.prog Q a w := by
  refine wp_region_lit (l := (opsOf 4 Tryd.f52)) ?_
  conv => arg 4; whnf
  unfold Sl at o0 o5
  have S := Lib.hid S
  have q := fun w => cut_hiS A l.length c k (by omega) w
  have HR := Lib.hid (rd_hiS hok (hv _ S.out.k) rfl hk)
  have hb1 : Hid (k ≤ maxLen ∧ (k) * 48 ≤ 140737488355328) := Lib.hid (by unfold maxLen; omega)
  clear hv
  go_wp2_with (at_builtin; refine wpList_appHN rfl (.const (.slice none 0 0)) (.tmp 25) 34 81 rfl Tryd.infoSigZ Tryd.underlying34 rfl (by decide) rfl S.out (.slice A k c) k (sgsC (l.take k)) (by simp [Act.eval, Act.put, hsz]) HR.out (sgsC_one _) hb1.out.1 hb1.out.2 ?_; intro v1 w1 S1; have S1 := Lib.hid S1)
  try simp only [Act.put]
  exact hend _ _ (by repeat (first | (with_reducible refine same_set (by decide) ?_) | (with_reducible exact same_nil))) (⟨v1, (by unfold Sl; simp [hsz]), S1.out⟩)
-- END sly4
-- REG sly5
set_option maxRecDepth 100000 in
set_option maxHeartbeats 2000000 in
theorem sly_r5 {Q : Exit → Act → World → Prop} {a : Act} {w : World} (w0 : World) (u : Value) (m : Nat) (hm : m ≤ 2000000) (xs : List Value) (g : Nat) (s : SigD) (hs : s.2.length = 32) (L : List Res) (S : Held w0 w (rowR 81 33 u m xs :: blkR g 81 (sgA s) :: L)) (hsz : a.tmps.size = 36) (o3 : Sl a 3 (.pointer (some ⟨g, 0, none⟩))) (o6 : Sl a 6 (u))
    (hend : ∀ (a' : Act) (W : World), Same a a' [27, 28, 29, 30, 6] → (∃ v, Sl a' 6 v ∧ Held w0 W (rowR 81 33 v (m + 1) (xs ++ (sgA s).toList) :: L)) → Q .normal a' W) : (Code.region 5 (opsOf 5 Tryd.f52).toArray false).wp Tryd.prog Q a w := by
  refine wp_region_lit (l := (opsOf 5 Tryd.f52)) ?_
  conv => arg 4; whnf
  unfold Sl at o3 o6
  have S := Lib.hid S
  have HO := Lib.hid (sgA_one s)
  have hz2 : Hid ((sgA s).size = 33) := Lib.hid (sgA_size hs)
  have hR1 := fun V vb (hb : Blk V vb 81 (sgA s)) => rd_sig1 hb hs
  have hR1 := Lib.hid hR1
  have hF := Lib.hid (fill_sig (sgA_size hs))
  have hb1 : Hid (m + 1 ≤ maxLen ∧ (m + 1) * 48 ≤ 140737488355328) := Lib.hid (by unfold maxLen; omega)
  generalize sgA s = cs at *
  go_wp2_with (first
    | (refine wpList_load_blk rfl 81 (.tmp 3) rfl g (by simp [Act.eval, Act.put, hsz, o3]) 81 _ (S.out.at_ (l1 := [_])) _ Tryd.underlying81 rfl (by rw [hz2.out]; exact Tryd.infoSig) ?_)
    | (refine wpList_sigs1 rfl (.tmp 28) rfl cs hz2.out (by simp [Act.eval, Act.put, hsz]) ?_; have S2 := Lib.hid ((S.out.newBlk 81 cs).pull 1 rfl); have HR := Lib.hid (hR1.out _ _ (S2.out.at_ (l1 := [_]))))
    | (at_builtin; refine wpList_appH rfl (.tmp 27) (.tmp 29) 34 81 rfl Tryd.infoSigZ Tryd.underlying34 rfl (by decide) u m xs (by simp [Act.eval, Act.put, hsz]) S2.out (.slice (some ⟨w.heap.size, 0, none⟩) 1 1) 1 cs.toList (by simp [Act.eval, Act.put, hsz]) HR.out HO.out hb1.out.1 hb1.out.2 ?_; intro v2 w2 S3; have S3 := Lib.hid S3))
  try simp only [Act.put]
  exact hend _ _ (by repeat (first | (with_reducible refine same_set (by decide) ?_) | (with_reducible exact same_nil))) (⟨v2, (by unfold Sl; simp [hsz]), S3.out.some_of (List.Sublist.cons_cons _ (List.Sublist.cons _ (List.Sublist.cons _ (List.Sublist.refl _))))⟩)
-- END sly5
-- REG sly6
set_option maxRecDepth 100000 in
set_option maxHeartbeats 2000000 in
theorem sly_r6 {Q : Exit → Act → World → Prop} {a : Act} {w : World} (w0 : World) (A : Option Addr) (c : Nat) (l : List SigD) (hok : SgOk l) (hll : l.length ≤ 2000000) (k : Nat) (hk : k ≤ l.length) (hv : ∀ V, Kp [] w0 V → Rd V 33 (.slice A l.length c) l.length (sgsC l)) (u : Value) (m : Nat) (hm : m ≤ 2000000) (xs : List Value) (L : List Res) (S : Held w0 w (rowR 81 33 u m xs :: L)) (hsz : a.tmps.size = 36) (o0 : Sl a 0 (.slice A l.length c)) (o5 : Sl a 5 (.int .i64 ((k : Nat) : Int))) (o6 : Sl a 6 (u))
    (hend : ∀ (a' : Act) (W : World), Same a a' [31, 32, 33, 34, 35, 4] → (∃ v, Sl a' 4 v ∧ Held w0 W (rowR 81 33 v (m + (l.length - k)) (xs ++ sgsC (l.drop k)) :: L)) → Q .normal a' W) : (Code.region 6 (opsOf 6 Tryd.f52).toArray false).wp Tryd.prog Q a w := by
  refine wp_region_lit (l := (opsOf 6 Tryd.f52)) ?_
  conv => arg 4; whnf
  unfold Sl at o0 o5 o6
  have S := Lib.hid S
  have q := fun w => cut_loT A l.length c k hk w
  have HR := Lib.hid (rd_loT hok (hv _ S.out.k) rfl hk)
  clear hv
  obtain ⟨dk, hdk⟩ : ∃ dk, l.length - k = dk := ⟨_, rfl⟩
  rw [hdk] at HR
  simp only [hdk] at q
  have hb1 : Hid (m + dk ≤ maxLen ∧ (m + dk) * 48 ≤ 140737488355328) := Lib.hid (by unfold maxLen; omega)
  rw [hdk] at hend
  clear hdk
  go_wp2_with (at_builtin; refine wpList_appH rfl (.tmp 31) (.tmp 34) 34 81 rfl Tryd.infoSigZ Tryd.underlying34 rfl (by decide) u m xs (by simp [Act.eval, Act.put, hsz]) S.out (.slice (loA A k c) dk (c - k)) dk (sgsC (l.drop k)) (by simp [Act.eval, Act.put, hsz]) HR.out (sgsC_one _) hb1.out.1 hb1.out.2 ?_; intro v1 w1 S1; have S1 := Lib.hid S1)
  try simp only [Act.put]
  exact hend _ _ (by repeat (first | (with_reducible refine same_set (by decide) ?_) | (with_reducible exact same_nil))) (⟨v1, (by unfold Sl; simp [hsz]), S1.out⟩)
-- END sly6
-- REG ssa0
set_option maxRecDepth 100000 in
set_option maxHeartbeats 2000000 in
theorem ssa_r0 {Q : Exit → Act → World → Prop} {a : Act} {w : World} (w0 : World) (ca cb : Array Value) (L : List Res) (S : Held w0 w L) (hsz : a.tmps.size = 38) (o0 : Sl a 0 (.agg ca)) (o1 : Sl a 1 (.agg cb))
    (hend : ∀ (a' : Act) (W : World), Same a a' [2, 3, 4] → Sl a' 4 (.bool false) → (∃ g2 g3, Sl a' 2 (.pointer (some ⟨g2, 0, none⟩)) ∧ Sl a' 3 (.pointer (some ⟨g3, 0, none⟩)) ∧ Held w0 W (blkR g3 36 cb :: blkR g2 36 ca :: L)) → Q .normal a' W) : (Code.region 0 (opsOf 0 Tryd.f23).toArray false).wp Tryd.prog Q a w := by
  refine wp_region_lit (l := (opsOf 0 Tryd.f23)) ?_
  conv => arg 4; whnf
  unfold Sl at o0 o1
  have S1 := Lib.hid ((S.newBlk 36 ca).newBlkN 36 cb (g := w.heap.size + 1) (by simp))
  go_wp2_with fail
  try simp only [Act.put]
  exact hend _ _ (by repeat (first | (with_reducible refine same_set (by decide) ?_) | (with_reducible exact same_nil))) (by unfold Sl; first | (simp [hsz]; done) | (simp [hsz]; omega)) (⟨_, _, (by unfold Sl; simp [hsz]), (by unfold Sl; simp [hsz]), S1.out⟩)
-- END ssa0
-- REG ssa1Y
set_option maxRecDepth 100000 in
set_option maxHeartbeats 2000000 in
theorem ssa_r1Y {Q : Exit → Act → World → Prop} {a : Act} {w : World} (z y : Int) (h g : List UInt8) (hh : h.length = 32) (hg : g.length = 32) (A B : Option Addr) (n c m e : Nat) (g2 g3 : Nat) (hb2 : Blk w g2 36 (ntA z h (.slice A n c))) (hb3 : Blk w g3 36 (ntA y g (.slice B m e))) (hpq : (decide (z = y) && (h == g)) = true) (hsz : a.tmps.size = 38) (o2 : Sl a 2 (.pointer (some ⟨g2, 0, none⟩))) (o3 : Sl a 3 (.pointer (some ⟨g3, 0, none⟩)))
    (hend : ∀ (a' : Act) (W : World), Same a a' [6, 7, 8, 9, 10, 11, 12, 13, 14, 15, 16, 17, 18, 19] → Kp [] w W → Sl a' 19 (.bool (!decide (n = m))) → Q .normal a' W) : (Code.region 1 (opsOf 1 Tryd.f23).toArray false).wp Tryd.prog Q a w := by
  have hap : apartB (opsOf 1 Tryd.f23) = true := by kernel_rfl
  refine wp_region_invS (l := (opsOf 1 Tryd.f23)) (fun i v W => match i with | 0 => v = .pointer (some ⟨g2, 0, none⟩) | 1 => v = .agg (ptA z h) | 2 => v = .pointer (some ⟨g3, 0, none⟩) | 3 => v = .agg (ptA y g) | 4 => v = .bool false | 5 => v = .bool false | 6 => v = .pointer (some ⟨g2, 33, none⟩) | 7 => v = .slice A n c | 8 => v = .int .i64 ((n : Nat) : Int) | 9 => v = .pointer (some ⟨g3, 33, none⟩) | 10 => v = .slice B m e | 11 => v = .int .i64 ((m : Nat) : Int) | 12 => v = .bool (!decide (n = m)) | 13 => v = .bool (!decide (n = m)) | _ => True) hap ?_ ?_ ?_
  · intro i v W W' h _
    iterate 14 (rcases i with _ | i; · exact h)
    exact h
  · refine ⟨?_, ?_, ?_, ?_, ?_, ?_, ?_, ?_, ?_, ?_, ?_, ?_, ?_, ?_, trivial⟩
    · intro vs A' W hA hW hd hu K hK
      refine wpOp_free _ rfl rfl ?_
      conv => arg 2; whnf
      have e2 : A'.tmps[2]?.getD undef = .pointer (some ⟨g2, 0, none⟩) := slot_out hA hap (Nat.lt_of_lt_of_eq (Nat.le_of_ble_eq_true rfl : 2 < 38) hsz.symm) (by kernel_rfl) o2
      clear hA hd hu o2 o3
      go_step
      exact hK _ _ (Kp.refl _ _) rfl
    · intro vs A' W hA hW hd hu K hK
      refine wpOp_free _ rfl rfl ?_
      conv => arg 2; whnf
      have f0 : vs 0 = .pointer (some ⟨g2, 0, none⟩) := hd 0 (by kernel_rfl)
      have e6 : A'.tmps[6]?.getD undef = vs 0 := slot_in hA hap (Nat.lt_of_lt_of_eq (Nat.le_of_ble_eq_true rfl : 6 < 38) hsz.symm) (by kernel_rfl)
      rw [f0] at e6
      clear hA hd hu o2 o3
      refine op_runs (v := .agg (ptA z h)) (w' := W) (exec_load rfl (by simpa [Act.eval] using e6) (run_loadAt_agg W (⟨g2, 0, none⟩) 33 (ptA z h).toList _ (nt_pointAt (hb2.kp hW (by simp))) Tryd.underlying33 rfl (by rw [Array.length_toList, ptA_size hh]; exact Tryd.infoPointP))) ?_
      exact hK _ _ (Kp.refl _ _) rfl
    · intro vs A' W hA hW hd hu K hK
      refine wpOp_free _ rfl rfl ?_
      conv => arg 2; whnf
      have e3 : A'.tmps[3]?.getD undef = .pointer (some ⟨g3, 0, none⟩) := slot_out hA hap (Nat.lt_of_lt_of_eq (Nat.le_of_ble_eq_true rfl : 3 < 38) hsz.symm) (by kernel_rfl) o3
      clear hA hd hu o2 o3
      go_step
      exact hK _ _ (Kp.refl _ _) rfl
    · intro vs A' W hA hW hd hu K hK
      refine wpOp_free _ rfl rfl ?_
      conv => arg 2; whnf
      have f2 : vs 2 = .pointer (some ⟨g3, 0, none⟩) := hd 2 (by kernel_rfl)
      have e8 : A'.tmps[8]?.getD undef = vs 2 := slot_in hA hap (Nat.lt_of_lt_of_eq (Nat.le_of_ble_eq_true rfl : 8 < 38) hsz.symm) (by kernel_rfl)
      rw [f2] at e8
      clear hA hd hu o2 o3
      refine op_runs (v := .agg (ptA y g)) (w' := W) (exec_load rfl (by simpa [Act.eval] using e8) (run_loadAt_agg W (⟨g3, 0, none⟩) 33 (ptA y g).toList _ (nt_pointAt (hb3.kp hW (by simp))) Tryd.underlying33 rfl (by rw [Array.length_toList, ptA_size hg]; exact Tryd.infoPointP))) ?_
      exact hK _ _ (Kp.refl _ _) rfl
    · intro vs A' W hA hW hd hu K hK
      refine wpOp_free _ rfl rfl ?_
      conv => arg 2; whnf
      have f1 : vs 1 = .agg (ptA z h) := hd 1 (by kernel_rfl)
      have e7 : A'.tmps[7]?.getD undef = vs 1 := slot_in hA hap (Nat.lt_of_lt_of_eq (Nat.le_of_ble_eq_true rfl : 7 < 38) hsz.symm) (by kernel_rfl)
      rw [f1] at e7
      have f3 : vs 3 = .agg (ptA y g) := hd 3 (by kernel_rfl)
      have e9 : A'.tmps[9]?.getD undef = vs 3 := slot_in hA hap (Nat.lt_of_lt_of_eq (Nat.le_of_ble_eq_true rfl : 9 < 38) hsz.symm) (by kernel_rfl)
      rw [f3] at e9
      clear hA hd hu o2 o3
      refine op_runs (v := .bool false) (w' := W) (exec_bin_agg rfl (by simpa [Act.eval] using e7) (by simpa [Act.eval] using e9) Tryd.eqGuardType33 ((neq_pt W z y h g hh hg).trans (by rw [hpq]; rfl))) ?_
      exact hK _ _ (Kp.refl _ _) rfl
    · intro vs A' W hA hW hd hu K hK
      refine wpOp_free _ rfl rfl ?_
      conv => arg 2; whnf
      have f4 : vs 4 = .bool false := hd 4 (by kernel_rfl)
      have e10 : A'.tmps[10]?.getD undef = vs 4 := slot_in hA hap (Nat.lt_of_lt_of_eq (Nat.le_of_ble_eq_true rfl : 10 < 38) hsz.symm) (by kernel_rfl)
      rw [f4] at e10
      clear hA hd hu o2 o3
      go_step
      exact hK _ _ (Kp.refl _ _) rfl
    · intro vs A' W hA hW hd hu K hK
      have f5 : vs 5 = .bool false := hd 5 (by kernel_rfl)
      have e11 : A'.tmps[11]?.getD undef = vs 5 := slot_in hA hap (Nat.lt_of_lt_of_eq (Nat.le_of_ble_eq_true rfl : 11 < 38) hsz.symm) (by kernel_rfl)
      rw [f5] at e11
      refine wpOp_go _ rfl 5 11 false rfl rfl e11 ?_
      conv => arg 2; whnf
      have e2 : A'.tmps[2]?.getD undef = .pointer (some ⟨g2, 0, none⟩) := slot_out hA hap (Nat.lt_of_lt_of_eq (Nat.le_of_ble_eq_true rfl : 2 < 38) hsz.symm) (by kernel_rfl) o2
      clear hA hd hu o2 o3
      go_step
      exact hK _ _ (Kp.refl _ _) rfl
    · intro vs A' W hA hW hd hu K hK
      have f5 : vs 5 = .bool false := hd 5 (by kernel_rfl)
      have e11 : A'.tmps[11]?.getD undef = vs 5 := slot_in hA hap (Nat.lt_of_lt_of_eq (Nat.le_of_ble_eq_true rfl : 11 < 38) hsz.symm) (by kernel_rfl)
      rw [f5] at e11
      refine wpOp_go _ rfl 5 11 false rfl rfl e11 ?_
      conv => arg 2; whnf
      have f6 : vs 6 = .pointer (some ⟨g2, 33, none⟩) := hd 6 (by kernel_rfl)
      have e12 : A'.tmps[12]?.getD undef = vs 6 := slot_in hA hap (Nat.lt_of_lt_of_eq (Nat.le_of_ble_eq_true rfl : 12 < 38) hsz.symm) (by kernel_rfl)
      rw [f6] at e12
      clear hA hd hu o2 o3
      have c0 : W.cell? ⟨g2, 33, none⟩ = some (.slice A n c) := by rw [(hb2.kp hW (by simp)).cell]; exact ntA_sigs hh
      go_step
      exact hK _ _ (Kp.refl _ _) rfl
    · intro vs A' W hA hW hd hu K hK
      have f5 : vs 5 = .bool false := hd 5 (by kernel_rfl)
      have e11 : A'.tmps[11]?.getD undef = vs 5 := slot_in hA hap (Nat.lt_of_lt_of_eq (Nat.le_of_ble_eq_true rfl : 11 < 38) hsz.symm) (by kernel_rfl)
      rw [f5] at e11
      refine wpOp_go _ rfl 5 11 false rfl rfl e11 ?_
      conv => arg 2; whnf
      have f7 : vs 7 = .slice A n c := hd 7 (by kernel_rfl)
      have e13 : A'.tmps[13]?.getD undef = vs 7 := slot_in hA hap (Nat.lt_of_lt_of_eq (Nat.le_of_ble_eq_true rfl : 13 < 38) hsz.symm) (by kernel_rfl)
      rw [f7] at e13
      clear hA hd hu o2 o3
      go_step
      exact hK _ _ (Kp.refl _ _) rfl
    · intro vs A' W hA hW hd hu K hK
      have f5 : vs 5 = .bool false := hd 5 (by kernel_rfl)
      have e11 : A'.tmps[11]?.getD undef = vs 5 := slot_in hA hap (Nat.lt_of_lt_of_eq (Nat.le_of_ble_eq_true rfl : 11 < 38) hsz.symm) (by kernel_rfl)
      rw [f5] at e11
      refine wpOp_go _ rfl 5 11 false rfl rfl e11 ?_
      conv => arg 2; whnf
      have e3 : A'.tmps[3]?.getD undef = .pointer (some ⟨g3, 0, none⟩) := slot_out hA hap (Nat.lt_of_lt_of_eq (Nat.le_of_ble_eq_true rfl : 3 < 38) hsz.symm) (by kernel_rfl) o3
      clear hA hd hu o2 o3
      go_step
      exact hK _ _ (Kp.refl _ _) rfl
    · intro vs A' W hA hW hd hu K hK
      have f5 : vs 5 = .bool false := hd 5 (by kernel_rfl)
      have e11 : A'.tmps[11]?.getD undef = vs 5 := slot_in hA hap (Nat.lt_of_lt_of_eq (Nat.le_of_ble_eq_true rfl : 11 < 38) hsz.symm) (by kernel_rfl)
      rw [f5] at e11
      refine wpOp_go _ rfl 5 11 false rfl rfl e11 ?_
      conv => arg 2; whnf
      have f9 : vs 9 = .pointer (some ⟨g3, 33, none⟩) := hd 9 (by kernel_rfl)
      have e15 : A'.tmps[15]?.getD undef = vs 9 := slot_in hA hap (Nat.lt_of_lt_of_eq (Nat.le_of_ble_eq_true rfl : 15 < 38) hsz.symm) (by kernel_rfl)
      rw [f9] at e15
      clear hA hd hu o2 o3
      have c0 : W.cell? ⟨g3, 33, none⟩ = some (.slice B m e) := by rw [(hb3.kp hW (by simp)).cell]; exact ntA_sigs hg
      go_step
      exact hK _ _ (Kp.refl _ _) rfl
    · intro vs A' W hA hW hd hu K hK
      have f5 : vs 5 = .bool false := hd 5 (by kernel_rfl)
      have e11 : A'.tmps[11]?.getD undef = vs 5 := slot_in hA hap (Nat.lt_of_lt_of_eq (Nat.le_of_ble_eq_true rfl : 11 < 38) hsz.symm) (by kernel_rfl)
      rw [f5] at e11
      refine wpOp_go _ rfl 5 11 false rfl rfl e11 ?_
      conv => arg 2; whnf
      have f10 : vs 10 = .slice B m e := hd 10 (by kernel_rfl)
      have e16 : A'.tmps[16]?.getD undef = vs 10 := slot_in hA hap (Nat.lt_of_lt_of_eq (Nat.le_of_ble_eq_true rfl : 16 < 38) hsz.symm) (by kernel_rfl)
      rw [f10] at e16
      clear hA hd hu o2 o3
      go_step
      exact hK _ _ (Kp.refl _ _) rfl
    · intro vs A' W hA hW hd hu K hK
      have f5 : vs 5 = .bool false := hd 5 (by kernel_rfl)
      have e11 : A'.tmps[11]?.getD undef = vs 5 := slot_in hA hap (Nat.lt_of_lt_of_eq (Nat.le_of_ble_eq_true rfl : 11 < 38) hsz.symm) (by kernel_rfl)
      rw [f5] at e11
      refine wpOp_go _ rfl 5 11 false rfl rfl e11 ?_
      conv => arg 2; whnf
      have f8 : vs 8 = .int .i64 ((n : Nat) : Int) := hd 8 (by kernel_rfl)
      have e14 : A'.tmps[14]?.getD undef = vs 8 := slot_in hA hap (Nat.lt_of_lt_of_eq (Nat.le_of_ble_eq_true rfl : 14 < 38) hsz.symm) (by kernel_rfl)
      rw [f8] at e14
      have f11 : vs 11 = .int .i64 ((m : Nat) : Int) := hd 11 (by kernel_rfl)
      have e17 : A'.tmps[17]?.getD undef = vs 11 := slot_in hA hap (Nat.lt_of_lt_of_eq (Nat.le_of_ble_eq_true rfl : 17 < 38) hsz.symm) (by kernel_rfl)
      rw [f11] at e17
      clear hA hd hu o2 o3
      have hd : ((n : Int) == (m : Int)) = decide (n = m) := by by_cases e : n = m <;> simp [e] <;> omega
      go_step
      exact hK _ _ (Kp.refl _ _) (by first | rfl | (congr 1; simp [bne, hd]))
    · intro vs A' W hA hW hd hu K hK
      refine wpOp_free _ rfl rfl ?_
      conv => arg 2; whnf
      have f5 : vs 5 = .bool false := hd 5 (by kernel_rfl)
      have e11 : A'.tmps[11]?.getD undef = vs 5 := slot_in hA hap (Nat.lt_of_lt_of_eq (Nat.le_of_ble_eq_true rfl : 11 < 38) hsz.symm) (by kernel_rfl)
      rw [f5] at e11
      have f12 : vs 12 = .bool (!decide (n = m)) := hd 12 (by kernel_rfl)
      have e18 : A'.tmps[18]?.getD undef = vs 12 := slot_in hA hap (Nat.lt_of_lt_of_eq (Nat.le_of_ble_eq_true rfl : 18 < 38) hsz.symm) (by kernel_rfl)
      rw [f12] at e18
      clear hA hd hu o2 o3
      go_step
      exact hK _ _ (Kp.refl _ _) rfl
  · intro vs W hW hp
    rw [show putAll vs (opsOf 1 Tryd.f23) 0 a = putD [(6, vs 0), (7, vs 1), (8, vs 2), (9, vs 3), (10, vs 4), (11, vs 5), (12, vs 6), (13, vs 7), (14, vs 8), (15, vs 9), (16, vs 10), (17, vs 11), (18, vs 12), (19, vs 13)] a from by kernel_rfl]
    exact hend _ W (same_putD _ a) hW (sl_putD _ a 19 _ (by rw [show vs 13 = _ from hp 13 (Nat.le_of_ble_eq_true (by kernel_rfl))]; kernel_rfl))
-- END ssa1Y
-- REG ssa1N
set_option maxRecDepth 100000 in
set_option maxHeartbeats 2000000 in
theorem ssa_r1N {Q : Exit → Act → World → Prop} {a : Act} {w : World} (z y : Int) (h g : List UInt8) (hh : h.length = 32) (hg : g.length = 32) (A B : Option Addr) (n c m e : Nat) (g2 g3 : Nat) (hb2 : Blk w g2 36 (ntA z h (.slice A n c))) (hb3 : Blk w g3 36 (ntA y g (.slice B m e))) (hpq : (decide (z = y) && (h == g)) = false) (hsz : a.tmps.size = 38) (o2 : Sl a 2 (.pointer (some ⟨g2, 0, none⟩))) (o3 : Sl a 3 (.pointer (some ⟨g3, 0, none⟩)))
    (hend : ∀ (a' : Act) (W : World), Same a a' [6, 7, 8, 9, 10, 11, 12, 13, 14, 15, 16, 17, 18, 19] → Kp [] w W → Sl a' 19 (.bool true) → Q .normal a' W) : (Code.region 1 (opsOf 1 Tryd.f23).toArray false).wp Tryd.prog Q a w := by
  have hap : apartB (opsOf 1 Tryd.f23) = true := by kernel_rfl
  refine wp_region_invS (l := (opsOf 1 Tryd.f23)) (fun i v W => match i with | 0 => v = .pointer (some ⟨g2, 0, none⟩) | 1 => v = .agg (ptA z h) | 2 => v = .pointer (some ⟨g3, 0, none⟩) | 3 => v = .agg (ptA y g) | 4 => v = .bool true | 5 => v = .bool true | 13 => v = .bool true | _ => True) hap ?_ ?_ ?_
  · intro i v W W' h _
    iterate 14 (rcases i with _ | i; · exact h)
    exact h
  · refine ⟨?_, ?_, ?_, ?_, ?_, ?_, ?_, ?_, ?_, ?_, ?_, ?_, ?_, ?_, trivial⟩
    · intro vs A' W hA hW hd hu K hK
      refine wpOp_free _ rfl rfl ?_
      conv => arg 2; whnf
      have e2 : A'.tmps[2]?.getD undef = .pointer (some ⟨g2, 0, none⟩) := slot_out hA hap (Nat.lt_of_lt_of_eq (Nat.le_of_ble_eq_true rfl : 2 < 38) hsz.symm) (by kernel_rfl) o2
      clear hA hd hu o2 o3
      go_step
      exact hK _ _ (Kp.refl _ _) rfl
    · intro vs A' W hA hW hd hu K hK
      refine wpOp_free _ rfl rfl ?_
      conv => arg 2; whnf
      have f0 : vs 0 = .pointer (some ⟨g2, 0, none⟩) := hd 0 (by kernel_rfl)
      have e6 : A'.tmps[6]?.getD undef = vs 0 := slot_in hA hap (Nat.lt_of_lt_of_eq (Nat.le_of_ble_eq_true rfl : 6 < 38) hsz.symm) (by kernel_rfl)
      rw [f0] at e6
      clear hA hd hu o2 o3
      refine op_runs (v := .agg (ptA z h)) (w' := W) (exec_load rfl (by simpa [Act.eval] using e6) (run_loadAt_agg W (⟨g2, 0, none⟩) 33 (ptA z h).toList _ (nt_pointAt (hb2.kp hW (by simp))) Tryd.underlying33 rfl (by rw [Array.length_toList, ptA_size hh]; exact Tryd.infoPointP))) ?_
      exact hK _ _ (Kp.refl _ _) rfl
    · intro vs A' W hA hW hd hu K hK
      refine wpOp_free _ rfl rfl ?_
      conv => arg 2; whnf
      have e3 : A'.tmps[3]?.getD undef = .pointer (some ⟨g3, 0, none⟩) := slot_out hA hap (Nat.lt_of_lt_of_eq (Nat.le_of_ble_eq_true rfl : 3 < 38) hsz.symm) (by kernel_rfl) o3
      clear hA hd hu o2 o3
      go_step
      exact hK _ _ (Kp.refl _ _) rfl
    · intro vs A' W hA hW hd hu K hK
      refine wpOp_free _ rfl rfl ?_
      conv => arg 2; whnf
      have f2 : vs 2 = .pointer (some ⟨g3, 0, none⟩) := hd 2 (by kernel_rfl)
      have e8 : A'.tmps[8]?.getD undef = vs 2 := slot_in hA hap (Nat.lt_of_lt_of_eq (Nat.le_of_ble_eq_true rfl : 8 < 38) hsz.symm) (by kernel_rfl)
      rw [f2] at e8
      clear hA hd hu o2 o3
      refine op_runs (v := .agg (ptA y g)) (w' := W) (exec_load rfl (by simpa [Act.eval] using e8) (run_loadAt_agg W (⟨g3, 0, none⟩) 33 (ptA y g).toList _ (nt_pointAt (hb3.kp hW (by simp))) Tryd.underlying33 rfl (by rw [Array.length_toList, ptA_size hg]; exact Tryd.infoPointP))) ?_
      exact hK _ _ (Kp.refl _ _) rfl
    · intro vs A' W hA hW hd hu K hK
      refine wpOp_free _ rfl rfl ?_
      conv => arg 2; whnf
      have f1 : vs 1 = .agg (ptA z h) := hd 1 (by kernel_rfl)
      have e7 : A'.tmps[7]?.getD undef = vs 1 := slot_in hA hap (Nat.lt_of_lt_of_eq (Nat.le_of_ble_eq_true rfl : 7 < 38) hsz.symm) (by kernel_rfl)
      rw [f1] at e7
      have f3 : vs 3 = .agg (ptA y g) := hd 3 (by kernel_rfl)
      have e9 : A'.tmps[9]?.getD undef = vs 3 := slot_in hA hap (Nat.lt_of_lt_of_eq (Nat.le_of_ble_eq_true rfl : 9 < 38) hsz.symm) (by kernel_rfl)
      rw [f3] at e9
      clear hA hd hu o2 o3
      refine op_runs (v := .bool true) (w' := W) (exec_bin_agg rfl (by simpa [Act.eval] using e7) (by simpa [Act.eval] using e9) Tryd.eqGuardType33 ((neq_pt W z y h g hh hg).trans (by rw [hpq]; rfl))) ?_
      exact hK _ _ (Kp.refl _ _) rfl
    · intro vs A' W hA hW hd hu K hK
      refine wpOp_free _ rfl rfl ?_
      conv => arg 2; whnf
      have f4 : vs 4 = .bool true := hd 4 (by kernel_rfl)
      have e10 : A'.tmps[10]?.getD undef = vs 4 := slot_in hA hap (Nat.lt_of_lt_of_eq (Nat.le_of_ble_eq_true rfl : 10 < 38) hsz.symm) (by kernel_rfl)
      rw [f4] at e10
      clear hA hd hu o2 o3
      go_step
      exact hK _ _ (Kp.refl _ _) rfl
    · intro vs A' W hA hW hd hu K hK
      have f5 : vs 5 = .bool true := hd 5 (by kernel_rfl)
      have e11 : A'.tmps[11]?.getD undef = vs 5 := slot_in hA hap (Nat.lt_of_lt_of_eq (Nat.le_of_ble_eq_true rfl : 11 < 38) hsz.symm) (by kernel_rfl)
      rw [f5] at e11
      refine wpOp_skip _ rfl 5 11 false rfl rfl e11 ?_
      exact hK _ _ (Kp.refl _ _) trivial
    · intro vs A' W hA hW hd hu K hK
      have f5 : vs 5 = .bool true := hd 5 (by kernel_rfl)
      have e11 : A'.tmps[11]?.getD undef = vs 5 := slot_in hA hap (Nat.lt_of_lt_of_eq (Nat.le_of_ble_eq_true rfl : 11 < 38) hsz.symm) (by kernel_rfl)
      rw [f5] at e11
      refine wpOp_skip _ rfl 5 11 false rfl rfl e11 ?_
      exact hK _ _ (Kp.refl _ _) trivial
    · intro vs A' W hA hW hd hu K hK
      have f5 : vs 5 = .bool true := hd 5 (by kernel_rfl)
      have e11 : A'.tmps[11]?.getD undef = vs 5 := slot_in hA hap (Nat.lt_of_lt_of_eq (Nat.le_of_ble_eq_true rfl : 11 < 38) hsz.symm) (by kernel_rfl)
      rw [f5] at e11
      refine wpOp_skip _ rfl 5 11 false rfl rfl e11 ?_
      exact hK _ _ (Kp.refl _ _) trivial
    · intro vs A' W hA hW hd hu K hK
      have f5 : vs 5 = .bool true := hd 5 (by kernel_rfl)
      have e11 : A'.tmps[11]?.getD undef = vs 5 := slot_in hA hap (Nat.lt_of_lt_of_eq (Nat.le_of_ble_eq_true rfl : 11 < 38) hsz.symm) (by kernel_rfl)
      rw [f5] at e11
      refine wpOp_skip _ rfl 5 11 false rfl rfl e11 ?_
      exact hK _ _ (Kp.refl _ _) trivial
    · intro vs A' W hA hW hd hu K hK
      have f5 : vs 5 = .bool true := hd 5 (by kernel_rfl)
      have e11 : A'.tmps[11]?.getD undef = vs 5 := slot_in hA hap (Nat.lt_of_lt_of_eq (Nat.le_of_ble_eq_true rfl : 11 < 38) hsz.symm) (by kernel_rfl)
      rw [f5] at e11
      refine wpOp_skip _ rfl 5 11 false rfl rfl e11 ?_
      exact hK _ _ (Kp.refl _ _) trivial
    · intro vs A' W hA hW hd hu K hK
      have f5 : vs 5 = .bool true := hd 5 (by kernel_rfl)
      have e11 : A'.tmps[11]?.getD undef = vs 5 := slot_in hA hap (Nat.lt_of_lt_of_eq (Nat.le_of_ble_eq_true rfl : 11 < 38) hsz.symm) (by kernel_rfl)
      rw [f5] at e11
      refine wpOp_skip _ rfl 5 11 false rfl rfl e11 ?_
      exact hK _ _ (Kp.refl _ _) trivial
    · intro vs A' W hA hW hd hu K hK
      have f5 : vs 5 = .bool true := hd 5 (by kernel_rfl)
      have e11 : A'.tmps[11]?.getD undef = vs 5 := slot_in hA hap (Nat.lt_of_lt_of_eq (Nat.le_of_ble_eq_true rfl : 11 < 38) hsz.symm) (by kernel_rfl)
      rw [f5] at e11
      refine wpOp_skip _ rfl 5 11 false rfl rfl e11 ?_
      exact hK _ _ (Kp.refl _ _) trivial
    · intro vs A' W hA hW hd hu K hK
      refine wpOp_free _ rfl rfl ?_
      conv => arg 2; whnf
      have f5 : vs 5 = .bool true := hd 5 (by kernel_rfl)
      have e11 : A'.tmps[11]?.getD undef = vs 5 := slot_in hA hap (Nat.lt_of_lt_of_eq (Nat.le_of_ble_eq_true rfl : 11 < 38) hsz.symm) (by kernel_rfl)
      rw [f5] at e11
      have e18 : A'.tmps[18]?.getD undef = vs 12 := slot_in hA hap (Nat.lt_of_lt_of_eq (Nat.le_of_ble_eq_true rfl : 18 < 38) hsz.symm) (by kernel_rfl)
      clear hA hd hu o2 o3
      go_step
      exact hK _ _ (Kp.refl _ _) rfl
  · intro vs W hW hp
    rw [show putAll vs (opsOf 1 Tryd.f23) 0 a = putD [(6, vs 0), (7, vs 1), (8, vs 2), (9, vs 3), (10, vs 4), (11, vs 5), (12, vs 6), (13, vs 7), (14, vs 8), (15, vs 9), (16, vs 10), (17, vs 11), (18, vs 12), (19, vs 13)] a from by kernel_rfl]
    exact hend _ W (same_putD _ a) hW (sl_putD _ a 19 _ (by rw [show vs 13 = _ from hp 13 (Nat.le_of_ble_eq_true (by kernel_rfl))]; kernel_rfl))
-- END ssa1N
-- REG ssa2
set_option maxRecDepth 100000 in
set_option maxHeartbeats 2000000 in
theorem ssa_r2 {Q : Exit → Act → World → Prop} {a : Act} {w : World}  (hsz : a.tmps.size = 38) 
    (hend : ∀ (a' : Act), Same a a' [4] → Sl a' 4 (.bool false) → Q .normal a' (w)) : (Code.region 2 (opsOf 2 Tryd.f23).toArray false).wp Tryd.prog Q a w := by
  refine wp_region_lit (l := (opsOf 2 Tryd.f23)) ?_
  conv => arg 4; whnf
  go_wp2_with fail
  try simp only [Act.put]
  exact hend _ (by repeat (first | (with_reducible refine same_set (by decide) ?_) | (with_reducible exact same_nil))) (by unfold Sl; first | (simp [hsz]; done) | (simp [hsz]; omega))
-- END ssa2
-- REG ssa7
set_option maxRecDepth 100000 in
set_option maxHeartbeats 2000000 in
theorem ssa_r7 {Q : Exit → Act → World → Prop} {a : Act} {w : World}  (hsz : a.tmps.size = 38) 
    (hend : ∀ (a' : Act), Same a a' [4] → Sl a' 4 (.bool false) → Q .normal a' (w)) : (Code.region 7 (opsOf 7 Tryd.f23).toArray false).wp Tryd.prog Q a w := by
  refine wp_region_lit (l := (opsOf 7 Tryd.f23)) ?_
  conv => arg 4; whnf
  go_wp2_with fail
  try simp only [Act.put]
  exact hend _ (by repeat (first | (with_reducible refine same_set (by decide) ?_) | (with_reducible exact same_nil))) (by unfold Sl; first | (simp [hsz]; done) | (simp [hsz]; omega))
-- END ssa7
-- REG ssa8
set_option maxRecDepth 100000 in
set_option maxHeartbeats 2000000 in
theorem ssa_r8 {Q : Exit → Act → World → Prop} {a : Act} {w : World}  (hsz : a.tmps.size = 38) 
    (hend : ∀ (a' : Act), Same a a' [4] → Sl a' 4 (.bool true) → Q .normal a' (w)) : (Code.region 8 (opsOf 8 Tryd.f23).toArray false).wp Tryd.prog Q a w := by
  refine wp_region_lit (l := (opsOf 8 Tryd.f23)) ?_
  conv => arg 4; whnf
  go_wp2_with fail
  try simp only [Act.put]
  exact hend _ (by repeat (first | (with_reducible refine same_set (by decide) ?_) | (with_reducible exact same_nil))) (by unfold Sl; first | (simp [hsz]; done) | (simp [hsz]; omega))
-- END ssa8
-- REG ssa3
set_option maxRecDepth 100000 in
set_option maxHeartbeats 2000000 in
theorem ssa_r3 {Q : Exit → Act → World → Prop} {a : Act} {w : World}  (hsz : a.tmps.size = 38) 
    (hend : ∀ (a' : Act), Same a a' [5] → Sl a' 5 (.int .i64 ((0 : Nat) : Int)) → Q .normal a' (w)) : (Code.region 3 (opsOf 3 Tryd.f23).toArray false).wp Tryd.prog Q a w := by
  refine wp_region_lit (l := (opsOf 3 Tryd.f23)) ?_
  conv => arg 4; whnf
  go_wp2_with fail
  try simp only [Act.put]
  exact hend _ (by repeat (first | (with_reducible refine same_set (by decide) ?_) | (with_reducible exact same_nil))) (by unfold Sl; first | (simp [hsz]; done) | (simp [hsz]; omega))
-- END ssa3
-- REG ssa4
set_option maxRecDepth 100000 in
set_option maxHeartbeats 2000000 in
theorem ssa_r4 {Q : Exit → Act → World → Prop} {a : Act} {w : World} (z : Int) (h : List UInt8) (hh : h.length = 32) (A : Option Addr) (n c g2 k : Nat) (hb2 : Blk w g2 36 (ntA z h (.slice A n c))) (hsz : a.tmps.size = 38) (o2 : Sl a 2 (.pointer (some ⟨g2, 0, none⟩))) (o5 : Sl a 5 (.int .i64 ((k : Nat) : Int)))
    (hend : ∀ (a' : Act), Same a a' [20, 21, 22, 23, 24] → Sl a' 24 (.bool (decide (k < n))) → Q .normal a' (w)) : (Code.region 4 (opsOf 4 Tryd.f23).toArray false).wp Tryd.prog Q a w := by
  refine wp_region_lit (l := (opsOf 4 Tryd.f23)) ?_
  conv => arg 4; whnf
  unfold Sl at o2 o5
  have c33 : w.cell? ⟨g2, 33, none⟩ = some (.slice A n c) := by rw [hb2.cell]; exact ntA_sigs hh
  go_wp2_with fail
  try simp only [Act.put]
  exact hend _ (by repeat (first | (with_reducible refine same_set (by decide) ?_) | (with_reducible exact same_nil))) (by unfold Sl; first | (simp [hsz]; done) | (simp [hsz]; omega))
-- END ssa4
-- REG ssa6
set_option maxRecDepth 100000 in
set_option maxHeartbeats 2000000 in
theorem ssa_r6 {Q : Exit → Act → World → Prop} {a : Act} {w : World} (z y : Int) (h g : List UInt8) (hh : h.length = 32) (hg : g.length = 32) (a2 a3 : Addr) (n c m e k : Nat) (hk : k < n) (hkm : k < m) (g2 g3 : Nat) (hb2 : Blk w.drew g2 36 (ntA z h (.slice (some a2) n c))) (hb3 : Blk w.drew g3 36 (ntA y g (.slice (some a3) m e))) (s t : SigD) (hs : s.2.length = 32) (ht : t.2.length = 32) (hc2 : ∀ V, Kp [] w.drew V → ∀ j u, (sgA s).toList[j]? = some u → V.cell? ((a2.add (k * 33)).add j) = some u) (hc3 : ∀ V, Kp [] w.drew V → ∀ j u, (sgA t).toList[j]? = some u → V.cell? ((a3.add (k * 33)).add j) = some u) (hsz : a.tmps.size = 38) (o2 : Sl a 2 (.pointer (some ⟨g2, 0, none⟩))) (o3 : Sl a 3 (.pointer (some ⟨g3, 0, none⟩))) (o5 : Sl a 5 (.int .i64 ((k : Nat) : Int)))
    (hend : ∀ (a' : Act) (W : World), Same a a' [27, 28, 29, 30, 31, 32, 33, 34, 35, 36, 37] → Kp [] w.drew W → Sl a' 37 (.bool (!((s.1 == t.1) && (s.2 == t.2)))) → Q .normal a' W) : (Code.region 6 (opsOf 6 Tryd.f23).toArray true).wp Tryd.prog Q a w := by
  have hap : apartB (opsOf 6 Tryd.f23) = true := by kernel_rfl
  refine wp_region_inv (l := (opsOf 6 Tryd.f23)) (fun i v W => match i with | 0 => v = .pointer (some ⟨g2, 33, none⟩) | 1 => v = .slice (some a2) n c | 2 => v = .int .i64 ((k : Nat) : Int) | 3 => v = .pointer (some (a2.add (k * 33))) | 4 => v = .agg (sgA s) | 5 => v = .pointer (some ⟨g3, 33, none⟩) | 6 => v = .slice (some a3) m e | 7 => v = .int .i64 ((k : Nat) : Int) | 8 => v = .pointer (some (a3.add (k * 33))) | 9 => v = .agg (sgA t) | 10 => v = .bool (!((s.1 == t.1) && (s.2 == t.2))) | _ => True) (by kernel_rfl) hap (by kernel_rfl) ?_ ?_ ?_
  · intro i v W W' h _
    iterate 11 (rcases i with _ | i; · exact h)
    exact h
  · refine ⟨?_, ?_, ?_, ?_, ?_, ?_, ?_, ?_, ?_, ?_, ?_, trivial⟩
    · intro vs A' W hA hW hd K hK
      have e2 : A'.tmps[2]?.getD undef = .pointer (some ⟨g2, 0, none⟩) := slot_out hA hap (Nat.lt_of_lt_of_eq (Nat.le_of_ble_eq_true rfl : 2 < 38) hsz.symm) (by kernel_rfl) o2
      clear hA hd o2 o3 o5
      go_step
      exact hK _ _ (Kp.refl _ _) rfl
    · intro vs A' W hA hW hd K hK
      have f0 : vs 0 = .pointer (some ⟨g2, 33, none⟩) := hd 0 (by kernel_rfl)
      have e27 : A'.tmps[27]?.getD undef = vs 0 := slot_in hA hap (Nat.lt_of_lt_of_eq (Nat.le_of_ble_eq_true rfl : 27 < 38) hsz.symm) (by kernel_rfl)
      rw [f0] at e27
      clear hA hd o2 o3 o5
      have c0 : W.cell? ⟨g2, 33, none⟩ = some (.slice (some a2) n c) := by rw [(hb2.kp hW (by simp)).cell]; exact ntA_sigs hh
      go_step
      exact hK _ _ (Kp.refl _ _) rfl
    · intro vs A' W hA hW hd K hK
      have e5 : A'.tmps[5]?.getD undef = .int .i64 ((k : Nat) : Int) := slot_out hA hap (Nat.lt_of_lt_of_eq (Nat.le_of_ble_eq_true rfl : 5 < 38) hsz.symm) (by kernel_rfl) o5
      clear hA hd o2 o3 o5
      go_step
      exact hK _ _ (Kp.refl _ _) rfl
    · intro vs A' W hA hW hd K hK
      have f1 : vs 1 = .slice (some a2) n c := hd 1 (by kernel_rfl)
      have e28 : A'.tmps[28]?.getD undef = vs 1 := slot_in hA hap (Nat.lt_of_lt_of_eq (Nat.le_of_ble_eq_true rfl : 28 < 38) hsz.symm) (by kernel_rfl)
      rw [f1] at e28
      have f2 : vs 2 = .int .i64 ((k : Nat) : Int) := hd 2 (by kernel_rfl)
      have e29 : A'.tmps[29]?.getD undef = vs 2 := slot_in hA hap (Nat.lt_of_lt_of_eq (Nat.le_of_ble_eq_true rfl : 29 < 38) hsz.symm) (by kernel_rfl)
      rw [f2] at e29
      clear hA hd o2 o3 o5
      have h0 : 0 ≤ (k : Int) := by omega
      have h1 : (k : Int) < (n : Int) := by omega
      go_step
      exact hK _ _ (Kp.refl _ _) rfl
    · intro vs A' W hA hW hd K hK
      have f3 : vs 3 = .pointer (some (a2.add (k * 33))) := hd 3 (by kernel_rfl)
      have e30 : A'.tmps[30]?.getD undef = vs 3 := slot_in hA hap (Nat.lt_of_lt_of_eq (Nat.le_of_ble_eq_true rfl : 30 < 38) hsz.symm) (by kernel_rfl)
      rw [f3] at e30
      clear hA hd o2 o3 o5
      refine op_runs (v := .agg (sgA s)) (w' := W) (exec_load rfl (by simpa [Act.eval] using e30) (run_loadAt_agg W (a2.add (k * 33)) 81 (sgA s).toList _ (hc2 _ hW) Tryd.underlying81 rfl (by rw [Array.length_toList, sgA_size hs]; exact Tryd.infoSig))) ?_
      exact hK _ _ (Kp.refl _ _) rfl
    · intro vs A' W hA hW hd K hK
      have e3 : A'.tmps[3]?.getD undef = .pointer (some ⟨g3, 0, none⟩) := slot_out hA hap (Nat.lt_of_lt_of_eq (Nat.le_of_ble_eq_true rfl : 3 < 38) hsz.symm) (by kernel_rfl) o3
      clear hA hd o2 o3 o5
      go_step
      exact hK _ _ (Kp.refl _ _) rfl
    · intro vs A' W hA hW hd K hK
      have f5 : vs 5 = .pointer (some ⟨g3, 33, none⟩) := hd 5 (by kernel_rfl)
      have e32 : A'.tmps[32]?.getD undef = vs 5 := slot_in hA hap (Nat.lt_of_lt_of_eq (Nat.le_of_ble_eq_true rfl : 32 < 38) hsz.symm) (by kernel_rfl)
      rw [f5] at e32
      clear hA hd o2 o3 o5
      have c0 : W.cell? ⟨g3, 33, none⟩ = some (.slice (some a3) m e) := by rw [(hb3.kp hW (by simp)).cell]; exact ntA_sigs hg
      go_step
      exact hK _ _ (Kp.refl _ _) rfl
    · intro vs A' W hA hW hd K hK
      have e5 : A'.tmps[5]?.getD undef = .int .i64 ((k : Nat) : Int) := slot_out hA hap (Nat.lt_of_lt_of_eq (Nat.le_of_ble_eq_true rfl : 5 < 38) hsz.symm) (by kernel_rfl) o5
      clear hA hd o2 o3 o5
      go_step
      exact hK _ _ (Kp.refl _ _) rfl
    · intro vs A' W hA hW hd K hK
      have f6 : vs 6 = .slice (some a3) m e := hd 6 (by kernel_rfl)
      have e33 : A'.tmps[33]?.getD undef = vs 6 := slot_in hA hap (Nat.lt_of_lt_of_eq (Nat.le_of_ble_eq_true rfl : 33 < 38) hsz.symm) (by kernel_rfl)
      rw [f6] at e33
      have f7 : vs 7 = .int .i64 ((k : Nat) : Int) := hd 7 (by kernel_rfl)
      have e34 : A'.tmps[34]?.getD undef = vs 7 := slot_in hA hap (Nat.lt_of_lt_of_eq (Nat.le_of_ble_eq_true rfl : 34 < 38) hsz.symm) (by kernel_rfl)
      rw [f7] at e34
      clear hA hd o2 o3 o5
      have h0 : 0 ≤ (k : Int) := by omega
      have h1 : (k : Int) < (m : Int) := by omega
      go_step
      exact hK _ _ (Kp.refl _ _) rfl
    · intro vs A' W hA hW hd K hK
      have f8 : vs 8 = .pointer (some (a3.add (k * 33))) := hd 8 (by kernel_rfl)
      have e35 : A'.tmps[35]?.getD undef = vs 8 := slot_in hA hap (Nat.lt_of_lt_of_eq (Nat.le_of_ble_eq_true rfl : 35 < 38) hsz.symm) (by kernel_rfl)
      rw [f8] at e35
      clear hA hd o2 o3 o5
      refine op_runs (v := .agg (sgA t)) (w' := W) (exec_load rfl (by simpa [Act.eval] using e35) (run_loadAt_agg W (a3.add (k * 33)) 81 (sgA t).toList _ (hc3 _ hW) Tryd.underlying81 rfl (by rw [Array.length_toList, sgA_size ht]; exact Tryd.infoSig))) ?_
      exact hK _ _ (Kp.refl _ _) rfl
    · intro vs A' W hA hW hd K hK
      have f4 : vs 4 = .agg (sgA s) := hd 4 (by kernel_rfl)
      have e31 : A'.tmps[31]?.getD undef = vs 4 := slot_in hA hap (Nat.lt_of_lt_of_eq (Nat.le_of_ble_eq_true rfl : 31 < 38) hsz.symm) (by kernel_rfl)
      rw [f4] at e31
      have f9 : vs 9 = .agg (sgA t) := hd 9 (by kernel_rfl)
      have e36 : A'.tmps[36]?.getD undef = vs 9 := slot_in hA hap (Nat.lt_of_lt_of_eq (Nat.le_of_ble_eq_true rfl : 36 < 38) hsz.symm) (by kernel_rfl)
      rw [f9] at e36
      clear hA hd o2 o3 o5
      refine op_runs (v := .bool (!((s.1 == t.1) && (s.2 == t.2)))) (w' := W) (exec_bin_agg rfl (by simpa [Act.eval] using e31) (by simpa [Act.eval] using e36) Tryd.eqGuardType81 (neq_sg W s t hs ht)) ?_
      exact hK _ _ (Kp.refl _ _) rfl
  · intro vs W hW hp
    rw [show putAll vs (opsOf 6 Tryd.f23) 0 a = putD [(27, vs 0), (28, vs 1), (29, vs 2), (30, vs 3), (31, vs 4), (32, vs 5), (33, vs 6), (34, vs 7), (35, vs 8), (36, vs 9), (37, vs 10)] a from by kernel_rfl]
    exact hend _ W (same_putD _ a) hW (sl_putD _ a 37 _ (by rw [show vs 10 = _ from hp 10 (Nat.le_of_ble_eq_true (by kernel_rfl))]; kernel_rfl))
-- END ssa6
-- REG ssa5
set_option maxRecDepth 100000 in
set_option maxHeartbeats 2000000 in
theorem ssa_r5 {Q : Exit → Act → World → Prop} {a : Act} {w : World} (k : Nat) (hk : k < 9223372036854775807) (hsz : a.tmps.size = 38) (o5 : Sl a 5 (.int .i64 ((k : Nat) : Int)))
    (hend : ∀ (a' : Act), Same a a' [25, 26, 5] → Sl a' 5 (.int .i64 ((k + 1 : Nat) : Int)) → Q .normal a' (w)) : (Code.region 5 (opsOf 5 Tryd.f23).toArray false).wp Tryd.prog Q a w := by
  refine wp_region_lit (l := (opsOf 5 Tryd.f23)) ?_
  conv => arg 4; whnf
  unfold Sl at o5
  have hw : wrap64 ((k : Int) + 1) = (k : Int) + 1 := by unfold wrap64; omega
  go_wp2_with fail
  try simp only [Act.put]
  exact hend _ (by repeat (first | (with_reducible refine same_set (by decide) ?_) | (with_reducible exact same_nil))) (by unfold Sl; first | (simp [hsz]; done) | (simp [hsz]; omega))
-- END ssa5
-- REG slt0
set_option maxRecDepth 100000 in
set_option maxHeartbeats 2000000 in
theorem slt_r0 {Q : Exit → Act → World → Prop} {a : Act} {w : World} (w0 : World) (ca : Array Value) (L : List Res) (S : Held w0 w L) (hsz : a.tmps.size = 15) (o0 : Sl a 0 (.agg ca))
    (hend : ∀ (a' : Act) (W : World), Same a a' [1, 2] → (∃ g1 g2, Sl a' 1 (.pointer (some ⟨g1, 0, none⟩)) ∧ Sl a' 2 (.pointer (some ⟨g2, 0, none⟩)) ∧ Held w0 W (blkR g2 36 zeroN :: blkR g1 36 ca :: L)) → Q .normal a' W) : (Code.region 0 (opsOf 0 Tryd.f18).toArray false).wp Tryd.prog Q a w := by
  refine wp_region_lit (l := (opsOf 0 Tryd.f18)) ?_
  conv => arg 4; whnf
  unfold Sl at o0
  have S1 := Lib.hid ((S.newBlk 36 ca).newBlkN 36 zeroN (g := w.heap.size + 1) (by simp))
  go_wp2_with fail
  try simp only [Act.put]
  exact hend _ _ (by repeat (first | (with_reducible refine same_set (by decide) ?_) | (with_reducible exact same_nil))) (⟨_, _, (by unfold Sl; simp [hsz]), (by unfold Sl; simp [hsz]), S1.out⟩)
-- END slt0
-- REG slt1
set_option maxRecDepth 100000 in
set_option maxHeartbeats 2000000 in
theorem slt_r1 {Q : Exit → Act → World → Prop} {a : Act} {w : World} (w0 : World) (z : Int) (h : List UInt8) (hh : h.length = 32) (A : Option Addr) (c : Nat) (l : List SigD) (hok : SgOk l) (hll : (l.length + 1) * 48 ≤ 140737488355328) (hv : ∀ V, Kp [] w0 V → Rd V 33 (.slice A l.length c) l.length (sgsC l)) (g1 : Nat) (L : List Res) (hsz : a.tmps.size = 15) (o1 : Sl a 1 (.pointer (some ⟨g1, 0, none⟩)))
    (S0 : Held w0 w (blkR g1 36 (ntA z h (.slice A l.length c)) :: L))
    (hend : ∀ (a' : Act) (vs : Nat → Value) (gs : Nat → Nat) (W : World), Same a a' [3, 4, 5, 6, 7, 8, 9, 10, 11, 12, 13] → Sl a' 12 (vs 9) → (∃ A c, vs 9 = .slice A l.length c) → Held w0 W (blkR (gs 4) 81 (sgA roomS) :: rowR 81 33 (grow1 (vs 9)) (l.length + 1) (sgsC (l ++ [roomS])) :: blkR g1 36 (ntA z h (vs 9)) :: L) → Q .normal a' W) : (Code.region 1 (opsOf 1 Tryd.f18).toArray true).wp Tryd.prog Q a w := by
  have hap : apartB (opsOf 1 Tryd.f18) = true := by kernel_rfl
  refine wp_region_sep (Γ := Nat) (l := (opsOf 1 Tryd.f18)) 2 [0, 1, 3, 4, 6, 7, 8, 9, 10, 11, 13]
    (fun i vs gs => match i with | 0 => vs 0 = .pointer (some ⟨g1, 33, none⟩) | 1 => vs 1 = .slice A l.length c | 3 => vs 3 = .agg (sgA roomS) | 4 => vs 4 = .slice (some ⟨gs 4, 0, none⟩) 1 1 | 6 => vs 6 = .pointer (some ⟨g1, 33, none⟩) | 7 => vs 7 = .slice A l.length c | 8 => vs 8 = .int .i64 ((l.length : Nat) : Int) | 9 => ∃ A c, vs 9 = .slice A l.length c | 10 => vs 10 = .pointer (some ⟨g1, 33, none⟩) | _ => True)
    (fun i vs gs => match i with | 2 => [rowR 81 33 (vs 2) l.length (sgsC l)] | 4 => [blkR (gs 4) 81 (sgA roomS)] | 5 => [rowR 81 33 (vs 5) (l.length + 1) (sgsC (l ++ [roomS]))] | 9 => [rowR 81 33 (grow1 (vs 9)) (l.length + 1) (sgsC (l ++ [roomS]))] | 11 => [blkR g1 36 (ntA z h (vs 9))] | 12 => [blkR g1 36 (ntA z h (.slice A l.length c))] | 13 => L | _ => [])
    (fun i => match i with | 5 => [2] | 9 => [5] | 11 => [12] | _ => []) (fun i => match i with | 1 => [12] | 5 => [4] | 7 => [12] | _ => []) S0 (by kernel_rfl) hap (by kernel_rfl) (by kernel_rfl) (fun i => match i with | 0 => [0] | 1 => [1] | 2 => [2] | 3 => [3] | 4 => [4] | 5 => [5] | 6 => [6] | 7 => [7] | 8 => [8] | 9 => [9] | 10 => [10] | 11 => [9] | _ => []) (by kernel_rfl) ?_ (by kernel_rfl) ?_ ?_ ?_
  · intro s vs vs' gs gs' h
    iterate 14 (rcases s with _ | s; · (first | exact ⟨rfl, id⟩ | (simp only [List.mem_cons, List.not_mem_nil, or_false, forall_eq] at h; simp [h])))
    exact ⟨rfl, id⟩
  · simp only [List.range, List.range.loop, List.flatMap_cons, List.flatMap_nil, List.append_nil]
    exact List.Perm.refl _
  · clear S0 hend
    refine ⟨?_, ?_, ?_, ?_, ?_, ?_, ?_, ?_, ?_, ?_, ?_, ?_, trivial⟩
    · intro vs gs A' W LF hA S hR hd hu K hK
      replace hK := hK default
      have e1 : A'.tmps[1]?.getD undef = .pointer (some ⟨g1, 0, none⟩) := slot_out hA hap (Nat.lt_of_lt_of_eq (Nat.le_of_ble_eq_true rfl : 1 < 15) hsz.symm) (by kernel_rfl) o1
      clear hA o1
      go_step
      exact hK _ _ S rfl
    · intro vs gs A' W LF hA S hR hd hu K hK
      replace hK := hK default
      have f0 : vs 0 = .pointer (some ⟨g1, 33, none⟩) := hd 0 (by kernel_rfl)
      have e3 : A'.tmps[3]?.getD undef = vs 0 := slot_in hA hap (Nat.lt_of_lt_of_eq (Nat.le_of_ble_eq_true rfl : 3 < 15) hsz.symm) (by kernel_rfl)
      rw [f0] at e3
      clear hA o1
      have c33 : W.cell? ⟨g1, 33, none⟩ = some (.slice A l.length c) := by rw [(show Blk W g1 36 (ntA z h (.slice A l.length c)) from S.ok (blkR g1 36 (ntA z h (.slice A l.length c))) (hR 12 (List.mem_singleton.2 rfl) _ (List.mem_singleton.2 rfl))).cell]; exact ntA_sigs hh
      go_step
      exact hK _ _ S rfl
    · intro vs gs A' W LF hA S hR hd hu K hK
      replace hK := hK default
      have f1 : vs 1 = .slice A l.length c := hd 1 (by kernel_rfl)
      have e4 : A'.tmps[4]?.getD undef = vs 1 := slot_in hA hap (Nat.lt_of_lt_of_eq (Nat.le_of_ble_eq_true rfl : 4 < 15) hsz.symm) (by kernel_rfl)
      rw [f1] at e4
      clear hA o1
      exact op_app_nil (.const (.slice none 0 0)) (.tmp 4) 34 81 rfl Tryd.infoSigZ Tryd.underlying34 rfl (by decide) rfl S (.slice A l.length c) l.length (sgsC l) (by simpa [Act.eval] using e4) (hv _ S.k) (sgsC_one _) (by unfold maxLen; omega) (by omega) (fun v' w' S' => hK v' w' S' trivial)
    · intro vs gs A' W LF hA S hR hd hu K hK
      replace hK := hK default
      clear hA o1
      refine op_build 81 _ rfl [(0, .string ⟨#[114, 111, 111, 109]⟩)] (by simp [Act.eval]) _ Tryd.built_room ?_
      exact hK _ _ S rfl
    · intro vs gs A' W LF hA S hR hd hu K hK
      have f3 : vs 3 = .agg (sgA roomS) := hd 3 (by kernel_rfl)
      have e6 : A'.tmps[6]?.getD undef = vs 3 := slot_in hA hap (Nat.lt_of_lt_of_eq (Nat.le_of_ble_eq_true rfl : 6 < 15) hsz.symm) (by kernel_rfl)
      rw [f3] at e6
      clear hA o1
      refine op_sigs1 (.tmp 6) rfl (sgA roomS) (sgA_size rfl) (by simpa [Act.eval] using e6) ?_
      exact hK W.heap.size _ _ (S.newBlk _ _) rfl
    · intro vs gs A' W LF hA S hR hd hu K hK
      replace hK := hK default
      have e5 : A'.tmps[5]?.getD undef = vs 2 := slot_in hA hap (Nat.lt_of_lt_of_eq (Nat.le_of_ble_eq_true rfl : 5 < 15) hsz.symm) (by kernel_rfl)
      have f4 : vs 4 = .slice (some ⟨gs 4, 0, none⟩) 1 1 := hd 4 (by kernel_rfl)
      have e7 : A'.tmps[7]?.getD undef = vs 4 := slot_in hA hap (Nat.lt_of_lt_of_eq (Nat.le_of_ble_eq_true rfl : 7 < 15) hsz.symm) (by kernel_rfl)
      rw [f4] at e7
      clear hA o1
      refine op_app (.tmp 5) (.tmp 7) 34 81 rfl Tryd.infoSigZ Tryd.underlying34 rfl (by decide) (vs 2) l.length (sgsC l) (by simpa [Act.eval] using e5) S (.slice (some ⟨gs 4, 0, none⟩) 1 1) 1 (sgA roomS).toList (by simpa [Act.eval] using e7) (rd_sig1 (show Blk W (gs 4) 81 (sgA roomS) from S.ok (blkR (gs 4) 81 (sgA roomS)) (List.mem_cons_of_mem _ (hR 4 (List.mem_singleton.2 rfl) _ (List.mem_singleton.2 rfl)))) rfl) (sgA_one _) (by unfold maxLen; omega) (by omega) (fun v' w' S' => hK v' w' (by rw [sgsC_append, show sgsC [roomS] = (sgA roomS).toList from by simp [sgsC, sgA]]; exact S') trivial)
    · intro vs gs A' W LF hA S hR hd hu K hK
      replace hK := hK default
      have e1 : A'.tmps[1]?.getD undef = .pointer (some ⟨g1, 0, none⟩) := slot_out hA hap (Nat.lt_of_lt_of_eq (Nat.le_of_ble_eq_true rfl : 1 < 15) hsz.symm) (by kernel_rfl) o1
      clear hA o1
      go_step
      exact hK _ _ S rfl
    · intro vs gs A' W LF hA S hR hd hu K hK
      replace hK := hK default
      have f6 : vs 6 = .pointer (some ⟨g1, 33, none⟩) := hd 6 (by kernel_rfl)
      have e9 : A'.tmps[9]?.getD undef = vs 6 := slot_in hA hap (Nat.lt_of_lt_of_eq (Nat.le_of_ble_eq_true rfl : 9 < 15) hsz.symm) (by kernel_rfl)
      rw [f6] at e9
      clear hA o1
      have c33 : W.cell? ⟨g1, 33, none⟩ = some (.slice A l.length c) := by rw [(show Blk W g1 36 (ntA z h (.slice A l.length c)) from S.ok (blkR g1 36 (ntA z h (.slice A l.length c))) (hR 12 (List.mem_singleton.2 rfl) _ (List.mem_singleton.2 rfl))).cell]; exact ntA_sigs hh
      go_step
      exact hK _ _ S rfl
    · intro vs gs A' W LF hA S hR hd hu K hK
      replace hK := hK default
      have f7 : vs 7 = .slice A l.length c := hd 7 (by kernel_rfl)
      have e10 : A'.tmps[10]?.getD undef = vs 7 := slot_in hA hap (Nat.lt_of_lt_of_eq (Nat.le_of_ble_eq_true rfl : 10 < 15) hsz.symm) (by kernel_rfl)
      rw [f7] at e10
      clear hA o1
      go_step
      exact hK _ _ S rfl
    · intro vs gs A' W LF hA S hR hd hu K hK
      replace hK := hK default
      have e8 : A'.tmps[8]?.getD undef = vs 5 := slot_in hA hap (Nat.lt_of_lt_of_eq (Nat.le_of_ble_eq_true rfl : 8 < 15) hsz.symm) (by kernel_rfl)
      have f8 : vs 8 = .int .i64 ((l.length : Nat) : Int) := hd 8 (by kernel_rfl)
      have e11 : A'.tmps[11]?.getD undef = vs 8 := slot_in hA hap (Nat.lt_of_lt_of_eq (Nat.le_of_ble_eq_true rfl : 11 < 15) hsz.symm) (by kernel_rfl)
      rw [f8] at e11
      clear hA o1
      have S1 : Held w0 W (rowR 81 33 (vs 5) (l.length + 1) (sgsC (l ++ [roomS])) :: LF) := S
      obtain ⟨A7, c7, h7, h7a, h7b⟩ := ow_form (S1.at_ (l1 := []))
      clear S1
      rw [h7] at e8
      have q := fun w => cut_hiS A7 (l.length + 1) c7 l.length (by omega) w
      go_step
      refine hK _ _ ?_ ⟨A7, c7, rfl⟩
      have S2 : Held w0 W (rowR 81 33 (vs 5) (l.length + 1) (sgsC (l ++ [roomS])) :: LF) := S
      rw [h7] at S2
      exact S2
    · intro vs gs A' W LF hA S hR hd hu K hK
      replace hK := hK default
      have e1 : A'.tmps[1]?.getD undef = .pointer (some ⟨g1, 0, none⟩) := slot_out hA hap (Nat.lt_of_lt_of_eq (Nat.le_of_ble_eq_true rfl : 1 < 15) hsz.symm) (by kernel_rfl) o1
      clear hA o1
      go_step
      exact hK _ _ S rfl
    · intro vs gs A' W LF hA S hR hd hu K hK
      replace hK := hK default
      have f10 : vs 10 = .pointer (some ⟨g1, 33, none⟩) := hd 10 (by kernel_rfl)
      have e13 : A'.tmps[13]?.getD undef = vs 10 := slot_in hA hap (Nat.lt_of_lt_of_eq (Nat.le_of_ble_eq_true rfl : 13 < 15) hsz.symm) (by kernel_rfl)
      rw [f10] at e13
      have f9 : ∃ A c, vs 9 = .slice A l.length c := hd 9 (by kernel_rfl)
      have e12 : A'.tmps[12]?.getD undef = vs 9 := slot_in hA hap (Nat.lt_of_lt_of_eq (Nat.le_of_ble_eq_true rfl : 12 < 15) hsz.symm) (by kernel_rfl)
      clear hA o1
      obtain ⟨A1, c1, hq⟩ := f9
      rw [hq] at e12
      have S1 : Held w0 W (blkR g1 36 (ntA z h (.slice A l.length c)) :: LF) := S
      have S2 := S1.set (l1 := []) 33 (.slice A1 l.length c1)
      rw [ntA_setSigs hh, show ntA z h (.slice A1 l.length c1) = ntA z h (vs 9) from by rw [hq]] at S2
      have c33 : W.cell? ⟨g1, 33, none⟩ = some (.slice A l.length c) := by rw [(S1.at_ (l1 := [])).cell]; exact ntA_sigs hh
      have f33 := (show Blk W g1 _ _ from S1.at_ (l1 := [])).frozen 33
      go_step
      exact hK undef _ S2 trivial
  · intro vs gs W S hp
    have S : Held w0 W (blkR (gs 4) 81 (sgA roomS) :: rowR 81 33 (grow1 (vs 9)) (l.length + 1) (sgsC (l ++ [roomS])) :: blkR g1 36 (ntA z h (vs 9)) :: L) := by simpa only [List.flatMap_cons, List.flatMap_nil, List.append_nil, List.nil_append, List.cons_append, List.append_assoc] using S
    rw [show putAll vs (opsOf 1 Tryd.f18) 0 a = putD [(3, vs 0), (4, vs 1), (5, vs 2), (6, vs 3), (7, vs 4), (8, vs 5), (9, vs 6), (10, vs 7), (11, vs 8), (12, vs 9), (13, vs 10)] a from by kernel_rfl]
    exact hend _ vs gs W (same_putD _ a) (sl_putD _ a 12 _ (by kernel_rfl)) (hp 9 (Nat.le_of_ble_eq_true (by kernel_rfl))) S
-- END slt1
-- REG slt2
set_option maxRecDepth 100000 in
set_option maxHeartbeats 2000000 in
theorem slt_r2 {Q : Exit → Act → World → Prop} {a : Act} {w : World} (w0 : World) (g1 g2 : Nat) (cn : Array Value) (hcn : cn.size = 34) (h1 : ∀ u, u ∈ cn.toList → u.oneCell' = true) (L : List Res) (S : Held w0 w (blkR g2 36 zeroN :: blkR g1 36 cn :: L)) (hsz : a.tmps.size = 15) (o1 : Sl a 1 (.pointer (some ⟨g1, 0, none⟩))) (o2 : Sl a 2 (.pointer (some ⟨g2, 0, none⟩)))
    (hend : ∀ (a' : Act) (W : World), Same a a' [14] → (Held w0 W (blkR g2 36 cn :: blkR g1 36 cn :: L)) → Q .normal a' W) : (Code.region 2 (opsOf 2 Tryd.f18).toArray false).wp Tryd.prog Q a w := by
  refine wp_region_lit (l := (opsOf 2 Tryd.f18)) ?_
  conv => arg 4; whnf
  unfold Sl at o1 o2
  have S1 := Lib.hid S
  clear S
  have hz2 := Lib.hid hcn
  have HO := Lib.hid h1
  clear hcn h1
  go_wp2_with (first
    | (refine wpList_load_blk rfl 36 (.tmp 1) rfl g1 (by simp [Act.eval, Act.put, hsz, o1]) 36 _ (S1.out.at_ (l1 := [_])) _ Tryd.underlying36 rfl (by rw [hz2.out]; exact Tryd.infoNote) ?_)
    | (refine wpList_store_blk rfl 36 (.tmp 2) (.tmp 14) rfl g2 (by simp [Act.eval, Act.put, hsz, o2]) cn (by simp [Act.eval, Act.put, hsz]) 36 _ (S1.out.at_ (l1 := [])) (by rw [hz2.out]; exact Tryd.infoNote) (by rw [hz2.out]; rfl) HO.out ?_; intro w7 b7 k7; have S7 := Lib.hid (Held.setBlk (l1 := []) S1.out b7 k7); clear b7 k7))
  try simp only [Act.put]
  exact hend _ _ (by repeat (first | (with_reducible refine same_set (by decide) ?_) | (with_reducible exact same_nil))) (S7.out)
-- END slt2
-- REG slf0
set_option maxRecDepth 100000 in
set_option maxHeartbeats 2000000 in
theorem slf_r0 {Q : Exit → Act → World → Prop} {a : Act} {w : World} (w0 : World) (ca cb : Array Value) (L : List Res) (S : Held w0 w L) (hsz : a.tmps.size = 24) (o0 : Sl a 0 (.agg ca)) (o1 : Sl a 1 (.agg cb))
    (hend : ∀ (a' : Act) (W : World), Same a a' [2, 3, 4] → Sl a' 4 (.bool false) → (∃ g2 g3, Sl a' 2 (.pointer (some ⟨g2, 0, none⟩)) ∧ Sl a' 3 (.pointer (some ⟨g3, 0, none⟩)) ∧ Held w0 W (blkR g3 36 cb :: blkR g2 36 ca :: L)) → Q .normal a' W) : (Code.region 0 (opsOf 0 Tryd.f33).toArray false).wp Tryd.prog Q a w := by
  refine wp_region_lit (l := (opsOf 0 Tryd.f33)) ?_
  conv => arg 4; whnf
  unfold Sl at o0 o1
  have S1 := Lib.hid ((S.newBlk 36 ca).newBlkN 36 cb (g := w.heap.size + 1) (by simp))
  go_wp2_with fail
  try simp only [Act.put]
  exact hend _ _ (by repeat (first | (with_reducible refine same_set (by decide) ?_) | (with_reducible exact same_nil))) (by unfold Sl; first | (simp [hsz]; done) | (simp [hsz]; omega)) (⟨_, _, (by unfold Sl; simp [hsz]), (by unfold Sl; simp [hsz]), S1.out⟩)
-- END slf0
-- REG slf1
set_option maxRecDepth 100000 in
set_option maxHeartbeats 2000000 in
theorem slf_r1 {Q : Exit → Act → World → Prop} {a : Act} {w : World} (z : Int) (h : List UInt8) (hh : h.length = 32) (A : Option Addr) (c : Nat) (l : List SigD) (hll : (l.length + 1) * 48 ≤ 140737488355328) (g2 g3 gr cr : Nat) (hcr : l.length + 1 ≤ cr) (hb2 : Blk w.drew g2 36 (ntA z h (.slice (some ⟨gr, 0, none⟩) l.length cr))) (hb3 : Blk w.drew g3 36 (ntA z h (.slice A l.length c))) (hrm : w.drew.cell? ⟨gr, l.length * 33, none⟩ = some (.string ⟨#[114, 111, 111, 109]⟩)) (hS : ∀ V, Kp [] w.drew V → Calls Tryd.prog 23 #[.agg (ntA z h (.slice (some ⟨gr, 0, none⟩) l.length cr)), .agg (ntA z h (.slice A l.length c))] V fun e w' => e = .returned (.bool true) ∧ Kp [] V w') (hsz : a.tmps.size = 24) (o2 : Sl a 2 (.pointer (some ⟨g2, 0, none⟩))) (o3 : Sl a 3 (.pointer (some ⟨g3, 0, none⟩)))
    (hend : ∀ (a' : Act) (W : World), Same a a' [5, 6, 7, 8, 9, 10, 11, 12, 13, 14, 15, 16, 17, 18, 19, 20, 21, 22, 23, 4] → Kp [] w.drew W → Sl a' 4 (.bool true) → Q .normal a' W) : (Code.region 1 (opsOf 1 Tryd.f33).toArray true).wp Tryd.prog Q a w := by
  have hap : apartB (opsOf 1 Tryd.f33) = true := by kernel_rfl
  refine wp_region_invG (l := (opsOf 1 Tryd.f33)) (fun i v W => match i with | 0 => v = .agg (ntA z h (.slice (some ⟨gr, 0, none⟩) l.length cr)) | 1 => v = .agg (ntA z h (.slice A l.length c)) | 2 => v = .bool true | 3 => v = .bool true | 4 => v = .pointer (some ⟨g2, 33, none⟩) | 5 => v = .slice (some ⟨gr, 0, none⟩) l.length cr | 6 => v = .pointer (some ⟨g3, 33, none⟩) | 7 => v = .slice A l.length c | 8 => v = .int .i64 (l.length : Int) | 9 => v = .int .i64 ((l.length : Int) + 1) | 10 => v = .slice (some ⟨gr, 0, none⟩) (l.length + 1) cr | 11 => v = .pointer (some ⟨g3, 33, none⟩) | 12 => v = .slice A l.length c | 13 => v = .int .i64 (l.length : Int) | 14 => v = .pointer (some ⟨gr, l.length * 33, none⟩) | 15 => v = .pointer (some ⟨gr, l.length * 33, none⟩) | 16 => v = .string ⟨#[114, 111, 111, 109]⟩ | 17 => v = .bool true | 18 => v = .bool true | 19 => v = .bool true | _ => True) (by kernel_rfl) hap (by kernel_rfl) ?_ ?_ ?_
  · intro i v W W' h _
    iterate 20 (rcases i with _ | i; · exact h)
    exact h
  · refine ⟨?_, ?_, ?_, ?_, ?_, ?_, ?_, ?_, ?_, ?_, ?_, ?_, ?_, ?_, ?_, ?_, ?_, ?_, ?_, ?_, trivial⟩
    · intro vs A' W hA hW hd K hK
      refine wpOp_free _ rfl rfl ?_
      conv => arg 2; whnf
      have e2 : A'.tmps[2]?.getD undef = .pointer (some ⟨g2, 0, none⟩) := slot_out hA hap (Nat.lt_of_lt_of_eq (Nat.le_of_ble_eq_true rfl : 2 < 24) hsz.symm) (by kernel_rfl) o2
      clear hA hd o2 o3
      refine op_runs (v := .agg (ntA z h (.slice (some ⟨gr, 0, none⟩) l.length cr))) (w' := W) (exec_load rfl (by simpa [Act.eval] using e2) (run_loadAt_agg W (⟨g2, 0, none⟩) 36 (ntA z h (.slice (some ⟨gr, 0, none⟩) l.length cr)).toList _ (Blk.agg (hb2.kp hW (by simp))) Tryd.underlying36 rfl (by rw [Array.length_toList, ntA_size hh]; exact Tryd.infoNote))) ?_
      exact hK _ _ (Kp.refl _ _) rfl
    · intro vs A' W hA hW hd K hK
      refine wpOp_free _ rfl rfl ?_
      conv => arg 2; whnf
      have e3 : A'.tmps[3]?.getD undef = .pointer (some ⟨g3, 0, none⟩) := slot_out hA hap (Nat.lt_of_lt_of_eq (Nat.le_of_ble_eq_true rfl : 3 < 24) hsz.symm) (by kernel_rfl) o3
      clear hA hd o2 o3
      refine op_runs (v := .agg (ntA z h (.slice A l.length c))) (w' := W) (exec_load rfl (by simpa [Act.eval] using e3) (run_loadAt_agg W (⟨g3, 0, none⟩) 36 (ntA z h (.slice A l.length c)).toList _ (Blk.agg (hb3.kp hW (by simp))) Tryd.underlying36 rfl (by rw [Array.length_toList, ntA_size hh]; exact Tryd.infoNote))) ?_
      exact hK _ _ (Kp.refl _ _) rfl
    · intro vs A' W hA hW hd K hK
      refine wpOp_free _ rfl rfl ?_
      conv => arg 2; whnf
      have f0 : vs 0 = .agg (ntA z h (.slice (some ⟨gr, 0, none⟩) l.length cr)) := hd 0 (by kernel_rfl)
      have e5 : A'.tmps[5]?.getD undef = vs 0 := slot_in hA hap (Nat.lt_of_lt_of_eq (Nat.le_of_ble_eq_true rfl : 5 < 24) hsz.symm) (by kernel_rfl)
      rw [f0] at e5
      have f1 : vs 1 = .agg (ntA z h (.slice A l.length c)) := hd 1 (by kernel_rfl)
      have e6 : A'.tmps[6]?.getD undef = vs 1 := slot_in hA hap (Nat.lt_of_lt_of_eq (Nat.le_of_ble_eq_true rfl : 6 < 24) hsz.symm) (by kernel_rfl)
      rw [f1] at e6
      clear hA hd o2 o3
      go_step
      refine (hS _ hW).mono ?_
      rintro e w' ⟨rfl, k⟩
      exact hK _ _ k rfl
    · intro vs A' W hA hW hd K hK
      refine wpOp_free _ rfl rfl ?_
      conv => arg 2; whnf
      have f2 : vs 2 = .bool true := hd 2 (by kernel_rfl)
      have e7 : A'.tmps[7]?.getD undef = vs 2 := slot_in hA hap (Nat.lt_of_lt_of_eq (Nat.le_of_ble_eq_true rfl : 7 < 24) hsz.symm) (by kernel_rfl)
      rw [f2] at e7
      clear hA hd o2 o3
      go_step
      exact hK _ _ (Kp.refl _ _) rfl
    · intro vs A' W hA hW hd K hK
      have f3 : vs 3 = .bool true := hd 3 (by kernel_rfl)
      have e8 : A'.tmps[8]?.getD undef = vs 3 := slot_in hA hap (Nat.lt_of_lt_of_eq (Nat.le_of_ble_eq_true rfl : 8 < 24) hsz.symm) (by kernel_rfl)
      rw [f3] at e8
      refine wpOp_go _ rfl 3 8 true rfl rfl e8 ?_
      conv => arg 2; whnf
      have e2 : A'.tmps[2]?.getD undef = .pointer (some ⟨g2, 0, none⟩) := slot_out hA hap (Nat.lt_of_lt_of_eq (Nat.le_of_ble_eq_true rfl : 2 < 24) hsz.symm) (by kernel_rfl) o2
      clear hA hd o2 o3
      go_step
      exact hK _ _ (Kp.refl _ _) rfl
    · intro vs A' W hA hW hd K hK
      have f3 : vs 3 = .bool true := hd 3 (by kernel_rfl)
      have e8 : A'.tmps[8]?.getD undef = vs 3 := slot_in hA hap (Nat.lt_of_lt_of_eq (Nat.le_of_ble_eq_true rfl : 8 < 24) hsz.symm) (by kernel_rfl)
      rw [f3] at e8
      refine wpOp_go _ rfl 3 8 true rfl rfl e8 ?_
      conv => arg 2; whnf
      have f4 : vs 4 = .pointer (some ⟨g2, 33, none⟩) := hd 4 (by kernel_rfl)
      have e9 : A'.tmps[9]?.getD undef = vs 4 := slot_in hA hap (Nat.lt_of_lt_of_eq (Nat.le_of_ble_eq_true rfl : 9 < 24) hsz.symm) (by kernel_rfl)
      rw [f4] at e9
      clear hA hd o2 o3
      have c0 : W.cell? ⟨g2, 33, none⟩ = some (.slice (some ⟨gr, 0, none⟩) l.length cr) := by rw [(hb2.kp hW (by simp)).cell]; exact ntA_sigs hh
      go_step
      exact hK _ _ (Kp.refl _ _) rfl
    · intro vs A' W hA hW hd K hK
      have f3 : vs 3 = .bool true := hd 3 (by kernel_rfl)
      have e8 : A'.tmps[8]?.getD undef = vs 3 := slot_in hA hap (Nat.lt_of_lt_of_eq (Nat.le_of_ble_eq_true rfl : 8 < 24) hsz.symm) (by kernel_rfl)
      rw [f3] at e8
      refine wpOp_go _ rfl 3 8 true rfl rfl e8 ?_
      conv => arg 2; whnf
      have e3 : A'.tmps[3]?.getD undef = .pointer (some ⟨g3, 0, none⟩) := slot_out hA hap (Nat.lt_of_lt_of_eq (Nat.le_of_ble_eq_true rfl : 3 < 24) hsz.symm) (by kernel_rfl) o3
      clear hA hd o2 o3
      go_step
      exact hK _ _ (Kp.refl _ _) rfl
    · intro vs A' W hA hW hd K hK
      have f3 : vs 3 = .bool true := hd 3 (by kernel_rfl)
      have e8 : A'.tmps[8]?.getD undef = vs 3 := slot_in hA hap (Nat.lt_of_lt_of_eq (Nat.le_of_ble_eq_true rfl : 8 < 24) hsz.symm) (by kernel_rfl)
      rw [f3] at e8
      refine wpOp_go _ rfl 3 8 true rfl rfl e8 ?_
      conv => arg 2; whnf
      have f6 : vs 6 = .pointer (some ⟨g3, 33, none⟩) := hd 6 (by kernel_rfl)
      have e11 : A'.tmps[11]?.getD undef = vs 6 := slot_in hA hap (Nat.lt_of_lt_of_eq (Nat.le_of_ble_eq_true rfl : 11 < 24) hsz.symm) (by kernel_rfl)
      rw [f6] at e11
      clear hA hd o2 o3
      have c0 : W.cell? ⟨g3, 33, none⟩ = some (.slice A l.length c) := by rw [(hb3.kp hW (by simp)).cell]; exact ntA_sigs hh
      go_step
      exact hK _ _ (Kp.refl _ _) rfl
    · intro vs A' W hA hW hd K hK
      have f3 : vs 3 = .bool true := hd 3 (by kernel_rfl)
      have e8 : A'.tmps[8]?.getD undef = vs 3 := slot_in hA hap (Nat.lt_of_lt_of_eq (Nat.le_of_ble_eq_true rfl : 8 < 24) hsz.symm) (by kernel_rfl)
      rw [f3] at e8
      refine wpOp_go _ rfl 3 8 true rfl rfl e8 ?_
      conv => arg 2; whnf
      have f7 : vs 7 = .slice A l.length c := hd 7 (by kernel_rfl)
      have e12 : A'.tmps[12]?.getD undef = vs 7 := slot_in hA hap (Nat.lt_of_lt_of_eq (Nat.le_of_ble_eq_true rfl : 12 < 24) hsz.symm) (by kernel_rfl)
      rw [f7] at e12
      clear hA hd o2 o3
      go_step
      exact hK _ _ (Kp.refl _ _) rfl
    · intro vs A' W hA hW hd K hK
      have f3 : vs 3 = .bool true := hd 3 (by kernel_rfl)
      have e8 : A'.tmps[8]?.getD undef = vs 3 := slot_in hA hap (Nat.lt_of_lt_of_eq (Nat.le_of_ble_eq_true rfl : 8 < 24) hsz.symm) (by kernel_rfl)
      rw [f3] at e8
      refine wpOp_go _ rfl 3 8 true rfl rfl e8 ?_
      conv => arg 2; whnf
      have f8 : vs 8 = .int .i64 (l.length : Int) := hd 8 (by kernel_rfl)
      have e13 : A'.tmps[13]?.getD undef = vs 8 := slot_in hA hap (Nat.lt_of_lt_of_eq (Nat.le_of_ble_eq_true rfl : 13 < 24) hsz.symm) (by kernel_rfl)
      rw [f8] at e13
      clear hA hd o2 o3
      have hw : wrap64 ((l.length : Int) + 1) = (l.length : Int) + 1 := by unfold wrap64; omega
      go_step
      exact hK _ _ (Kp.refl _ _) rfl
    · intro vs A' W hA hW hd K hK
      have f3 : vs 3 = .bool true := hd 3 (by kernel_rfl)
      have e8 : A'.tmps[8]?.getD undef = vs 3 := slot_in hA hap (Nat.lt_of_lt_of_eq (Nat.le_of_ble_eq_true rfl : 8 < 24) hsz.symm) (by kernel_rfl)
      rw [f3] at e8
      refine wpOp_go _ rfl 3 8 true rfl rfl e8 ?_
      conv => arg 2; whnf
      have f5 : vs 5 = .slice (some ⟨gr, 0, none⟩) l.length cr := hd 5 (by kernel_rfl)
      have e10 : A'.tmps[10]?.getD undef = vs 5 := slot_in hA hap (Nat.lt_of_lt_of_eq (Nat.le_of_ble_eq_true rfl : 10 < 24) hsz.symm) (by kernel_rfl)
      rw [f5] at e10
      have f9 : vs 9 = .int .i64 ((l.length : Int) + 1) := hd 9 (by kernel_rfl)
      have e14 : A'.tmps[14]?.getD undef = vs 9 := slot_in hA hap (Nat.lt_of_lt_of_eq (Nat.le_of_ble_eq_true rfl : 14 < 24) hsz.symm) (by kernel_rfl)
      rw [f9] at e14
      clear hA hd o2 o3
      have q := fun w => cut_hiS (some ⟨gr, 0, none⟩) l.length cr (l.length + 1) hcr w
      have q2 : ((l.length + 1 : Nat) : Int) = (l.length : Int) + 1 := by omega
      rw [q2] at q
      go_step
      exact hK _ _ (Kp.refl _ _) rfl
    · intro vs A' W hA hW hd K hK
      have f3 : vs 3 = .bool true := hd 3 (by kernel_rfl)
      have e8 : A'.tmps[8]?.getD undef = vs 3 := slot_in hA hap (Nat.lt_of_lt_of_eq (Nat.le_of_ble_eq_true rfl : 8 < 24) hsz.symm) (by kernel_rfl)
      rw [f3] at e8
      refine wpOp_go _ rfl 3 8 true rfl rfl e8 ?_
      conv => arg 2; whnf
      have e3 : A'.tmps[3]?.getD undef = .pointer (some ⟨g3, 0, none⟩) := slot_out hA hap (Nat.lt_of_lt_of_eq (Nat.le_of_ble_eq_true rfl : 3 < 24) hsz.symm) (by kernel_rfl) o3
      clear hA hd o2 o3
      go_step
      exact hK _ _ (Kp.refl _ _) rfl
    · intro vs A' W hA hW hd K hK
      have f3 : vs 3 = .bool true := hd 3 (by kernel_rfl)
      have e8 : A'.tmps[8]?.getD undef = vs 3 := slot_in hA hap (Nat.lt_of_lt_of_eq (Nat.le_of_ble_eq_true rfl : 8 < 24) hsz.symm) (by kernel_rfl)
      rw [f3] at e8
      refine wpOp_go _ rfl 3 8 true rfl rfl e8 ?_
      conv => arg 2; whnf
      have f11 : vs 11 = .pointer (some ⟨g3, 33, none⟩) := hd 11 (by kernel_rfl)
      have e16 : A'.tmps[16]?.getD undef = vs 11 := slot_in hA hap (Nat.lt_of_lt_of_eq (Nat.le_of_ble_eq_true rfl : 16 < 24) hsz.symm) (by kernel_rfl)
      rw [f11] at e16
      clear hA hd o2 o3
      have c0 : W.cell? ⟨g3, 33, none⟩ = some (.slice A l.length c) := by rw [(hb3.kp hW (by simp)).cell]; exact ntA_sigs hh
      go_step
      exact hK _ _ (Kp.refl _ _) rfl
    · intro vs A' W hA hW hd K hK
      have f3 : vs 3 = .bool true := hd 3 (by kernel_rfl)
      have e8 : A'.tmps[8]?.getD undef = vs 3 := slot_in hA hap (Nat.lt_of_lt_of_eq (Nat.le_of_ble_eq_true rfl : 8 < 24) hsz.symm) (by kernel_rfl)
      rw [f3] at e8
      refine wpOp_go _ rfl 3 8 true rfl rfl e8 ?_
      conv => arg 2; whnf
      have f12 : vs 12 = .slice A l.length c := hd 12 (by kernel_rfl)
      have e17 : A'.tmps[17]?.getD undef = vs 12 := slot_in hA hap (Nat.lt_of_lt_of_eq (Nat.le_of_ble_eq_true rfl : 17 < 24) hsz.symm) (by kernel_rfl)
      rw [f12] at e17
      clear hA hd o2 o3
      go_step
      exact hK _ _ (Kp.refl _ _) rfl
    · intro vs A' W hA hW hd K hK
      have f3 : vs 3 = .bool true := hd 3 (by kernel_rfl)
      have e8 : A'.tmps[8]?.getD undef = vs 3 := slot_in hA hap (Nat.lt_of_lt_of_eq (Nat.le_of_ble_eq_true rfl : 8 < 24) hsz.symm) (by kernel_rfl)
      rw [f3] at e8
      refine wpOp_go _ rfl 3 8 true rfl rfl e8 ?_
      conv => arg 2; whnf
      have f10 : vs 10 = .slice (some ⟨gr, 0, none⟩) (l.length + 1) cr := hd 10 (by kernel_rfl)
      have e15 : A'.tmps[15]?.getD undef = vs 10 := slot_in hA hap (Nat.lt_of_lt_of_eq (Nat.le_of_ble_eq_true rfl : 15 < 24) hsz.symm) (by kernel_rfl)
      rw [f10] at e15
      have f13 : vs 13 = .int .i64 (l.length : Int) := hd 13 (by kernel_rfl)
      have e18 : A'.tmps[18]?.getD undef = vs 13 := slot_in hA hap (Nat.lt_of_lt_of_eq (Nat.le_of_ble_eq_true rfl : 18 < 24) hsz.symm) (by kernel_rfl)
      rw [f13] at e18
      clear hA hd o2 o3
      have h0 : 0 ≤ (l.length : Int) := by omega
      have h1 : (l.length : Int) < (l.length : Int) + 1 := by omega
      go_step
      exact hK _ _ (Kp.refl _ _) rfl
    · intro vs A' W hA hW hd K hK
      have f3 : vs 3 = .bool true := hd 3 (by kernel_rfl)
      have e8 : A'.tmps[8]?.getD undef = vs 3 := slot_in hA hap (Nat.lt_of_lt_of_eq (Nat.le_of_ble_eq_true rfl : 8 < 24) hsz.symm) (by kernel_rfl)
      rw [f3] at e8
      refine wpOp_go _ rfl 3 8 true rfl rfl e8 ?_
      conv => arg 2; whnf
      have f14 : vs 14 = .pointer (some ⟨gr, l.length * 33, none⟩) := hd 14 (by kernel_rfl)
      have e19 : A'.tmps[19]?.getD undef = vs 14 := slot_in hA hap (Nat.lt_of_lt_of_eq (Nat.le_of_ble_eq_true rfl : 19 < 24) hsz.symm) (by kernel_rfl)
      rw [f14] at e19
      clear hA hd o2 o3
      go_step
      exact hK _ _ (Kp.refl _ _) rfl
    · intro vs A' W hA hW hd K hK
      have f3 : vs 3 = .bool true := hd 3 (by kernel_rfl)
      have e8 : A'.tmps[8]?.getD undef = vs 3 := slot_in hA hap (Nat.lt_of_lt_of_eq (Nat.le_of_ble_eq_true rfl : 8 < 24) hsz.symm) (by kernel_rfl)
      rw [f3] at e8
      refine wpOp_go _ rfl 3 8 true rfl rfl e8 ?_
      conv => arg 2; whnf
      have f15 : vs 15 = .pointer (some ⟨gr, l.length * 33, none⟩) := hd 15 (by kernel_rfl)
      have e20 : A'.tmps[20]?.getD undef = vs 15 := slot_in hA hap (Nat.lt_of_lt_of_eq (Nat.le_of_ble_eq_true rfl : 20 < 24) hsz.symm) (by kernel_rfl)
      rw [f15] at e20
      clear hA hd o2 o3
      have c0 := cell_kept hrm hW
      go_step
      exact hK _ _ (Kp.refl _ _) rfl
    · intro vs A' W hA hW hd K hK
      have f3 : vs 3 = .bool true := hd 3 (by kernel_rfl)
      have e8 : A'.tmps[8]?.getD undef = vs 3 := slot_in hA hap (Nat.lt_of_lt_of_eq (Nat.le_of_ble_eq_true rfl : 8 < 24) hsz.symm) (by kernel_rfl)
      rw [f3] at e8
      refine wpOp_go _ rfl 3 8 true rfl rfl e8 ?_
      conv => arg 2; whnf
      have f16 : vs 16 = .string ⟨#[114, 111, 111, 109]⟩ := hd 16 (by kernel_rfl)
      have e21 : A'.tmps[21]?.getD undef = vs 16 := slot_in hA hap (Nat.lt_of_lt_of_eq (Nat.le_of_ble_eq_true rfl : 21 < 24) hsz.symm) (by kernel_rfl)
      rw [f16] at e21
      clear hA hd o2 o3
      go_step
      exact hK _ _ (Kp.refl _ _) rfl
    · intro vs A' W hA hW hd K hK
      refine wpOp_free _ rfl rfl ?_
      conv => arg 2; whnf
      have f3 : vs 3 = .bool true := hd 3 (by kernel_rfl)
      have e8 : A'.tmps[8]?.getD undef = vs 3 := slot_in hA hap (Nat.lt_of_lt_of_eq (Nat.le_of_ble_eq_true rfl : 8 < 24) hsz.symm) (by kernel_rfl)
      rw [f3] at e8
      have f17 : vs 17 = .bool true := hd 17 (by kernel_rfl)
      have e22 : A'.tmps[22]?.getD undef = vs 17 := slot_in hA hap (Nat.lt_of_lt_of_eq (Nat.le_of_ble_eq_true rfl : 22 < 24) hsz.symm) (by kernel_rfl)
      rw [f17] at e22
      clear hA hd o2 o3
      go_step
      exact hK _ _ (Kp.refl _ _) rfl
    · intro vs A' W hA hW hd K hK
      refine wpOp_free _ rfl rfl ?_
      conv => arg 2; whnf
      have f18 : vs 18 = .bool true := hd 18 (by kernel_rfl)
      have e23 : A'.tmps[23]?.getD undef = vs 18 := slot_in hA hap (Nat.lt_of_lt_of_eq (Nat.le_of_ble_eq_true rfl : 23 < 24) hsz.symm) (by kernel_rfl)
      rw [f18] at e23
      clear hA hd o2 o3
      go_step
      exact hK _ _ (Kp.refl _ _) rfl
  · intro vs W hW hp
    rw [show putAll vs (opsOf 1 Tryd.f33) 0 a = putD [(5, vs 0), (6, vs 1), (7, vs 2), (8, vs 3), (9, vs 4), (10, vs 5), (11, vs 6), (12, vs 7), (13, vs 8), (14, vs 9), (15, vs 10), (16, vs 11), (17, vs 12), (18, vs 13), (19, vs 14), (20, vs 15), (21, vs 16), (22, vs 17), (23, vs 18), (4, vs 19)] a from by kernel_rfl]
    exact hend _ W (same_putD _ a) hW (sl_putD _ a 4 _ (by rw [show vs 19 = _ from hp 19 (Nat.le_of_ble_eq_true (by kernel_rfl))]; kernel_rfl))
-- END slf1
end Go.Proofs.YtapboamjpilckaaDoor
/- find, lay, Same of the reference; lent, left of the law. -/
namespace Go.Proofs.YtapboamjpilckaaDoor
open Go.RowKit
def findK (nm : List UInt8) : List SigD → Nat → Int
  | [], _ => -1
  | s :: l, k => if s.1 == nm then (k : Int) else findK nm l (k + 1)
def findN (nm : List UInt8) (l : List SigD) : Int := findK nm l 0
set_option maxRecDepth 100000 in
set_option maxHeartbeats 4000000 in
theorem sfind_any (A : Option Addr) (c : Nat) (l : List SigD) (hok : SgOk l) (hll : l.length < 9223372036854775807) (nm : ByteArray) (w : World) (hv : Rd w 33 (.slice A l.length c) l.length (sgsC l)) :
    Calls Tryd.prog 51 #[.slice A l.length c, .string nm] w fun e w' => e = .returned (.int .i64 (findN nm.toList l)) ∧ w = w' := by
  refine calls_fr Tryd.func51 rfl 20 rfl (fun a0 hsz hdf hAr => ?_)
  have hz0 : a0.tmps.size = 20 := hsz
  have D := hdf
  have o0 := hAr 0 _ rfl
  have o1 := hAr 1 _ rfl
  refine wp_seq (sfd_r0 hz0 (fun a1 hs1 o4 => ?_))
  have hz1 := hs1.size.trans hz0
  have o0 := hs1.keep 0 _ (by decide) o0
  have o1 := hs1.keep 1 _ (by decide) o1
  have D := hs1.defers.trans D
  refine wp_seq (wp_seq (sfd_r1 hz1 (fun a2 hs2 o5 => ?_)))
  have hz2 := hs2.size.trans hz1
  have o0 := hs2.keep 0 _ (by decide) o0
  have o1 := hs2.keep 1 _ (by decide) o1
  have o4 := hs2.keep 4 _ (by decide) o4
  have D := hs2.defers.trans D
  refine wp_block ?_
  conv => arg 2; whnf
  refine wp_loop (fun a' w' => ∃ (k : Nat), k ≤ l.length ∧ a'.tmps.size = 20 ∧ a'.defers = [] ∧ w' = w ∧ Sl a' 0 (.slice A l.length c) ∧ Sl a' 1 (.string nm) ∧ Sl a' 5 (.int .i64 ((k : Nat) : Int)) ∧ findN nm.toList l = findK nm.toList (l.drop k) k) (fun a' _ => l.length - (intOf (a'.eval (.tmp 5))).toNat) ⟨0, Nat.zero_le _, hz2, D, rfl, o0, o1, o5, rfl⟩ ?_
  iterate 6 (try clear o0)
  iterate 6 (try clear o1)
  iterate 6 (try clear o5)
  rintro a3 w3 ⟨k, hk, hz3, D, rfl, o0, o1, o5, hF⟩
  have e5 := o5.eval (by rw [hz3]; decide)
  refine wp_seq (wp_seq (sfd_r2 A k l.length c hz3 o0 o5 (fun a4 hs4 o9 => ?_)))
  have hz4 := hs4.size.trans hz3
  have o0 := hs4.keep 0 _ (by decide) o0
  have o1 := hs4.keep 1 _ (by decide) o1
  have o5 := hs4.keep 5 _ (by decide) o5
  have D := hs4.defers.trans D
  by_cases hlt : k < l.length
  · refine wp_cond_true ((o9.eval (by rw [hz4]; decide)).trans (by rw [decide_eq_true hlt])) (wp_skip ?_)
    simp only [Exit.then]
    obtain ⟨ad, rfl⟩ := sgs_addr hv (by omega)
    obtain ⟨s, hs⟩ : ∃ s, l[k]? = some s := ⟨_, List.getElem?_eq_getElem hlt⟩
    obtain ⟨ns, hns, hnl, -, -⟩ := str_of s.1
    have hdr : l.drop k = s :: l.drop (k + 1) := by rw [List.drop_eq_getElem_cons hlt, (List.getElem?_eq_some_iff.1 hs).2]
    rw [hdr] at hF
    unfold findK at hF
    have hc0 : w3.cell? (ad.add (k * 33)) = some (.string ns) := by
      have := sgs_at hv hok hs 0 (strV s.1) rfl
      rwa [addr0, hns.out] at this
    refine wp_seq (wp_block ?_)
    refine wp_seq (sfd_r4 ad k l.length c hlt ns nm hc0 (s.1 == nm.toList) (by rw [hnl.out]) hz4 o0 o1 o5 (fun a5 hs5 o18 => ?_))
    have hz5 := hs5.size.trans hz4
    have o0 := hs5.keep 0 _ (by decide) o0
    have o1 := hs5.keep 1 _ (by decide) o1
    have o5 := hs5.keep 5 _ (by decide) o5
    have o9 := hs5.keep 9 _ (by decide) o9
    have D := hs5.defers.trans D
    cases he : s.1 == nm.toList
    · refine wp_cond_false ((o18.eval (by rw [hz5]; decide)).trans (by rw [he])) (wp_skip ?_)
      rw [he, if_neg (by decide)] at hF
      simp only [Exit.inBlock, Exit.then]
      refine sfd_r3 k (by omega) hz5 o5 (fun a6 hs6 o5 => ?_)
      have hz6 := hs6.size.trans hz5
      have o0 := hs6.keep 0 _ (by decide) o0
      have o1 := hs6.keep 1 _ (by decide) o1
      have o9 := hs6.keep 9 _ (by decide) o9
      have o18 := hs6.keep 18 _ (by decide) o18
      have D := hs6.defers.trans D
      refine ⟨⟨k + 1, by omega, hz6, D, rfl, o0, o1, o5, hF⟩, ?_⟩
      show l.length - (intOf _).toNat < l.length - (intOf _).toNat
      rw [e5, o5.eval (by rw [hz6]; decide)]
      simp only [intOf]; omega
    · refine wp_cond_true ((o18.eval (by rw [hz5]; decide)).trans (by rw [he])) ?_
      rw [he, if_pos rfl] at hF
      refine wp_seq (sfd_r5 k hz5 o5 (fun a6 hs6 o4 => ?_))
      have hz6 := hs6.size.trans hz5
      have o0 := hs6.keep 0 _ (by decide) o0
      have o1 := hs6.keep 1 _ (by decide) o1
      have o5 := hs6.keep 5 _ (by decide) o5
      have o9 := hs6.keep 9 _ (by decide) o9
      have o18 := hs6.keep 18 _ (by decide) o18
      have D := hs6.defers.trans D
      refine wp_ret ?_
      simp only [Exit.inBlock, Exit.then]
      exact (bodyPost_ret (results_t1 (by rfl) (o4.eval (by rw [hz6]; decide))) D ⟨by rw [hF], rfl⟩)
  · refine wp_cond_false ((o9.eval (by rw [hz4]; decide)).trans (by rw [decide_eq_false hlt])) (wp_exit ?_)
    simp only [Exit.then, Exit.inBlock]
    obtain rfl : k = l.length := by omega
    rw [List.drop_length] at hF
    refine wp_seq (sfd_r6 hz4 (fun a5 hs5 o4 => ?_))
    have hz5 := hs5.size.trans hz4
    have D := hs5.defers.trans D
    refine wp_ret ?_
    exact (bodyPost_ret (results_t1 (by rfl) (o4.eval (by rw [hz5]; decide))) D ⟨by rw [hF]; rfl, rfl⟩)
set_option maxRecDepth 100000 in
set_option maxHeartbeats 4000000 in
theorem slay_any (A : Option Addr) (c : Nat) (l : List SigD) (hok : SgOk l) (hll : l.length ≤ 1000000) (s : SigD) (hs : s.2.length = 32) (w : World) (hv : Rd w 33 (.slice A l.length c) l.length (sgsC l)) :
    Calls Tryd.prog 52 #[.slice A l.length c, .agg (sgA s)] w fun e w' => ∃ v, e = .returned v ∧ Held w w' [rowR 81 33 v (l.length + 1) (sgsC (insN l s))] := by
  obtain ⟨ns, hns, hnl, -, -⟩ := str_of s.1
  have hlc : l.length ≤ c := by obtain ⟨-, A', c', he, h1, -⟩ := hv; cases he; exact h1
  refine calls_fr Tryd.func52 rfl 36 rfl (fun a0 hsz hdf hAr => ?_)
  have hz0 : a0.tmps.size = 36 := hsz
  have D := hdf
  have o0 := hAr 0 _ rfl
  have o1 := hAr 1 _ rfl
  refine wp_seq (sly_r0 w s [] (Held.start w) hz0 o1 (fun a1 w1 hs1 o4 h1 => ?_))
  have hz1 := hs1.size.trans hz0
  have o0 := hs1.keep 0 _ (by decide) o0
  have o1 := hs1.keep 1 _ (by decide) o1
  have D := hs1.defers.trans D
  obtain ⟨gs, o3, S⟩ := h1
  refine wp_seq (sly_r1 hz1 (fun a2 hs2 o5 => ?_))
  have hz2 := hs2.size.trans hz1
  have o0 := hs2.keep 0 _ (by decide) o0
  have o3 := hs2.keep 3 _ (by decide) o3
  have D := hs2.defers.trans D
  refine wp_seq (wp_block ?_)
  conv => arg 2; whnf
  refine wp_loop (fun a' w' => ∃ (k : Nat), k ≤ l.length ∧ a'.tmps.size = 36 ∧ a'.defers = [] ∧ Held w w' [blkR gs 81 (sgA s)] ∧ Sl a' 0 (.slice A l.length c) ∧ Sl a' 3 (.pointer (some ⟨gs, 0, none⟩)) ∧ Sl a' 5 (.int .i64 ((k : Nat) : Int)) ∧ posN s.1 l = k + posN s.1 (l.drop k)) (fun a' _ => l.length - (intOf (a'.eval (.tmp 5))).toNat) ⟨0, Nat.zero_le _, hz2, D, S, o0, o3, o5, by simp⟩ ?_
  iterate 6 (try clear S)
  iterate 6 (try clear o0)
  iterate 6 (try clear o3)
  iterate 6 (try clear o5)
  rintro a3 w3 ⟨k, hk, hz3, D, S, o0, o3, o5, hF⟩
  have e5 := o5.eval (by rw [hz3]; decide)
  have hfin : ∀ (a4 : Act) (w4 : World), a4.tmps.size = 36 → a4.defers = [] → Held w w4 [blkR gs 81 (sgA s)] → Sl a4 0 (.slice A l.length c) → Sl a4 3 (.pointer (some ⟨gs, 0, none⟩)) → Sl a4 5 (.int .i64 ((k : Nat) : Int)) → posN s.1 l = k → (tailOf 2 Tryd.f52).wp Tryd.prog (bodyPost Tryd.prog Tryd.f52 fun e w' => ∃ v, e = .returned v ∧ Held w w' [rowR 81 33 v (l.length + 1) (sgsC (insN l s))]) a4 w4 := by
    intro a4 w4 hz4 D S o0 o3 o5 hp
    conv => arg 2; whnf
    refine wp_seq (sly_r4 w A c l hok (by omega) k hk (fun V kV => rd_old hv kV) hlc _ S hz4 o0 o5 (fun a5 w5 hs5 h5 => ?_))
    have hz5 := hs5.size.trans hz4
    have o0 := hs5.keep 0 _ (by decide) o0
    have o3 := hs5.keep 3 _ (by decide) o3
    have o5 := hs5.keep 5 _ (by decide) o5
    have D := hs5.defers.trans D
    obtain ⟨v5, o6, S⟩ := h5
    refine wp_seq (sly_r5 w v5 k (by omega) _ gs s hs [] S hz5 o3 o6 (fun a6 w6 hs6 h6 => ?_))
    have hz6 := hs6.size.trans hz5
    have o0 := hs6.keep 0 _ (by decide) o0
    have o3 := hs6.keep 3 _ (by decide) o3
    have o5 := hs6.keep 5 _ (by decide) o5
    have D := hs6.defers.trans D
    obtain ⟨v6, o6, S⟩ := h6
    refine wp_seq (sly_r6 w A c l hok (by omega) k hk (fun V kV => rd_old hv kV) v6 (k + 1) (by omega) _ _ S hz6 o0 o5 o6 (fun a7 w7 hs7 h7 => ?_))
    have hz7 := hs7.size.trans hz6
    have o0 := hs7.keep 0 _ (by decide) o0
    have o3 := hs7.keep 3 _ (by decide) o3
    have o5 := hs7.keep 5 _ (by decide) o5
    have o6 := hs7.keep 6 _ (by decide) o6
    have D := hs7.defers.trans D
    obtain ⟨v7, o4, S⟩ := h7
    refine wp_ret ?_
    refine (bodyPost_ret (results_t1 (by rfl) (o4.eval (by rw [hz7]; decide))) D ⟨_, rfl, ?_⟩)
    have e1 : sgsC (l.take k) ++ (sgA s).toList ++ sgsC (l.drop k) = sgsC (insN l s) := by
      unfold insN
      rw [hp, sgsC_append, List.append_assoc]
      rfl
    rw [e1, show k + 1 + (l.length - k) = l.length + 1 from by omega] at S
    exact S
  by_cases hlt : k < l.length
  · obtain ⟨ad, rfl⟩ := sgs_addr hv (by omega)
    obtain ⟨x, hx⟩ : ∃ x, l[k]? = some x := ⟨_, List.getElem?_eq_getElem hlt⟩
    obtain ⟨nx, hnx, hnxl, -, -⟩ := str_of x.1
    have hdr : l.drop k = x :: l.drop (k + 1) := by rw [List.drop_eq_getElem_cons hlt, (List.getElem?_eq_some_iff.1 hx).2]
    rw [hdr] at hF
    have hc : ∀ V, Kp [] w3.drew V → V.cell? (ad.add (k * 33)) = some (.string nx) := by
      intro V kV
      have := sgs_at (rd_old hv (S.k.drew.trans kV (by simp))) hok hx 0 (strV x.1) rfl
      rwa [addr0, hnx.out] at this
    have hlt2 : Op.bytesLess nx.toList ns.toList = decide (cmpB x.1 s.1 < 0) := by rw [hnxl.out, hnl.out, less_cmp]
    refine wp_seq (wp_seq (sly_r2Y ad k l.length c hlt nx ns hc gs s hns.out ((S.at_ (l1 := [])).drew) _ hlt2 hz3 o0 o3 o5 (fun a4 w4 hs4 k4 o20 => ?_)))
    have hz4 := hs4.size.trans hz3
    have o0 := hs4.keep 0 _ (by decide) o0
    have o3 := hs4.keep 3 _ (by decide) o3
    have o5 := hs4.keep 5 _ (by decide) o5
    have D := hs4.defers.trans D
    have S := S.kp (((Kp.refl [] w3).drew).trans k4 (by simp))
    by_cases hc2 : cmpB x.1 s.1 < 0
    · refine wp_cond_true ((o20.eval (by rw [hz4]; decide)).trans (by rw [decide_eq_true hc2])) (wp_skip ?_)
      rw [posN_lt hc2] at hF
      simp only [Exit.then]
      refine wp_block ?_
      refine sly_r3 k (by omega) hz4 o5 (fun a5 hs5 o5' => ?_)
      have hz5 := hs5.size.trans hz4
      simp only [Exit.inBlock, Exit.then]
      refine ⟨⟨k + 1, by omega, hz5, hs5.defers.trans D, S, hs5.keep 0 _ (by decide) o0, hs5.keep 3 _ (by decide) o3, o5', by omega⟩, ?_⟩
      show l.length - (intOf _).toNat < l.length - (intOf _).toNat
      rw [e5, o5'.eval (by rw [hz5]; decide)]
      simp only [intOf]; omega
    · refine wp_cond_false ((o20.eval (by rw [hz4]; decide)).trans (by rw [decide_eq_false hc2])) (wp_exit ?_)
      rw [posN_ge hc2] at hF
      simp only [Exit.then, Exit.inBlock]
      exact hfin a4 w4 hz4 D S o0 o3 o5 (by omega)
  · refine wp_seq (wp_seq (sly_r2N A k l.length c hlt hz3 o0 o5 (fun a4 w4 hs4 k4 o20 => ?_)))
    have hz4 := hs4.size.trans hz3
    have o0 := hs4.keep 0 _ (by decide) o0
    have o3 := hs4.keep 3 _ (by decide) o3
    have o5 := hs4.keep 5 _ (by decide) o5
    have D := hs4.defers.trans D
    have S := S.kp (((Kp.refl [] w3).drew).trans k4 (by simp))
    refine wp_cond_false (o20.eval (by rw [hz4]; decide)) (wp_exit ?_)
    simp only [Exit.then, Exit.inBlock]
    have hkl : k = l.length := by omega
    rw [List.drop_of_length_le (by omega)] at hF
    exact hfin a4 w4 hz4 D S o0 o3 o5 (by rw [hF]; rfl)
end Go.Proofs.YtapboamjpilckaaDoor
/- Same of the reference; lent, left of the law. -/
namespace Go.Proofs.YtapboamjpilckaaDoor
open Go.RowKit
def sameN (z : Int) (h : List UInt8) (l : List SigD) (y : Int) (g : List UInt8) (m : List SigD) : Bool := (decide (z = y) && (h == g)) && (decide (l.length = m.length) && (l == m))
set_option maxRecDepth 100000 in
set_option maxHeartbeats 4000000 in
theorem ssame_any (z y : Int) (h g : List UInt8) (hh : h.length = 32) (hg : g.length = 32) (A B : Option Addr) (c e : Nat) (l m : List SigD) (hok : SgOk l) (hmk : SgOk m) (hll : l.length < 9223372036854775807) (w : World) (hv : Rd w 33 (.slice A l.length c) l.length (sgsC l)) (hu : Rd w 33 (.slice B m.length e) m.length (sgsC m)) :
    Calls Tryd.prog 23 #[.agg (ntA z h (.slice A l.length c)), .agg (ntA y g (.slice B m.length e))] w fun r w' => r = .returned (.bool (sameN z h l y g m)) ∧ Kp [] w w' := by
  refine calls_fr Tryd.func23 rfl 38 rfl (fun a0 hsz hdf hAr => ?_)
  have hz0 : a0.tmps.size = 38 := hsz
  have D := hdf
  have o0 := hAr 0 _ rfl
  have o1 := hAr 1 _ rfl
  refine wp_seq (ssa_r0 w _ _ [] (Held.start w) hz0 o0 o1 (fun a1 w1 hs1 o4 h1 => ?_))
  have hz1 := hs1.size.trans hz0
  have o0 := hs1.keep 0 _ (by decide) o0
  have o1 := hs1.keep 1 _ (by decide) o1
  have D := hs1.defers.trans D
  obtain ⟨g2, g3, o2, o3, S⟩ := h1
  have hb2 := S.at_ (l1 := [_])
  have hb3 := S.at_ (l1 := [])
  have K := S.k
  have hfail : ∀ (a : Act) (W : World), a.tmps.size = 38 → a.defers = [] → Sl a 4 (.bool false) → Kp [] w W → sameN z h l y g m = false → bodyPost Tryd.prog Tryd.f23 (fun r w' => r = .returned (.bool (sameN z h l y g m)) ∧ Kp [] w w') .ret a W := by
    intro a W hs hd o4 kk hb
    exact (bodyPost_ret (results_t1 (by rfl) (o4.eval (by rw [hs]; decide))) hd ⟨by rw [hb], kk⟩)
  cases hpq : (decide (z = y) && (h == g))
  · have hF : sameN z h l y g m = false := by unfold sameN; rw [hpq, Bool.false_and]
    refine wp_seq (wp_seq (ssa_r1N z y h g hh hg A B l.length c m.length e g2 g3 hb2 hb3 hpq hz1 o2 o3 (fun a2 w2 hs2 k2 o19 => ?_)))
    have hz2 := hs2.size.trans hz1
    refine wp_cond_true (o19.eval (by rw [hz2]; decide)) ?_
    refine wp_seq (ssa_r2 hz2 (fun a3 hs3 o4 => ?_))
    refine wp_ret ?_
    simp only [Exit.then]
    exact hfail a3 w2 (hs3.size.trans hz2) (hs3.defers.trans (hs2.defers.trans D)) o4 (K.trans k2 (by simp)) hF
  · refine wp_seq (wp_seq (ssa_r1Y z y h g hh hg A B l.length c m.length e g2 g3 hb2 hb3 hpq hz1 o2 o3 (fun a2 w2 hs2 k2 o19 => ?_)))
    have hz2 := hs2.size.trans hz1
    have o2 := hs2.keep 2 _ (by decide) o2
    have o3 := hs2.keep 3 _ (by decide) o3
    have D := hs2.defers.trans D
    have hb2 := hb2.kp k2 (by simp)
    have hb3 := hb3.kp k2 (by simp)
    have K := K.trans k2 (by simp)
    by_cases hlm : l.length = m.length
    · refine wp_cond_false ((o19.eval (by rw [hz2]; decide)).trans (by rw [decide_eq_true hlm]; rfl)) (wp_skip ?_)
      simp only [Exit.then]
      refine wp_seq (wp_seq (ssa_r3 hz2 (fun a3 hs3 o5 => ?_)))
      have hz3 := hs3.size.trans hz2
      have o2 := hs3.keep 2 _ (by decide) o2
      have o3 := hs3.keep 3 _ (by decide) o3
      have D := hs3.defers.trans D
      refine wp_block ?_
      conv => arg 2; whnf
      refine wp_loop (fun a' w' => ∃ (k : Nat), k ≤ l.length ∧ a'.tmps.size = 38 ∧ a'.defers = [] ∧ Kp [] w2 w' ∧ Sl a' 2 (.pointer (some ⟨g2, 0, none⟩)) ∧ Sl a' 3 (.pointer (some ⟨g3, 0, none⟩)) ∧ Sl a' 5 (.int .i64 ((k : Nat) : Int)) ∧ l.take k = m.take k) (fun a' _ => l.length - (intOf (a'.eval (.tmp 5))).toNat) ⟨0, Nat.zero_le _, hz3, D, Kp.refl _ _, o2, o3, o5, by rw [List.take_zero, List.take_zero]⟩ ?_
      iterate 8 (try clear o2)
      iterate 8 (try clear o3)
      iterate 8 (try clear o5)
      rintro a4 w4 ⟨k, hk, hz4, D, k4, o2, o3, o5, hT⟩
      have e5 := o5.eval (by rw [hz4]; decide)
      have hb2 := hb2.kp k4 (by simp)
      have hb3 := hb3.kp k4 (by simp)
      refine wp_seq (wp_seq (ssa_r4 z h hh A l.length c g2 k hb2 hz4 o2 o5 (fun a5 hs5 o24 => ?_)))
      have hz5 := hs5.size.trans hz4
      have o2 := hs5.keep 2 _ (by decide) o2
      have o3 := hs5.keep 3 _ (by decide) o3
      have o5 := hs5.keep 5 _ (by decide) o5
      have D := hs5.defers.trans D
      by_cases hlt : k < l.length
      · refine wp_cond_true ((o24.eval (by rw [hz5]; decide)).trans (by rw [decide_eq_true hlt])) (wp_skip ?_)
        simp only [Exit.then]
        obtain ⟨a2', hA⟩ := sgs_addr hv (by omega)
        obtain ⟨a3', hB⟩ := sgs_addr hu (by omega)
        obtain ⟨s, hs⟩ : ∃ s, l[k]? = some s := ⟨_, List.getElem?_eq_getElem hlt⟩
        obtain ⟨t, ht⟩ : ∃ t, m[k]? = some t := ⟨_, List.getElem?_eq_getElem (by omega)⟩
        have kk := K.trans k4.drew (by simp)
        have hb2' := (hb2.drew)
        have hb3' := (hb3.drew)
        rw [hA] at hb2' hv
        rw [hB] at hb3' hu
        refine wp_seq (wp_block ?_)
        refine wp_seq (ssa_r6 z y h g hh hg a2' a3' l.length c m.length e k hlt (by omega) g2 g3 hb2' hb3' s t (hok s (List.mem_of_getElem? hs)).1 (hmk t (List.mem_of_getElem? ht)).1 (fun V kV => sgs_at (rd_old hv (kk.trans kV (by simp))) hok hs) (fun V kV => sgs_at (rd_old hu (kk.trans kV (by simp))) hmk ht) hz5 o2 o3 o5 (fun a6 w6 hs6 k6 o37 => ?_))
        have hz6 := hs6.size.trans hz5
        have o2 := hs6.keep 2 _ (by decide) o2
        have o3 := hs6.keep 3 _ (by decide) o3
        have o5 := hs6.keep 5 _ (by decide) o5
        have D := hs6.defers.trans D
        have k46 := k4.drew.trans k6 (by simp)
        cases hst : ((s.1 == t.1) && (s.2 == t.2))
        · have hF : sameN z h l y g m = false := by
            have hne : (l == m) = false := by
              refine beq_false_of_ne (fun e0 => ?_)
              subst e0
              rw [hs] at ht
              cases ht
              simp at hst
            unfold sameN
            rw [hne, Bool.and_false, Bool.and_false]
          refine wp_cond_true ((o37.eval (by rw [hz6]; decide)).trans (by rw [hst]; rfl)) ?_
          refine wp_seq (ssa_r7 hz6 (fun a7 hs7 o4 => ?_))
          refine wp_ret ?_
          simp only [Exit.inBlock, Exit.then]
          exact hfail a7 w6 (hs7.size.trans hz6) (hs7.defers.trans D) o4 (K.trans k46 (by simp)) hF
        · have hst2 : s = t := by
            simp only [Bool.and_eq_true, beq_iff_eq] at hst
            exact Prod.ext hst.1 hst.2
          refine wp_cond_false ((o37.eval (by rw [hz6]; decide)).trans (by rw [hst]; rfl)) (wp_skip ?_)
          simp only [Exit.inBlock, Exit.then]
          refine ssa_r5 k (by omega) hz6 o5 (fun a7 hs7 o5' => ?_)
          have hz7 := hs7.size.trans hz6
          refine ⟨⟨k + 1, by omega, hz7, hs7.defers.trans D, k46, hs7.keep 2 _ (by decide) o2, hs7.keep 3 _ (by decide) o3, o5', by rw [List.take_add_one, List.take_add_one, hs, ht, hT, hst2]⟩, ?_⟩
          show l.length - (intOf _).toNat < l.length - (intOf _).toNat
          rw [e5, o5'.eval (by rw [hz7]; decide)]
          simp only [intOf]; omega
      · refine wp_cond_false ((o24.eval (by rw [hz5]; decide)).trans (by rw [decide_eq_false hlt])) (wp_exit ?_)
        simp only [Exit.then, Exit.inBlock]
        have hkl : k = l.length := by omega
        have hlm2 : l = m := by rw [hkl, List.take_length, hlm, List.take_length] at hT; exact hT
        have hF : sameN z h l y g m = true := by unfold sameN; rw [hpq, decide_eq_true hlm, hlm2]; simp
        refine wp_seq (ssa_r8 hz5 (fun a6 hs6 o4 => ?_))
        refine wp_ret ?_
        exact (bodyPost_ret (results_t1 (by rfl) (o4.eval (by rw [hs6.size.trans hz5]; decide))) (hs6.defers.trans D) ⟨by rw [hF], K.trans k4 (by simp)⟩)
    · have hF : sameN z h l y g m = false := by unfold sameN; rw [decide_eq_false hlm, Bool.false_and, Bool.and_false]
      refine wp_cond_true ((o19.eval (by rw [hz2]; decide)).trans (by rw [decide_eq_false hlm]; rfl)) ?_
      refine wp_seq (ssa_r2 hz2 (fun a3 hs3 o4 => ?_))
      refine wp_ret ?_
      simp only [Exit.then]
      exact hfail a3 w2 (hs3.size.trans hz2) (hs3.defers.trans D) o4 K hF
theorem sameN_self (z : Int) (h : List UInt8) (l : List SigD) : sameN z h l z h l = true := by unfold sameN; simp
set_option maxRecDepth 100000 in
set_option maxHeartbeats 4000000 in
theorem slent_any (z : Int) (h : List UInt8) (hh : h.length = 32) (A : Option Addr) (c : Nat) (l : List SigD) (hok : SgOk l) (hll : (l.length + 1) * 48 ≤ 140737488355328) (w : World) (hv : Rd w 33 (.slice A l.length c) l.length (sgsC l)) :
    Calls Tryd.prog 18 #[.agg (ntA z h (.slice A l.length c))] w fun e w' => ∃ gr cr, e = .returned (.agg (ntA z h (.slice (some ⟨gr, 0, none⟩) l.length cr))) ∧ l.length + 1 ≤ cr ∧ Held w w' [rowR 81 33 (.slice (some ⟨gr, 0, none⟩) (l.length + 1) cr) (l.length + 1) (sgsC (l ++ [roomS]))] := by
  refine calls_fr Tryd.func18 rfl 15 rfl (fun a0 hsz hdf hAr => ?_)
  have hz0 : a0.tmps.size = 15 := hsz
  have D := hdf
  have o0 := hAr 0 _ rfl
  refine wp_seq (slt_r0 w _ [] (Held.start w) hz0 o0 (fun a1 w1 hs1 h1 => ?_))
  have hz1 := hs1.size.trans hz0
  have o0 := hs1.keep 0 _ (by decide) o0
  have D := hs1.defers.trans D
  obtain ⟨g1, g2, o1, o2, S⟩ := h1
  have S : Held w w1 [blkR g1 36 (ntA z h (.slice A l.length c)), blkR g2 36 zeroN] := S.pull 1 rfl
  refine wp_seq (slt_r1 w z h hh A c l hok hll (fun V kV => rd_old hv kV) g1 _ hz1 o1 S (fun a2 vs gs w2 hs2 o12 hf S => ?_))
  have hz2 := hs2.size.trans hz1
  have o1 := hs2.keep 1 _ (by decide) o1
  have o2 := hs2.keep 2 _ (by decide) o2
  have D := hs2.defers.trans D
  obtain ⟨A1, c1, hq⟩ := hf
  rw [hq] at S
  have S : Held w w2 [rowR 81 33 (.slice A1 (l.length + 1) c1) (l.length + 1) (sgsC (l ++ [roomS])), blkR g1 36 (ntA z h (.slice A1 l.length c1)), blkR g2 36 zeroN] := S.drop
  obtain ⟨gr, cr, hgr, hcr, -⟩ := ow_some (show Ow w2 81 33 (.slice A1 (l.length + 1) c1) (l.length + 1) (sgsC (l ++ [roomS])) from S.at_ (l1 := [])) (by omega)
  cases hgr
  have S : Held w w2 [blkR g2 36 zeroN, blkR g1 36 (ntA z h (.slice (some ⟨gr, 0, none⟩) l.length c1)), rowR 81 33 (.slice (some ⟨gr, 0, none⟩) (l.length + 1) c1) (l.length + 1) (sgsC (l ++ [roomS]))] := (S.pull 1 rfl).pull 2 rfl
  refine wp_seq (slt_r2 w g1 g2 _ (ntA_size hh) (ntA_one rfl) _ S hz2 o1 o2 (fun a3 w3 hs3 S => ?_))
  have hz3 := hs3.size.trans hz2
  have o1 := hs3.keep 1 _ (by decide) o1
  have o2 := hs3.keep 2 _ (by decide) o2
  have D := hs3.defers.trans D
  refine wp_ret ?_
  refine (bodyPost_ret (results_cell1 (by rfl) (o2.eval (by rw [hz3]; decide)) (S.at_ (l1 := [])) Tryd.underlying36 rfl (by rw [ntA_size hh]; exact Tryd.infoNote)) D ⟨gr, c1, rfl, hcr, S.some_of (List.singleton_sublist.2 (by simp))⟩)
set_option maxRecDepth 100000 in
set_option maxHeartbeats 4000000 in
theorem sleft_any (z : Int) (h : List UInt8) (hh : h.length = 32) (A : Option Addr) (c : Nat) (l : List SigD) (hok : SgOk l) (hll : (l.length + 1) * 48 ≤ 140737488355328) (gr cr : Nat) (hcr : l.length + 1 ≤ cr) (w : World) (hv : Rd w 33 (.slice A l.length c) l.length (sgsC l)) (ho : Ow w 81 33 (.slice (some ⟨gr, 0, none⟩) (l.length + 1) cr) (l.length + 1) (sgsC (l ++ [roomS]))) :
    Calls Tryd.prog 33 #[.agg (ntA z h (.slice (some ⟨gr, 0, none⟩) l.length cr)), .agg (ntA z h (.slice A l.length c))] w fun e w' => e = .returned (.bool true) ∧ Kp [] w w' := by
  have hok1 : SgOk (l ++ [roomS]) := by
    intro s hs
    rcases List.mem_append.1 hs with hs | hs
    · exact hok s hs
    · rw [List.mem_singleton.1 hs]; exact ⟨rfl, by decide⟩
  have hro := Rd.of_own ho
  have hr2 : Rd w 33 (.slice (some ⟨gr, 0, none⟩) l.length cr) l.length (sgsC l) := by
    have := rd_hiS hok1 hro (by rw [List.length_append]; rfl) (show l.length ≤ l.length + 1 by omega)
    rwa [List.take_left' rfl] at this
  have hrm : w.cell? ⟨gr, l.length * 33, none⟩ = some (.string ⟨#[114, 111, 111, 109]⟩) := by
    have := sgs_at hro hok1 (k := l.length) (s := roomS) (by rw [List.getElem?_append_right (Nat.le_refl _), Nat.sub_self]; rfl) 0 (strV roomS.1) rfl
    rw [addr0, Addr.add_lit, Nat.zero_add] at this
    exact this
  refine calls_fr Tryd.func33 rfl 24 rfl (fun a0 hsz hdf hAr => ?_)
  have hz0 : a0.tmps.size = 24 := hsz
  have D := hdf
  have o0 := hAr 0 _ rfl
  have o1 := hAr 1 _ rfl
  refine wp_seq (slf_r0 w _ _ [] (Held.start w) hz0 o0 o1 (fun a1 w1 hs1 o4 h1 => ?_))
  have hz1 := hs1.size.trans hz0
  have o0 := hs1.keep 0 _ (by decide) o0
  have o1 := hs1.keep 1 _ (by decide) o1
  have D := hs1.defers.trans D
  obtain ⟨g2, g3, o2, o3, S⟩ := h1
  have kd := S.k.drew
  refine wp_seq (slf_r1 z h hh A c l hll g2 g3 gr cr hcr ((S.at_ (l1 := [_])).drew) ((S.at_ (l1 := [])).drew) (cell_kept hrm kd) (fun V kV => ?_) hz1 o2 o3 (fun a2 w2 hs2 k2 o4 => ?_))
  · have := ssame_any z z h h hh hh (some ⟨gr, 0, none⟩) A cr c l l hok hok (by omega) V (rd_old hr2 (kd.trans kV (by simp))) (rd_old hv (kd.trans kV (by simp)))
    rw [sameN_self] at this
    exact this
  · refine wp_ret ?_
    exact (bodyPost_ret (results_t1 (by rfl) (o4.eval (by rw [hs2.size.trans hz1]; decide))) (hs2.defers.trans D) ⟨rfl, kd.trans k2 (by simp)⟩)
end Go.Proofs.YtapboamjpilckaaDoor
/- Joining notes: mathematics. -/
namespace Go.Proofs.YtapboamjpilckaaDoor
open Go.RowKit
/-- A name's sum. -/
def lk (nm : List UInt8) (l : List SigD) : Option (List UInt8) := (l.find? fun s => s.1 == nm).map (·.2)
theorem lk_nil (nm : List UInt8) : lk nm [] = none := rfl
theorem lk_cons (nm : List UInt8) (s : SigD) (l : List SigD) : lk nm (s :: l) = if s.1 == nm then some s.2 else lk nm l := by
  unfold lk
  rw [List.find?_cons]
  cases s.1 == nm <;> rfl
theorem lk_none {nm : List UInt8} : ∀ {l : List SigD}, lk nm l = none ↔ ∀ s, s ∈ l → s.1 ≠ nm
  | [] => by simp [lk_nil]
  | x :: l => by
    rw [lk_cons]
    cases e : x.1 == nm
    · rw [if_neg (by decide), lk_none (l := l)]
      refine ⟨fun h s hs => ?_, fun h s hs => h s (List.mem_cons_of_mem _ hs)⟩
      rcases List.mem_cons.1 hs with rfl | hs
      · intro e2
        rw [e2, beq_self_eq_true] at e
        cases e
      · exact h s hs
    · rw [if_pos rfl]
      refine ⟨fun h => (by cases h), fun h => absurd (eq_of_beq e) (h x (List.mem_cons_self ..))⟩
theorem lk_some {nm v : List UInt8} : ∀ {l : List SigD} {a : List UInt8}, rising a l = true → (lk nm l = some v ↔ (nm, v) ∈ l)
  | [], _, _ => by simp [lk_nil]
  | x :: l, a, h => by
    have h' := h
    unfold rising at h'
    simp only [Bool.and_eq_true, decide_eq_true_eq] at h'
    rw [lk_cons]
    cases e : x.1 == nm
    · rw [if_neg (by decide), lk_some h'.2]
      refine ⟨fun h => List.mem_cons_of_mem _ h, fun h => ?_⟩
      rcases List.mem_cons.1 h with h | h
      · rw [← h, beq_self_eq_true] at e
        cases e
      · exact h
    · rw [if_pos rfl]
      have e1 := eq_of_beq e
      constructor
      · intro h
        cases h
        rw [← e1]
        exact List.mem_cons_self ..
      · intro h2
        rcases List.mem_cons.1 h2 with h2 | h2
        · rw [← h2]
        · have := rising_all h'.2 _ h2
          rw [e1, cmpB_self] at this
          omega
theorem hasN_lk {nm : List UInt8} : ∀ {l : List SigD} {a : List UInt8}, rising a l = true → hasN nm l = (lk nm l).isSome
  | [], _, _ => rfl
  | x :: l, a, h => by
    have h' := h
    unfold rising at h'
    simp only [Bool.and_eq_true, decide_eq_true_eq] at h'
    rw [lk_cons]
    by_cases hx : cmpB x.1 nm < 0
    · rw [hasN_lt hx, hasN_lk h'.2, if_neg (by intro e; rw [eq_of_beq e, cmpB_self] at hx; omega)]
    · rw [hasN_ge hx]
      by_cases h0 : cmpB x.1 nm = 0
      · rw [cmpB_zero h0, beq_self_eq_true, if_pos rfl, cmpB_self]; rfl
      · rw [decide_eq_false h0, if_neg (by intro e; rw [eq_of_beq e] at h0; exact h0 (cmpB_self _))]
        have : lk nm l = none := lk_none.2 fun s hs e => by
          have := rising_all h'.2 s hs
          rw [e] at this
          omega
        rw [this]; rfl
theorem posN_lk {nm v : List UInt8} : ∀ {l : List SigD} {a : List UInt8}, rising a l = true → lk nm l = some v → l[posN nm l]? = some (nm, v)
  | [], _, _, h => by cases h
  | x :: l, a, h, e => by
    have h' := h
    unfold rising at h'
    simp only [Bool.and_eq_true, decide_eq_true_eq] at h'
    rw [lk_cons] at e
    by_cases hx : cmpB x.1 nm < 0
    · rw [if_neg (by intro e2; rw [eq_of_beq e2, cmpB_self] at hx; omega)] at e
      rw [posN_lt hx, List.getElem?_cons_succ]
      exact posN_lk h'.2 e
    · rw [posN_ge hx, List.getElem?_cons_zero]
      cases e2 : x.1 == nm
      · rw [e2, if_neg (by decide)] at e
        have hm := (lk_some h'.2).1 e
        have := rising_all h'.2 _ hm
        exact absurd this hx
      · rw [e2, if_pos rfl] at e
        cases e
        rw [← eq_of_beq e2]
theorem lk_ins {s : SigD} {nm : List UInt8} {l : List SigD} {a : List UInt8} (hn : nmOk s.1 = true) (h : rising a l = true) (h0 : 0 < cmpB s.1 a) (hh : hasN s.1 l = false) : lk nm (insN l s) = if s.1 == nm then some s.2 else lk nm l := by
  have hr := rising_ins hn h h0 hh
  have hm : ∀ x, x ∈ insN l s ↔ x = s ∨ x ∈ l := by
    intro x
    refine ⟨insN_mem, fun h => ?_⟩
    rcases h with rfl | h
    · exact insN_self _ _
    · unfold insN
      have := List.take_append_drop (posN s.1 l) l
      rw [← this] at h
      rcases List.mem_append.1 h with h | h
      · exact List.mem_append_left _ h
      · exact List.mem_append_right _ (List.mem_cons_of_mem _ h)
  cases e : s.1 == nm
  · rw [if_neg (by decide)]
    cases e2 : lk nm l with
    | none =>
      rw [lk_none] at e2 ⊢
      intro x hx
      rcases (hm x).1 hx with rfl | hx
      · intro e3; rw [e3, beq_self_eq_true] at e; cases e
      · exact e2 x hx
    | some v =>
      rw [lk_some h] at e2
      rw [lk_some hr]
      exact (hm _).2 (.inr e2)
  · rw [if_pos rfl, lk_some hr]
    exact (hm _).2 (.inl (by rw [← eq_of_beq e]))
/-- What Join does, one signature after another. -/
def joinF : List SigD → List SigD → Option (List SigD)
  | l, [] => some l
  | l, s :: bs => match lk s.1 l with
    | some v => if v == s.2 then joinF l bs else none
    | none => joinF (insN l s) bs
/-- The same, the names looked up in the first note. -/
def rjoinF (a : List SigD) : List SigD → List SigD → Option (List SigD)
  | l, [] => some l
  | l, s :: bs => match lk s.1 a with
    | some v => if v == s.2 then rjoinF a l bs else none
    | none => rjoinF a (insN l s) bs
theorem rjoin_eq (a : List SigD) : ∀ (bs l : List SigD) (p q : List UInt8), rising p bs = true → rising q l = true → (∀ t, t ∈ bs → 0 < cmpB t.1 q) → (∀ t, t ∈ bs → lk t.1 l = lk t.1 a) → rjoinF a l bs = joinF l bs
  | [], _, _, _, _, _, _, _ => rfl
  | s :: bs, l, p, q, hb, hl, hq, hk => by
    have hb' := hb
    unfold rising at hb'
    simp only [Bool.and_eq_true, decide_eq_true_eq] at hb'
    unfold rjoinF joinF
    have e0 := hk s (List.mem_cons_self ..)
    rw [e0]
    have hk2 : ∀ t, t ∈ bs → lk t.1 l = lk t.1 a := fun t ht => hk t (List.mem_cons_of_mem _ ht)
    have hq2 : ∀ t, t ∈ bs → 0 < cmpB t.1 q := fun t ht => hq t (List.mem_cons_of_mem _ ht)
    cases e : lk s.1 a with
    | some v =>
      simp only
      split
      · exact rjoin_eq a bs l s.1 q hb'.2 hl hq2 hk2
      · rfl
    | none =>
      simp only
      have hh : hasN s.1 l = false := by rw [hasN_lk hl, e0, e]; rfl
      refine rjoin_eq a bs (insN l s) s.1 q hb'.2 (rising_ins hb'.1.1 hl (hq s (List.mem_cons_self ..)) hh) hq2 (fun t ht => ?_)
      rw [lk_ins hb'.1.1 hl (hq s (List.mem_cons_self ..)) hh, if_neg, hk2 t ht]
      intro e3
      have := rising_all hb'.2 t ht
      rw [eq_of_beq e3, cmpB_self] at this
      omega
/-- What joined lists hold. -/
theorem join_mem : ∀ (bs l m : List SigD) (p : List UInt8), rising p bs = true → rising [] l = true → joinF l bs = some m → rising [] m = true ∧ (∀ nm, lk nm m = (lk nm l).or (lk nm bs)) ∧ (∀ t, t ∈ bs → lk t.1 m = some t.2) ∧ m.length ≤ l.length + bs.length
  | [], l, m, p, _, hl, h => by
    unfold joinF at h
    cases h
    exact ⟨hl, (fun nm => by rw [lk_nil]; cases lk nm l <;> rfl), (fun t ht => by cases ht), by simp⟩
  | s :: bs, l, m, p, hb, hl, h => by
    have hb' := hb
    unfold rising at hb'
    simp only [Bool.and_eq_true, decide_eq_true_eq] at hb'
    have h0 := cmp_nil hb'.1.1
    unfold joinF at h
    cases e : lk s.1 l with
    | some v =>
      rw [e] at h
      simp only at h
      split at h
      · rename_i hv
        obtain ⟨h1, h2, h3, h4⟩ := join_mem bs l m s.1 hb'.2 hl h
        refine ⟨h1, fun nm => ?_, fun t ht => ?_, by rw [List.length_cons]; omega⟩
        · rw [h2, lk_cons]
          cases e2 : s.1 == nm
          · rw [if_neg (by decide)]
          · rw [if_pos rfl, ← eq_of_beq e2, e]; rfl
        · rcases List.mem_cons.1 ht with rfl | ht
          · rw [h2, e, eq_of_beq hv]; rfl
          · exact h3 t ht
      · cases h
    | none =>
      rw [e] at h
      simp only at h
      have hh : hasN s.1 l = false := by rw [hasN_lk hl, e]; rfl
      obtain ⟨h1, h2, h3, h4⟩ := join_mem bs (insN l s) m s.1 hb'.2 (rising_ins hb'.1.1 hl h0 hh) h
      have hli := fun nm => lk_ins (nm := nm) hb'.1.1 hl h0 hh
      refine ⟨h1, fun nm => ?_, fun t ht => ?_, by rw [insN_length] at h4; rw [List.length_cons]; omega⟩
      · rw [h2, hli, lk_cons]
        cases e2 : s.1 == nm
        · rw [if_neg (by decide), if_neg (by decide)]
        · rw [if_pos rfl, if_pos rfl, ← eq_of_beq e2, e]; rfl
      · rcases List.mem_cons.1 ht with rfl | ht
        · rw [h2, hli, beq_self_eq_true, if_pos rfl]; rfl
        · exact h3 t ht
theorem join_none : ∀ (bs l : List SigD) (p : List UInt8), rising p bs = true → rising [] l = true → (joinF l bs = none ↔ ∃ t, t ∈ bs ∧ ∃ v, lk t.1 l = some v ∧ v ≠ t.2)
  | [], l, p, _, _ => by unfold joinF; simp
  | s :: bs, l, p, hb, hl => by
    have hb' := hb
    unfold rising at hb'
    simp only [Bool.and_eq_true, decide_eq_true_eq] at hb'
    have h0 := cmp_nil hb'.1.1
    unfold joinF
    cases e : lk s.1 l with
    | some v =>
      simp only
      cases ev : v == s.2
      · rw [if_neg (by decide)]
        refine ⟨fun _ => ⟨s, List.mem_cons_self .., v, e, fun e2 => ?_⟩, fun _ => rfl⟩
        rw [e2, beq_self_eq_true] at ev
        cases ev
      · rw [if_pos rfl, join_none bs l s.1 hb'.2 hl]
        constructor
        · rintro ⟨t, ht, h⟩
          exact ⟨t, List.mem_cons_of_mem _ ht, h⟩
        · rintro ⟨t, ht, u, h1, h2⟩
          rcases List.mem_cons.1 ht with rfl | ht
          · rw [e] at h1
            cases h1
            exact absurd (eq_of_beq ev) h2
          · exact ⟨t, ht, u, h1, h2⟩
    | none =>
      simp only
      have hh : hasN s.1 l = false := by rw [hasN_lk hl, e]; rfl
      have hne : ∀ t, t ∈ bs → (s.1 == t.1) = false := fun t ht => by
        refine beq_false_of_ne fun e3 => ?_
        have := rising_all hb'.2 t ht
        rw [e3, cmpB_self] at this
        omega
      rw [join_none bs (insN l s) s.1 hb'.2 (rising_ins hb'.1.1 hl h0 hh)]
      constructor
      · rintro ⟨t, ht, u, h1, h2⟩
        rw [lk_ins hb'.1.1 hl h0 hh, hne t ht, if_neg (by decide)] at h1
        exact ⟨t, List.mem_cons_of_mem _ ht, u, h1, h2⟩
      · rintro ⟨t, ht, u, h1, h2⟩
        rcases List.mem_cons.1 ht with rfl | ht
        · rw [e] at h1; cases h1
        · refine ⟨t, ht, u, ?_, h2⟩
          rw [lk_ins hb'.1.1 hl h0 hh, hne t ht, if_neg (by decide)]
          exact h1
/-- Rising lists that hold the same are the same. -/
theorem rising_ext : ∀ {l m : List SigD} {a b : List UInt8}, rising a l = true → rising b m = true → (∀ nm, lk nm l = lk nm m) → l = m
  | [], [], _, _, _, _, _ => rfl
  | [], y :: m, _, _, _, _, h => by have := h y.1; rw [lk_nil, lk_cons, beq_self_eq_true, if_pos rfl] at this; cases this
  | x :: l, [], _, _, _, _, h => by have := h x.1; rw [lk_nil, lk_cons, beq_self_eq_true, if_pos rfl] at this; cases this
  | x :: l, y :: m, a, b, hl, hm, h => by
    have hl' := hl
    have hm' := hm
    unfold rising at hl' hm'
    simp only [Bool.and_eq_true, decide_eq_true_eq] at hl' hm'
    have hx : (x.1, x.2) ∈ y :: m := (lk_some hm).1 (by rw [← h x.1, lk_cons, beq_self_eq_true, if_pos rfl])
    have hy : (y.1, y.2) ∈ x :: l := (lk_some hl).1 (by rw [h y.1, lk_cons, beq_self_eq_true, if_pos rfl])
    have hxy : x = y := by
      rcases List.mem_cons.1 hx with e | e
      · exact e
      · rcases List.mem_cons.1 hy with e2 | e2
        · exact e2.symm
        · have h1 := rising_all hm'.2 _ e
          have h2 := rising_all hl'.2 _ e2
          have h3 := cmpB_neg x.1 y.1
          dsimp only at h1 h2
          omega
    subst hxy
    congr 1
    refine rising_ext hl'.2 hm'.2 fun nm => ?_
    have := h nm
    rw [lk_cons, lk_cons] at this
    cases e : x.1 == nm
    · rw [e, if_neg (by decide), if_neg (by decide)] at this
      exact this
    · have e1 := eq_of_beq e
      rw [lk_none.2, lk_none.2]
      · intro s hs e2
        have := rising_all hm'.2 s hs
        rw [e2, e1, cmpB_self] at this
        omega
      · intro s hs e2
        have := rising_all hl'.2 s hs
        rw [e2, e1, cmpB_self] at this
        omega
theorem join_sym {l m : List SigD} (hl : rising [] l = true) (hm : rising [] m = true) : joinF l m = joinF m l := by
  have key : ∀ {l m : List SigD}, rising [] l = true → rising [] m = true → joinF l m = none → joinF m l = none := by
    intro l m hl hm h
    rw [join_none _ _ _ hm hl] at h
    rw [join_none _ _ _ hl hm]
    obtain ⟨t, ht, v, h1, h2⟩ := h
    have hv := (lk_some hl).1 h1
    exact ⟨(t.1, v), hv, t.2, (lk_some hm).2 ht, fun e => h2 e.symm⟩
  cases e1 : joinF l m with
  | none => exact (key hl hm e1).symm
  | some x =>
    cases e2 : joinF m l with
    | none => rw [key hm hl e2] at e1; cases e1
    | some y =>
      obtain ⟨h1, h2, h3, -⟩ := join_mem _ _ _ _ hm hl e1
      obtain ⟨g1, g2, g3, -⟩ := join_mem _ _ _ _ hl hm e2
      congr 1
      refine rising_ext h1 g1 fun nm => ?_
      cases e3 : lk nm m with
      | none => rw [h2, g2, e3]; cases lk nm l <;> rfl
      | some v =>
        have hv := (lk_some hm).1 e3
        rw [g2, e3, show lk nm x = some v from h3 _ hv]
        rfl
theorem join_self : ∀ (bs l : List SigD), rising [] l = true → (∀ t, t ∈ bs → t ∈ l) → joinF l bs = some l
  | [], _, _, _ => rfl
  | s :: bs, l, hl, h => by
    unfold joinF
    rw [(lk_some hl).2 (show (s.1, s.2) ∈ l from h s (List.mem_cons_self ..))]
    simp only [beq_self_eq_true, if_true]
    exact join_self bs l hl fun t ht => h t (List.mem_cons_of_mem _ ht)
end Go.Proofs.YtapboamjpilckaaDoor
/- SignHolds: its regions. -/
namespace Go.Proofs.YtapboamjpilckaaDoor
open Go.RowKit
theorem op_store_blkS {P : Program} {o : Oper} {a : Act} {w0 w : World} {K : Act → World → Prop} {Q : Exit → Act → World → Prop} {L : List Res} (x y : Operand) (ty : TypeId) (ho : o.op = .store ty x y) (g : Nat) (hx : a.eval x = .pointer (some ⟨g, 0, none⟩)) (cs : Array Value) (hy : a.eval y = .agg cs)
    (t : TypeId) (old : Array Value) (S : Held w0 w (blkR g t old :: L)) (hi : (P.info? ty).map (·.size) = some cs.size) (hold : cs.size = old.size) (h1 : ∀ u, u ∈ cs.toList → u.oneCell' = true)
    (h : ∀ w', Held w0 w' (blkR g t cs :: L) → K (a.put o.dst undef) w') : o.wp P a w K Q := by
  refine op_store_part x y ty ho g 0 hx cs hy t old (S.at_ (l1 := [])) hi (by omega) h1 (fun w' h2 k2 => h w' (Held.setBlk (l1 := []) S ?_ k2))
  rw [set_all _ _ hold.symm] at h2
  exact h2
-- REG shl0
-- END shl0
-- REG shl1
-- END shl1
-- REG shl3
-- END shl3
-- REG shl22
-- END shl22
-- REG shl4
-- END shl4
-- REG shl11
-- END shl11
-- REG shl19
-- END shl19
-- REG shl5
-- END shl5
-- REG shl6
-- END shl6
-- REG shl7
-- END shl7
-- REG shl8Y
-- END shl8Y
-- REG shl8N
-- END shl8N
-- REG shl10Y
-- END shl10Y
-- REG shl10N
-- END shl10N
-- REG shl18
-- END shl18
-- REG shl12a
-- END shl12a
-- REG shl12b
-- END shl12b
-- REG shl12c
-- END shl12c
-- REG shl14
-- END shl14
-- REG shl15
-- END shl15
-- REG shl16
-- END shl16
-- REG shl9
-- END shl9
-- REG shl21
-- END shl21
-- REG shl23
-- END shl23
-- REG shl24
-- END shl24
end Go.Proofs.YtapboamjpilckaaDoor
