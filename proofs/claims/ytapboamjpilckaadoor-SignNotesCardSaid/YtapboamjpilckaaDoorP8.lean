/- Several texts in one: SigAS, SigAT, SigAU, SigAV, SigAP, SigAW, SigAX, SigAY, SigAZ, SigBA, SigBB, SigBC. -/
import Derived.Test.YtapboamjpilckaaDoorP7
set_option maxRecDepth 100000
set_option maxHeartbeats 8000000
namespace Go.Proofs.YtapboamjpilckaaDoor
/- find, lay, Same of the reference; lent, left of the law: their regions. -/
section
variable {Q : Exit → Act → World → Prop} {a : Act} {w : World}
open Go.RowKit
def loA (A : Option Addr) (k c : Nat) : Option Addr := if c = k then A else A.map (·.add (k * 33))
theorem cut_loT (A : Option Addr) (n c k : Nat) (hk : k ≤ n) (w : World) : (Instr.sliceAt 34 (.slice A n c) (some (.int .i64 (k : Int))) none none).run Tryd.prog w = .ok (.slice (loA A k c) (n - k) (c - k)) w := cut_loS A n c k hk w
theorem rd_loT {w : World} {A : Option Addr} {n c k : Nat} {l : List SigD} (hok : SgOk l) (h : Rd w 33 (.slice A n c) n (sgsC l)) (hn : n = l.length) (hk : k ≤ n) : Rd w 33 (.slice (loA A k c) (n - k) (c - k)) (n - k) (sgsC (l.drop k)) := rd_loS hok h hn hk
def roomS : SigD := ([114, 111, 111, 109], List.replicate 32 0)
theorem Tryd.built_room : Tryd.prog.built 81 [(0, .string ⟨#[114, 111, 111, 109]⟩)] = some (sgA roomS) := by kernel_rfl
theorem op_sigs1 {o : Oper} {a : Act} {w : World} {K : Act → World → Prop} {Q : Exit → Act → World → Prop} (x : Operand) (ho : o.op = .buildSlice 34 1 #[(0, x)]) (cs : Array Value) (hcs : cs.size = 33) (hx : a.eval x = .agg cs)
 (h : K (a.put o.dst (.slice (some ⟨w.heap.size, 0, none⟩) 1 1)) (w.alloc (.cells cs 81))) : o.wp Tryd.prog a w K Q := by
 obtain ⟨i0, hi, hz, hsize, -⟩ := info_parts Tryd.infoSigZ
 refine wp_buildSlice 34 81 1 #[(0, x)] ho cs i0 _ Tryd.underlying34 hi hz (by rw [hsize]; decide) (by rw [hsize]; decide) ?_ h
 rw [hsize, show ((#[(0, x)] : Array (Nat × Operand)).map fun (i, x) => (i, a.eval x)).toList = [(0, .agg cs)] from by simp [hx]]
 exact fill_sig hcs
theorem wpList_sigs1 {ops : Array Oper} {rest : List Oper} {o : Oper} {a : Act} {w : World} {Q : Exit → Act → World → Prop} (hg : o.guard = none) (x : Operand) (ho : o.op = .buildSlice 34 1 #[(0, x)]) (cs : Array Value) (hcs : cs.size = 33) (hx : a.eval x = .agg cs)
 (h : wpList Tryd.prog ops Q rest (a.put o.dst (.slice (some ⟨w.heap.size, 0, none⟩) 1 1)) (w.alloc (.cells cs 81))) : wpList Tryd.prog ops Q (o :: rest) a w :=
 wpList_plain hg fun _ hK => op_sigs1 x ho cs hcs hx (hK _ _ h)
theorem sfd_r0  (hsz : a.tmps.size = 20) 
 (hend : ∀ a', Same a a' [4] → Sl a' 4 (.int .i64 (0 : Int)) → Q .normal a' (w)) : (Code.region 0 (opsOf 0 Tryd.f51).toArray false).wp Tryd.prog Q a w := by
 refine wp_region_lit ?_
 (conv => arg 4; whnf)
 go_wp2_with fail
 try simp only [Act.put]
 exact hend _ sS sP
theorem sfd_r1  (hsz : a.tmps.size = 20) 
 (hend : ∀ a', Same a a' [5] → Sl a' 5 (.int .i64 ((0 : Nat) : Int)) → Q .normal a' (w)) : (Code.region 1 (opsOf 1 Tryd.f51).toArray false).wp Tryd.prog Q a w := by
 refine wp_region_lit ?_
 (conv => arg 4; whnf)
 go_wp2_with fail
 try simp only [Act.put]
 exact hend _ sS sP
theorem sfd_r2 (A : Option Addr) (k n c : Nat) (hsz : a.tmps.size = 20) (o0 : Sl a 0 (.slice A n c)) (o5 : Sl a 5 (.int .i64 ((k : Nat) : Int)))
 (hend : ∀ a', Same a a' [6, 7, 8, 9] → Sl a' 9 (.bool (decide (k < n))) → Q .normal a' (w)) : (Code.region 2 (opsOf 2 Tryd.f51).toArray false).wp Tryd.prog Q a w := by
 refine wp_region_lit ?_
 (conv => arg 4; whnf)
 unfold Sl at o0 o5
 go_wp2_with fail
 try simp only [Act.put]
 exact hend _ sS sP
theorem sfd_r4 (ad : Addr) (k n c : Nat) (hk : k < n) (ns nm : ByteArray) (hc : w.cell? (ad.add (k * 33)) = some (.string ns)) (b : Bool) (hb : (ns.toList == nm.toList) = b) (hsz : a.tmps.size = 20) (o0 : Sl a 0 (.slice (some ad) n c)) (o1 : Sl a 1 (.string nm)) (o5 : Sl a 5 (.int .i64 ((k : Nat) : Int)))
 (hend : ∀ a', Same a a' [12, 13, 14, 15, 16, 17, 18] → Sl a' 18 (.bool b) → Q .normal a' (w)) : (Code.region 4 (opsOf 4 Tryd.f51).toArray false).wp Tryd.prog Q a w := by
 refine wp_region_lit ?_
 (conv => arg 4; whnf)
 unfold Sl at o0 o1 o5
 have h0 : 0 ≤ (k : Int) := by omega
 have h1 : (k : Int) < (n : Int) := by omega
 go_wp2_with fail
 try simp only [Act.put]
 exact hend _ sS sP
theorem sfd_r5 (k : Nat) (hsz : a.tmps.size = 20) (o5 : Sl a 5 (.int .i64 ((k : Nat) : Int)))
 (hend : ∀ a', Same a a' [19, 4] → Sl a' 4 (.int .i64 ((k : Nat) : Int)) → Q .normal a' (w)) : (Code.region 5 (opsOf 5 Tryd.f51).toArray false).wp Tryd.prog Q a w := by
 refine wp_region_lit ?_
 (conv => arg 4; whnf)
 unfold Sl at o5
 go_wp2_with fail
 try simp only [Act.put]
 exact hend _ sS sP
theorem sfd_r3 (k : Nat) (hk : k < 9223372036854775807) (hsz : a.tmps.size = 20) (o5 : Sl a 5 (.int .i64 ((k : Nat) : Int)))
 (hend : ∀ a', Same a a' [10, 11, 5] → Sl a' 5 (.int .i64 ((k + 1 : Nat) : Int)) → Q .normal a' (w)) : (Code.region 3 (opsOf 3 Tryd.f51).toArray false).wp Tryd.prog Q a w := by
 refine wp_region_lit ?_
 (conv => arg 4; whnf)
 unfold Sl at o5
 have hw : wrap64 ((k : Int) + 1) = (k : Int) + 1 := by unfold wrap64; omega
 go_wp2_with fail
 try simp only [Act.put]
 exact hend _ sS sP
theorem sfd_r6  (hsz : a.tmps.size = 20) 
 (hend : ∀ a', Same a a' [4] → Sl a' 4 (.int .i64 (-1 : Int)) → Q .normal a' (w)) : (Code.region 6 (opsOf 6 Tryd.f51).toArray false).wp Tryd.prog Q a w := by
 refine wp_region_lit ?_
 (conv => arg 4; whnf)
 go_wp2_with fail
 try simp only [Act.put]
 exact hend _ sS sP
theorem sly_r0 (w0 : World) (s : SigD) (L : List Res) (S : Held w0 w L) (hsz : a.tmps.size = 36) (o1 : Sl a 1 (.agg (sgA s)))
 (hend : ∀ a' W, Same a a' [3, 4] → Sl a' 4 (.slice none 0 0) → (∃ g, Sl a' 3 (.pointer (some ⟨g, 0, none⟩)) ∧ Held w0 W (blkR g 81 (sgA s) :: L)) → Q .normal a' W) : (Code.region 0 (opsOf 0 Tryd.f52).toArray false).wp Tryd.prog Q a w := by
 refine wp_region_lit ?_
 (conv => arg 4; whnf)
 unfold Sl at o1
 have S0 := Lib.hid (S.newBlk 81 (sgA s))
 generalize sgA s = cs at *
 go_wp2_with fail
 try simp only [Act.put]
 exact hend _ _ sS sP (⟨_, sP0, S0.out⟩)
theorem sly_r1  (hsz : a.tmps.size = 36) 
 (hend : ∀ a', Same a a' [5] → Sl a' 5 (.int .i64 ((0 : Nat) : Int)) → Q .normal a' (w)) : (Code.region 1 (opsOf 1 Tryd.f52).toArray false).wp Tryd.prog Q a w := by
 refine wp_region_lit ?_
 (conv => arg 4; whnf)
 go_wp2_with fail
 try simp only [Act.put]
 exact hend _ sS sP
theorem sly_r2N (A : Option Addr) (k n c : Nat) (hk : ¬ k < n) (hsz : a.tmps.size = 36) (o0 : Sl a 0 (.slice A n c)) (o5 : Sl a 5 (.int .i64 ((k : Nat) : Int)))
 (hend : ∀ a' W, Same a a' [7, 8, 9, 10, 11, 12, 13, 14, 15, 16, 17, 18, 19, 20] → Kp [] w.drew W → Sl a' 20 (.bool false) → Q .normal a' W) : (Code.region 2 (opsOf 2 Tryd.f52).toArray true).wp Tryd.prog Q a w := by
 have hap : apartB (opsOf 2 Tryd.f52) = true := by kernel_rfl
 refine wp_region_invG (l := (opsOf 2 Tryd.f52)) (fun i v W => match i with | 0 => v = .int .i64 ((k : Nat) : Int) | 1 => v = .slice A n c | 2 => v = .int .i64 ((n : Nat) : Int) | 3 => v = .bool false | 4 => v = .bool false | 13 => v = .bool false | _ => True) (by kernel_rfl) hap (by kernel_rfl) ?_ ?_ ?_
 · intro i v W W' h _
   iterate 14 (rcases i with _ | i; · exact h)
   exact h
 · refine ⟨?_, ?_, ?_, ?_, ?_, ?_, ?_, ?_, ?_, ?_, ?_, ?_, ?_, ?_, trivial⟩
   · intro vs A' W hA hW hd K hK; refine wpOp_free _ rfl rfl ?_; (conv => arg 2; whnf); have e5 := sO 5 o5 hA hap hsz; clear hA hd o0 o5; go_step; exact hK _ _ kR rfl
   · intro vs A' W hA hW hd K hK; refine wpOp_free _ rfl rfl ?_; (conv => arg 2; whnf); have e0 := sO 0 o0 hA hap hsz; clear hA hd o0 o5; go_step; exact hK _ _ kR rfl
   · intro vs A' W hA hW hd K hK; refine wpOp_free _ rfl rfl ?_; (conv => arg 2; whnf); have e8 := sV 8 (hd 1 (by kernel_rfl)) hA hap hsz; clear hA hd o0 o5; go_step; exact hK _ _ kR rfl
   · intro vs A' W hA hW hd K hK; refine wpOp_free _ rfl rfl ?_; (conv => arg 2; whnf); have e7 := sV 7 (hd 0 (by kernel_rfl)) hA hap hsz; have e9 := sV 9 (hd 2 (by kernel_rfl)) hA hap hsz; clear hA hd o0 o5
     have hk2 : ¬ (k : Int) < (n : Int) := by omega
     go_step
     exact hK _ _ kR (by first | rfl | (congr 1; exact decide_eq_false (by omega)))
   · intro vs A' W hA hW hd K hK; refine wpOp_free _ rfl rfl ?_; (conv => arg 2; whnf); have e10 := sV 10 (hd 3 (by kernel_rfl)) hA hap hsz; clear hA hd o0 o5; go_step; exact hK _ _ kR rfl
   · intro vs A' W hA hW hd K hK; have e11 := sV 11 (hd 4 (by kernel_rfl)) hA hap hsz; refine wpOp_skip _ rfl 4 11 true rfl rfl e11 ?_; exact hK _ _ kR trivial
   · intro vs A' W hA hW hd K hK; have e11 := sV 11 (hd 4 (by kernel_rfl)) hA hap hsz; refine wpOp_skip _ rfl 4 11 true rfl rfl e11 ?_; exact hK _ _ kR trivial
   · intro vs A' W hA hW hd K hK; have e11 := sV 11 (hd 4 (by kernel_rfl)) hA hap hsz; refine wpOp_skip _ rfl 4 11 true rfl rfl e11 ?_; exact hK _ _ kR trivial
   · intro vs A' W hA hW hd K hK; have e11 := sV 11 (hd 4 (by kernel_rfl)) hA hap hsz; refine wpOp_skip _ rfl 4 11 true rfl rfl e11 ?_; exact hK _ _ kR trivial
   · intro vs A' W hA hW hd K hK; have e11 := sV 11 (hd 4 (by kernel_rfl)) hA hap hsz; refine wpOp_skip _ rfl 4 11 true rfl rfl e11 ?_; exact hK _ _ kR trivial
   · intro vs A' W hA hW hd K hK; have e11 := sV 11 (hd 4 (by kernel_rfl)) hA hap hsz; refine wpOp_skip _ rfl 4 11 true rfl rfl e11 ?_; exact hK _ _ kR trivial
   · intro vs A' W hA hW hd K hK; have e11 := sV 11 (hd 4 (by kernel_rfl)) hA hap hsz; refine wpOp_skip _ rfl 4 11 true rfl rfl e11 ?_; exact hK _ _ kR trivial
   · intro vs A' W hA hW hd K hK; have e11 := sV 11 (hd 4 (by kernel_rfl)) hA hap hsz; refine wpOp_skip _ rfl 4 11 true rfl rfl e11 ?_; exact hK _ _ kR trivial
   · intro vs A' W hA hW hd K hK; refine wpOp_free _ rfl rfl ?_; (conv => arg 2; whnf); have e11 := sV 11 (hd 4 (by kernel_rfl)) hA hap hsz
     have e19 := sU 19 12 hA hap hsz
     clear hA hd o0 o5; go_step; exact hK _ _ kR rfl
 · intro vs W hW hp
   rw [putAll_eq]
   exact hend _ W sQ hW (sW (hp 13 sB))
theorem sly_r2Y (ad : Addr) (k n c : Nat) (hk : k < n) (nx ns : ByteArray) (hc : ∀ V, Kp [] w.drew V → V.cell? (ad.add (k * 33)) = some (.string nx)) (g : Nat) (s : SigD) (hns : strV s.1 = .string ns) (hb : Blk w.drew g 81 (sgA s)) (b : Bool) (hlt : Op.bytesLess nx.toList ns.toList = b) (hsz : a.tmps.size = 36) (o0 : Sl a 0 (.slice (some ad) n c)) (o3 : Sl a 3 (.pointer (some ⟨g, 0, none⟩))) (o5 : Sl a 5 (.int .i64 ((k : Nat) : Int)))
 (hend : ∀ a' W, Same a a' [7, 8, 9, 10, 11, 12, 13, 14, 15, 16, 17, 18, 19, 20] → Kp [] w.drew W → Sl a' 20 (.bool b) → Q .normal a' W) : (Code.region 2 (opsOf 2 Tryd.f52).toArray true).wp Tryd.prog Q a w := by
 have hap : apartB (opsOf 2 Tryd.f52) = true := by kernel_rfl
 refine wp_region_invG (l := (opsOf 2 Tryd.f52)) (fun i v W => match i with | 0 => v = .int .i64 ((k : Nat) : Int) | 1 => v = .slice (some ad) n c | 2 => v = .int .i64 ((n : Nat) : Int) | 3 => v = .bool true | 4 => v = .bool true | 5 => v = .slice (some ad) n c | 6 => v = .int .i64 ((k : Nat) : Int) | 7 => v = .pointer (some (ad.add (k * 33))) | 8 => v = .pointer (some (ad.add (k * 33))) | 9 => v = .string nx | 10 => v = .pointer (some ⟨g, 0, none⟩) | 11 => v = .string ns | 12 => v = .bool b | 13 => v = .bool b | _ => True) (by kernel_rfl) hap (by kernel_rfl) ?_ ?_ ?_
 · intro i v W W' h _
   iterate 14 (rcases i with _ | i; · exact h)
   exact h
 · refine ⟨?_, ?_, ?_, ?_, ?_, ?_, ?_, ?_, ?_, ?_, ?_, ?_, ?_, ?_, trivial⟩
   · intro vs A' W hA hW hd K hK; refine wpOp_free _ rfl rfl ?_; (conv => arg 2; whnf); have e5 := sO 5 o5 hA hap hsz; clear hA hd o0 o3 o5; go_step; exact hK _ _ kR rfl
   · intro vs A' W hA hW hd K hK; refine wpOp_free _ rfl rfl ?_; (conv => arg 2; whnf); have e0 := sO 0 o0 hA hap hsz; clear hA hd o0 o3 o5; go_step; exact hK _ _ kR rfl
   · intro vs A' W hA hW hd K hK; refine wpOp_free _ rfl rfl ?_; (conv => arg 2; whnf); have e8 := sV 8 (hd 1 (by kernel_rfl)) hA hap hsz; clear hA hd o0 o3 o5; go_step; exact hK _ _ kR rfl
   · intro vs A' W hA hW hd K hK; refine wpOp_free _ rfl rfl ?_; (conv => arg 2; whnf); have e7 := sV 7 (hd 0 (by kernel_rfl)) hA hap hsz; have e9 := sV 9 (hd 2 (by kernel_rfl)) hA hap hsz; clear hA hd o0 o3 o5
     have hk2 : (k : Int) < (n : Int) := by omega
     go_step
     exact hK _ _ kR (by first | rfl | (congr 1; exact decide_eq_true (by omega)))
   · intro vs A' W hA hW hd K hK; refine wpOp_free _ rfl rfl ?_; (conv => arg 2; whnf); have e10 := sV 10 (hd 3 (by kernel_rfl)) hA hap hsz; clear hA hd o0 o3 o5; go_step; exact hK _ _ kR rfl
   · intro vs A' W hA hW hd K hK; have e11 := sV 11 (hd 4 (by kernel_rfl)) hA hap hsz; refine wpOp_go _ rfl 4 11 true rfl rfl e11 ?_; (conv => arg 2; whnf); have e0 := sO 0 o0 hA hap hsz; clear hA hd o0 o3 o5; go_step; exact hK _ _ kR rfl
   · intro vs A' W hA hW hd K hK; have e11 := sV 11 (hd 4 (by kernel_rfl)) hA hap hsz; refine wpOp_go _ rfl 4 11 true rfl rfl e11 ?_; (conv => arg 2; whnf); have e5 := sO 5 o5 hA hap hsz; clear hA hd o0 o3 o5; go_step; exact hK _ _ kR rfl
   · intro vs A' W hA hW hd K hK; have e11 := sV 11 (hd 4 (by kernel_rfl)) hA hap hsz; refine wpOp_go _ rfl 4 11 true rfl rfl e11 ?_; (conv => arg 2; whnf); have e12 := sV 12 (hd 5 (by kernel_rfl)) hA hap hsz; have e13 := sV 13 (hd 6 (by kernel_rfl)) hA hap hsz; clear hA hd o0 o3 o5
     have h0 : 0 ≤ (k : Int) := by omega
     have h1 : (k : Int) < (n : Int) := by omega
     go_step; exact hK _ _ kR rfl
   · intro vs A' W hA hW hd K hK; have e11 := sV 11 (hd 4 (by kernel_rfl)) hA hap hsz; refine wpOp_go _ rfl 4 11 true rfl rfl e11 ?_; (conv => arg 2; whnf); have e14 := sV 14 (hd 7 (by kernel_rfl)) hA hap hsz; clear hA hd o0 o3 o5; go_step; exact hK _ _ kR rfl
   · intro vs A' W hA hW hd K hK; have e11 := sV 11 (hd 4 (by kernel_rfl)) hA hap hsz; refine wpOp_go _ rfl 4 11 true rfl rfl e11 ?_; (conv => arg 2; whnf); have e15 := sV 15 (hd 8 (by kernel_rfl)) hA hap hsz; clear hA hd o0 o3 o5
     have c0 := hc _ hW
     go_step; exact hK _ _ kR rfl
   · intro vs A' W hA hW hd K hK; have e11 := sV 11 (hd 4 (by kernel_rfl)) hA hap hsz; refine wpOp_go _ rfl 4 11 true rfl rfl e11 ?_; (conv => arg 2; whnf); have e3 := sO 3 o3 hA hap hsz; clear hA hd o0 o3 o5; go_step; exact hK _ _ kR rfl
   · intro vs A' W hA hW hd K hK; have e11 := sV 11 (hd 4 (by kernel_rfl)) hA hap hsz; refine wpOp_go _ rfl 4 11 true rfl rfl e11 ?_; (conv => arg 2; whnf); have e17 := sV 17 (hd 10 (by kernel_rfl)) hA hap hsz; clear hA hd o0 o3 o5
     have c0 : W.cell? ⟨g, 0, none⟩ = some (.string ns) := by rw [(hb.kp hW (by simp)).cell, ← hns]; rfl
     go_step; exact hK _ _ kR rfl
   · intro vs A' W hA hW hd K hK; have e11 := sV 11 (hd 4 (by kernel_rfl)) hA hap hsz; refine wpOp_go _ rfl 4 11 true rfl rfl e11 ?_; (conv => arg 2; whnf); have e16 := sV 16 (hd 9 (by kernel_rfl)) hA hap hsz; have e18 := sV 18 (hd 11 (by kernel_rfl)) hA hap hsz; clear hA hd o0 o3 o5; go_step
     exact hK _ _ kR (by first | rfl | exact congrArg Value.bool hlt)
   · intro vs A' W hA hW hd K hK; refine wpOp_free _ rfl rfl ?_; (conv => arg 2; whnf); have e11 := sV 11 (hd 4 (by kernel_rfl)) hA hap hsz; have e19 := sV 19 (hd 12 (by kernel_rfl)) hA hap hsz; clear hA hd o0 o3 o5; go_step; exact hK _ _ kR rfl
 · intro vs W hW hp
   rw [putAll_eq]
   exact hend _ W sQ hW (sW (hp 13 sB))
theorem sly_r3 (k : Nat) (hk : k < 9223372036854775807) (hsz : a.tmps.size = 36) (o5 : Sl a 5 (.int .i64 ((k : Nat) : Int)))
 (hend : ∀ a', Same a a' [21, 22, 5] → Sl a' 5 (.int .i64 ((k + 1 : Nat) : Int)) → Q .normal a' (w)) : (Code.region 3 (opsOf 3 Tryd.f52).toArray false).wp Tryd.prog Q a w := by
 refine wp_region_lit ?_
 (conv => arg 4; whnf)
 unfold Sl at o5
 have hw : wrap64 ((k : Int) + 1) = (k : Int) + 1 := by unfold wrap64; omega
 go_wp2_with fail
 try simp only [Act.put]
 exact hend _ sS sP
theorem sly_r4 (w0 : World) (A : Option Addr) (c : Nat) (l : List SigD) (hok : SgOk l) (hll : l.length ≤ 2000000) (k : Nat) (hk : k ≤ l.length) (hv : ∀ V, Kp [] w0 V → Rd V 33 (.slice A l.length c) l.length (sgsC l)) (hc : l.length ≤ c) (L : List Res) (S : Held w0 w L) (hsz : a.tmps.size = 36) (o0 : Sl a 0 (.slice A l.length c)) (o5 : Sl a 5 (.int .i64 ((k : Nat) : Int)))
 (hend : ∀ a' W, Same a a' [23, 24, 25, 26, 6] → (∃ v, Sl a' 6 v ∧ Held w0 W (rowR 81 33 v k (sgsC (l.take k)) :: L)) → Q .normal a' W) : (Code.region 4 (opsOf 4 Tryd.f52).toArray false).wp Tryd.prog Q a w := by
 refine wp_region_lit ?_
 (conv => arg 4; whnf)
 unfold Sl at o0 o5
 have S := Lib.hid S
 have q := fun w => cut_hiS A l.length c k (by omega) w
 have HR := Lib.hid (rd_hiS hok (hv _ S.out.k) rfl hk)
 have hb1 : Hid (k ≤ maxLen ∧ (k) * 48 ≤ 140737488355328) := Lib.hid (by unfold maxLen; omega)
 clear hv
 go_wp2_with (at_builtin; refine wpList_appHN rfl (.const (.slice none 0 0)) (.tmp 25) 34 81 rfl Tryd.infoSigZ Tryd.underlying34 rfl (by decide) rfl S.out (.slice A k c) k (sgsC (l.take k)) (by simp [Act.eval, Act.put, hsz]) HR.out (sgsC_one _) hb1.out.1 hb1.out.2 ?_; intro v1 w1 S1; have S1 := Lib.hid S1)
 try simp only [Act.put]
 exact hend _ _ sS (⟨v1, sP0, S1.out⟩)
theorem sly_r5 (w0 : World) (u : Value) (m : Nat) (hm : m ≤ 2000000) (xs : List Value) (g : Nat) (s : SigD) (hs : s.2.length = 32) (L : List Res) (S : Held w0 w (rowR 81 33 u m xs :: blkR g 81 (sgA s) :: L)) (hsz : a.tmps.size = 36) (o3 : Sl a 3 (.pointer (some ⟨g, 0, none⟩))) (o6 : Sl a 6 (u))
 (hend : ∀ a' W, Same a a' [27, 28, 29, 30, 6] → (∃ v, Sl a' 6 v ∧ Held w0 W (rowR 81 33 v (m + 1) (xs ++ (sgA s).toList) :: L)) → Q .normal a' W) : (Code.region 5 (opsOf 5 Tryd.f52).toArray false).wp Tryd.prog Q a w := by
 refine wp_region_lit ?_
 (conv => arg 4; whnf)
 unfold Sl at o3 o6
 have S := Lib.hid S
 have HO := Lib.hid (sgA_one s)
 have hz2 : Hid ((sgA s).size = 33) := Lib.hid (sgA_size hs)
 have hR1 := fun V vb (hb : Blk V vb 81 (sgA s)) => rd_sig1 hb hs
 have hR1 := Lib.hid hR1
 have hF := Lib.hid (fill_sig (sgA_size hs))
 have hb1 : Hid (m + 1 ≤ maxLen ∧ (m + 1) * 48 ≤ 140737488355328) := Lib.hid (by unfold maxLen; omega)
 generalize sgA s = cs at *
 go_wp2_with (first
  | (refine wpList_load_blk rfl 81 (.tmp 3) rfl g (by simp [Act.eval, Act.put, hsz, o3]) 81 _ (S.out.at_ (l1 := [_])) _ Tryd.underlying81 rfl (by rw [hz2.out]; exact Tryd.infoSig) ?_)
  | (refine wpList_sigs1 rfl (.tmp 28) rfl cs hz2.out (by simp [Act.eval, Act.put, hsz]) ?_; have S2 := Lib.hid ((S.out.newBlk 81 cs).pull 1 rfl); have HR := Lib.hid (hR1.out _ _ (S2.out.at_ (l1 := [_]))))
  | (at_builtin; refine wpList_appH rfl (.tmp 27) (.tmp 29) 34 81 rfl Tryd.infoSigZ Tryd.underlying34 rfl (by decide) u m xs (by simp [Act.eval, Act.put, hsz]) S2.out (.slice (some ⟨w.heap.size, 0, none⟩) 1 1) 1 cs.toList (by simp [Act.eval, Act.put, hsz]) HR.out HO.out hb1.out.1 hb1.out.2 ?_; intro v2 w2 S3; have S3 := Lib.hid S3))
 try simp only [Act.put]
 exact hend _ _ sS (⟨v2, sP0, S3.out.some_of (List.Sublist.cons_cons _ (List.Sublist.cons _ (List.Sublist.cons _ (List.Sublist.refl _))))⟩)
theorem sly_r6 (w0 : World) (A : Option Addr) (c : Nat) (l : List SigD) (hok : SgOk l) (hll : l.length ≤ 2000000) (k : Nat) (hk : k ≤ l.length) (hv : ∀ V, Kp [] w0 V → Rd V 33 (.slice A l.length c) l.length (sgsC l)) (u : Value) (m : Nat) (hm : m ≤ 2000000) (xs : List Value) (L : List Res) (S : Held w0 w (rowR 81 33 u m xs :: L)) (hsz : a.tmps.size = 36) (o0 : Sl a 0 (.slice A l.length c)) (o5 : Sl a 5 (.int .i64 ((k : Nat) : Int))) (o6 : Sl a 6 (u))
 (hend : ∀ a' W, Same a a' [31, 32, 33, 34, 35, 4] → (∃ v, Sl a' 4 v ∧ Held w0 W (rowR 81 33 v (m + (l.length - k)) (xs ++ sgsC (l.drop k)) :: L)) → Q .normal a' W) : (Code.region 6 (opsOf 6 Tryd.f52).toArray false).wp Tryd.prog Q a w := by
 refine wp_region_lit ?_
 (conv => arg 4; whnf)
 unfold Sl at o0 o5 o6
 have S := Lib.hid S
 have q := fun w => cut_loT A l.length c k hk w
 have HR := Lib.hid (rd_loT hok (hv _ S.out.k) rfl hk)
 clear hv
 obtain ⟨dk, hdk⟩ : ∃ dk, l.length - k = dk := ⟨_, rfl⟩
 rw [hdk] at HR
 simp only [hdk] at q
 have hb1 : Hid (m + dk ≤ maxLen ∧ (m + dk) * 48 ≤ 140737488355328) := Lib.hid (by unfold maxLen; omega)
 rw [hdk] at hend
 clear hdk
 go_wp2_with (at_builtin; refine wpList_appH rfl (.tmp 31) (.tmp 34) 34 81 rfl Tryd.infoSigZ Tryd.underlying34 rfl (by decide) u m xs (by simp [Act.eval, Act.put, hsz]) S.out (.slice (loA A k c) dk (c - k)) dk (sgsC (l.drop k)) (by simp [Act.eval, Act.put, hsz]) HR.out (sgsC_one _) hb1.out.1 hb1.out.2 ?_; intro v1 w1 S1; have S1 := Lib.hid S1)
 try simp only [Act.put]
 exact hend _ _ sS (⟨v1, sP0, S1.out⟩)
theorem ssa_r0 (w0 : World) (ca cb : Array Value) (L : List Res) (S : Held w0 w L) (hsz : a.tmps.size = 38) (o0 : Sl a 0 (.agg ca)) (o1 : Sl a 1 (.agg cb))
 (hend : ∀ a' W, Same a a' [2, 3, 4] → Sl a' 4 (.bool false) → (∃ g2 g3, Sl a' 2 (.pointer (some ⟨g2, 0, none⟩)) ∧ Sl a' 3 (.pointer (some ⟨g3, 0, none⟩)) ∧ Held w0 W (blkR g3 36 cb :: blkR g2 36 ca :: L)) → Q .normal a' W) : (Code.region 0 (opsOf 0 Tryd.f23).toArray false).wp Tryd.prog Q a w := by
 refine wp_region_lit ?_
 (conv => arg 4; whnf)
 unfold Sl at o0 o1
 have S1 := Lib.hid ((S.newBlk 36 ca).newBlkN 36 cb (g := w.heap.size + 1) (by simp))
 go_wp2_with fail
 try simp only [Act.put]
 exact hend _ _ sS sP (⟨_, _, sP0, sP0, S1.out⟩)
theorem ssa_r1Y (z y : Int) (h g : List UInt8) (hh : h.length = 32) (hg : g.length = 32) (A B : Option Addr) (n c m e : Nat) (g2 g3 : Nat) (hb2 : Blk w g2 36 (ntA z h (.slice A n c))) (hb3 : Blk w g3 36 (ntA y g (.slice B m e))) (hpq : (decide (z = y) && (h == g)) = true) (hsz : a.tmps.size = 38) (o2 : Sl a 2 (.pointer (some ⟨g2, 0, none⟩))) (o3 : Sl a 3 (.pointer (some ⟨g3, 0, none⟩)))
 (hend : ∀ a' W, Same a a' [6, 7, 8, 9, 10, 11, 12, 13, 14, 15, 16, 17, 18, 19] → Kp [] w W → Sl a' 19 (.bool (!decide (n = m))) → Q .normal a' W) : (Code.region 1 (opsOf 1 Tryd.f23).toArray false).wp Tryd.prog Q a w := by
 have hap : apartB (opsOf 1 Tryd.f23) = true := by kernel_rfl
 refine wp_region_invS (l := (opsOf 1 Tryd.f23)) (fun i v W => match i with | 0 => v = .pointer (some ⟨g2, 0, none⟩) | 1 => v = .agg (ptA z h) | 2 => v = .pointer (some ⟨g3, 0, none⟩) | 3 => v = .agg (ptA y g) | 4 => v = .bool false | 5 => v = .bool false | 6 => v = .pointer (some ⟨g2, 33, none⟩) | 7 => v = .slice A n c | 8 => v = .int .i64 ((n : Nat) : Int) | 9 => v = .pointer (some ⟨g3, 33, none⟩) | 10 => v = .slice B m e | 11 => v = .int .i64 ((m : Nat) : Int) | 12 => v = .bool (!decide (n = m)) | 13 => v = .bool (!decide (n = m)) | _ => True) hap ?_ ?_ ?_
 · intro i v W W' h _
   iterate 14 (rcases i with _ | i; · exact h)
   exact h
 · refine ⟨?_, ?_, ?_, ?_, ?_, ?_, ?_, ?_, ?_, ?_, ?_, ?_, ?_, ?_, trivial⟩
   · intro vs A' W hA hW hd hu K hK; refine wpOp_free _ rfl rfl ?_; (conv => arg 2; whnf); have e2 := sO 2 o2 hA hap hsz; clear hA hd hu o2 o3; go_step; exact hK _ _ kR rfl
   · intro vs A' W hA hW hd hu K hK; refine wpOp_free _ rfl rfl ?_; (conv => arg 2; whnf); have e6 := sV 6 (hd 0 (by kernel_rfl)) hA hap hsz; clear hA hd hu o2 o3
     refine op_runs (v := .agg (ptA z h)) (w' := W) (exec_load rfl (by simpa [Act.eval] using e6) (run_loadAt_agg W (⟨g2, 0, none⟩) 33 (ptA z h).toList _ (nt_pointAt (hb2.kp hW (by simp))) Tryd.underlying33 rfl (by rw [Array.length_toList, ptA_size hh]; exact Tryd.infoPointP))) ?_
     exact hK _ _ kR rfl
   · intro vs A' W hA hW hd hu K hK; refine wpOp_free _ rfl rfl ?_; (conv => arg 2; whnf); have e3 := sO 3 o3 hA hap hsz; clear hA hd hu o2 o3; go_step; exact hK _ _ kR rfl
   · intro vs A' W hA hW hd hu K hK; refine wpOp_free _ rfl rfl ?_; (conv => arg 2; whnf); have e8 := sV 8 (hd 2 (by kernel_rfl)) hA hap hsz; clear hA hd hu o2 o3
     refine op_runs (v := .agg (ptA y g)) (w' := W) (exec_load rfl (by simpa [Act.eval] using e8) (run_loadAt_agg W (⟨g3, 0, none⟩) 33 (ptA y g).toList _ (nt_pointAt (hb3.kp hW (by simp))) Tryd.underlying33 rfl (by rw [Array.length_toList, ptA_size hg]; exact Tryd.infoPointP))) ?_
     exact hK _ _ kR rfl
   · intro vs A' W hA hW hd hu K hK; refine wpOp_free _ rfl rfl ?_; (conv => arg 2; whnf); have e7 := sV 7 (hd 1 (by kernel_rfl)) hA hap hsz; have e9 := sV 9 (hd 3 (by kernel_rfl)) hA hap hsz; clear hA hd hu o2 o3
     refine op_runs (v := .bool false) (w' := W) (exec_bin_agg rfl (by simpa [Act.eval] using e7) (by simpa [Act.eval] using e9) Tryd.eqGuardType33 ((neq_pt W z y h g hh hg).trans (by rw [hpq]; rfl))) ?_
     exact hK _ _ kR rfl
   · intro vs A' W hA hW hd hu K hK; refine wpOp_free _ rfl rfl ?_; (conv => arg 2; whnf); have e10 := sV 10 (hd 4 (by kernel_rfl)) hA hap hsz; clear hA hd hu o2 o3; go_step; exact hK _ _ kR rfl
   · intro vs A' W hA hW hd hu K hK; have e11 := sV 11 (hd 5 (by kernel_rfl)) hA hap hsz; refine wpOp_go _ rfl 5 11 false rfl rfl e11 ?_; (conv => arg 2; whnf); have e2 := sO 2 o2 hA hap hsz; clear hA hd hu o2 o3; go_step; exact hK _ _ kR rfl
   · intro vs A' W hA hW hd hu K hK; have e11 := sV 11 (hd 5 (by kernel_rfl)) hA hap hsz; refine wpOp_go _ rfl 5 11 false rfl rfl e11 ?_; (conv => arg 2; whnf); have e12 := sV 12 (hd 6 (by kernel_rfl)) hA hap hsz; clear hA hd hu o2 o3
     have c0 : W.cell? ⟨g2, 33, none⟩ = some (.slice A n c) := by rw [(hb2.kp hW (by simp)).cell]; exact ntA_sigs hh
     go_step; exact hK _ _ kR rfl
   · intro vs A' W hA hW hd hu K hK; have e11 := sV 11 (hd 5 (by kernel_rfl)) hA hap hsz; refine wpOp_go _ rfl 5 11 false rfl rfl e11 ?_; (conv => arg 2; whnf); have e13 := sV 13 (hd 7 (by kernel_rfl)) hA hap hsz; clear hA hd hu o2 o3; go_step; exact hK _ _ kR rfl
   · intro vs A' W hA hW hd hu K hK; have e11 := sV 11 (hd 5 (by kernel_rfl)) hA hap hsz; refine wpOp_go _ rfl 5 11 false rfl rfl e11 ?_; (conv => arg 2; whnf); have e3 := sO 3 o3 hA hap hsz; clear hA hd hu o2 o3; go_step; exact hK _ _ kR rfl
   · intro vs A' W hA hW hd hu K hK; have e11 := sV 11 (hd 5 (by kernel_rfl)) hA hap hsz; refine wpOp_go _ rfl 5 11 false rfl rfl e11 ?_; (conv => arg 2; whnf); have e15 := sV 15 (hd 9 (by kernel_rfl)) hA hap hsz; clear hA hd hu o2 o3
     have c0 : W.cell? ⟨g3, 33, none⟩ = some (.slice B m e) := by rw [(hb3.kp hW (by simp)).cell]; exact ntA_sigs hg
     go_step; exact hK _ _ kR rfl
   · intro vs A' W hA hW hd hu K hK; have e11 := sV 11 (hd 5 (by kernel_rfl)) hA hap hsz; refine wpOp_go _ rfl 5 11 false rfl rfl e11 ?_; (conv => arg 2; whnf); have e16 := sV 16 (hd 10 (by kernel_rfl)) hA hap hsz; clear hA hd hu o2 o3; go_step; exact hK _ _ kR rfl
   · intro vs A' W hA hW hd hu K hK; have e11 := sV 11 (hd 5 (by kernel_rfl)) hA hap hsz; refine wpOp_go _ rfl 5 11 false rfl rfl e11 ?_; (conv => arg 2; whnf); have e14 := sV 14 (hd 8 (by kernel_rfl)) hA hap hsz; have e17 := sV 17 (hd 11 (by kernel_rfl)) hA hap hsz; clear hA hd hu o2 o3
     have hd : ((n : Int) == (m : Int)) = decide (n = m) := by by_cases e : n = m <;> simp [e] <;> omega
     go_step
     exact hK _ _ kR (by first | rfl | (congr 1; simp [bne, hd]))
   · intro vs A' W hA hW hd hu K hK; refine wpOp_free _ rfl rfl ?_; (conv => arg 2; whnf); have e11 := sV 11 (hd 5 (by kernel_rfl)) hA hap hsz; have e18 := sV 18 (hd 12 (by kernel_rfl)) hA hap hsz; clear hA hd hu o2 o3; go_step; exact hK _ _ kR rfl
 · intro vs W hW hp
   rw [putAll_eq]
   exact hend _ W sQ hW (sW (hp 13 sB))
theorem ssa_r1N (z y : Int) (h g : List UInt8) (hh : h.length = 32) (hg : g.length = 32) (A B : Option Addr) (n c m e : Nat) (g2 g3 : Nat) (hb2 : Blk w g2 36 (ntA z h (.slice A n c))) (hb3 : Blk w g3 36 (ntA y g (.slice B m e))) (hpq : (decide (z = y) && (h == g)) = false) (hsz : a.tmps.size = 38) (o2 : Sl a 2 (.pointer (some ⟨g2, 0, none⟩))) (o3 : Sl a 3 (.pointer (some ⟨g3, 0, none⟩)))
 (hend : ∀ a' W, Same a a' [6, 7, 8, 9, 10, 11, 12, 13, 14, 15, 16, 17, 18, 19] → Kp [] w W → Sl a' 19 (.bool true) → Q .normal a' W) : (Code.region 1 (opsOf 1 Tryd.f23).toArray false).wp Tryd.prog Q a w := by
 have hap : apartB (opsOf 1 Tryd.f23) = true := by kernel_rfl
 refine wp_region_invS (l := (opsOf 1 Tryd.f23)) (fun i v W => match i with | 0 => v = .pointer (some ⟨g2, 0, none⟩) | 1 => v = .agg (ptA z h) | 2 => v = .pointer (some ⟨g3, 0, none⟩) | 3 => v = .agg (ptA y g) | 4 => v = .bool true | 5 => v = .bool true | 13 => v = .bool true | _ => True) hap ?_ ?_ ?_
 · intro i v W W' h _
   iterate 14 (rcases i with _ | i; · exact h)
   exact h
 · refine ⟨?_, ?_, ?_, ?_, ?_, ?_, ?_, ?_, ?_, ?_, ?_, ?_, ?_, ?_, trivial⟩
   · intro vs A' W hA hW hd hu K hK; refine wpOp_free _ rfl rfl ?_; (conv => arg 2; whnf); have e2 := sO 2 o2 hA hap hsz; clear hA hd hu o2 o3; go_step; exact hK _ _ kR rfl
   · intro vs A' W hA hW hd hu K hK; refine wpOp_free _ rfl rfl ?_; (conv => arg 2; whnf); have e6 := sV 6 (hd 0 (by kernel_rfl)) hA hap hsz; clear hA hd hu o2 o3
     refine op_runs (v := .agg (ptA z h)) (w' := W) (exec_load rfl (by simpa [Act.eval] using e6) (run_loadAt_agg W (⟨g2, 0, none⟩) 33 (ptA z h).toList _ (nt_pointAt (hb2.kp hW (by simp))) Tryd.underlying33 rfl (by rw [Array.length_toList, ptA_size hh]; exact Tryd.infoPointP))) ?_
     exact hK _ _ kR rfl
   · intro vs A' W hA hW hd hu K hK; refine wpOp_free _ rfl rfl ?_; (conv => arg 2; whnf); have e3 := sO 3 o3 hA hap hsz; clear hA hd hu o2 o3; go_step; exact hK _ _ kR rfl
   · intro vs A' W hA hW hd hu K hK; refine wpOp_free _ rfl rfl ?_; (conv => arg 2; whnf); have e8 := sV 8 (hd 2 (by kernel_rfl)) hA hap hsz; clear hA hd hu o2 o3
     refine op_runs (v := .agg (ptA y g)) (w' := W) (exec_load rfl (by simpa [Act.eval] using e8) (run_loadAt_agg W (⟨g3, 0, none⟩) 33 (ptA y g).toList _ (nt_pointAt (hb3.kp hW (by simp))) Tryd.underlying33 rfl (by rw [Array.length_toList, ptA_size hg]; exact Tryd.infoPointP))) ?_
     exact hK _ _ kR rfl
   · intro vs A' W hA hW hd hu K hK; refine wpOp_free _ rfl rfl ?_; (conv => arg 2; whnf); have e7 := sV 7 (hd 1 (by kernel_rfl)) hA hap hsz; have e9 := sV 9 (hd 3 (by kernel_rfl)) hA hap hsz; clear hA hd hu o2 o3
     refine op_runs (v := .bool true) (w' := W) (exec_bin_agg rfl (by simpa [Act.eval] using e7) (by simpa [Act.eval] using e9) Tryd.eqGuardType33 ((neq_pt W z y h g hh hg).trans (by rw [hpq]; rfl))) ?_
     exact hK _ _ kR rfl
   · intro vs A' W hA hW hd hu K hK; refine wpOp_free _ rfl rfl ?_; (conv => arg 2; whnf); have e10 := sV 10 (hd 4 (by kernel_rfl)) hA hap hsz; clear hA hd hu o2 o3; go_step; exact hK _ _ kR rfl
   · intro vs A' W hA hW hd hu K hK; have e11 := sV 11 (hd 5 (by kernel_rfl)) hA hap hsz; refine wpOp_skip _ rfl 5 11 false rfl rfl e11 ?_; exact hK _ _ kR trivial
   · intro vs A' W hA hW hd hu K hK; have e11 := sV 11 (hd 5 (by kernel_rfl)) hA hap hsz; refine wpOp_skip _ rfl 5 11 false rfl rfl e11 ?_; exact hK _ _ kR trivial
   · intro vs A' W hA hW hd hu K hK; have e11 := sV 11 (hd 5 (by kernel_rfl)) hA hap hsz; refine wpOp_skip _ rfl 5 11 false rfl rfl e11 ?_; exact hK _ _ kR trivial
   · intro vs A' W hA hW hd hu K hK; have e11 := sV 11 (hd 5 (by kernel_rfl)) hA hap hsz; refine wpOp_skip _ rfl 5 11 false rfl rfl e11 ?_; exact hK _ _ kR trivial
   · intro vs A' W hA hW hd hu K hK; have e11 := sV 11 (hd 5 (by kernel_rfl)) hA hap hsz; refine wpOp_skip _ rfl 5 11 false rfl rfl e11 ?_; exact hK _ _ kR trivial
   · intro vs A' W hA hW hd hu K hK; have e11 := sV 11 (hd 5 (by kernel_rfl)) hA hap hsz; refine wpOp_skip _ rfl 5 11 false rfl rfl e11 ?_; exact hK _ _ kR trivial
   · intro vs A' W hA hW hd hu K hK; have e11 := sV 11 (hd 5 (by kernel_rfl)) hA hap hsz; refine wpOp_skip _ rfl 5 11 false rfl rfl e11 ?_; exact hK _ _ kR trivial
   · intro vs A' W hA hW hd hu K hK; refine wpOp_free _ rfl rfl ?_; (conv => arg 2; whnf); have e11 := sV 11 (hd 5 (by kernel_rfl)) hA hap hsz
     have e18 := sU 18 12 hA hap hsz
     clear hA hd hu o2 o3; go_step; exact hK _ _ kR rfl
 · intro vs W hW hp
   rw [putAll_eq]
   exact hend _ W sQ hW (sW (hp 13 sB))
theorem ssa_r2  (hsz : a.tmps.size = 38) 
 (hend : ∀ a', Same a a' [4] → Sl a' 4 (.bool false) → Q .normal a' (w)) : (Code.region 2 (opsOf 2 Tryd.f23).toArray false).wp Tryd.prog Q a w := by
 refine wp_region_lit ?_
 (conv => arg 4; whnf)
 go_wp2_with fail
 try simp only [Act.put]
 exact hend _ sS sP
theorem ssa_r7  (hsz : a.tmps.size = 38) 
 (hend : ∀ a', Same a a' [4] → Sl a' 4 (.bool false) → Q .normal a' (w)) : (Code.region 7 (opsOf 7 Tryd.f23).toArray false).wp Tryd.prog Q a w := by
 refine wp_region_lit ?_
 (conv => arg 4; whnf)
 go_wp2_with fail
 try simp only [Act.put]
 exact hend _ sS sP
theorem ssa_r8  (hsz : a.tmps.size = 38) 
 (hend : ∀ a', Same a a' [4] → Sl a' 4 (.bool true) → Q .normal a' (w)) : (Code.region 8 (opsOf 8 Tryd.f23).toArray false).wp Tryd.prog Q a w := by
 refine wp_region_lit ?_
 (conv => arg 4; whnf)
 go_wp2_with fail
 try simp only [Act.put]
 exact hend _ sS sP
theorem ssa_r3  (hsz : a.tmps.size = 38) 
 (hend : ∀ a', Same a a' [5] → Sl a' 5 (.int .i64 ((0 : Nat) : Int)) → Q .normal a' (w)) : (Code.region 3 (opsOf 3 Tryd.f23).toArray false).wp Tryd.prog Q a w := by
 refine wp_region_lit ?_
 (conv => arg 4; whnf)
 go_wp2_with fail
 try simp only [Act.put]
 exact hend _ sS sP
theorem ssa_r4 (z : Int) (h : List UInt8) (hh : h.length = 32) (A : Option Addr) (n c g2 k : Nat) (hb2 : Blk w g2 36 (ntA z h (.slice A n c))) (hsz : a.tmps.size = 38) (o2 : Sl a 2 (.pointer (some ⟨g2, 0, none⟩))) (o5 : Sl a 5 (.int .i64 ((k : Nat) : Int)))
 (hend : ∀ a', Same a a' [20, 21, 22, 23, 24] → Sl a' 24 (.bool (decide (k < n))) → Q .normal a' (w)) : (Code.region 4 (opsOf 4 Tryd.f23).toArray false).wp Tryd.prog Q a w := by
 refine wp_region_lit ?_
 (conv => arg 4; whnf)
 unfold Sl at o2 o5
 have c33 : w.cell? ⟨g2, 33, none⟩ = some (.slice A n c) := by rw [hb2.cell]; exact ntA_sigs hh
 go_wp2_with fail
 try simp only [Act.put]
 exact hend _ sS sP
theorem ssa_r6 (z y : Int) (h g : List UInt8) (hh : h.length = 32) (hg : g.length = 32) (a2 a3 : Addr) (n c m e k : Nat) (hk : k < n) (hkm : k < m) (g2 g3 : Nat) (hb2 : Blk w.drew g2 36 (ntA z h (.slice (some a2) n c))) (hb3 : Blk w.drew g3 36 (ntA y g (.slice (some a3) m e))) (s t : SigD) (hs : s.2.length = 32) (ht : t.2.length = 32) (hc2 : ∀ V, Kp [] w.drew V → ∀ j u, (sgA s).toList[j]? = some u → V.cell? ((a2.add (k * 33)).add j) = some u) (hc3 : ∀ V, Kp [] w.drew V → ∀ j u, (sgA t).toList[j]? = some u → V.cell? ((a3.add (k * 33)).add j) = some u) (hsz : a.tmps.size = 38) (o2 : Sl a 2 (.pointer (some ⟨g2, 0, none⟩))) (o3 : Sl a 3 (.pointer (some ⟨g3, 0, none⟩))) (o5 : Sl a 5 (.int .i64 ((k : Nat) : Int)))
 (hend : ∀ a' W, Same a a' [27, 28, 29, 30, 31, 32, 33, 34, 35, 36, 37] → Kp [] w.drew W → Sl a' 37 (.bool (!((s.1 == t.1) && (s.2 == t.2)))) → Q .normal a' W) : (Code.region 6 (opsOf 6 Tryd.f23).toArray true).wp Tryd.prog Q a w := by
 have hap : apartB (opsOf 6 Tryd.f23) = true := by kernel_rfl
 refine wp_region_inv (l := (opsOf 6 Tryd.f23)) (fun i v W => match i with | 0 => v = .pointer (some ⟨g2, 33, none⟩) | 1 => v = .slice (some a2) n c | 2 => v = .int .i64 ((k : Nat) : Int) | 3 => v = .pointer (some (a2.add (k * 33))) | 4 => v = .agg (sgA s) | 5 => v = .pointer (some ⟨g3, 33, none⟩) | 6 => v = .slice (some a3) m e | 7 => v = .int .i64 ((k : Nat) : Int) | 8 => v = .pointer (some (a3.add (k * 33))) | 9 => v = .agg (sgA t) | 10 => v = .bool (!((s.1 == t.1) && (s.2 == t.2))) | _ => True) (by kernel_rfl) hap (by kernel_rfl) ?_ ?_ ?_
 · intro i v W W' h _
   iterate 11 (rcases i with _ | i; · exact h)
   exact h
 · refine ⟨?_, ?_, ?_, ?_, ?_, ?_, ?_, ?_, ?_, ?_, ?_, trivial⟩
   · intro vs A' W hA hW hd K hK; have e2 := sO 2 o2 hA hap hsz; clear hA hd o2 o3 o5; go_step; exact hK _ _ kR rfl
   · intro vs A' W hA hW hd K hK; have e27 := sV 27 (hd 0 (by kernel_rfl)) hA hap hsz; clear hA hd o2 o3 o5
     have c0 : W.cell? ⟨g2, 33, none⟩ = some (.slice (some a2) n c) := by rw [(hb2.kp hW (by simp)).cell]; exact ntA_sigs hh
     go_step; exact hK _ _ kR rfl
   · intro vs A' W hA hW hd K hK; have e5 := sO 5 o5 hA hap hsz; clear hA hd o2 o3 o5; go_step; exact hK _ _ kR rfl
   · intro vs A' W hA hW hd K hK; have e28 := sV 28 (hd 1 (by kernel_rfl)) hA hap hsz; have e29 := sV 29 (hd 2 (by kernel_rfl)) hA hap hsz; clear hA hd o2 o3 o5
     have h0 : 0 ≤ (k : Int) := by omega
     have h1 : (k : Int) < (n : Int) := by omega
     go_step; exact hK _ _ kR rfl
   · intro vs A' W hA hW hd K hK; have e30 := sV 30 (hd 3 (by kernel_rfl)) hA hap hsz; clear hA hd o2 o3 o5
     refine op_runs (v := .agg (sgA s)) (w' := W) (exec_load rfl (by simpa [Act.eval] using e30) (run_loadAt_agg W (a2.add (k * 33)) 81 (sgA s).toList _ (hc2 _ hW) Tryd.underlying81 rfl (by rw [Array.length_toList, sgA_size hs]; exact Tryd.infoSig))) ?_
     exact hK _ _ kR rfl
   · intro vs A' W hA hW hd K hK; have e3 := sO 3 o3 hA hap hsz; clear hA hd o2 o3 o5; go_step; exact hK _ _ kR rfl
   · intro vs A' W hA hW hd K hK; have e32 := sV 32 (hd 5 (by kernel_rfl)) hA hap hsz; clear hA hd o2 o3 o5
     have c0 : W.cell? ⟨g3, 33, none⟩ = some (.slice (some a3) m e) := by rw [(hb3.kp hW (by simp)).cell]; exact ntA_sigs hg
     go_step; exact hK _ _ kR rfl
   · intro vs A' W hA hW hd K hK; have e5 := sO 5 o5 hA hap hsz; clear hA hd o2 o3 o5; go_step; exact hK _ _ kR rfl
   · intro vs A' W hA hW hd K hK; have e33 := sV 33 (hd 6 (by kernel_rfl)) hA hap hsz; have e34 := sV 34 (hd 7 (by kernel_rfl)) hA hap hsz; clear hA hd o2 o3 o5
     have h0 : 0 ≤ (k : Int) := by omega
     have h1 : (k : Int) < (m : Int) := by omega
     go_step; exact hK _ _ kR rfl
   · intro vs A' W hA hW hd K hK; have e35 := sV 35 (hd 8 (by kernel_rfl)) hA hap hsz; clear hA hd o2 o3 o5
     refine op_runs (v := .agg (sgA t)) (w' := W) (exec_load rfl (by simpa [Act.eval] using e35) (run_loadAt_agg W (a3.add (k * 33)) 81 (sgA t).toList _ (hc3 _ hW) Tryd.underlying81 rfl (by rw [Array.length_toList, sgA_size ht]; exact Tryd.infoSig))) ?_
     exact hK _ _ kR rfl
   · intro vs A' W hA hW hd K hK; have e31 := sV 31 (hd 4 (by kernel_rfl)) hA hap hsz; have e36 := sV 36 (hd 9 (by kernel_rfl)) hA hap hsz; clear hA hd o2 o3 o5
     refine op_runs (v := .bool (!((s.1 == t.1) && (s.2 == t.2)))) (w' := W) (exec_bin_agg rfl (by simpa [Act.eval] using e31) (by simpa [Act.eval] using e36) Tryd.eqGuardType81 (neq_sg W s t hs ht)) ?_
     exact hK _ _ kR rfl
 · intro vs W hW hp
   rw [putAll_eq]
   exact hend _ W sQ hW (sW (hp 10 sB))
theorem ssa_r5 (k : Nat) (hk : k < 9223372036854775807) (hsz : a.tmps.size = 38) (o5 : Sl a 5 (.int .i64 ((k : Nat) : Int)))
 (hend : ∀ a', Same a a' [25, 26, 5] → Sl a' 5 (.int .i64 ((k + 1 : Nat) : Int)) → Q .normal a' (w)) : (Code.region 5 (opsOf 5 Tryd.f23).toArray false).wp Tryd.prog Q a w := by
 refine wp_region_lit ?_
 (conv => arg 4; whnf)
 unfold Sl at o5
 have hw : wrap64 ((k : Int) + 1) = (k : Int) + 1 := by unfold wrap64; omega
 go_wp2_with fail
 try simp only [Act.put]
 exact hend _ sS sP
theorem slt_r0 (w0 : World) (ca : Array Value) (L : List Res) (S : Held w0 w L) (hsz : a.tmps.size = 15) (o0 : Sl a 0 (.agg ca))
 (hend : ∀ a' W, Same a a' [1, 2] → (∃ g1 g2, Sl a' 1 (.pointer (some ⟨g1, 0, none⟩)) ∧ Sl a' 2 (.pointer (some ⟨g2, 0, none⟩)) ∧ Held w0 W (blkR g2 36 zeroN :: blkR g1 36 ca :: L)) → Q .normal a' W) : (Code.region 0 (opsOf 0 Tryd.f18).toArray false).wp Tryd.prog Q a w := by
 refine wp_region_lit ?_
 (conv => arg 4; whnf)
 unfold Sl at o0
 have S1 := Lib.hid ((S.newBlk 36 ca).newBlkN 36 zeroN (g := w.heap.size + 1) (by simp))
 go_wp2_with fail
 try simp only [Act.put]
 exact hend _ _ sS (⟨_, _, sP0, sP0, S1.out⟩)
theorem slt_r1 (w0 : World) (z : Int) (h : List UInt8) (hh : h.length = 32) (A : Option Addr) (c : Nat) (l : List SigD) (hok : SgOk l) (hll : (l.length + 1) * 48 ≤ 140737488355328) (hv : ∀ V, Kp [] w0 V → Rd V 33 (.slice A l.length c) l.length (sgsC l)) (g1 : Nat) (L : List Res) (hsz : a.tmps.size = 15) (o1 : Sl a 1 (.pointer (some ⟨g1, 0, none⟩)))
 (S0 : Held w0 w (blkR g1 36 (ntA z h (.slice A l.length c)) :: L))
 (hend : ∀ (a' : Act) (vs : Nat → Value) (gs : Nat → Nat) (W : World), Same a a' [3, 4, 5, 6, 7, 8, 9, 10, 11, 12, 13] → Sl a' 12 (vs 9) → (∃ A c, vs 9 = .slice A l.length c) → Held w0 W (blkR (gs 4) 81 (sgA roomS) :: rowR 81 33 (grow1 (vs 9)) (l.length + 1) (sgsC (l ++ [roomS])) :: blkR g1 36 (ntA z h (vs 9)) :: L) → Q .normal a' W) : (Code.region 1 (opsOf 1 Tryd.f18).toArray true).wp Tryd.prog Q a w := by
 have hap : apartB (opsOf 1 Tryd.f18) = true := by kernel_rfl
 refine wp_region_sep (Γ := Nat) (l := (opsOf 1 Tryd.f18)) 2 [0, 1, 3, 4, 6, 7, 8, 9, 10, 11, 13]
  (fun i vs gs => match i with | 0 => vs 0 = .pointer (some ⟨g1, 33, none⟩) | 1 => vs 1 = .slice A l.length c | 3 => vs 3 = .agg (sgA roomS) | 4 => vs 4 = .slice (some ⟨gs 4, 0, none⟩) 1 1 | 6 => vs 6 = .pointer (some ⟨g1, 33, none⟩) | 7 => vs 7 = .slice A l.length c | 8 => vs 8 = .int .i64 ((l.length : Nat) : Int) | 9 => ∃ A c, vs 9 = .slice A l.length c | 10 => vs 10 = .pointer (some ⟨g1, 33, none⟩) | _ => True)
  (fun i vs gs => match i with | 2 => [rowR 81 33 (vs 2) l.length (sgsC l)] | 4 => [blkR (gs 4) 81 (sgA roomS)] | 5 => [rowR 81 33 (vs 5) (l.length + 1) (sgsC (l ++ [roomS]))] | 9 => [rowR 81 33 (grow1 (vs 9)) (l.length + 1) (sgsC (l ++ [roomS]))] | 11 => [blkR g1 36 (ntA z h (vs 9))] | 12 => [blkR g1 36 (ntA z h (.slice A l.length c))] | 13 => L | _ => [])
  (fun i => match i with | 5 => [2] | 9 => [5] | 11 => [12] | _ => []) (fun i => match i with | 1 => [12] | 5 => [4] | 7 => [12] | _ => []) S0 (by kernel_rfl) hap (by kernel_rfl) (by kernel_rfl) (fun i => match i with | 0 => [0] | 1 => [1] | 2 => [2] | 3 => [3] | 4 => [4] | 5 => [5] | 6 => [6] | 7 => [7] | 8 => [8] | 9 => [9] | 10 => [10] | 11 => [9] | _ => []) (by kernel_rfl) ?_ (by kernel_rfl) ?_ ?_ ?_
 · intro s vs vs' gs gs' h
   iterate 14 (rcases s with _ | s; · (first | exact ⟨rfl, id⟩ | (simp only [List.mem_cons, List.not_mem_nil, or_false, forall_eq] at h; simp [h])))
   exact ⟨rfl, id⟩
 · simp only [List.range, List.range.loop, List.flatMap_cons, List.flatMap_nil, List.append_nil]
   exact List.Perm.refl _
 · clear S0 hend
   refine ⟨?_, ?_, ?_, ?_, ?_, ?_, ?_, ?_, ?_, ?_, ?_, ?_, trivial⟩
   · intro vs gs A' W LF hA S hR hd hu K hK; replace hK := hK default; have e1 := sO 1 o1 hA hap hsz; clear hA o1; go_step; exact hK _ _ S rfl
   · intro vs gs A' W LF hA S hR hd hu K hK; replace hK := hK default; have e3 := sV 3 (hd 0 (by kernel_rfl)) hA hap hsz; clear hA o1
     have c33 : W.cell? ⟨g1, 33, none⟩ = some (.slice A l.length c) := by rw [(show Blk W g1 36 (ntA z h (.slice A l.length c)) from S.ok (blkR g1 36 (ntA z h (.slice A l.length c))) (hR 12 (List.mem_singleton.2 rfl) _ (List.mem_singleton.2 rfl))).cell]; exact ntA_sigs hh
     go_step; exact hK _ _ S rfl
   · intro vs gs A' W LF hA S hR hd hu K hK; replace hK := hK default; have e4 := sV 4 (hd 1 (by kernel_rfl)) hA hap hsz; clear hA o1
     exact op_app_nil (.const (.slice none 0 0)) (.tmp 4) 34 81 rfl Tryd.infoSigZ Tryd.underlying34 rfl (by decide) rfl S (.slice A l.length c) l.length (sgsC l) (by simpa [Act.eval] using e4) (hv _ S.k) (sgsC_one _) (by unfold maxLen; omega) (by omega) (fun v' w' S' => hK v' w' S' trivial)
   · intro vs gs A' W LF hA S hR hd hu K hK; replace hK := hK default; clear hA o1
     refine op_build 81 _ rfl [(0, .string ⟨#[114, 111, 111, 109]⟩)] (by simp [Act.eval]) _ Tryd.built_room ?_
     exact hK _ _ S rfl
   · intro vs gs A' W LF hA S hR hd hu K hK; have e6 := sV 6 (hd 3 (by kernel_rfl)) hA hap hsz; clear hA o1
     refine op_sigs1 (.tmp 6) rfl (sgA roomS) (sgA_size rfl) (by simpa [Act.eval] using e6) ?_
     exact hK W.heap.size _ _ (S.newBlk _ _) rfl
   · intro vs gs A' W LF hA S hR hd hu K hK; replace hK := hK default
     have e5 := sU 5 2 hA hap hsz
     have e7 := sV 7 (hd 4 (by kernel_rfl)) hA hap hsz; clear hA o1
     refine op_app (.tmp 5) (.tmp 7) 34 81 rfl Tryd.infoSigZ Tryd.underlying34 rfl (by decide) (vs 2) l.length (sgsC l) (by simpa [Act.eval] using e5) S (.slice (some ⟨gs 4, 0, none⟩) 1 1) 1 (sgA roomS).toList (by simpa [Act.eval] using e7) (rd_sig1 (show Blk W (gs 4) 81 (sgA roomS) from S.ok (blkR (gs 4) 81 (sgA roomS)) (List.mem_cons_of_mem _ (hR 4 (List.mem_singleton.2 rfl) _ (List.mem_singleton.2 rfl)))) rfl) (sgA_one _) (by unfold maxLen; omega) (by omega) (fun v' w' S' => hK v' w' (by rw [sgsC_append, show sgsC [roomS] = (sgA roomS).toList from by simp [sgsC, sgA]]; exact S') trivial)
   · intro vs gs A' W LF hA S hR hd hu K hK; replace hK := hK default; have e1 := sO 1 o1 hA hap hsz; clear hA o1; go_step; exact hK _ _ S rfl
   · intro vs gs A' W LF hA S hR hd hu K hK; replace hK := hK default; have e9 := sV 9 (hd 6 (by kernel_rfl)) hA hap hsz; clear hA o1
     have c33 : W.cell? ⟨g1, 33, none⟩ = some (.slice A l.length c) := by rw [(show Blk W g1 36 (ntA z h (.slice A l.length c)) from S.ok (blkR g1 36 (ntA z h (.slice A l.length c))) (hR 12 (List.mem_singleton.2 rfl) _ (List.mem_singleton.2 rfl))).cell]; exact ntA_sigs hh
     go_step; exact hK _ _ S rfl
   · intro vs gs A' W LF hA S hR hd hu K hK; replace hK := hK default; have e10 := sV 10 (hd 7 (by kernel_rfl)) hA hap hsz; clear hA o1; go_step; exact hK _ _ S rfl
   · intro vs gs A' W LF hA S hR hd hu K hK; replace hK := hK default
     have e8 := sU 8 5 hA hap hsz
     have e11 := sV 11 (hd 8 (by kernel_rfl)) hA hap hsz; clear hA o1
     have S1 : Held w0 W (rowR 81 33 (vs 5) (l.length + 1) (sgsC (l ++ [roomS])) :: LF) := S
     obtain ⟨A7, c7, h7, h7a, h7b⟩ := ow_form (S1.at_ (l1 := []))
     clear S1
     rw [h7] at e8
     have q := fun w => cut_hiS A7 (l.length + 1) c7 l.length (by omega) w
     go_step
     refine hK _ _ ?_ ⟨A7, c7, rfl⟩
     have S2 : Held w0 W (rowR 81 33 (vs 5) (l.length + 1) (sgsC (l ++ [roomS])) :: LF) := S
     rw [h7] at S2
     exact S2
   · intro vs gs A' W LF hA S hR hd hu K hK; replace hK := hK default; have e1 := sO 1 o1 hA hap hsz; clear hA o1; go_step; exact hK _ _ S rfl
   · intro vs gs A' W LF hA S hR hd hu K hK; replace hK := hK default; have e13 := sV 13 (hd 10 (by kernel_rfl)) hA hap hsz; have f9 : ∃ A c, vs 9 = .slice A l.length c := hd 9 (by kernel_rfl)
     have e12 := sU 12 9 hA hap hsz
     clear hA o1
     obtain ⟨A1, c1, hq⟩ := f9
     rw [hq] at e12
     have S1 : Held w0 W (blkR g1 36 (ntA z h (.slice A l.length c)) :: LF) := S
     have S2 := S1.set (l1 := []) 33 (.slice A1 l.length c1)
     rw [ntA_setSigs hh, show ntA z h (.slice A1 l.length c1) = ntA z h (vs 9) from by rw [hq]] at S2
     have c33 : W.cell? ⟨g1, 33, none⟩ = some (.slice A l.length c) := by rw [(S1.at_ (l1 := [])).cell]; exact ntA_sigs hh
     have f33 := (show Blk W g1 _ _ from S1.at_ (l1 := [])).frozen 33
     go_step
     exact hK undef _ S2 trivial
 · intro vs gs W S hp
   have S : Held w0 W (blkR (gs 4) 81 (sgA roomS) :: rowR 81 33 (grow1 (vs 9)) (l.length + 1) (sgsC (l ++ [roomS])) :: blkR g1 36 (ntA z h (vs 9)) :: L) := by simpa only [List.flatMap_cons, List.flatMap_nil, List.append_nil, List.nil_append, List.cons_append, List.append_assoc] using S
   rw [putAll_eq]
   exact hend _ vs gs W sQ sX (hp 9 sB) S
theorem slt_r2 (w0 : World) (g1 g2 : Nat) (cn : Array Value) (hcn : cn.size = 34) (h1 : ∀ u, u ∈ cn.toList → u.oneCell' = true) (L : List Res) (S : Held w0 w (blkR g2 36 zeroN :: blkR g1 36 cn :: L)) (hsz : a.tmps.size = 15) (o1 : Sl a 1 (.pointer (some ⟨g1, 0, none⟩))) (o2 : Sl a 2 (.pointer (some ⟨g2, 0, none⟩)))
 (hend : ∀ a' W, Same a a' [14] → (Held w0 W (blkR g2 36 cn :: blkR g1 36 cn :: L)) → Q .normal a' W) : (Code.region 2 (opsOf 2 Tryd.f18).toArray false).wp Tryd.prog Q a w := by
 refine wp_region_lit ?_
 (conv => arg 4; whnf)
 unfold Sl at o1 o2
 have S1 := Lib.hid S
 clear S
 have hz2 := Lib.hid hcn
 have HO := Lib.hid h1
 clear hcn h1
 go_wp2_with (first
  | (refine wpList_load_blk rfl 36 (.tmp 1) rfl g1 (by simp [Act.eval, Act.put, hsz, o1]) 36 _ (S1.out.at_ (l1 := [_])) _ Tryd.underlying36 rfl (by rw [hz2.out]; exact Tryd.infoNote) ?_)
  | (refine wpList_store_blk rfl 36 (.tmp 2) (.tmp 14) rfl g2 (by simp [Act.eval, Act.put, hsz, o2]) cn (by simp [Act.eval, Act.put, hsz]) 36 _ (S1.out.at_ (l1 := [])) (by rw [hz2.out]; exact Tryd.infoNote) (by rw [hz2.out]; rfl) HO.out ?_; intro w7 b7 k7; have S7 := Lib.hid (Held.setBlk (l1 := []) S1.out b7 k7); clear b7 k7))
 try simp only [Act.put]
 exact hend _ _ sS (S7.out)
theorem slf_r0 (w0 : World) (ca cb : Array Value) (L : List Res) (S : Held w0 w L) (hsz : a.tmps.size = 24) (o0 : Sl a 0 (.agg ca)) (o1 : Sl a 1 (.agg cb))
 (hend : ∀ a' W, Same a a' [2, 3, 4] → Sl a' 4 (.bool false) → (∃ g2 g3, Sl a' 2 (.pointer (some ⟨g2, 0, none⟩)) ∧ Sl a' 3 (.pointer (some ⟨g3, 0, none⟩)) ∧ Held w0 W (blkR g3 36 cb :: blkR g2 36 ca :: L)) → Q .normal a' W) : (Code.region 0 (opsOf 0 Tryd.f33).toArray false).wp Tryd.prog Q a w := by
 refine wp_region_lit ?_
 (conv => arg 4; whnf)
 unfold Sl at o0 o1
 have S1 := Lib.hid ((S.newBlk 36 ca).newBlkN 36 cb (g := w.heap.size + 1) (by simp))
 go_wp2_with fail
 try simp only [Act.put]
 exact hend _ _ sS sP (⟨_, _, sP0, sP0, S1.out⟩)
theorem slf_r1 (z : Int) (h : List UInt8) (hh : h.length = 32) (A : Option Addr) (c : Nat) (l : List SigD) (hll : (l.length + 1) * 48 ≤ 140737488355328) (g2 g3 gr cr : Nat) (hcr : l.length + 1 ≤ cr) (hb2 : Blk w.drew g2 36 (ntA z h (.slice (some ⟨gr, 0, none⟩) l.length cr))) (hb3 : Blk w.drew g3 36 (ntA z h (.slice A l.length c))) (hrm : w.drew.cell? ⟨gr, l.length * 33, none⟩ = some (.string ⟨#[114, 111, 111, 109]⟩)) (hS : ∀ V, Kp [] w.drew V → Calls Tryd.prog 23 #[.agg (ntA z h (.slice (some ⟨gr, 0, none⟩) l.length cr)), .agg (ntA z h (.slice A l.length c))] V fun e w' => e = .returned (.bool true) ∧ Kp [] V w') (hsz : a.tmps.size = 24) (o2 : Sl a 2 (.pointer (some ⟨g2, 0, none⟩))) (o3 : Sl a 3 (.pointer (some ⟨g3, 0, none⟩)))
 (hend : ∀ a' W, Same a a' [5, 6, 7, 8, 9, 10, 11, 12, 13, 14, 15, 16, 17, 18, 19, 20, 21, 22, 23, 4] → Kp [] w.drew W → Sl a' 4 (.bool true) → Q .normal a' W) : (Code.region 1 (opsOf 1 Tryd.f33).toArray true).wp Tryd.prog Q a w := by
 have hap : apartB (opsOf 1 Tryd.f33) = true := by kernel_rfl
 refine wp_region_invG (l := (opsOf 1 Tryd.f33)) (fun i v W => match i with | 0 => v = .agg (ntA z h (.slice (some ⟨gr, 0, none⟩) l.length cr)) | 1 => v = .agg (ntA z h (.slice A l.length c)) | 2 => v = .bool true | 3 => v = .bool true | 4 => v = .pointer (some ⟨g2, 33, none⟩) | 5 => v = .slice (some ⟨gr, 0, none⟩) l.length cr | 6 => v = .pointer (some ⟨g3, 33, none⟩) | 7 => v = .slice A l.length c | 8 => v = .int .i64 (l.length : Int) | 9 => v = .int .i64 ((l.length : Int) + 1) | 10 => v = .slice (some ⟨gr, 0, none⟩) (l.length + 1) cr | 11 => v = .pointer (some ⟨g3, 33, none⟩) | 12 => v = .slice A l.length c | 13 => v = .int .i64 (l.length : Int) | 14 => v = .pointer (some ⟨gr, l.length * 33, none⟩) | 15 => v = .pointer (some ⟨gr, l.length * 33, none⟩) | 16 => v = .string ⟨#[114, 111, 111, 109]⟩ | 17 => v = .bool true | 18 => v = .bool true | 19 => v = .bool true | _ => True) (by kernel_rfl) hap (by kernel_rfl) ?_ ?_ ?_
 · intro i v W W' h _
   iterate 20 (rcases i with _ | i; · exact h)
   exact h
 · refine ⟨?_, ?_, ?_, ?_, ?_, ?_, ?_, ?_, ?_, ?_, ?_, ?_, ?_, ?_, ?_, ?_, ?_, ?_, ?_, ?_, trivial⟩
   · intro vs A' W hA hW hd K hK; refine wpOp_free _ rfl rfl ?_; (conv => arg 2; whnf); have e2 := sO 2 o2 hA hap hsz; clear hA hd o2 o3
     refine op_runs (v := .agg (ntA z h (.slice (some ⟨gr, 0, none⟩) l.length cr))) (w' := W) (exec_load rfl (by simpa [Act.eval] using e2) (run_loadAt_agg W (⟨g2, 0, none⟩) 36 (ntA z h (.slice (some ⟨gr, 0, none⟩) l.length cr)).toList _ (Blk.agg (hb2.kp hW (by simp))) Tryd.underlying36 rfl (by rw [Array.length_toList, ntA_size hh]; exact Tryd.infoNote))) ?_
     exact hK _ _ kR rfl
   · intro vs A' W hA hW hd K hK; refine wpOp_free _ rfl rfl ?_; (conv => arg 2; whnf); have e3 := sO 3 o3 hA hap hsz; clear hA hd o2 o3
     refine op_runs (v := .agg (ntA z h (.slice A l.length c))) (w' := W) (exec_load rfl (by simpa [Act.eval] using e3) (run_loadAt_agg W (⟨g3, 0, none⟩) 36 (ntA z h (.slice A l.length c)).toList _ (Blk.agg (hb3.kp hW (by simp))) Tryd.underlying36 rfl (by rw [Array.length_toList, ntA_size hh]; exact Tryd.infoNote))) ?_
     exact hK _ _ kR rfl
   · intro vs A' W hA hW hd K hK; refine wpOp_free _ rfl rfl ?_; (conv => arg 2; whnf); have e5 := sV 5 (hd 0 (by kernel_rfl)) hA hap hsz; have e6 := sV 6 (hd 1 (by kernel_rfl)) hA hap hsz; clear hA hd o2 o3; go_step
     refine (hS _ hW).mono ?_
     rintro e w' ⟨rfl, k⟩
     exact hK _ _ k rfl
   · intro vs A' W hA hW hd K hK; refine wpOp_free _ rfl rfl ?_; (conv => arg 2; whnf); have e7 := sV 7 (hd 2 (by kernel_rfl)) hA hap hsz; clear hA hd o2 o3; go_step; exact hK _ _ kR rfl
   · intro vs A' W hA hW hd K hK; have e8 := sV 8 (hd 3 (by kernel_rfl)) hA hap hsz; refine wpOp_go _ rfl 3 8 true rfl rfl e8 ?_; (conv => arg 2; whnf); have e2 := sO 2 o2 hA hap hsz; clear hA hd o2 o3; go_step; exact hK _ _ kR rfl
   · intro vs A' W hA hW hd K hK; have e8 := sV 8 (hd 3 (by kernel_rfl)) hA hap hsz; refine wpOp_go _ rfl 3 8 true rfl rfl e8 ?_; (conv => arg 2; whnf); have e9 := sV 9 (hd 4 (by kernel_rfl)) hA hap hsz; clear hA hd o2 o3
     have c0 : W.cell? ⟨g2, 33, none⟩ = some (.slice (some ⟨gr, 0, none⟩) l.length cr) := by rw [(hb2.kp hW (by simp)).cell]; exact ntA_sigs hh
     go_step; exact hK _ _ kR rfl
   · intro vs A' W hA hW hd K hK; have e8 := sV 8 (hd 3 (by kernel_rfl)) hA hap hsz; refine wpOp_go _ rfl 3 8 true rfl rfl e8 ?_; (conv => arg 2; whnf); have e3 := sO 3 o3 hA hap hsz; clear hA hd o2 o3; go_step; exact hK _ _ kR rfl
   · intro vs A' W hA hW hd K hK; have e8 := sV 8 (hd 3 (by kernel_rfl)) hA hap hsz; refine wpOp_go _ rfl 3 8 true rfl rfl e8 ?_; (conv => arg 2; whnf); have e11 := sV 11 (hd 6 (by kernel_rfl)) hA hap hsz; clear hA hd o2 o3
     have c0 : W.cell? ⟨g3, 33, none⟩ = some (.slice A l.length c) := by rw [(hb3.kp hW (by simp)).cell]; exact ntA_sigs hh
     go_step; exact hK _ _ kR rfl
   · intro vs A' W hA hW hd K hK; have e8 := sV 8 (hd 3 (by kernel_rfl)) hA hap hsz; refine wpOp_go _ rfl 3 8 true rfl rfl e8 ?_; (conv => arg 2; whnf); have e12 := sV 12 (hd 7 (by kernel_rfl)) hA hap hsz; clear hA hd o2 o3; go_step; exact hK _ _ kR rfl
   · intro vs A' W hA hW hd K hK; have e8 := sV 8 (hd 3 (by kernel_rfl)) hA hap hsz; refine wpOp_go _ rfl 3 8 true rfl rfl e8 ?_; (conv => arg 2; whnf); have e13 := sV 13 (hd 8 (by kernel_rfl)) hA hap hsz; clear hA hd o2 o3
     have hw : wrap64 ((l.length : Int) + 1) = (l.length : Int) + 1 := by unfold wrap64; omega
     go_step; exact hK _ _ kR rfl
   · intro vs A' W hA hW hd K hK; have e8 := sV 8 (hd 3 (by kernel_rfl)) hA hap hsz; refine wpOp_go _ rfl 3 8 true rfl rfl e8 ?_; (conv => arg 2; whnf); have e10 := sV 10 (hd 5 (by kernel_rfl)) hA hap hsz; have e14 := sV 14 (hd 9 (by kernel_rfl)) hA hap hsz; clear hA hd o2 o3
     have q := fun w => cut_hiS (some ⟨gr, 0, none⟩) l.length cr (l.length + 1) hcr w
     have q2 : ((l.length + 1 : Nat) : Int) = (l.length : Int) + 1 := by omega
     rw [q2] at q
     go_step; exact hK _ _ kR rfl
   · intro vs A' W hA hW hd K hK; have e8 := sV 8 (hd 3 (by kernel_rfl)) hA hap hsz; refine wpOp_go _ rfl 3 8 true rfl rfl e8 ?_; (conv => arg 2; whnf); have e3 := sO 3 o3 hA hap hsz; clear hA hd o2 o3; go_step; exact hK _ _ kR rfl
   · intro vs A' W hA hW hd K hK; have e8 := sV 8 (hd 3 (by kernel_rfl)) hA hap hsz; refine wpOp_go _ rfl 3 8 true rfl rfl e8 ?_; (conv => arg 2; whnf); have e16 := sV 16 (hd 11 (by kernel_rfl)) hA hap hsz; clear hA hd o2 o3
     have c0 : W.cell? ⟨g3, 33, none⟩ = some (.slice A l.length c) := by rw [(hb3.kp hW (by simp)).cell]; exact ntA_sigs hh
     go_step; exact hK _ _ kR rfl
   · intro vs A' W hA hW hd K hK; have e8 := sV 8 (hd 3 (by kernel_rfl)) hA hap hsz; refine wpOp_go _ rfl 3 8 true rfl rfl e8 ?_; (conv => arg 2; whnf); have e17 := sV 17 (hd 12 (by kernel_rfl)) hA hap hsz; clear hA hd o2 o3; go_step; exact hK _ _ kR rfl
   · intro vs A' W hA hW hd K hK; have e8 := sV 8 (hd 3 (by kernel_rfl)) hA hap hsz; refine wpOp_go _ rfl 3 8 true rfl rfl e8 ?_; (conv => arg 2; whnf); have e15 := sV 15 (hd 10 (by kernel_rfl)) hA hap hsz; have e18 := sV 18 (hd 13 (by kernel_rfl)) hA hap hsz; clear hA hd o2 o3
     have h0 : 0 ≤ (l.length : Int) := by omega
     have h1 : (l.length : Int) < (l.length : Int) + 1 := by omega
     go_step; exact hK _ _ kR rfl
   · intro vs A' W hA hW hd K hK; have e8 := sV 8 (hd 3 (by kernel_rfl)) hA hap hsz; refine wpOp_go _ rfl 3 8 true rfl rfl e8 ?_; (conv => arg 2; whnf); have e19 := sV 19 (hd 14 (by kernel_rfl)) hA hap hsz; clear hA hd o2 o3; go_step; exact hK _ _ kR rfl
   · intro vs A' W hA hW hd K hK; have e8 := sV 8 (hd 3 (by kernel_rfl)) hA hap hsz; refine wpOp_go _ rfl 3 8 true rfl rfl e8 ?_; (conv => arg 2; whnf); have e20 := sV 20 (hd 15 (by kernel_rfl)) hA hap hsz; clear hA hd o2 o3
     have c0 := cell_kept hrm hW
     go_step; exact hK _ _ kR rfl
   · intro vs A' W hA hW hd K hK; have e8 := sV 8 (hd 3 (by kernel_rfl)) hA hap hsz; refine wpOp_go _ rfl 3 8 true rfl rfl e8 ?_; (conv => arg 2; whnf); have e21 := sV 21 (hd 16 (by kernel_rfl)) hA hap hsz; clear hA hd o2 o3; go_step; exact hK _ _ kR rfl
   · intro vs A' W hA hW hd K hK; refine wpOp_free _ rfl rfl ?_; (conv => arg 2; whnf); have e8 := sV 8 (hd 3 (by kernel_rfl)) hA hap hsz; have e22 := sV 22 (hd 17 (by kernel_rfl)) hA hap hsz; clear hA hd o2 o3; go_step; exact hK _ _ kR rfl
   · intro vs A' W hA hW hd K hK; refine wpOp_free _ rfl rfl ?_; (conv => arg 2; whnf); have e23 := sV 23 (hd 18 (by kernel_rfl)) hA hap hsz; clear hA hd o2 o3; go_step; exact hK _ _ kR rfl
 · intro vs W hW hp
   rw [putAll_eq]
   exact hend _ W sQ hW (sW (hp 19 sB))
end
/- find, lay, Same of the reference; lent, left of the law. -/
section
open Go.RowKit
def findK (nm : List UInt8) : List SigD → Nat → Int
 | [], _ => -1
 | s :: l, k => if s.1 == nm then (k : Int) else findK nm l (k + 1)
def findN (nm : List UInt8) (l : List SigD) : Int := findK nm l 0
theorem sfind_any (A : Option Addr) (c : Nat) (l : List SigD) (hok : SgOk l) (hll : l.length < 9223372036854775807) (nm : ByteArray) (w : World) (hv : Rd w 33 (.slice A l.length c) l.length (sgsC l)) :
 Calls Tryd.prog 51 #[.slice A l.length c, .string nm] w fun e w' => e = .returned (.int .i64 (findN nm.toList l)) ∧ w = w' := by
 refine calls_fr Tryd.func51 rfl 20 rfl (fun a0 hsz hdf hAr => ?_)
 have hz0 : a0.tmps.size = 20 := hsz
 have D := hdf
 have o0 := hAr 0 _ rfl
 have o1 := hAr 1 _ rfl
 refine wp_seq (sfd_r0 hz0 (fun a1 hs1 o4 => ?_))
 have hz1 := hs1.size.trans hz0; have o0 := hs1.k o0; have o1 := hs1.k o1; have D := hs1.defers.trans D
 refine wp_seq (wp_seq (sfd_r1 hz1 (fun a2 hs2 o5 => ?_)))
 have hz2 := hs2.size.trans hz1; have o0 := hs2.k o0; have o1 := hs2.k o1; have o4 := hs2.k o4; have D := hs2.defers.trans D
 refine wp_block ?_
 (conv => arg 2; whnf)
 refine wp_loop (fun a' w' => ∃ (k : Nat), k ≤ l.length ∧ a'.tmps.size = 20 ∧ a'.defers = [] ∧ w' = w ∧ Sl a' 0 (.slice A l.length c) ∧ Sl a' 1 (.string nm) ∧ Sl a' 5 (.int .i64 ((k : Nat) : Int)) ∧ findN nm.toList l = findK nm.toList (l.drop k) k) (fun a' _ => l.length - (intOf (a'.eval (.tmp 5))).toNat) ⟨0, Nat.zero_le _, hz2, D, rfl, o0, o1, o5, rfl⟩ ?_
 iterate 6 (try clear o0)
 iterate 6 (try clear o1)
 iterate 6 (try clear o5)
 rintro a3 w3 ⟨k, hk, hz3, D, rfl, o0, o1, o5, hF⟩
 have e5 := o5.eval (by rw [hz3]; decide)
 refine wp_seq (wp_seq (sfd_r2 A k l.length c hz3 o0 o5 (fun a4 hs4 o9 => ?_)))
 have hz4 := hs4.size.trans hz3; have o0 := hs4.k o0; have o1 := hs4.k o1; have o5 := hs4.k o5; have D := hs4.defers.trans D
 by_cases hlt : k < l.length
 · refine wp_cond_true ((o9.eval (by rw [hz4]; decide)).trans (by rw [decide_eq_true hlt])) (wp_skip ?_)
   simp only [Exit.then]
   obtain ⟨ad, rfl⟩ := sgs_addr hv (by omega)
   obtain ⟨s, hs⟩ : ∃ s, l[k]? = some s := ⟨_, List.getElem?_eq_getElem hlt⟩
   obtain ⟨ns, hns, hnl, -, -⟩ := str_of s.1
   have hdr : l.drop k = s :: l.drop (k + 1) := by rw [List.drop_eq_getElem_cons hlt, (List.getElem?_eq_some_iff.1 hs).2]
   rw [hdr] at hF
   unfold findK at hF
   have hc0 : w3.cell? (ad.add (k * 33)) = some (.string ns) := by
    have := sgs_at hv hok hs 0 (strV s.1) rfl
    rwa [addr0, hns.out] at this
   refine wp_seq (wp_block ?_)
   refine wp_seq (sfd_r4 ad k l.length c hlt ns nm hc0 (s.1 == nm.toList) (by rw [hnl.out]) hz4 o0 o1 o5 (fun a5 hs5 o18 => ?_))
   have hz5 := hs5.size.trans hz4; have o0 := hs5.k o0; have o1 := hs5.k o1; have o5 := hs5.k o5; have o9 := hs5.k o9; have D := hs5.defers.trans D
   cases he : s.1 == nm.toList
   · refine wp_cond_false ((o18.eval (by rw [hz5]; decide)).trans (by rw [he])) (wp_skip ?_)
     rw [he, if_neg (by decide)] at hF
     simp only [Exit.inBlock, Exit.then]
     refine sfd_r3 k (by omega) hz5 o5 (fun a6 hs6 o5 => ?_)
     have hz6 := hs6.size.trans hz5; have o0 := hs6.k o0; have o1 := hs6.k o1; have o9 := hs6.k o9; have o18 := hs6.k o18; have D := hs6.defers.trans D
     refine ⟨⟨k + 1, by omega, hz6, D, rfl, o0, o1, o5, hF⟩, ?_⟩
     show l.length - (intOf _).toNat < l.length - (intOf _).toNat
     rw [e5, o5.eval (by rw [hz6]; decide)]
     simp only [intOf]; omega
   · refine wp_cond_true ((o18.eval (by rw [hz5]; decide)).trans (by rw [he])) ?_
     rw [he, if_pos rfl] at hF
     refine wp_seq (sfd_r5 k hz5 o5 (fun a6 hs6 o4 => ?_))
     have hz6 := hs6.size.trans hz5; have o0 := hs6.k o0; have o1 := hs6.k o1; have o5 := hs6.k o5; have o9 := hs6.k o9; have o18 := hs6.k o18; have D := hs6.defers.trans D
     refine wp_ret ?_
     simp only [Exit.inBlock, Exit.then]
     exact (bodyPost_ret (results_t1 (by rfl) (o4.eval (by rw [hz6]; decide))) D ⟨by rw [hF], rfl⟩)
 · refine wp_cond_false ((o9.eval (by rw [hz4]; decide)).trans (by rw [decide_eq_false hlt])) (wp_exit ?_)
   simp only [Exit.then, Exit.inBlock]
   obtain rfl : k = l.length := by omega
   rw [List.drop_length] at hF
   refine wp_seq (sfd_r6 hz4 (fun a5 hs5 o4 => ?_))
   have hz5 := hs5.size.trans hz4; have D := hs5.defers.trans D
   refine wp_ret ?_
   exact (bodyPost_ret (results_t1 (by rfl) (o4.eval (by rw [hz5]; decide))) D ⟨by rw [hF]; rfl, rfl⟩)
theorem slay_any (A : Option Addr) (c : Nat) (l : List SigD) (hok : SgOk l) (hll : l.length ≤ 1000000) (s : SigD) (hs : s.2.length = 32) (w : World) (hv : Rd w 33 (.slice A l.length c) l.length (sgsC l)) :
 Calls Tryd.prog 52 #[.slice A l.length c, .agg (sgA s)] w fun e w' => ∃ v, e = .returned v ∧ Held w w' [rowR 81 33 v (l.length + 1) (sgsC (insN l s))] := by
 obtain ⟨ns, hns, hnl, -, -⟩ := str_of s.1
 have hlc : l.length ≤ c := by obtain ⟨-, A', c', he, h1, -⟩ := hv; cases he; exact h1
 refine calls_fr Tryd.func52 rfl 36 rfl (fun a0 hsz hdf hAr => ?_)
 have hz0 : a0.tmps.size = 36 := hsz
 have D := hdf
 have o0 := hAr 0 _ rfl
 have o1 := hAr 1 _ rfl
 refine wp_seq (sly_r0 w s [] (Held.start w) hz0 o1 (fun a1 w1 hs1 o4 h1 => ?_))
 have hz1 := hs1.size.trans hz0; have o0 := hs1.k o0; have o1 := hs1.k o1; have D := hs1.defers.trans D
 obtain ⟨gs, o3, S⟩ := h1
 refine wp_seq (sly_r1 hz1 (fun a2 hs2 o5 => ?_))
 have hz2 := hs2.size.trans hz1; have o0 := hs2.k o0; have o3 := hs2.k o3; have D := hs2.defers.trans D
 refine wp_seq (wp_block ?_)
 (conv => arg 2; whnf)
 refine wp_loop (fun a' w' => ∃ (k : Nat), k ≤ l.length ∧ a'.tmps.size = 36 ∧ a'.defers = [] ∧ Held w w' [blkR gs 81 (sgA s)] ∧ Sl a' 0 (.slice A l.length c) ∧ Sl a' 3 (.pointer (some ⟨gs, 0, none⟩)) ∧ Sl a' 5 (.int .i64 ((k : Nat) : Int)) ∧ posN s.1 l = k + posN s.1 (l.drop k)) (fun a' _ => l.length - (intOf (a'.eval (.tmp 5))).toNat) ⟨0, Nat.zero_le _, hz2, D, S, o0, o3, o5, by simp⟩ ?_
 iterate 6 (try clear S)
 iterate 6 (try clear o0)
 iterate 6 (try clear o3)
 iterate 6 (try clear o5)
 rintro a3 w3 ⟨k, hk, hz3, D, S, o0, o3, o5, hF⟩
 have e5 := o5.eval (by rw [hz3]; decide)
 have hfin : ∀ (a4 : Act) (w4 : World), a4.tmps.size = 36 → a4.defers = [] → Held w w4 [blkR gs 81 (sgA s)] → Sl a4 0 (.slice A l.length c) → Sl a4 3 (.pointer (some ⟨gs, 0, none⟩)) → Sl a4 5 (.int .i64 ((k : Nat) : Int)) → posN s.1 l = k → (tailOf 2 Tryd.f52).wp Tryd.prog (bodyPost Tryd.prog Tryd.f52 fun e w' => ∃ v, e = .returned v ∧ Held w w' [rowR 81 33 v (l.length + 1) (sgsC (insN l s))]) a4 w4 := by
  intro a4 w4 hz4 D S o0 o3 o5 hp
  (conv => arg 2; whnf)
  refine wp_seq (sly_r4 w A c l hok (by omega) k hk (fun V kV => rd_old hv kV) hlc _ S hz4 o0 o5 (fun a5 w5 hs5 h5 => ?_))
  have hz5 := hs5.size.trans hz4; have o0 := hs5.k o0; have o3 := hs5.k o3; have o5 := hs5.k o5; have D := hs5.defers.trans D
  obtain ⟨v5, o6, S⟩ := h5
  refine wp_seq (sly_r5 w v5 k (by omega) _ gs s hs [] S hz5 o3 o6 (fun a6 w6 hs6 h6 => ?_))
  have hz6 := hs6.size.trans hz5; have o0 := hs6.k o0; have o3 := hs6.k o3; have o5 := hs6.k o5; have D := hs6.defers.trans D
  obtain ⟨v6, o6, S⟩ := h6
  refine wp_seq (sly_r6 w A c l hok (by omega) k hk (fun V kV => rd_old hv kV) v6 (k + 1) (by omega) _ _ S hz6 o0 o5 o6 (fun a7 w7 hs7 h7 => ?_))
  have hz7 := hs7.size.trans hz6; have o0 := hs7.k o0; have o3 := hs7.k o3; have o5 := hs7.k o5; have o6 := hs7.k o6; have D := hs7.defers.trans D
  obtain ⟨v7, o4, S⟩ := h7
  refine wp_ret ?_
  refine (bodyPost_ret (results_t1 (by rfl) (o4.eval (by rw [hz7]; decide))) D ⟨_, rfl, ?_⟩)
  have e1 : sgsC (l.take k) ++ (sgA s).toList ++ sgsC (l.drop k) = sgsC (insN l s) := by
   unfold insN
   rw [hp, sgsC_append, List.append_assoc]
   rfl
  rw [e1, show k + 1 + (l.length - k) = l.length + 1 from by omega] at S
  exact S
 by_cases hlt : k < l.length
 · obtain ⟨ad, rfl⟩ := sgs_addr hv (by omega)
   obtain ⟨x, hx⟩ : ∃ x, l[k]? = some x := ⟨_, List.getElem?_eq_getElem hlt⟩
   obtain ⟨nx, hnx, hnxl, -, -⟩ := str_of x.1
   have hdr : l.drop k = x :: l.drop (k + 1) := by rw [List.drop_eq_getElem_cons hlt, (List.getElem?_eq_some_iff.1 hx).2]
   rw [hdr] at hF
   have hc : ∀ V, Kp [] w3.drew V → V.cell? (ad.add (k * 33)) = some (.string nx) := by
    intro V kV
    have := sgs_at (rd_old hv (S.k.drew.trans kV (by simp))) hok hx 0 (strV x.1) rfl
    rwa [addr0, hnx.out] at this
   have hlt2 : Op.bytesLess nx.toList ns.toList = decide (cmpB x.1 s.1 < 0) := by rw [hnxl.out, hnl.out, less_cmp]
   refine wp_seq (wp_seq (sly_r2Y ad k l.length c hlt nx ns hc gs s hns.out ((S.at_ (l1 := [])).drew) _ hlt2 hz3 o0 o3 o5 (fun a4 w4 hs4 k4 o20 => ?_)))
   have hz4 := hs4.size.trans hz3; have o0 := hs4.k o0; have o3 := hs4.k o3; have o5 := hs4.k o5; have D := hs4.defers.trans D
   have S := S.kp (((Kp.refl [] w3).drew).trans k4 (by simp))
   by_cases hc2 : cmpB x.1 s.1 < 0
   · refine wp_cond_true ((o20.eval (by rw [hz4]; decide)).trans (by rw [decide_eq_true hc2])) (wp_skip ?_)
     rw [posN_lt hc2] at hF
     simp only [Exit.then]
     refine wp_block ?_
     refine sly_r3 k (by omega) hz4 o5 (fun a5 hs5 o5' => ?_)
     have hz5 := hs5.size.trans hz4
     simp only [Exit.inBlock, Exit.then]
     refine ⟨⟨k + 1, by omega, hz5, hs5.defers.trans D, S, hs5.k o0, hs5.k o3, o5', by omega⟩, ?_⟩
     show l.length - (intOf _).toNat < l.length - (intOf _).toNat
     rw [e5, o5'.eval (by rw [hz5]; decide)]
     simp only [intOf]; omega
   · refine wp_cond_false ((o20.eval (by rw [hz4]; decide)).trans (by rw [decide_eq_false hc2])) (wp_exit ?_)
     rw [posN_ge hc2] at hF
     simp only [Exit.then, Exit.inBlock]
     exact hfin a4 w4 hz4 D S o0 o3 o5 (by omega)
 · refine wp_seq (wp_seq (sly_r2N A k l.length c hlt hz3 o0 o5 (fun a4 w4 hs4 k4 o20 => ?_)))
   have hz4 := hs4.size.trans hz3; have o0 := hs4.k o0; have o3 := hs4.k o3; have o5 := hs4.k o5; have D := hs4.defers.trans D
   have S := S.kp (((Kp.refl [] w3).drew).trans k4 (by simp))
   refine wp_cond_false (o20.eval (by rw [hz4]; decide)) (wp_exit ?_)
   simp only [Exit.then, Exit.inBlock]
   have hkl : k = l.length := by omega
   rw [List.drop_of_length_le (by omega)] at hF
   exact hfin a4 w4 hz4 D S o0 o3 o5 (by rw [hF]; rfl)
end
/- Same of the reference; lent, left of the law. -/
section
open Go.RowKit
def sameN (z : Int) (h : List UInt8) (l : List SigD) (y : Int) (g : List UInt8) (m : List SigD) : Bool := (decide (z = y) && (h == g)) && (decide (l.length = m.length) && (l == m))
theorem ssame_any (z y : Int) (h g : List UInt8) (hh : h.length = 32) (hg : g.length = 32) (A B : Option Addr) (c e : Nat) (l m : List SigD) (hok : SgOk l) (hmk : SgOk m) (hll : l.length < 9223372036854775807) (w : World) (hv : Rd w 33 (.slice A l.length c) l.length (sgsC l)) (hu : Rd w 33 (.slice B m.length e) m.length (sgsC m)) :
 Calls Tryd.prog 23 #[.agg (ntA z h (.slice A l.length c)), .agg (ntA y g (.slice B m.length e))] w fun r w' => r = .returned (.bool (sameN z h l y g m)) ∧ Kp [] w w' := by
 refine calls_fr Tryd.func23 rfl 38 rfl (fun a0 hsz hdf hAr => ?_)
 have hz0 : a0.tmps.size = 38 := hsz
 have D := hdf
 have o0 := hAr 0 _ rfl
 have o1 := hAr 1 _ rfl
 refine wp_seq (ssa_r0 w _ _ [] (Held.start w) hz0 o0 o1 (fun a1 w1 hs1 o4 h1 => ?_))
 have hz1 := hs1.size.trans hz0; have o0 := hs1.k o0; have o1 := hs1.k o1; have D := hs1.defers.trans D
 obtain ⟨g2, g3, o2, o3, S⟩ := h1
 have hb2 := S.at_ (l1 := [_])
 have hb3 := S.at_ (l1 := [])
 have K := S.k
 have hfail : ∀ (a : Act) (W : World), a.tmps.size = 38 → a.defers = [] → Sl a 4 (.bool false) → Kp [] w W → sameN z h l y g m = false → bodyPost Tryd.prog Tryd.f23 (fun r w' => r = .returned (.bool (sameN z h l y g m)) ∧ Kp [] w w') .ret a W := by
  intro a W hs hd o4 kk hb
  exact (bodyPost_ret (results_t1 (by rfl) (o4.eval (by rw [hs]; decide))) hd ⟨by rw [hb], kk⟩)
 cases hpq : (decide (z = y) && (h == g))
 · have hF : sameN z h l y g m = false := by unfold sameN; rw [hpq, Bool.false_and]
   refine wp_seq (wp_seq (ssa_r1N z y h g hh hg A B l.length c m.length e g2 g3 hb2 hb3 hpq hz1 o2 o3 (fun a2 w2 hs2 k2 o19 => ?_)))
   have hz2 := hs2.size.trans hz1
   refine wp_cond_true (o19.eval (by rw [hz2]; decide)) ?_
   refine wp_seq (ssa_r2 hz2 (fun a3 hs3 o4 => ?_))
   refine wp_ret ?_
   simp only [Exit.then]
   exact hfail a3 w2 (hs3.size.trans hz2) (hs3.defers.trans (hs2.defers.trans D)) o4 (K.trans k2 (by simp)) hF
 · refine wp_seq (wp_seq (ssa_r1Y z y h g hh hg A B l.length c m.length e g2 g3 hb2 hb3 hpq hz1 o2 o3 (fun a2 w2 hs2 k2 o19 => ?_)))
   have hz2 := hs2.size.trans hz1; have o2 := hs2.k o2; have o3 := hs2.k o3; have D := hs2.defers.trans D
   have hb2 := hb2.kp k2 (by simp)
   have hb3 := hb3.kp k2 (by simp)
   have K := K.trans k2 (by simp)
   by_cases hlm : l.length = m.length
   · refine wp_cond_false ((o19.eval (by rw [hz2]; decide)).trans (by rw [decide_eq_true hlm]; rfl)) (wp_skip ?_)
     simp only [Exit.then]
     refine wp_seq (wp_seq (ssa_r3 hz2 (fun a3 hs3 o5 => ?_)))
     have hz3 := hs3.size.trans hz2; have o2 := hs3.k o2; have o3 := hs3.k o3; have D := hs3.defers.trans D
     refine wp_block ?_
     (conv => arg 2; whnf)
     refine wp_loop (fun a' w' => ∃ (k : Nat), k ≤ l.length ∧ a'.tmps.size = 38 ∧ a'.defers = [] ∧ Kp [] w2 w' ∧ Sl a' 2 (.pointer (some ⟨g2, 0, none⟩)) ∧ Sl a' 3 (.pointer (some ⟨g3, 0, none⟩)) ∧ Sl a' 5 (.int .i64 ((k : Nat) : Int)) ∧ l.take k = m.take k) (fun a' _ => l.length - (intOf (a'.eval (.tmp 5))).toNat) ⟨0, Nat.zero_le _, hz3, D, Kp.refl _ _, o2, o3, o5, by rw [List.take_zero, List.take_zero]⟩ ?_
     iterate 8 (try clear o2)
     iterate 8 (try clear o3)
     iterate 8 (try clear o5)
     rintro a4 w4 ⟨k, hk, hz4, D, k4, o2, o3, o5, hT⟩
     have e5 := o5.eval (by rw [hz4]; decide)
     have hb2 := hb2.kp k4 (by simp)
     have hb3 := hb3.kp k4 (by simp)
     refine wp_seq (wp_seq (ssa_r4 z h hh A l.length c g2 k hb2 hz4 o2 o5 (fun a5 hs5 o24 => ?_)))
     have hz5 := hs5.size.trans hz4; have o2 := hs5.k o2; have o3 := hs5.k o3; have o5 := hs5.k o5; have D := hs5.defers.trans D
     by_cases hlt : k < l.length
     · refine wp_cond_true ((o24.eval (by rw [hz5]; decide)).trans (by rw [decide_eq_true hlt])) (wp_skip ?_)
       simp only [Exit.then]
       obtain ⟨a2', hA⟩ := sgs_addr hv (by omega)
       obtain ⟨a3', hB⟩ := sgs_addr hu (by omega)
       obtain ⟨s, hs⟩ : ∃ s, l[k]? = some s := ⟨_, List.getElem?_eq_getElem hlt⟩
       obtain ⟨t, ht⟩ : ∃ t, m[k]? = some t := ⟨_, List.getElem?_eq_getElem (by omega)⟩
       have kk := K.trans k4.drew (by simp)
       have hb2' := (hb2.drew)
       have hb3' := (hb3.drew)
       rw [hA] at hb2' hv
       rw [hB] at hb3' hu
       refine wp_seq (wp_block ?_)
       refine wp_seq (ssa_r6 z y h g hh hg a2' a3' l.length c m.length e k hlt (by omega) g2 g3 hb2' hb3' s t (hok s (List.mem_of_getElem? hs)).1 (hmk t (List.mem_of_getElem? ht)).1 (fun V kV => sgs_at (rd_old hv (kk.trans kV (by simp))) hok hs) (fun V kV => sgs_at (rd_old hu (kk.trans kV (by simp))) hmk ht) hz5 o2 o3 o5 (fun a6 w6 hs6 k6 o37 => ?_))
       have hz6 := hs6.size.trans hz5; have o2 := hs6.k o2; have o3 := hs6.k o3; have o5 := hs6.k o5; have D := hs6.defers.trans D
       have k46 := k4.drew.trans k6 (by simp)
       cases hst : ((s.1 == t.1) && (s.2 == t.2))
       · have hF : sameN z h l y g m = false := by
          have hne : (l == m) = false := by
           refine beq_false_of_ne (fun e0 => ?_)
           subst e0
           rw [hs] at ht
           cases ht
           simp at hst
          unfold sameN
          rw [hne, Bool.and_false, Bool.and_false]
         refine wp_cond_true ((o37.eval (by rw [hz6]; decide)).trans (by rw [hst]; rfl)) ?_
         refine wp_seq (ssa_r7 hz6 (fun a7 hs7 o4 => ?_))
         refine wp_ret ?_
         simp only [Exit.inBlock, Exit.then]
         exact hfail a7 w6 (hs7.size.trans hz6) (hs7.defers.trans D) o4 (K.trans k46 (by simp)) hF
       · have hst2 : s = t := by
          simp only [Bool.and_eq_true, beq_iff_eq] at hst
          exact Prod.ext hst.1 hst.2
         refine wp_cond_false ((o37.eval (by rw [hz6]; decide)).trans (by rw [hst]; rfl)) (wp_skip ?_)
         simp only [Exit.inBlock, Exit.then]
         refine ssa_r5 k (by omega) hz6 o5 (fun a7 hs7 o5' => ?_)
         have hz7 := hs7.size.trans hz6
         refine ⟨⟨k + 1, by omega, hz7, hs7.defers.trans D, k46, hs7.k o2, hs7.k o3, o5', by rw [List.take_add_one, List.take_add_one, hs, ht, hT, hst2]⟩, ?_⟩
         show l.length - (intOf _).toNat < l.length - (intOf _).toNat
         rw [e5, o5'.eval (by rw [hz7]; decide)]
         simp only [intOf]; omega
     · refine wp_cond_false ((o24.eval (by rw [hz5]; decide)).trans (by rw [decide_eq_false hlt])) (wp_exit ?_)
       simp only [Exit.then, Exit.inBlock]
       have hkl : k = l.length := by omega
       have hlm2 : l = m := by rw [hkl, List.take_length, hlm, List.take_length] at hT; exact hT
       have hF : sameN z h l y g m = true := by unfold sameN; rw [hpq, decide_eq_true hlm, hlm2]; simp
       refine wp_seq (ssa_r8 hz5 (fun a6 hs6 o4 => ?_))
       refine wp_ret ?_
       exact (bodyPost_ret (results_t1 (by rfl) (o4.eval (by rw [hs6.size.trans hz5]; decide))) (hs6.defers.trans D) ⟨by rw [hF], K.trans k4 (by simp)⟩)
   · have hF : sameN z h l y g m = false := by unfold sameN; rw [decide_eq_false hlm, Bool.false_and, Bool.and_false]
     refine wp_cond_true ((o19.eval (by rw [hz2]; decide)).trans (by rw [decide_eq_false hlm]; rfl)) ?_
     refine wp_seq (ssa_r2 hz2 (fun a3 hs3 o4 => ?_))
     refine wp_ret ?_
     simp only [Exit.then]
     exact hfail a3 w2 (hs3.size.trans hz2) (hs3.defers.trans D) o4 K hF
theorem sameN_self (z : Int) (h : List UInt8) (l : List SigD) : sameN z h l z h l = true := by unfold sameN; simp
theorem slent_any (z : Int) (h : List UInt8) (hh : h.length = 32) (A : Option Addr) (c : Nat) (l : List SigD) (hok : SgOk l) (hll : (l.length + 1) * 48 ≤ 140737488355328) (w : World) (hv : Rd w 33 (.slice A l.length c) l.length (sgsC l)) :
 Calls Tryd.prog 18 #[.agg (ntA z h (.slice A l.length c))] w fun e w' => ∃ gr cr, e = .returned (.agg (ntA z h (.slice (some ⟨gr, 0, none⟩) l.length cr))) ∧ l.length + 1 ≤ cr ∧ Held w w' [rowR 81 33 (.slice (some ⟨gr, 0, none⟩) (l.length + 1) cr) (l.length + 1) (sgsC (l ++ [roomS]))] := by
 refine calls_fr Tryd.func18 rfl 15 rfl (fun a0 hsz hdf hAr => ?_)
 have hz0 : a0.tmps.size = 15 := hsz
 have D := hdf
 have o0 := hAr 0 _ rfl
 refine wp_seq (slt_r0 w _ [] (Held.start w) hz0 o0 (fun a1 w1 hs1 h1 => ?_))
 have hz1 := hs1.size.trans hz0; have o0 := hs1.k o0; have D := hs1.defers.trans D
 obtain ⟨g1, g2, o1, o2, S⟩ := h1
 have S : Held w w1 [blkR g1 36 (ntA z h (.slice A l.length c)), blkR g2 36 zeroN] := S.pull 1 rfl
 refine wp_seq (slt_r1 w z h hh A c l hok hll (fun V kV => rd_old hv kV) g1 _ hz1 o1 S (fun a2 vs gs w2 hs2 o12 hf S => ?_))
 have hz2 := hs2.size.trans hz1; have o1 := hs2.k o1; have o2 := hs2.k o2; have D := hs2.defers.trans D
 obtain ⟨A1, c1, hq⟩ := hf
 rw [hq] at S
 have S : Held w w2 [rowR 81 33 (.slice A1 (l.length + 1) c1) (l.length + 1) (sgsC (l ++ [roomS])), blkR g1 36 (ntA z h (.slice A1 l.length c1)), blkR g2 36 zeroN] := S.drop
 obtain ⟨gr, cr, hgr, hcr, -⟩ := ow_some (show Ow w2 81 33 (.slice A1 (l.length + 1) c1) (l.length + 1) (sgsC (l ++ [roomS])) from S.at_ (l1 := [])) (by omega)
 cases hgr
 have S : Held w w2 [blkR g2 36 zeroN, blkR g1 36 (ntA z h (.slice (some ⟨gr, 0, none⟩) l.length c1)), rowR 81 33 (.slice (some ⟨gr, 0, none⟩) (l.length + 1) c1) (l.length + 1) (sgsC (l ++ [roomS]))] := (S.pull 1 rfl).pull 2 rfl
 refine wp_seq (slt_r2 w g1 g2 _ (ntA_size hh) (ntA_one rfl) _ S hz2 o1 o2 (fun a3 w3 hs3 S => ?_))
 have hz3 := hs3.size.trans hz2; have o1 := hs3.k o1; have o2 := hs3.k o2; have D := hs3.defers.trans D
 refine wp_ret ?_
 refine (bodyPost_ret (results_cell1 (by rfl) (o2.eval (by rw [hz3]; decide)) (S.at_ (l1 := [])) Tryd.underlying36 rfl (by rw [ntA_size hh]; exact Tryd.infoNote)) D ⟨gr, c1, rfl, hcr, S.some_of (List.singleton_sublist.2 (by simp))⟩)
theorem sleft_any (z : Int) (h : List UInt8) (hh : h.length = 32) (A : Option Addr) (c : Nat) (l : List SigD) (hok : SgOk l) (hll : (l.length + 1) * 48 ≤ 140737488355328) (gr cr : Nat) (hcr : l.length + 1 ≤ cr) (w : World) (hv : Rd w 33 (.slice A l.length c) l.length (sgsC l)) (ho : Ow w 81 33 (.slice (some ⟨gr, 0, none⟩) (l.length + 1) cr) (l.length + 1) (sgsC (l ++ [roomS]))) :
 Calls Tryd.prog 33 #[.agg (ntA z h (.slice (some ⟨gr, 0, none⟩) l.length cr)), .agg (ntA z h (.slice A l.length c))] w fun e w' => e = .returned (.bool true) ∧ Kp [] w w' := by
 have hok1 : SgOk (l ++ [roomS]) := by
  intro s hs
  rcases List.mem_append.1 hs with hs | hs
  · exact hok s hs
  · rw [List.mem_singleton.1 hs]; exact ⟨rfl, by decide⟩
 have hro := Rd.of_own ho
 have hr2 : Rd w 33 (.slice (some ⟨gr, 0, none⟩) l.length cr) l.length (sgsC l) := by
  have := rd_hiS hok1 hro (by rw [List.length_append]; rfl) (show l.length ≤ l.length + 1 by omega)
  rwa [List.take_left' rfl] at this
 have hrm : w.cell? ⟨gr, l.length * 33, none⟩ = some (.string ⟨#[114, 111, 111, 109]⟩) := by
  have := sgs_at hro hok1 (k := l.length) (s := roomS) (by rw [List.getElem?_append_right (Nat.le_refl _), Nat.sub_self]; rfl) 0 (strV roomS.1) rfl
  rw [addr0, Addr.add_lit, Nat.zero_add] at this
  exact this
 refine calls_fr Tryd.func33 rfl 24 rfl (fun a0 hsz hdf hAr => ?_)
 have hz0 : a0.tmps.size = 24 := hsz
 have D := hdf
 have o0 := hAr 0 _ rfl
 have o1 := hAr 1 _ rfl
 refine wp_seq (slf_r0 w _ _ [] (Held.start w) hz0 o0 o1 (fun a1 w1 hs1 o4 h1 => ?_))
 have hz1 := hs1.size.trans hz0; have o0 := hs1.k o0; have o1 := hs1.k o1; have D := hs1.defers.trans D
 obtain ⟨g2, g3, o2, o3, S⟩ := h1
 have kd := S.k.drew
 refine wp_seq (slf_r1 z h hh A c l hll g2 g3 gr cr hcr ((S.at_ (l1 := [_])).drew) ((S.at_ (l1 := [])).drew) (cell_kept hrm kd) (fun V kV => ?_) hz1 o2 o3 (fun a2 w2 hs2 k2 o4 => ?_))
 · have := ssame_any z z h h hh hh (some ⟨gr, 0, none⟩) A cr c l l hok hok (by omega) V (rd_old hr2 (kd.trans kV (by simp))) (rd_old hv (kd.trans kV (by simp)))
   rw [sameN_self] at this
   exact this
 · refine wp_ret ?_
   exact (bodyPost_ret (results_t1 (by rfl) (o4.eval (by rw [hs2.size.trans hz1]; decide))) (hs2.defers.trans D) ⟨rfl, kd.trans k2 (by simp)⟩)
end
/- Joining notes: mathematics. -/
section
open Go.RowKit
def lk (nm : List UInt8) (l : List SigD) : Option (List UInt8) := (l.find? fun s => s.1 == nm).map (·.2)
theorem lk_nil (nm : List UInt8) : lk nm [] = none := rfl
theorem lk_cons (nm : List UInt8) (s : SigD) (l : List SigD) : lk nm (s :: l) = if s.1 == nm then some s.2 else lk nm l := by
 unfold lk
 rw [List.find?_cons]
 cases s.1 == nm <;> rfl
theorem lk_none {nm : List UInt8} : ∀ {l : List SigD}, lk nm l = none ↔ ∀ s, s ∈ l → s.1 ≠ nm
 | [] => by simp [lk_nil]
 | x :: l => by
  rw [lk_cons]
  cases e : x.1 == nm
  · rw [if_neg (by decide), lk_none (l := l)]
    refine ⟨fun h s hs => ?_, fun h s hs => h s (List.mem_cons_of_mem _ hs)⟩
    rcases List.mem_cons.1 hs with rfl | hs
    · intro e2
      rw [e2, beq_self_eq_true] at e
      cases e
    · exact h s hs
  · rw [if_pos rfl]
    refine ⟨fun h => (by cases h), fun h => absurd (eq_of_beq e) (h x (List.mem_cons_self ..))⟩
theorem lk_some {nm v : List UInt8} : ∀ {l : List SigD} {a : List UInt8}, rising a l = true → (lk nm l = some v ↔ (nm, v) ∈ l)
 | [], _, _ => by simp [lk_nil]
 | x :: l, a, h => by
  have h' := h
  unfold rising at h'
  simp only [Bool.and_eq_true, decide_eq_true_eq] at h'
  rw [lk_cons]
  cases e : x.1 == nm
  · rw [if_neg (by decide), lk_some h'.2]
    refine ⟨fun h => List.mem_cons_of_mem _ h, fun h => ?_⟩
    rcases List.mem_cons.1 h with h | h
    · rw [← h, beq_self_eq_true] at e
      cases e
    · exact h
  · rw [if_pos rfl]
    have e1 := eq_of_beq e
    constructor
    · intro h
      cases h
      rw [← e1]
      exact List.mem_cons_self ..
    · intro h2
      rcases List.mem_cons.1 h2 with h2 | h2
      · rw [← h2]
      · have := rising_all h'.2 _ h2
        rw [e1, cmpB_self] at this
        omega
theorem hasN_lk {nm : List UInt8} : ∀ {l : List SigD} {a : List UInt8}, rising a l = true → hasN nm l = (lk nm l).isSome
 | [], _, _ => rfl
 | x :: l, a, h => by
  have h' := h
  unfold rising at h'
  simp only [Bool.and_eq_true, decide_eq_true_eq] at h'
  rw [lk_cons]
  by_cases hx : cmpB x.1 nm < 0
  · rw [hasN_lt hx, hasN_lk h'.2, if_neg (by intro e; rw [eq_of_beq e, cmpB_self] at hx; omega)]
  · rw [hasN_ge hx]
    by_cases h0 : cmpB x.1 nm = 0
    · rw [cmpB_zero h0, beq_self_eq_true, if_pos rfl, cmpB_self]; rfl
    · rw [decide_eq_false h0, if_neg (by intro e; rw [eq_of_beq e] at h0; exact h0 (cmpB_self _))]
      have : lk nm l = none := lk_none.2 fun s hs e => by
       have := rising_all h'.2 s hs
       rw [e] at this
       omega
      rw [this]; rfl
end
/- SignHolds: its regions. -/
section
open Go.RowKit
theorem op_store_blkS {P : Program} {o : Oper} {a : Act} {w0 w : World} {K : Act → World → Prop} {Q : Exit → Act → World → Prop} {L : List Res} (x y : Operand) (ty : TypeId) (ho : o.op = .store ty x y) (g : Nat) (hx : a.eval x = .pointer (some ⟨g, 0, none⟩)) (cs : Array Value) (hy : a.eval y = .agg cs)
 (t : TypeId) (old : Array Value) (S : Held w0 w (blkR g t old :: L)) (hi : (P.info? ty).map (·.size) = some cs.size) (hold : cs.size = old.size) (h1 : ∀ u, u ∈ cs.toList → u.oneCell' = true)
 (h : ∀ w', Held w0 w' (blkR g t cs :: L) → K (a.put o.dst undef) w') : o.wp P a w K Q := by
 refine op_store_part x y ty ho g 0 hx cs hy t old (S.at_ (l1 := [])) hi (by omega) h1 (fun w' h2 k2 => h w' (Held.setBlk (l1 := []) S ?_ k2))
 rw [set_all _ _ hold.symm] at h2
 exact h2
end
/- spoil of the law; Join of both: their regions. -/
section
variable {Q : Exit → Act → World → Prop} {a : Act} {w : World}
open Go.RowKit
def spoiltS : SigD := ([115, 112, 111, 105, 108, 116], List.replicate 32 0)
theorem Tryd.built_spoilt : Tryd.prog.built 81 [(0, .string ⟨#[115, 112, 111, 105, 108, 116]⟩)] = some (sgA spoiltS) := by kernel_rfl
theorem Tryd.fill_two : Instr.fill (fun i => some (i * 33, 33)) ((Array.range (2 * 33)).map ((sgA ([], List.replicate 32 0))[· % (sgA ([], List.replicate 32 0)).size]!)) [(0, .agg (sgA spoiltS)), (1, .agg (sgA spoiltS))] = some (sgA spoiltS ++ sgA spoiltS) := by kernel_rfl
theorem wpList_sigs2 {ops : Array Oper} {rest : List Oper} {o : Oper} {a : Act} {w : World} {Q : Exit → Act → World → Prop} (hg : o.guard = none) (x y : Operand) (ho : o.op = .buildSlice 34 2 #[(0, x), (1, y)]) (cs cc : Array Value)
 (hf : Instr.fill (fun i => some (i * 33, 33)) ((Array.range (2 * 33)).map ((sgA ([], List.replicate 32 0))[· % (sgA ([], List.replicate 32 0)).size]!)) [(0, .agg cs), (1, .agg cs)] = some cc) (hx : a.eval x = .agg cs) (hy : a.eval y = .agg cs)
 (h : wpList Tryd.prog ops Q rest (a.put o.dst (.slice (some ⟨w.heap.size, 0, none⟩) 2 2)) (w.alloc (.cells cc 81))) : wpList Tryd.prog ops Q (o :: rest) a w := by
 obtain ⟨i0, hi, hz, hsize, -⟩ := info_parts Tryd.infoSigZ
 refine wpList_plain hg fun _ hK => wp_buildSlice 34 81 2 #[(0, x), (1, y)] ho cc i0 _ Tryd.underlying34 hi hz (by rw [hsize]; decide) (by rw [hsize]; decide) ?_ (hK _ _ h)
 rw [hsize, show ((#[(0, x), (1, y)] : Array (Nat × Operand)).map fun (i, x) => (i, a.eval x)).toList = [(0, .agg cs), (1, .agg cs)] from by simp [hx, hy]]
 exact hf
theorem rd_two {w : World} {vb : Nat} {t : TypeId} (hb : Blk w vb t (sgA spoiltS ++ sgA spoiltS)) (hs : (sgA spoiltS).size = 33) : Rd w 33 (.slice (some ⟨vb, 0, none⟩) 2 2) 2 (sgA spoiltS ++ sgA spoiltS).toList :=
 ⟨by rw [Array.length_toList, Array.size_append, hs], _, _, rfl, Nat.le_refl _, by unfold maxLen; omega, (fun h => by cases h), fun ad had j u hu => by cases had; exact hb.agg j u hu⟩
theorem Tryd.built_note2 (z : Int) (hh : List UInt8) (hl : hh.length = 32) (A : Option Addr) (n c : Nat) : Tryd.prog.built 36 [(0, .agg (ptA z hh)), (1, .slice A n c)] = some (ntA z hh (.slice A n c)) := by
 rw [Tryd.builtN_is]
 have hs : (ptA z hh).size = 33 := ptA_size hl
 have hs0 : zeroN.size = 34 := rfl
 have h : ((ptA z hh).zipIdx.foldl (fun cs (x : Value × Nat) => cs.setIfInBounds (0 + x.2) x.1) zeroN) = ntA z hh (.slice none 0 0) := by
  have h1 := foldl_place 0 (ptA z hh).toList 0 zeroN
  rw [show (ptA z hh).zipIdx.foldl (fun cs (x : Value × Nat) => cs.setIfInBounds (0 + x.2) x.1) zeroN = ((ptA z hh).toList.zipIdx 0).foldl (fun cs (x : Value × Nat) => cs.setIfInBounds (0 + x.2) x.1) zeroN from by rw [← Array.foldl_toList, Array.toList_zipIdx], h1]
  rw [hs0, List.take_of_length_le (l := (ptA z hh).toList) (by rw [Array.length_toList, hs]; decide), Array.length_toList, hs]
  rfl
 unfold Instr.fill
 show (if (decide ((ptA z hh).size ≠ 33) || decide (0 + (ptA z hh).size > zeroN.size)) = true then none else Instr.fill (#[(0, 33), (33, 1)][·]?) ((ptA z hh).zipIdx.foldl (fun cs (x : Value × Nat) => cs.setIfInBounds (0 + x.2) x.1) zeroN) [(1, .slice A n c)]) = _
 rw [hs, hs0, h, if_neg (by decide)]
 unfold Instr.fill
 show (if (decide (1 ≠ 1) || decide (33 + 1 > (ntA z hh (.slice none 0 0)).size)) = true then none else some ((ntA z hh (.slice none 0 0)).setIfInBounds (33 + 0) (.slice A n c))) = _
 rw [ntA_size hl, Nat.add_zero, ntA_setSigs hl]
 rfl
theorem ssp_r0 (w0 : World) (ca : Array Value) (L : List Res) (S : Held w0 w L) (hsz : a.tmps.size = 22) (o0 : Sl a 0 (.agg ca))
 (hend : ∀ a' W, Same a a' [1] → (∃ g1, Sl a' 1 (.pointer (some ⟨g1, 0, none⟩)) ∧ Held w0 W (blkR g1 36 ca :: L)) → Q .normal a' W) : (Code.region 0 (opsOf 0 Tryd.f26).toArray false).wp Tryd.prog Q a w := by
 refine wp_region_lit ?_
 (conv => arg 4; whnf)
 unfold Sl at o0
 have S1 := Lib.hid (S.newBlk 36 ca)
 go_wp2_with fail
 try simp only [Act.put]
 exact hend _ _ sS (⟨_, sP0, S1.out⟩)
theorem ssp_r1  (hsz : a.tmps.size = 22) 
 (hend : ∀ a', Same a a' [2] → Sl a' 2 (.int .i64 ((0 : Nat) : Int)) → Q .normal a' (w)) : (Code.region 1 (opsOf 1 Tryd.f26).toArray false).wp Tryd.prog Q a w := by
 refine wp_region_lit ?_
 (conv => arg 4; whnf)
 go_wp2_with fail
 try simp only [Act.put]
 exact hend _ sS sP
theorem ssp_r2 (z : Int) (h : List UInt8) (hh : h.length = 32) (A : Option Addr) (n c : Nat) (g1 k : Nat) (hb : Blk w g1 36 (ntA z h (.slice A n c))) (hsz : a.tmps.size = 22) (o1 : Sl a 1 (.pointer (some ⟨g1, 0, none⟩))) (o2 : Sl a 2 (.int .i64 ((k : Nat) : Int)))
 (hend : ∀ a', Same a a' [3, 4, 5, 6, 7] → Sl a' 7 (.bool (decide (k < n))) → Q .normal a' (w)) : (Code.region 2 (opsOf 2 Tryd.f26).toArray false).wp Tryd.prog Q a w := by
 refine wp_region_lit ?_
 (conv => arg 4; whnf)
 unfold Sl at o1 o2
 have c33 : w.cell? ⟨g1, 33, none⟩ = some (.slice A n c) := by rw [hb.cell]; exact ntA_sigs hh
 go_wp2_with fail
 try simp only [Act.put]
 exact hend _ sS sP
theorem ssp_r4 (w0 : World) (z : Int) (h : List UInt8) (hh : h.length = 32) (n c g1 gr k : Nat) (hk : k < n) (hn : n ≤ c) (cur : Array Value) (hcs : cur.size = c * 33) (L : List Res) (S : Held w0 w (blkR gr 81 cur :: blkR g1 36 (ntA z h (.slice (some ⟨gr, 0, none⟩) n c)) :: L)) (hsz : a.tmps.size = 22) (o1 : Sl a 1 (.pointer (some ⟨g1, 0, none⟩))) (o2 : Sl a 2 (.int .i64 ((k : Nat) : Int)))
 (hend : ∀ a' W, Same a a' [10, 11, 12, 13, 14] → (∃ cur' : Array Value, cur'.size = c * 33 ∧ Held w0 W (blkR gr 81 cur' :: blkR g1 36 (ntA z h (.slice (some ⟨gr, 0, none⟩) n c)) :: L)) → Q .normal a' W) : (Code.region 4 (opsOf 4 Tryd.f26).toArray false).wp Tryd.prog Q a w := by
 refine wp_region_lit ?_
 (conv => arg 4; whnf)
 unfold Sl at o1 o2
 have S := Lib.hid S
 have c33 : w.cell? ⟨g1, 33, none⟩ = some (.slice (some ⟨gr, 0, none⟩) n c) := by rw [(S.out.at_ (l1 := [_])).cell]; exact ntA_sigs hh
 have h0 : 0 ≤ (k : Int) := by omega
 have h1 : (k : Int) < (n : Int) := by omega
 have hz2 : Hid ((sgA spoiltS).size = 33) := Lib.hid (sgA_size rfl)
 have HO := Lib.hid (sgA_one spoiltS)
 have hf : Hid (k * 33 + 33 ≤ cur.size) := Lib.hid (by omega)
 have hcs := Lib.hid hcs
 clear hn
 generalize ntA z h (.slice (some ⟨gr, 0, none⟩) n c) = ca at *
 have HB := Lib.hid Tryd.built_spoilt
 generalize sgA spoiltS = cs at *
 go_wp2_with (first
  | (refine wpList_buildP rfl 81 _ rfl [(0, .string ⟨#[115, 112, 111, 105, 108, 116]⟩)] (by simp [Act.eval]) _ HB.out ?_)
  | (refine wpList_store_agg rfl 81 (.tmp 14) (.tmp 13) rfl gr (k * 33) (by simp [Act.eval, Act.put, hsz]) cs (by simp [Act.eval, Act.put, hsz]) 81 cur (S.out.at_ (l1 := [])) (by rw [hz2.out]; exact Tryd.infoSig) (by rw [hz2.out]; exact hf.out) HO.out ?_; intro w7 b7 k7; have S7 := Lib.hid (Held.setBlk (l1 := []) S.out b7 k7); clear b7 k7))
 try simp only [Act.put]
 exact hend _ _ sS (⟨_, by rw [List.size_toArray, List.length_append, List.length_append, List.length_take, List.length_drop, Array.length_toList, Array.length_toList, hz2.out, hcs.out]; have := hf.out; have := hcs.out; omega, S7.out⟩)
theorem ssp_r3 (k : Nat) (hk : k < 9223372036854775807) (hsz : a.tmps.size = 22) (o2 : Sl a 2 (.int .i64 ((k : Nat) : Int)))
 (hend : ∀ a', Same a a' [8, 9, 2] → Sl a' 2 (.int .i64 ((k + 1 : Nat) : Int)) → Q .normal a' (w)) : (Code.region 3 (opsOf 3 Tryd.f26).toArray false).wp Tryd.prog Q a w := by
 refine wp_region_lit ?_
 (conv => arg 4; whnf)
 unfold Sl at o2
 have hw : wrap64 ((k : Int) + 1) = (k : Int) + 1 := by unfold wrap64; omega
 go_wp2_with fail
 try simp only [Act.put]
 exact hend _ sS sP
theorem ssp_r5 (w0 : World) (z : Int) (h : List UInt8) (hh : h.length = 32) (A : Option Addr) (n c g1 : Nat) (hn : n ≤ 2000000) (xs : List Value) (L : List Res) (S : Held w0 w (rowR 81 33 (.slice A n c) n xs :: blkR g1 36 (ntA z h (.slice A n c)) :: L)) (hsz : a.tmps.size = 22) (o1 : Sl a 1 (.pointer (some ⟨g1, 0, none⟩)))
 (hend : ∀ a' W, Same a a' [15, 16, 17, 18, 19, 20, 21] → (Held w0 W L) → Q .normal a' W) : (Code.region 5 (opsOf 5 Tryd.f26).toArray false).wp Tryd.prog Q a w := by
 refine wp_region_lit ?_
 (conv => arg 4; whnf)
 unfold Sl at o1
 have S := Lib.hid S
 have c33 : w.cell? ⟨g1, 33, none⟩ = some (.slice A n c) := by rw [(S.out.at_ (l1 := [_])).cell]; exact ntA_sigs hh
 have HB := Lib.hid Tryd.built_spoilt
 have hz2 : Hid ((sgA spoiltS).size = 33) := Lib.hid (sgA_size rfl)
 have HO : Hid (∀ u, u ∈ (sgA spoiltS ++ sgA spoiltS).toList → u.oneCell' = true) := Lib.hid (by intro u hu; rw [Array.toList_append] at hu; rcases List.mem_append.1 hu with hu | hu <;> exact sgA_one spoiltS u hu)
 have HR := Lib.hid (fun V (hb : Blk V w.heap.size 81 (sgA spoiltS ++ sgA spoiltS)) => rd_two hb hz2.out)
 have HF := Lib.hid Tryd.fill_two
 have C33 := Lib.hid (fun V (b : Blk V g1 36 (ntA z h (.slice A n c))) => show V.cell? ⟨g1, 33, none⟩ = some (.slice A n c) from by rw [b.cell]; exact ntA_sigs hh)
 have hb1 : Hid (n + 2 ≤ maxLen ∧ (n + 2) * 48 ≤ 140737488355328) := Lib.hid (by unfold maxLen; omega)
 generalize ntA z h (.slice A n c) = ca at *
 obtain ⟨cc, hcc⟩ : ∃ cc, sgA spoiltS ++ sgA spoiltS = cc := ⟨_, rfl⟩
 rw [hcc] at HO HR HF
 generalize sgA spoiltS = cs at *
 go_wp2_with (first
  | (refine wpList_buildP rfl 81 _ rfl [(0, .string ⟨#[115, 112, 111, 105, 108, 116]⟩)] (by simp [Act.eval]) _ HB.out ?_)
  | (refine wpList_sigs2 rfl (.tmp 17) (.tmp 18) rfl cs cc HF.out (by simp [Act.eval, Act.put, hsz]) (by simp [Act.eval, Act.put, hsz]) ?_; have S2 := Lib.hid ((S.out.newBlk 81 cc).pull 1 rfl); have HR2 := Lib.hid (HR.out _ (S2.out.at_ (l1 := [_]))))
  | (at_builtin; refine wpList_appH rfl (.tmp 16) (.tmp 19) 34 81 rfl Tryd.infoSigZ Tryd.underlying34 rfl (by decide) (.slice A n c) n xs (by simp [Act.eval, Act.put, hsz]) S2.out (.slice (some ⟨w.heap.size, 0, none⟩) 2 2) 2 cc.toList (by simp [Act.eval, Act.put, hsz]) HR2.out HO.out hb1.out.1 hb1.out.2 ?_; intro v2 w2 S3; obtain ⟨A2, c2, hv2, -, -⟩ := ow_form (show Ow w2 81 33 v2 (n + 2) _ from S3.at_ (l1 := [])); subst hv2; have c34 := C33.out _ (S3.at_ (l1 := [_, _])); have f34 := (show Blk w2 g1 _ _ from S3.at_ (l1 := [_, _])).frozen 33; have S4 := Lib.hid (S3.set (l1 := [_, _]) 33 (.slice A2 (n + 2) c2)); clear S3))
 try simp only [Act.put]
 exact hend _ _ sS (S4.out.some_of (List.Sublist.cons _ (List.Sublist.cons _ (List.Sublist.cons _ (List.Sublist.refl _)))))
end
/- spoil of the law; Join of both. -/
section
open Go.RowKit
theorem results_0 {P : Program} {fn : Func} {w : World} {tmps : Array Value} (h : fn.results = #[]) : (results fn tmps).run P w = .ok (.tuple #[]) w := by
 simp [results, h]
theorem sspoil_any (w0 : World) (L : List Res) (z : Int) (h : List UInt8) (hh : h.length = 32) (v : Value) (n : Nat) (hn : n ≤ 1000000) (xs : List Value) (w : World) (S : Held w0 w (rowR 81 33 v n xs :: L)) :
 Calls Tryd.prog 26 #[.agg (ntA z h v)] w fun e w' => e = .returned (.tuple #[]) ∧ Held w0 w' L := by
 obtain ⟨A, c, rfl, hnc, hcm⟩ := ow_form (S.at_ (l1 := []))
 refine calls_fr Tryd.func26 rfl 22 rfl (fun a0 hsz hdf hAr => ?_)
 have hz0 : a0.tmps.size = 22 := hsz
 have D := hdf
 have o0 := hAr 0 _ rfl
 refine wp_seq (ssp_r0 w0 _ _ S hz0 o0 (fun a1 w1 hs1 h1 => ?_))
 have hz1 := hs1.size.trans hz0; have o0 := hs1.k o0; have D := hs1.defers.trans D
 obtain ⟨g1, o1, S⟩ := h1
 refine wp_seq (wp_seq (ssp_r1 hz1 (fun a2 hs2 o2 => ?_)))
 have hz2 := hs2.size.trans hz1; have o1 := hs2.k o1; have D := hs2.defers.trans D
 have hend : ∀ (a : Act) (W : World) (ys : List Value), a.tmps.size = 22 → a.defers = [] → Sl a 1 (.pointer (some ⟨g1, 0, none⟩)) → Held w0 W (rowR 81 33 (.slice A n c) n ys :: blkR g1 36 (ntA z h (.slice A n c)) :: L) → (tailOf 1 Tryd.f26).wp Tryd.prog (bodyPost Tryd.prog Tryd.f26 fun e w' => e = .returned (.tuple #[]) ∧ Held w0 w' L) a W := by
  intro a W ys hs hd o1 S
  (conv => arg 2; whnf)
  refine ssp_r5 w0 z h hh A n c g1 (by omega) ys L S hs o1 (fun a3 w3 hs3 S => ?_)
  exact ⟨hs3.defers.trans hd, _, results_0 (by rfl), rfl, S⟩
 by_cases h0 : n = 0
 · subst h0
   refine wp_block ?_
   (conv => arg 2; whnf)
   refine wp_loop (fun a' w' => a' = a2 ∧ w' = w1) (fun _ _ => 0) ⟨rfl, rfl⟩ ?_
   rintro a3 w3 ⟨rfl, rfl⟩
   refine wp_seq (wp_seq (ssp_r2 z h hh A 0 c g1 0 (S.at_ (l1 := [])) hz2 o1 o2 (fun a4 hs4 o7 => ?_)))
   have hz4 := hs4.size.trans hz2
   refine wp_cond_false ((o7.eval (by rw [hz4]; decide)).trans rfl) (wp_exit ?_)
   simp only [Exit.then, Exit.inBlock]
   exact hend a4 _ xs hz4 (hs4.defers.trans D) (hs4.k o1) (S.pull 1 rfl)
 · have S := S.pull 1 rfl
   obtain ⟨gr, cr, hgr, -, -⟩ := ow_some (show Ow w1 81 33 (.slice A n c) n xs from S.at_ (l1 := [])) (by omega)
   cases hgr
   obtain ⟨cur, S, hcs, -, -, -⟩ := S.row_blk
   refine wp_block ?_
   (conv => arg 2; whnf)
   refine wp_loop (fun a' w' => ∃ (k : Nat) (cur : Array Value), k ≤ n ∧ cur.size = c * 33 ∧ a'.tmps.size = 22 ∧ a'.defers = [] ∧ Sl a' 1 (.pointer (some ⟨g1, 0, none⟩)) ∧ Sl a' 2 (.int .i64 ((k : Nat) : Int)) ∧ Held w0 w' (blkR gr 81 cur :: blkR g1 36 (ntA z h (.slice (some ⟨gr, 0, none⟩) n c)) :: L)) (fun a' _ => n - (intOf (a'.eval (.tmp 2))).toNat) ⟨0, cur, Nat.zero_le _, hcs, hz2, D, o1, o2, S⟩ ?_
   iterate 9 (try clear o1)
   iterate 9 (try clear o2)
   iterate 9 (try clear S)
   rintro a3 w3 ⟨k, cur, hk, hcs, hz3, D, o1, o2, S⟩
   have e2 := o2.eval (by rw [hz3]; decide)
   refine wp_seq (wp_seq (ssp_r2 z h hh (some ⟨gr, 0, none⟩) n c g1 k (S.at_ (l1 := [_])) hz3 o1 o2 (fun a4 hs4 o7 => ?_)))
   have hz4 := hs4.size.trans hz3; have o1 := hs4.k o1; have o2 := hs4.k o2; have D := hs4.defers.trans D
   by_cases hlt : k < n
   · refine wp_cond_true ((o7.eval (by rw [hz4]; decide)).trans (by rw [decide_eq_true hlt])) (wp_skip ?_)
     simp only [Exit.then]
     refine wp_seq (wp_block ?_)
     refine ssp_r4 w0 z h hh n c g1 gr k hlt hnc cur hcs L S hz4 o1 o2 (fun a5 w5 hs5 h5 => ?_)
     obtain ⟨cur2, hcs2, S⟩ := h5
     have hz5 := hs5.size.trans hz4
     simp only [Exit.inBlock, Exit.then]
     refine ssp_r3 k (by omega) hz5 (hs5.k o2) (fun a6 hs6 o2' => ?_)
     have hz6 := hs6.size.trans hz5
     refine ⟨⟨k + 1, cur2, by omega, hcs2, hz6, hs6.defers.trans (hs5.defers.trans D), hs6.k (hs5.k o1), o2', S⟩, ?_⟩
     show n - (intOf _).toNat < n - (intOf _).toNat
     rw [e2, o2'.eval (by rw [hz6]; decide)]
     simp only [intOf]; omega
   · refine wp_cond_false ((o7.eval (by rw [hz4]; decide)).trans (by rw [decide_eq_false hlt])) (wp_exit ?_)
     simp only [Exit.then, Exit.inBlock]
     exact hend a4 _ _ hz4 D o1 (S.blk_row hcs rfl hnc hcm)
end
/- Join of the reference. -/
section
open Go.RowKit
theorem findK_none {nm : List UInt8} : ∀ {l : List SigD} {k : Nat}, lk nm l = none → findK nm l k = -1
 | [], _, _ => rfl
 | s :: l, k, h => by
  rw [lk_cons] at h
  unfold findK
  cases e : s.1 == nm
  · rw [e, if_neg (by decide)] at h
    rw [if_neg (by decide)]
    exact findK_none h
  · rw [e, if_pos rfl] at h
    cases h
theorem findK_some {nm v : List UInt8} : ∀ {l : List SigD} {k : Nat}, lk nm l = some v → ∃ p, findK nm l k = ((k + p : Nat) : Int) ∧ l[p]? = some (nm, v)
 | [], _, h => by cases h
 | s :: l, k, h => by
  rw [lk_cons] at h
  unfold findK
  cases e : s.1 == nm
  · rw [e, if_neg (by decide)] at h
    rw [if_neg (by decide)]
    obtain ⟨p, h1, h2⟩ := findK_some (k := k + 1) h
    exact ⟨p + 1, by rw [h1]; congr 1; omega, by rw [List.getElem?_cons_succ]; exact h2⟩
  · rw [e, if_pos rfl] at h
    cases h
    rw [if_pos rfl]
    exact ⟨0, rfl, by rw [List.getElem?_cons_zero, ← eq_of_beq e]⟩
end
/- SignJoins: its regions. -/
section
open Go.RowKit
end
/- SignJoins, whole. -/
section
open Go.RowKit
theorem ok_room {l : List SigD} (hok : SgOk l) : SgOk (l ++ [roomS]) := by
 intro s hs
 rcases List.mem_append.1 hs with hs | hs
 · exact hok s hs
 · rw [List.mem_singleton.1 hs]; exact ⟨rfl, by decide⟩
theorem rd_room {w : World} {gr cr : Nat} {l : List SigD} (hok : SgOk l) (ho : Ow w 81 33 (.slice (some ⟨gr, 0, none⟩) (l.length + 1) cr) (l.length + 1) (sgsC (l ++ [roomS]))) : Rd w 33 (.slice (some ⟨gr, 0, none⟩) l.length cr) l.length (sgsC l) := by
 have := rd_hiS (ok_room hok) (Rd.of_own ho) (by rw [List.length_append]; rfl) (show l.length ≤ l.length + 1 by omega)
 rwa [List.take_left' rfl] at this
theorem cap_room {w : World} {gr cr : Nat} {l : List SigD} (ho : Ow w 81 33 (.slice (some ⟨gr, 0, none⟩) (l.length + 1) cr) (l.length + 1) (sgsC (l ++ [roomS]))) : l.length + 1 ≤ cr := by
 obtain ⟨A, c, hv, h1, -⟩ := ow_form ho
 cases hv
 exact h1
end
/- lentKey, leftKey of the law: their regions. -/
section
variable {Q : Exit → Act → World → Prop} {a : Act} {w : World}
open Go.RowKit
theorem slk_r0 (w0 : World) (ca : Array Value) (L : List Res) (S : Held w0 w L) (hsz : a.tmps.size = 14) (o0 : Sl a 0 (.agg ca))
 (hend : ∀ a' W, Same a a' [1, 2] → (∃ g1 g2, Sl a' 1 (.pointer (some ⟨g1, 0, none⟩)) ∧ Sl a' 2 (.pointer (some ⟨g2, 0, none⟩)) ∧ Held w0 W (blkR g2 42 #[.string ⟨#[]⟩, .slice none 0 0] :: blkR g1 42 ca :: L)) → Q .normal a' W) : (Code.region 0 (opsOf 0 Tryd.f19).toArray false).wp Tryd.prog Q a w := by
 refine wp_region_lit ?_
 (conv => arg 4; whnf)
 unfold Sl at o0
 have S1 := Lib.hid ((S.newBlk 42 ca).newBlkN 42 #[.string ⟨#[]⟩, .slice none 0 0] (g := w.heap.size + 1) (by simp))
 go_wp2_with fail
 try simp only [Act.put]
 exact hend _ _ sS (⟨_, _, sP0, sP0, S1.out⟩)
theorem slk_r1 (w0 : World) (nm : ByteArray) (A : Option Addr) (c : Nat) (sec : List UInt8) (hll : sec.length + 1 ≤ 140737488355328) (hva : ∀ V, Kp [] w0 V → Rd V 1 (.slice A sec.length c) sec.length (bv sec)) (g1 : Nat) (L : List Res) (hsz : a.tmps.size = 14) (o1 : Sl a 1 (.pointer (some ⟨g1, 0, none⟩)))
 (S0 : Held w0 w (blkR g1 42 (#[.string nm, .slice A sec.length c]) :: L))
 (hend : ∀ (a' : Act) (vs : Nat → Value) (gs : Nat → Unit) (W : World), Same a a' [3, 4, 5, 6, 7, 8, 9, 10, 11, 12] → Sl a' 11 (vs 8) → (∃ A c, vs 8 = .slice A sec.length c) → Held w0 W (rowR 5 1 (vs 3) 1 (bv [165]) :: rowR 5 1 (grow1 (vs 8)) (sec.length + 1) (bv (sec ++ [165])) :: blkR g1 42 #[.string nm, vs 8] :: L) → Q .normal a' W) : (Code.region 1 (opsOf 1 Tryd.f19).toArray true).wp Tryd.prog Q a w := by
 have hap : apartB (opsOf 1 Tryd.f19) = true := by kernel_rfl
 refine wp_region_sep (Γ := Unit) (l := (opsOf 1 Tryd.f19)) 2 [0, 1, 3, 5, 6, 7, 8, 9, 10, 12]
  (fun i vs gs => match i with | 0 => vs 0 = .pointer (some ⟨g1, 1, none⟩) | 1 => vs 1 = .slice A sec.length c | 5 => vs 5 = .pointer (some ⟨g1, 1, none⟩) | 6 => vs 6 = .slice A sec.length c | 7 => vs 7 = .int .i64 ((sec.length : Nat) : Int) | 8 => ∃ A c, vs 8 = .slice A sec.length c | 9 => vs 9 = .pointer (some ⟨g1, 1, none⟩) | _ => True)
  (fun i vs gs => match i with | 2 => [rowR 5 1 (vs 2) sec.length (bv sec)] | 3 => [rowR 5 1 (vs 3) 1 (bv [165])] | 4 => [rowR 5 1 (vs 4) (sec.length + 1) (bv (sec ++ [165]))] | 8 => [rowR 5 1 (grow1 (vs 8)) (sec.length + 1) (bv (sec ++ [165]))] | 10 => [blkR g1 42 #[.string nm, vs 8]] | 11 => [blkR g1 42 (#[.string nm, .slice A sec.length c])] | 12 => L | _ => [])
  (fun i => match i with | 4 => [2] | 8 => [4] | 10 => [11] | _ => []) (fun i => match i with | 1 => [11] | 4 => [3] | 6 => [11] | _ => []) S0 (by kernel_rfl) hap (by kernel_rfl) (by kernel_rfl) (fun i => match i with | 0 => [0] | 1 => [1] | 2 => [2] | 3 => [3] | 4 => [4] | 5 => [5] | 6 => [6] | 7 => [7] | 8 => [8] | 9 => [9] | 10 => [8] | _ => []) (by kernel_rfl) ?_ (by kernel_rfl) ?_ ?_ ?_
 · intro s vs vs' gs gs' h
   iterate 13 (rcases s with _ | s; · (first | exact ⟨rfl, id⟩ | (simp only [List.mem_cons, List.not_mem_nil, or_false, forall_eq] at h; simp [h])))
   exact ⟨rfl, id⟩
 · simp only [List.range, List.range.loop, List.flatMap_cons, List.flatMap_nil, List.append_nil]
   exact List.Perm.refl _
 · clear S0 hend
   refine ⟨?_, ?_, ?_, ?_, ?_, ?_, ?_, ?_, ?_, ?_, ?_, trivial⟩
   · intro vs gs A' W LF hA S hR hd hu K hK; replace hK := hK default; have e1 := sO 1 o1 hA hap hsz; clear hA o1; go_step; exact hK _ _ S rfl
   · intro vs gs A' W LF hA S hR hd hu K hK; replace hK := hK default; have e3 := sV 3 (hd 0 (by kernel_rfl)) hA hap hsz; clear hA o1
     have c33 : W.cell? ⟨g1, 1, none⟩ = some (.slice A sec.length c) := by rw [(show Blk W g1 42 (#[.string nm, .slice A sec.length c]) from S.ok (blkR g1 42 (#[.string nm, .slice A sec.length c])) (hR 11 (List.mem_singleton.2 rfl) _ (List.mem_singleton.2 rfl))).cell]; rfl
     go_step; exact hK _ _ S rfl
   · intro vs gs A' W LF hA S hR hd hu K hK; replace hK := hK default; have e4 := sV 4 (hd 1 (by kernel_rfl)) hA hap hsz; clear hA o1
     exact op_app_nil (.const (.slice none 0 0)) (.tmp 4) 22 5 rfl Tryd.infoU8 Tryd.underlying22 rfl (by decide) rfl S (.slice A sec.length c) sec.length (bv sec) (by simpa [Act.eval] using e4) (hva _ S.k) (bv_one _) (by unfold maxLen; omega) (by omega) (fun v' w' S' => hK v' w' S' trivial)
   · intro vs gs A' W LF hA S hR hd hu K hK; replace hK := hK default; clear hA o1; go_step
     exact hK _ _ (S.rownew (ow_new W 5 1 1 #[.int .u8 165] rfl (by decide)) ((Kp.refl [] W).alloc _) (fun g hg => Nat.le_of_eq (Option.some.inj hg))) trivial
   · intro vs gs A' W LF hA S hR hd hu K hK; replace hK := hK default
     have e5 := sU 5 2 hA hap hsz
     have e6 := sU 6 3 hA hap hsz
     clear hA o1
     refine op_app (.tmp 5) (.tmp 6) 22 5 rfl Tryd.infoU8 Tryd.underlying22 rfl (by decide) (vs 2) sec.length (bv sec) (by simpa [Act.eval] using e5) S (vs 3) 1 (bv [165]) (by simpa [Act.eval] using e6) (rd_of_row (e := 5) S (List.mem_cons_of_mem _ (hR 3 (List.mem_singleton.2 rfl) _ (List.mem_singleton.2 rfl)))) (bv_one _) (by unfold maxLen; omega) (by omega) (fun v' w' S' => hK v' w' (by rw [← bv_append] at S'; exact S') trivial)
   · intro vs gs A' W LF hA S hR hd hu K hK; replace hK := hK default; have e1 := sO 1 o1 hA hap hsz; clear hA o1; go_step; exact hK _ _ S rfl
   · intro vs gs A' W LF hA S hR hd hu K hK; replace hK := hK default; have e8 := sV 8 (hd 5 (by kernel_rfl)) hA hap hsz; clear hA o1
     have c33 : W.cell? ⟨g1, 1, none⟩ = some (.slice A sec.length c) := by rw [(show Blk W g1 42 (#[.string nm, .slice A sec.length c]) from S.ok (blkR g1 42 (#[.string nm, .slice A sec.length c])) (hR 11 (List.mem_singleton.2 rfl) _ (List.mem_singleton.2 rfl))).cell]; rfl
     go_step; exact hK _ _ S rfl
   · intro vs gs A' W LF hA S hR hd hu K hK; replace hK := hK default; have e9 := sV 9 (hd 6 (by kernel_rfl)) hA hap hsz; clear hA o1; go_step; exact hK _ _ S rfl
   · intro vs gs A' W LF hA S hR hd hu K hK; replace hK := hK default
     have e7 := sU 7 4 hA hap hsz
     have e10 := sV 10 (hd 7 (by kernel_rfl)) hA hap hsz; clear hA o1
     have S1 : Held w0 W (rowR 5 1 (vs 4) (sec.length + 1) (bv (sec ++ [165])) :: LF) := S
     obtain ⟨A7, c7, h7, h7a, h7b⟩ := ow_form (S1.at_ (l1 := []))
     clear S1
     rw [h7] at e7
     have q := fun w => cut_u8c A7 (sec.length + 1) c7 sec.length (sec.length : Int) rfl (by omega) w
     go_step
     refine hK _ _ ?_ ⟨A7, c7, rfl⟩
     have S2 : Held w0 W (rowR 5 1 (vs 4) (sec.length + 1) (bv (sec ++ [165])) :: LF) := S
     rw [h7] at S2
     exact S2
   · intro vs gs A' W LF hA S hR hd hu K hK; replace hK := hK default; have e1 := sO 1 o1 hA hap hsz; clear hA o1; go_step; exact hK _ _ S rfl
   · intro vs gs A' W LF hA S hR hd hu K hK; replace hK := hK default; have e12 := sV 12 (hd 9 (by kernel_rfl)) hA hap hsz; have f8 : ∃ A c, vs 8 = .slice A sec.length c := hd 8 (by kernel_rfl)
     have e11 := sU 11 8 hA hap hsz
     clear hA o1
     obtain ⟨A1, c1, hq⟩ := f8
     rw [hq] at e11
     have S1 : Held w0 W (blkR g1 42 (#[.string nm, .slice A sec.length c]) :: LF) := S
     have S2 := S1.set (l1 := []) 1 (.slice A1 sec.length c1)
     rw [show (#[.string nm, .slice A sec.length c]).setIfInBounds 1 (.slice A1 sec.length c1) = #[.string nm, vs 8] from by rw [hq]; rfl] at S2
     have c33 : W.cell? ⟨g1, 1, none⟩ = some (.slice A sec.length c) := by rw [(S1.at_ (l1 := [])).cell]; rfl
     have f33 := (show Blk W g1 _ _ from S1.at_ (l1 := [])).frozen 1
     go_step
     exact hK undef _ S2 trivial
 · intro vs gs W S hp
   have S : Held w0 W (rowR 5 1 (vs 3) 1 (bv [165]) :: rowR 5 1 (grow1 (vs 8)) (sec.length + 1) (bv (sec ++ [165])) :: blkR g1 42 #[.string nm, vs 8] :: L) := by simpa only [List.flatMap_cons, List.flatMap_nil, List.append_nil, List.nil_append, List.cons_append, List.append_assoc] using S
   rw [putAll_eq]
   exact hend _ vs gs W sQ sX (hp 8 sB) S
theorem slk_r2 (w0 : World) (g1 g2 : Nat) (nm : ByteArray) (A : Option Addr) (n c : Nat) (L : List Res) (S : Held w0 w (blkR g2 42 #[.string ⟨#[]⟩, .slice none 0 0] :: blkR g1 42 #[.string nm, .slice A n c] :: L)) (hsz : a.tmps.size = 14) (o1 : Sl a 1 (.pointer (some ⟨g1, 0, none⟩))) (o2 : Sl a 2 (.pointer (some ⟨g2, 0, none⟩)))
 (hend : ∀ a' W, Same a a' [13] → (Held w0 W (blkR g2 42 #[.string nm, .slice A n c] :: blkR g1 42 #[.string nm, .slice A n c] :: L)) → Q .normal a' W) : (Code.region 2 (opsOf 2 Tryd.f19).toArray false).wp Tryd.prog Q a w := by
 refine wp_region_lit ?_
 (conv => arg 4; whnf)
 unfold Sl at o1 o2
 have S1 := Lib.hid S
 clear S
 have HI := Lib.hid Tryd.infoKeyP
 go_wp2_with (first
  | (refine wpList_load_blk rfl 42 (.tmp 1) rfl g1 (by simp [Act.eval, Act.put, hsz, o1]) 42 _ (S1.out.at_ (l1 := [_])) _ Tryd.underlying42 rfl (by exact HI.out) ?_)
  | (refine wpList_store_blk rfl 42 (.tmp 2) (.tmp 13) rfl g2 (by simp [Act.eval, Act.put, hsz, o2]) #[.string nm, .slice A n c] (by simp [Act.eval, Act.put, hsz]) 42 _ (S1.out.at_ (l1 := [])) (by exact HI.out) rfl (by intro u hu; simp at hu; rcases hu with rfl | rfl <;> rfl) ?_; intro w7 b7 k7; have S7 := Lib.hid (Held.setBlk (l1 := []) S1.out b7 k7); clear b7 k7))
 try simp only [Act.put]
 exact hend _ _ sS (S7.out)
theorem sfk_r0 (w0 : World) (ca cb : Array Value) (L : List Res) (S : Held w0 w L) (hsz : a.tmps.size = 32) (o0 : Sl a 0 (.agg ca)) (o1 : Sl a 1 (.agg cb))
 (hend : ∀ a' W, Same a a' [2, 3, 4] → Sl a' 4 (.bool false) → (∃ g2 g3, Sl a' 2 (.pointer (some ⟨g2, 0, none⟩)) ∧ Sl a' 3 (.pointer (some ⟨g3, 0, none⟩)) ∧ Held w0 W (blkR g3 42 cb :: blkR g2 42 ca :: L)) → Q .normal a' W) : (Code.region 0 (opsOf 0 Tryd.f32).toArray false).wp Tryd.prog Q a w := by
 refine wp_region_lit ?_
 (conv => arg 4; whnf)
 unfold Sl at o0 o1
 have S1 := Lib.hid ((S.newBlk 42 ca).newBlkN 42 cb (g := w.heap.size + 1) (by simp))
 go_wp2_with fail
 try simp only [Act.put]
 exact hend _ _ sS sP (⟨_, _, sP0, sP0, S1.out⟩)
theorem sfk_r1 (nm : ByteArray) (A : Option Addr) (c : Nat) (sec : List UInt8) (hll : sec.length + 1 ≤ 140737488355328) (g2 g3 gr cr : Nat) (hcr : sec.length + 1 ≤ cr) (hb2 : Blk w.drew g2 42 #[.string nm, .slice (some ⟨gr, 0, none⟩) sec.length cr]) (hb3 : Blk w.drew g3 42 #[.string nm, .slice A sec.length c]) (hrm : w.drew.cell? ⟨gr, sec.length, none⟩ = some (.int .u8 165)) (hr2 : Rd w.drew 1 (.slice (some ⟨gr, 0, none⟩) sec.length cr) sec.length (bv sec)) (hv : Rd w.drew 1 (.slice A sec.length c) sec.length (bv sec)) (hsz : a.tmps.size = 32) (o2 : Sl a 2 (.pointer (some ⟨g2, 0, none⟩))) (o3 : Sl a 3 (.pointer (some ⟨g3, 0, none⟩)))
 (hend : ∀ a' W, Same a a' [5, 6, 7, 8, 9, 10, 11, 12, 13, 14, 15, 16, 17, 18, 19, 20, 21, 22, 23, 24, 25, 26, 27, 28, 29, 30, 31, 4] → Kp [] w.drew W → Sl a' 4 (.bool true) → Q .normal a' W) : (Code.region 1 (opsOf 1 Tryd.f32).toArray true).wp Tryd.prog Q a w := by
 have hap : apartB (opsOf 1 Tryd.f32) = true := by kernel_rfl
 refine wp_region_invG (l := (opsOf 1 Tryd.f32)) (fun i v W => match i with | 0 => v = .pointer (some ⟨g2, 0, none⟩) | 1 => v = .string nm | 2 => v = .pointer (some ⟨g3, 0, none⟩) | 3 => v = .string nm | 4 => v = .bool true | 5 => v = .bool true | 6 => v = .pointer (some ⟨g2, 1, none⟩) | 7 => v = .slice (some ⟨gr, 0, none⟩) sec.length cr | 8 => v = .pointer (some ⟨g3, 1, none⟩) | 9 => v = .slice A sec.length c | 10 => v = .bool true | 11 => v = .bool true | 12 => v = .bool true | 13 => v = .pointer (some ⟨g2, 1, none⟩) | 14 => v = .slice (some ⟨gr, 0, none⟩) sec.length cr | 15 => v = .pointer (some ⟨g3, 1, none⟩) | 16 => v = .slice A sec.length c | 17 => v = .int .i64 (sec.length : Int) | 18 => v = .int .i64 ((sec.length : Int) + 1) | 19 => v = .slice (some ⟨gr, 0, none⟩) (sec.length + 1) cr | 20 => v = .pointer (some ⟨g3, 1, none⟩) | 21 => v = .slice A sec.length c | 22 => v = .int .i64 (sec.length : Int) | 23 => v = .pointer (some ⟨gr, sec.length, none⟩) | 24 => v = .int .u8 165 | 25 => v = .bool true | 26 => v = .bool true | 27 => v = .bool true | _ => True) (by kernel_rfl) hap (by kernel_rfl) ?_ ?_ ?_
 · intro i v W W' h _
   iterate 28 (rcases i with _ | i; · exact h)
   exact h
 · refine ⟨?_, ?_, ?_, ?_, ?_, ?_, ?_, ?_, ?_, ?_, ?_, ?_, ?_, ?_, ?_, ?_, ?_, ?_, ?_, ?_, ?_, ?_, ?_, ?_, ?_, ?_, ?_, ?_, trivial⟩
   · intro vs A' W hA hW hd K hK; refine wpOp_free _ rfl rfl ?_; (conv => arg 2; whnf); have e2 := sO 2 o2 hA hap hsz; clear hA hd o2 o3; go_step; exact hK _ _ kR rfl
   · intro vs A' W hA hW hd K hK; refine wpOp_free _ rfl rfl ?_; (conv => arg 2; whnf); have e5 := sV 5 (hd 0 (by kernel_rfl)) hA hap hsz; clear hA hd o2 o3
     have c0 : W.cell? ⟨g2, 0, none⟩ = some (.string nm) := by rw [(hb2.kp hW (by simp)).cell]; rfl
     go_step; exact hK _ _ kR rfl
   · intro vs A' W hA hW hd K hK; refine wpOp_free _ rfl rfl ?_; (conv => arg 2; whnf); have e3 := sO 3 o3 hA hap hsz; clear hA hd o2 o3; go_step; exact hK _ _ kR rfl
   · intro vs A' W hA hW hd K hK; refine wpOp_free _ rfl rfl ?_; (conv => arg 2; whnf); have e7 := sV 7 (hd 2 (by kernel_rfl)) hA hap hsz; clear hA hd o2 o3
     have c0 : W.cell? ⟨g3, 0, none⟩ = some (.string nm) := by rw [(hb3.kp hW (by simp)).cell]; rfl
     go_step; exact hK _ _ kR rfl
   · intro vs A' W hA hW hd K hK; refine wpOp_free _ rfl rfl ?_; (conv => arg 2; whnf); have e6 := sV 6 (hd 1 (by kernel_rfl)) hA hap hsz; have e8 := sV 8 (hd 3 (by kernel_rfl)) hA hap hsz; clear hA hd o2 o3; go_step
     exact hK _ _ kR (by first | rfl | (refine congrArg Value.bool ?_; simp))
   · intro vs A' W hA hW hd K hK; refine wpOp_free _ rfl rfl ?_; (conv => arg 2; whnf); have e9 := sV 9 (hd 4 (by kernel_rfl)) hA hap hsz; clear hA hd o2 o3; go_step; exact hK _ _ kR rfl
   · intro vs A' W hA hW hd K hK; have e10 := sV 10 (hd 5 (by kernel_rfl)) hA hap hsz; refine wpOp_go _ rfl 5 10 true rfl rfl e10 ?_; (conv => arg 2; whnf); have e2 := sO 2 o2 hA hap hsz; clear hA hd o2 o3; go_step; exact hK _ _ kR rfl
   · intro vs A' W hA hW hd K hK; have e10 := sV 10 (hd 5 (by kernel_rfl)) hA hap hsz; refine wpOp_go _ rfl 5 10 true rfl rfl e10 ?_; (conv => arg 2; whnf); have e11 := sV 11 (hd 6 (by kernel_rfl)) hA hap hsz; clear hA hd o2 o3
     have c0 : W.cell? ⟨g2, 1, none⟩ = some (.slice (some ⟨gr, 0, none⟩) sec.length cr) := by rw [(hb2.kp hW (by simp)).cell]; rfl
     go_step; exact hK _ _ kR rfl
   · intro vs A' W hA hW hd K hK; have e10 := sV 10 (hd 5 (by kernel_rfl)) hA hap hsz; refine wpOp_go _ rfl 5 10 true rfl rfl e10 ?_; (conv => arg 2; whnf); have e3 := sO 3 o3 hA hap hsz; clear hA hd o2 o3; go_step; exact hK _ _ kR rfl
   · intro vs A' W hA hW hd K hK; have e10 := sV 10 (hd 5 (by kernel_rfl)) hA hap hsz; refine wpOp_go _ rfl 5 10 true rfl rfl e10 ?_; (conv => arg 2; whnf); have e13 := sV 13 (hd 8 (by kernel_rfl)) hA hap hsz; clear hA hd o2 o3
     have c0 : W.cell? ⟨g3, 1, none⟩ = some (.slice A sec.length c) := by rw [(hb3.kp hW (by simp)).cell]; rfl
     go_step; exact hK _ _ kR rfl
   · intro vs A' W hA hW hd K hK; have e10 := sV 10 (hd 5 (by kernel_rfl)) hA hap hsz; refine wpOp_go _ rfl 5 10 true rfl rfl e10 ?_; (conv => arg 2; whnf); have e12 := sV 12 (hd 7 (by kernel_rfl)) hA hap hsz; have e14 := sV 14 (hd 9 (by kernel_rfl)) hA hap hsz; clear hA hd o2 o3; go_step
     refine (same_any _ _ sec sec sec.length sec.length W (rd_old hr2 hW) (rd_old hv hW)).mono ?_
     rintro e w' ⟨rfl, rfl⟩
     exact hK _ _ kR (show Value.bool (sec == sec) = Value.bool true from by rw [beq_self_eq_true])
   · intro vs A' W hA hW hd K hK; refine wpOp_free _ rfl rfl ?_; (conv => arg 2; whnf); have e10 := sV 10 (hd 5 (by kernel_rfl)) hA hap hsz; have e15 := sV 15 (hd 10 (by kernel_rfl)) hA hap hsz; clear hA hd o2 o3; go_step; exact hK _ _ kR rfl
   · intro vs A' W hA hW hd K hK; refine wpOp_free _ rfl rfl ?_; (conv => arg 2; whnf); have e16 := sV 16 (hd 11 (by kernel_rfl)) hA hap hsz; clear hA hd o2 o3; go_step; exact hK _ _ kR rfl
   · intro vs A' W hA hW hd K hK; have e17 := sV 17 (hd 12 (by kernel_rfl)) hA hap hsz; refine wpOp_go _ rfl 12 17 true rfl rfl e17 ?_; (conv => arg 2; whnf); have e2 := sO 2 o2 hA hap hsz; clear hA hd o2 o3; go_step; exact hK _ _ kR rfl
   · intro vs A' W hA hW hd K hK; have e17 := sV 17 (hd 12 (by kernel_rfl)) hA hap hsz; refine wpOp_go _ rfl 12 17 true rfl rfl e17 ?_; (conv => arg 2; whnf); have e18 := sV 18 (hd 13 (by kernel_rfl)) hA hap hsz; clear hA hd o2 o3
     have c0 : W.cell? ⟨g2, 1, none⟩ = some (.slice (some ⟨gr, 0, none⟩) sec.length cr) := by rw [(hb2.kp hW (by simp)).cell]; rfl
     go_step; exact hK _ _ kR rfl
   · intro vs A' W hA hW hd K hK; have e17 := sV 17 (hd 12 (by kernel_rfl)) hA hap hsz; refine wpOp_go _ rfl 12 17 true rfl rfl e17 ?_; (conv => arg 2; whnf); have e3 := sO 3 o3 hA hap hsz; clear hA hd o2 o3; go_step; exact hK _ _ kR rfl
   · intro vs A' W hA hW hd K hK; have e17 := sV 17 (hd 12 (by kernel_rfl)) hA hap hsz; refine wpOp_go _ rfl 12 17 true rfl rfl e17 ?_; (conv => arg 2; whnf); have e20 := sV 20 (hd 15 (by kernel_rfl)) hA hap hsz; clear hA hd o2 o3
     have c0 : W.cell? ⟨g3, 1, none⟩ = some (.slice A sec.length c) := by rw [(hb3.kp hW (by simp)).cell]; rfl
     go_step; exact hK _ _ kR rfl
   · intro vs A' W hA hW hd K hK; have e17 := sV 17 (hd 12 (by kernel_rfl)) hA hap hsz; refine wpOp_go _ rfl 12 17 true rfl rfl e17 ?_; (conv => arg 2; whnf); have e21 := sV 21 (hd 16 (by kernel_rfl)) hA hap hsz; clear hA hd o2 o3; go_step; exact hK _ _ kR rfl
   · intro vs A' W hA hW hd K hK; have e17 := sV 17 (hd 12 (by kernel_rfl)) hA hap hsz; refine wpOp_go _ rfl 12 17 true rfl rfl e17 ?_; (conv => arg 2; whnf); have e22 := sV 22 (hd 17 (by kernel_rfl)) hA hap hsz; clear hA hd o2 o3
     have hw : wrap64 ((sec.length : Int) + 1) = (sec.length : Int) + 1 := by unfold wrap64; omega
     go_step; exact hK _ _ kR rfl
   · intro vs A' W hA hW hd K hK; have e17 := sV 17 (hd 12 (by kernel_rfl)) hA hap hsz; refine wpOp_go _ rfl 12 17 true rfl rfl e17 ?_; (conv => arg 2; whnf); have e19 := sV 19 (hd 14 (by kernel_rfl)) hA hap hsz; have e23 := sV 23 (hd 18 (by kernel_rfl)) hA hap hsz; clear hA hd o2 o3
     have q := fun w => cut_u8c (some ⟨gr, 0, none⟩) sec.length cr (sec.length + 1) ((sec.length : Int) + 1) (by omega) hcr w
     go_step; exact hK _ _ kR rfl
   · intro vs A' W hA hW hd K hK; have e17 := sV 17 (hd 12 (by kernel_rfl)) hA hap hsz; refine wpOp_go _ rfl 12 17 true rfl rfl e17 ?_; (conv => arg 2; whnf); have e3 := sO 3 o3 hA hap hsz; clear hA hd o2 o3; go_step; exact hK _ _ kR rfl
   · intro vs A' W hA hW hd K hK; have e17 := sV 17 (hd 12 (by kernel_rfl)) hA hap hsz; refine wpOp_go _ rfl 12 17 true rfl rfl e17 ?_; (conv => arg 2; whnf); have e25 := sV 25 (hd 20 (by kernel_rfl)) hA hap hsz; clear hA hd o2 o3
     have c0 : W.cell? ⟨g3, 1, none⟩ = some (.slice A sec.length c) := by rw [(hb3.kp hW (by simp)).cell]; rfl
     go_step; exact hK _ _ kR rfl
   · intro vs A' W hA hW hd K hK; have e17 := sV 17 (hd 12 (by kernel_rfl)) hA hap hsz; refine wpOp_go _ rfl 12 17 true rfl rfl e17 ?_; (conv => arg 2; whnf); have e26 := sV 26 (hd 21 (by kernel_rfl)) hA hap hsz; clear hA hd o2 o3; go_step; exact hK _ _ kR rfl
   · intro vs A' W hA hW hd K hK; have e17 := sV 17 (hd 12 (by kernel_rfl)) hA hap hsz; refine wpOp_go _ rfl 12 17 true rfl rfl e17 ?_; (conv => arg 2; whnf); have e24 := sV 24 (hd 19 (by kernel_rfl)) hA hap hsz; have e27 := sV 27 (hd 22 (by kernel_rfl)) hA hap hsz; clear hA hd o2 o3
     have h0 : 0 ≤ (sec.length : Int) := by omega
     have h1 : (sec.length : Int) < (sec.length : Int) + 1 := by omega
     go_step; exact hK _ _ kR rfl
   · intro vs A' W hA hW hd K hK; have e17 := sV 17 (hd 12 (by kernel_rfl)) hA hap hsz; refine wpOp_go _ rfl 12 17 true rfl rfl e17 ?_; (conv => arg 2; whnf); have e28 := sV 28 (hd 23 (by kernel_rfl)) hA hap hsz; clear hA hd o2 o3
     have c0 := cell_kept hrm hW
     go_step; exact hK _ _ kR rfl
   · intro vs A' W hA hW hd K hK; have e17 := sV 17 (hd 12 (by kernel_rfl)) hA hap hsz; refine wpOp_go _ rfl 12 17 true rfl rfl e17 ?_; (conv => arg 2; whnf); have e29 := sV 29 (hd 24 (by kernel_rfl)) hA hap hsz; clear hA hd o2 o3; go_step; exact hK _ _ kR rfl
   · intro vs A' W hA hW hd K hK; refine wpOp_free _ rfl rfl ?_; (conv => arg 2; whnf); have e17 := sV 17 (hd 12 (by kernel_rfl)) hA hap hsz; have e30 := sV 30 (hd 25 (by kernel_rfl)) hA hap hsz; clear hA hd o2 o3; go_step; exact hK _ _ kR rfl
   · intro vs A' W hA hW hd K hK; refine wpOp_free _ rfl rfl ?_; (conv => arg 2; whnf); have e31 := sV 31 (hd 26 (by kernel_rfl)) hA hap hsz; clear hA hd o2 o3; go_step; exact hK _ _ kR rfl
 · intro vs W hW hp
   rw [putAll_eq]
   exact hend _ W sQ hW (sW (hp 27 sB))
end
/- lentKey, leftKey of the law. -/
section
open Go.RowKit
theorem cut_mark {w : World} {gr cr : Nat} {sec : List UInt8} (h : Rd w 1 (.slice (some ⟨gr, 0, none⟩) (sec.length + 1) cr) (sec.length + 1) (bv (sec ++ [165]))) : Rd w 1 (.slice (some ⟨gr, 0, none⟩) sec.length cr) sec.length (bv sec) ∧ w.cell? ⟨gr, sec.length, none⟩ = some (.int .u8 165) ∧ sec.length + 1 ≤ cr := by
 obtain ⟨-, A', c', he, h1, h2, -, hc⟩ := h
 cases he
 refine ⟨⟨by rw [bv_length, Nat.mul_one], _, _, rfl, by omega, h2, (fun h => by cases h), fun ad had j u hu => hc ad had j u ?_⟩, ?_, h1⟩
 · rw [bv_append, List.getElem?_append_left (List.getElem?_eq_some_iff.1 hu).1]
   exact hu
 · have := hc _ rfl sec.length (.int .u8 165) (by rw [bv_append, List.getElem?_append_right (by rw [bv_length]; omega), bv_length, Nat.sub_self]; rfl)
   rw [Addr.add_lit, Nat.zero_add] at this
   exact this
theorem slentk_any (nm : ByteArray) (A : Option Addr) (c : Nat) (sec : List UInt8) (hll : sec.length + 1 ≤ 140737488355328) (w : World) (hv : Rd w 1 (.slice A sec.length c) sec.length (bv sec)) :
 Calls Tryd.prog 19 #[.agg #[.string nm, .slice A sec.length c]] w fun e w' => ∃ gr cr, e = .returned (.agg #[.string nm, .slice (some ⟨gr, 0, none⟩) sec.length cr]) ∧ Held w w' [rowR 5 1 (.slice (some ⟨gr, 0, none⟩) (sec.length + 1) cr) (sec.length + 1) (bv (sec ++ [165]))] := by
 refine calls_fr Tryd.func19 rfl 14 rfl (fun a0 hsz hdf hAr => ?_)
 have hz0 : a0.tmps.size = 14 := hsz
 have D := hdf
 have o0 := hAr 0 _ rfl
 refine wp_seq (slk_r0 w _ [] (Held.start w) hz0 o0 (fun a1 w1 hs1 h1 => ?_))
 have hz1 := hs1.size.trans hz0; have o0 := hs1.k o0; have D := hs1.defers.trans D
 obtain ⟨g1, g2, o1, o2, S⟩ := h1
 have S := S.pull 1 rfl
 refine wp_seq (slk_r1 w nm A c sec hll (fun V kV => rd_old hv kV) g1 _ hz1 o1 S (fun a2 vs gs w2 hs2 o11 hf S => ?_))
 have hz2 := hs2.size.trans hz1; have o1 := hs2.k o1; have o2 := hs2.k o2; have D := hs2.defers.trans D
 obtain ⟨A1, c1, hq⟩ := hf
 rw [hq] at S
 have S : Held w w2 [rowR 5 1 (.slice A1 (sec.length + 1) c1) (sec.length + 1) (bv (sec ++ [165])), blkR g1 42 #[.string nm, .slice A1 sec.length c1], blkR g2 42 #[.string ⟨#[]⟩, .slice none 0 0]] := S.drop
 obtain ⟨gr, cr, hgr, hcr, -⟩ := ow_some (show Ow w2 5 1 (.slice A1 (sec.length + 1) c1) (sec.length + 1) (bv (sec ++ [165])) from S.at_ (l1 := [])) (by omega)
 cases hgr
 have S := (S.pull 1 rfl).pull 2 rfl
 refine wp_seq (slk_r2 w g1 g2 nm _ _ _ _ S hz2 o1 o2 (fun a3 w3 hs3 S => ?_))
 have hz3 := hs3.size.trans hz2; have o1 := hs3.k o1; have o2 := hs3.k o2; have D := hs3.defers.trans D
 refine wp_ret ?_
 exact (bodyPost_ret (results_cell1 (by rfl) (o2.eval (by rw [hz3]; decide)) (S.at_ (l1 := [])) Tryd.underlying42 rfl (by exact Tryd.infoKeyP)) D ⟨gr, c1, rfl, S.some_of (List.singleton_sublist.2 (by simp))⟩)
theorem sleftk_any (nm : ByteArray) (A : Option Addr) (c : Nat) (sec : List UInt8) (hll : sec.length + 1 ≤ 140737488355328) (gr cr : Nat) (w : World) (hv : Rd w 1 (.slice A sec.length c) sec.length (bv sec)) (ho : Rd w 1 (.slice (some ⟨gr, 0, none⟩) (sec.length + 1) cr) (sec.length + 1) (bv (sec ++ [165]))) :
 Calls Tryd.prog 32 #[.agg #[.string nm, .slice (some ⟨gr, 0, none⟩) sec.length cr], .agg #[.string nm, .slice A sec.length c]] w fun e w' => e = .returned (.bool true) ∧ Kp [] w w' := by
 obtain ⟨hr2, hrm, hcr⟩ := cut_mark ho
 refine calls_fr Tryd.func32 rfl 32 rfl (fun a0 hsz hdf hAr => ?_)
 have hz0 : a0.tmps.size = 32 := hsz
 have D := hdf
 have o0 := hAr 0 _ rfl
 have o1 := hAr 1 _ rfl
 refine wp_seq (sfk_r0 w _ _ [] (Held.start w) hz0 o0 o1 (fun a1 w1 hs1 o4 h1 => ?_))
 have hz1 := hs1.size.trans hz0; have o0 := hs1.k o0; have o1 := hs1.k o1; have D := hs1.defers.trans D
 obtain ⟨g2, g3, o2, o3, S⟩ := h1
 have kd := S.k.drew
 refine wp_seq (sfk_r1 nm A c sec hll g2 g3 gr cr hcr ((S.at_ (l1 := [_])).drew) ((S.at_ (l1 := [])).drew) (cell_kept hrm kd) (rd_old hr2 kd) (rd_old hv kd) hz1 o2 o3 (fun a2 w2 hs2 k2 o4 => ?_))
 have hz2 := hs2.size.trans hz1; have o2 := hs2.k o2; have o3 := hs2.k o3; have D := hs2.defers.trans D
 refine wp_ret ?_
 exact (bodyPost_ret (results_t1 (by rfl) (o4.eval (by rw [hz2]; decide))) D ⟨rfl, kd.trans k2 (by simp)⟩)
end
end Go.Proofs.YtapboamjpilckaaDoor
