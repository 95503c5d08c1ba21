/- Several texts in one: SigAS, SigAT, SigAU, SigAV, SigAP, SigAW, SigAX, SigAY, SigAZ, SigBP, InvU. -/
import Derived.Test.YtapboamjpilckaaDoorP6
set_option linter.unusedVariables false
set_option linter.unusedSimpArgs false
set_option maxRecDepth 100000
set_option maxHeartbeats 8000000
namespace Go.Proofs.YtapboamjpilckaaDoor
/- find, lay, Same of the reference; lent, left of the law: their regions. -/
section
variable {Q : Exit → Act → World → Prop} {a : Act} {w : World}
open Go.RowKit
def roomS : SigD := ([114, 111, 111, 109], List.replicate 32 0)
theorem Tryd.built_room : Tryd.prog.built 81 [(0, .string ⟨#[114, 111, 111, 109]⟩)] = some (sgA roomS) := by kernel_rfl
theorem op_sigs1 {o : Oper} {a : Act} {w : World} {K : Act → World → Prop} {Q : Exit → Act → World → Prop} (x : Operand) (ho : o.op = .buildSlice 34 1 #[(0, x)]) (cs : Array Value) (hcs : cs.size = 33) (hx : a.eval x = .agg cs)
 (h : K (a.put o.dst (.slice (some ⟨w.heap.size, 0, none⟩) 1 1)) (w.alloc (.cells cs 81))) : o.wp Tryd.prog a w K Q := by
 obtain ⟨i0, hi, hz, hsize, -⟩ := info_parts Tryd.infoSigZ
 refine wp_buildSlice 34 81 1 #[(0, x)] ho cs i0 _ Tryd.underlying34 hi hz (by rw [hsize]; decide) (by rw [hsize]; decide) ?_ h
 rw [hsize, show ((#[(0, x)] : Array (Nat × Operand)).map fun (i, x) => (i, a.eval x)).toList = [(0, .agg cs)] from by simp [hx]]
 exact fill_sig hcs
theorem wpList_sigs1 {ops : Array Oper} {rest : List Oper} {o : Oper} {a : Act} {w : World} {Q : Exit → Act → World → Prop} (hg : o.guard = none) (x : Operand) (ho : o.op = .buildSlice 34 1 #[(0, x)]) (cs : Array Value) (hcs : cs.size = 33) (hx : a.eval x = .agg cs)
 (h : wpList Tryd.prog ops Q rest (a.put o.dst (.slice (some ⟨w.heap.size, 0, none⟩) 1 1)) (w.alloc (.cells cs 81))) : wpList Tryd.prog ops Q (o :: rest) a w :=
 wpList_plain hg fun _ hK => op_sigs1 x ho cs hcs hx (hK _ _ h)
theorem sfd_r3 (k : Nat) (hk : k < 9223372036854775807) (hsz : a.tmps.size = 20) (o5 : Sl a 5 (.int .i64 ((k : Nat) : Int)))
 (hend : ∀ a', Same a a' [10, 11, 5] → Sl a' 5 (.int .i64 ((k + 1 : Nat) : Int)) → Q .normal a' (w)) : (Code.region 3 (opsOf 3 Tryd.f51).toArray false).wp Tryd.prog Q a w := by
 refine wp_region_lit ?_
 (conv => arg 4; whnf)
 unfold Sl at o5
 have hw : wrap64 ((k : Int) + 1) = (k : Int) + 1 := by unfold wrap64; omega
 go_wp2_with fail
 try simp only [Act.put]
 exact hend _ sS sP
theorem sly_r2Y (ad : Addr) (k n c : Nat) (hk : k < n) (nx ns : ByteArray) (hc : ∀ V, Kp [] w.drew V → V.cell? (ad.add (k * 33)) = some (.string nx)) (g : Nat) (s : SigD) (hns : strV s.1 = .string ns) (hb : Blk w.drew g 81 (sgA s)) (b : Bool) (hlt : Op.bytesLess nx.toList ns.toList = b) (hsz : a.tmps.size = 36) (o0 : Sl a 0 (.slice (some ad) n c)) (o3 : Sl a 3 (.pointer (some ⟨g, 0, none⟩))) (o5 : Sl a 5 (.int .i64 ((k : Nat) : Int)))
 (hend : ∀ a' W, Same a a' [7, 8, 9, 10, 11, 12, 13, 14, 15, 16, 17, 18, 19, 20] → Kp [] w.drew W → Sl a' 20 (.bool b) → Q .normal a' W) : (Code.region 2 (opsOf 2 Tryd.f52).toArray true).wp Tryd.prog Q a w := by
 have hap : apartB (opsOf 2 Tryd.f52) = true := by kernel_rfl
 refine wp_region_invG (l := (opsOf 2 Tryd.f52)) (fun i v W => match i with | 0 => v = .int .i64 ((k : Nat) : Int) | 1 => v = .slice (some ad) n c | 2 => v = .int .i64 ((n : Nat) : Int) | 3 => v = .bool true | 4 => v = .bool true | 5 => v = .slice (some ad) n c | 6 => v = .int .i64 ((k : Nat) : Int) | 7 => v = .pointer (some (ad.add (k * 33))) | 8 => v = .pointer (some (ad.add (k * 33))) | 9 => v = .string nx | 10 => v = .pointer (some ⟨g, 0, none⟩) | 11 => v = .string ns | 12 => v = .bool b | 13 => v = .bool b | _ => True) (by kernel_rfl) hap (by kernel_rfl) ?_ ?_ ?_
 · intro i v W W' h _
   iterate 14 (rcases i with _ | i; · exact h)
   exact h
 · refine ⟨?_, ?_, ?_, ?_, ?_, ?_, ?_, ?_, ?_, ?_, ?_, ?_, ?_, ?_, trivial⟩
   · intro vs A' W hA hW hd K hK; refine wpOp_free _ rfl rfl ?_; (conv => arg 2; whnf); have e5 := sO 5 o5 hA hap hsz; clear hA hd o0 o3 o5; go_step; exact hK _ _ kR rfl
   · intro vs A' W hA hW hd K hK; refine wpOp_free _ rfl rfl ?_; (conv => arg 2; whnf); have e0 := sO 0 o0 hA hap hsz; clear hA hd o0 o3 o5; go_step; exact hK _ _ kR rfl
   · intro vs A' W hA hW hd K hK; refine wpOp_free _ rfl rfl ?_; (conv => arg 2; whnf); have e8 := sV 8 (hd 1 (by kernel_rfl)) hA hap hsz; clear hA hd o0 o3 o5; go_step; exact hK _ _ kR rfl
   · intro vs A' W hA hW hd K hK; refine wpOp_free _ rfl rfl ?_; (conv => arg 2; whnf); have e7 := sV 7 (hd 0 (by kernel_rfl)) hA hap hsz; have e9 := sV 9 (hd 2 (by kernel_rfl)) hA hap hsz; clear hA hd o0 o3 o5
     have hk2 : (k : Int) < (n : Int) := by omega
     go_step
     exact hK _ _ kR (by first | rfl | (congr 1; exact decide_eq_true (by omega)))
   · intro vs A' W hA hW hd K hK; refine wpOp_free _ rfl rfl ?_; (conv => arg 2; whnf); have e10 := sV 10 (hd 3 (by kernel_rfl)) hA hap hsz; clear hA hd o0 o3 o5; go_step; exact hK _ _ kR rfl
   · intro vs A' W hA hW hd K hK; have e11 := sV 11 (hd 4 (by kernel_rfl)) hA hap hsz; refine wpOp_go _ rfl 4 11 true rfl rfl e11 ?_; (conv => arg 2; whnf); have e0 := sO 0 o0 hA hap hsz; clear hA hd o0 o3 o5; go_step; exact hK _ _ kR rfl
   · intro vs A' W hA hW hd K hK; have e11 := sV 11 (hd 4 (by kernel_rfl)) hA hap hsz; refine wpOp_go _ rfl 4 11 true rfl rfl e11 ?_; (conv => arg 2; whnf); have e5 := sO 5 o5 hA hap hsz; clear hA hd o0 o3 o5; go_step; exact hK _ _ kR rfl
   · intro vs A' W hA hW hd K hK; have e11 := sV 11 (hd 4 (by kernel_rfl)) hA hap hsz; refine wpOp_go _ rfl 4 11 true rfl rfl e11 ?_; (conv => arg 2; whnf); have e12 := sV 12 (hd 5 (by kernel_rfl)) hA hap hsz; have e13 := sV 13 (hd 6 (by kernel_rfl)) hA hap hsz; clear hA hd o0 o3 o5
     have h0 : 0 ≤ (k : Int) := by omega
     have h1 : (k : Int) < (n : Int) := by omega
     go_step; exact hK _ _ kR rfl
   · intro vs A' W hA hW hd K hK; have e11 := sV 11 (hd 4 (by kernel_rfl)) hA hap hsz; refine wpOp_go _ rfl 4 11 true rfl rfl e11 ?_; (conv => arg 2; whnf); have e14 := sV 14 (hd 7 (by kernel_rfl)) hA hap hsz; clear hA hd o0 o3 o5; go_step; exact hK _ _ kR rfl
   · intro vs A' W hA hW hd K hK; have e11 := sV 11 (hd 4 (by kernel_rfl)) hA hap hsz; refine wpOp_go _ rfl 4 11 true rfl rfl e11 ?_; (conv => arg 2; whnf); have e15 := sV 15 (hd 8 (by kernel_rfl)) hA hap hsz; clear hA hd o0 o3 o5
     have c0 := hc _ hW
     go_step; exact hK _ _ kR rfl
   · intro vs A' W hA hW hd K hK; have e11 := sV 11 (hd 4 (by kernel_rfl)) hA hap hsz; refine wpOp_go _ rfl 4 11 true rfl rfl e11 ?_; (conv => arg 2; whnf); have e3 := sO 3 o3 hA hap hsz; clear hA hd o0 o3 o5; go_step; exact hK _ _ kR rfl
   · intro vs A' W hA hW hd K hK; have e11 := sV 11 (hd 4 (by kernel_rfl)) hA hap hsz; refine wpOp_go _ rfl 4 11 true rfl rfl e11 ?_; (conv => arg 2; whnf); have e17 := sV 17 (hd 10 (by kernel_rfl)) hA hap hsz; clear hA hd o0 o3 o5
     have c0 : W.cell? ⟨g, 0, none⟩ = some (.string ns) := by rw [(hb.kp hW (by simp)).cell, ← hns]; rfl
     go_step; exact hK _ _ kR rfl
   · intro vs A' W hA hW hd K hK; have e11 := sV 11 (hd 4 (by kernel_rfl)) hA hap hsz; refine wpOp_go _ rfl 4 11 true rfl rfl e11 ?_; (conv => arg 2; whnf); have e16 := sV 16 (hd 9 (by kernel_rfl)) hA hap hsz; have e18 := sV 18 (hd 11 (by kernel_rfl)) hA hap hsz; clear hA hd o0 o3 o5; go_step
     exact hK _ _ kR (by first | rfl | exact congrArg Value.bool hlt)
   · intro vs A' W hA hW hd K hK; refine wpOp_free _ rfl rfl ?_; (conv => arg 2; whnf); have e11 := sV 11 (hd 4 (by kernel_rfl)) hA hap hsz; have e19 := sV 19 (hd 12 (by kernel_rfl)) hA hap hsz; clear hA hd o0 o3 o5; go_step; exact hK _ _ kR rfl
 · intro vs W hW hp
   rw [putAll_eq]
   exact hend _ W sQ hW (sW (hp 13 sB))
theorem ssa_r0 (w0 : World) (ca cb : Array Value) (L : List Res) (S : Held w0 w L) (hsz : a.tmps.size = 38) (o0 : Sl a 0 (.agg ca)) (o1 : Sl a 1 (.agg cb))
 (hend : ∀ a' W, Same a a' [2, 3, 4] → Sl a' 4 (.bool false) → (∃ g2 g3, Sl a' 2 (.pointer (some ⟨g2, 0, none⟩)) ∧ Sl a' 3 (.pointer (some ⟨g3, 0, none⟩)) ∧ Held w0 W (blkR g3 36 cb :: blkR g2 36 ca :: L)) → Q .normal a' W) : (Code.region 0 (opsOf 0 Tryd.f23).toArray false).wp Tryd.prog Q a w := by
 refine wp_region_lit ?_
 (conv => arg 4; whnf)
 unfold Sl at o0 o1
 have S1 := Lib.hid ((S.newBlk 36 ca).newBlkN 36 cb (g := w.heap.size + 1) (by simp))
 go_wp2_with fail
 try simp only [Act.put]
 exact hend _ _ sS sP (⟨_, _, sP0, sP0, S1.out⟩)
theorem ssa_r1Y (z y : Int) (h g : List UInt8) (hh : h.length = 32) (hg : g.length = 32) (A B : Option Addr) (n c m e : Nat) (g2 g3 : Nat) (hb2 : Blk w g2 36 (ntA z h (.slice A n c))) (hb3 : Blk w g3 36 (ntA y g (.slice B m e))) (hpq : (decide (z = y) && (h == g)) = true) (hsz : a.tmps.size = 38) (o2 : Sl a 2 (.pointer (some ⟨g2, 0, none⟩))) (o3 : Sl a 3 (.pointer (some ⟨g3, 0, none⟩)))
 (hend : ∀ a' W, Same a a' [6, 7, 8, 9, 10, 11, 12, 13, 14, 15, 16, 17, 18, 19] → Kp [] w W → Sl a' 19 (.bool (!decide (n = m))) → Q .normal a' W) : (Code.region 1 (opsOf 1 Tryd.f23).toArray false).wp Tryd.prog Q a w := by
 have hap : apartB (opsOf 1 Tryd.f23) = true := by kernel_rfl
 refine wp_region_invS (l := (opsOf 1 Tryd.f23)) (fun i v W => match i with | 0 => v = .pointer (some ⟨g2, 0, none⟩) | 1 => v = .agg (ptA z h) | 2 => v = .pointer (some ⟨g3, 0, none⟩) | 3 => v = .agg (ptA y g) | 4 => v = .bool false | 5 => v = .bool false | 6 => v = .pointer (some ⟨g2, 33, none⟩) | 7 => v = .slice A n c | 8 => v = .int .i64 ((n : Nat) : Int) | 9 => v = .pointer (some ⟨g3, 33, none⟩) | 10 => v = .slice B m e | 11 => v = .int .i64 ((m : Nat) : Int) | 12 => v = .bool (!decide (n = m)) | 13 => v = .bool (!decide (n = m)) | _ => True) hap ?_ ?_ ?_
 · intro i v W W' h _
   iterate 14 (rcases i with _ | i; · exact h)
   exact h
 · refine ⟨?_, ?_, ?_, ?_, ?_, ?_, ?_, ?_, ?_, ?_, ?_, ?_, ?_, ?_, trivial⟩
   · intro vs A' W hA hW hd hu K hK; refine wpOp_free _ rfl rfl ?_; (conv => arg 2; whnf); have e2 := sO 2 o2 hA hap hsz; clear hA hd hu o2 o3; go_step; exact hK _ _ kR rfl
   · intro vs A' W hA hW hd hu K hK; refine wpOp_free _ rfl rfl ?_; (conv => arg 2; whnf); have e6 := sV 6 (hd 0 (by kernel_rfl)) hA hap hsz; clear hA hd hu o2 o3
     refine op_runs (v := .agg (ptA z h)) (w' := W) (exec_load rfl (by simpa [Act.eval] using e6) (run_loadAt_agg W (⟨g2, 0, none⟩) 33 (ptA z h).toList _ (nt_pointAt (hb2.kp hW (by simp))) Tryd.underlying33 rfl (by rw [Array.length_toList, ptA_size hh]; exact Tryd.infoPointP))) ?_
     exact hK _ _ kR rfl
   · intro vs A' W hA hW hd hu K hK; refine wpOp_free _ rfl rfl ?_; (conv => arg 2; whnf); have e3 := sO 3 o3 hA hap hsz; clear hA hd hu o2 o3; go_step; exact hK _ _ kR rfl
   · intro vs A' W hA hW hd hu K hK; refine wpOp_free _ rfl rfl ?_; (conv => arg 2; whnf); have e8 := sV 8 (hd 2 (by kernel_rfl)) hA hap hsz; clear hA hd hu o2 o3
     refine op_runs (v := .agg (ptA y g)) (w' := W) (exec_load rfl (by simpa [Act.eval] using e8) (run_loadAt_agg W (⟨g3, 0, none⟩) 33 (ptA y g).toList _ (nt_pointAt (hb3.kp hW (by simp))) Tryd.underlying33 rfl (by rw [Array.length_toList, ptA_size hg]; exact Tryd.infoPointP))) ?_
     exact hK _ _ kR rfl
   · intro vs A' W hA hW hd hu K hK; refine wpOp_free _ rfl rfl ?_; (conv => arg 2; whnf); have e7 := sV 7 (hd 1 (by kernel_rfl)) hA hap hsz; have e9 := sV 9 (hd 3 (by kernel_rfl)) hA hap hsz; clear hA hd hu o2 o3
     refine op_runs (v := .bool false) (w' := W) (exec_bin_agg rfl (by simpa [Act.eval] using e7) (by simpa [Act.eval] using e9) Tryd.eqGuardType33 ((neq_pt W z y h g hh hg).trans (by rw [hpq]; rfl))) ?_
     exact hK _ _ kR rfl
   · intro vs A' W hA hW hd hu K hK; refine wpOp_free _ rfl rfl ?_; (conv => arg 2; whnf); have e10 := sV 10 (hd 4 (by kernel_rfl)) hA hap hsz; clear hA hd hu o2 o3; go_step; exact hK _ _ kR rfl
   · intro vs A' W hA hW hd hu K hK; have e11 := sV 11 (hd 5 (by kernel_rfl)) hA hap hsz; refine wpOp_go _ rfl 5 11 false rfl rfl e11 ?_; (conv => arg 2; whnf); have e2 := sO 2 o2 hA hap hsz; clear hA hd hu o2 o3; go_step; exact hK _ _ kR rfl
   · intro vs A' W hA hW hd hu K hK; have e11 := sV 11 (hd 5 (by kernel_rfl)) hA hap hsz; refine wpOp_go _ rfl 5 11 false rfl rfl e11 ?_; (conv => arg 2; whnf); have e12 := sV 12 (hd 6 (by kernel_rfl)) hA hap hsz; clear hA hd hu o2 o3
     have c0 : W.cell? ⟨g2, 33, none⟩ = some (.slice A n c) := by rw [(hb2.kp hW (by simp)).cell]; exact ntA_sigs hh
     go_step; exact hK _ _ kR rfl
   · intro vs A' W hA hW hd hu K hK; have e11 := sV 11 (hd 5 (by kernel_rfl)) hA hap hsz; refine wpOp_go _ rfl 5 11 false rfl rfl e11 ?_; (conv => arg 2; whnf); have e13 := sV 13 (hd 7 (by kernel_rfl)) hA hap hsz; clear hA hd hu o2 o3; go_step; exact hK _ _ kR rfl
   · intro vs A' W hA hW hd hu K hK; have e11 := sV 11 (hd 5 (by kernel_rfl)) hA hap hsz; refine wpOp_go _ rfl 5 11 false rfl rfl e11 ?_; (conv => arg 2; whnf); have e3 := sO 3 o3 hA hap hsz; clear hA hd hu o2 o3; go_step; exact hK _ _ kR rfl
   · intro vs A' W hA hW hd hu K hK; have e11 := sV 11 (hd 5 (by kernel_rfl)) hA hap hsz; refine wpOp_go _ rfl 5 11 false rfl rfl e11 ?_; (conv => arg 2; whnf); have e15 := sV 15 (hd 9 (by kernel_rfl)) hA hap hsz; clear hA hd hu o2 o3
     have c0 : W.cell? ⟨g3, 33, none⟩ = some (.slice B m e) := by rw [(hb3.kp hW (by simp)).cell]; exact ntA_sigs hg
     go_step; exact hK _ _ kR rfl
   · intro vs A' W hA hW hd hu K hK; have e11 := sV 11 (hd 5 (by kernel_rfl)) hA hap hsz; refine wpOp_go _ rfl 5 11 false rfl rfl e11 ?_; (conv => arg 2; whnf); have e16 := sV 16 (hd 10 (by kernel_rfl)) hA hap hsz; clear hA hd hu o2 o3; go_step; exact hK _ _ kR rfl
   · intro vs A' W hA hW hd hu K hK; have e11 := sV 11 (hd 5 (by kernel_rfl)) hA hap hsz; refine wpOp_go _ rfl 5 11 false rfl rfl e11 ?_; (conv => arg 2; whnf); have e14 := sV 14 (hd 8 (by kernel_rfl)) hA hap hsz; have e17 := sV 17 (hd 11 (by kernel_rfl)) hA hap hsz; clear hA hd hu o2 o3
     have hd : ((n : Int) == (m : Int)) = decide (n = m) := by by_cases e : n = m <;> simp [e] <;> omega
     go_step
     exact hK _ _ kR (by first | rfl | (congr 1; simp [bne, hd]))
   · intro vs A' W hA hW hd hu K hK; refine wpOp_free _ rfl rfl ?_; (conv => arg 2; whnf); have e11 := sV 11 (hd 5 (by kernel_rfl)) hA hap hsz; have e18 := sV 18 (hd 12 (by kernel_rfl)) hA hap hsz; clear hA hd hu o2 o3; go_step; exact hK _ _ kR rfl
 · intro vs W hW hp
   rw [putAll_eq]
   exact hend _ W sQ hW (sW (hp 13 sB))
theorem ssa_r1N (z y : Int) (h g : List UInt8) (hh : h.length = 32) (hg : g.length = 32) (A B : Option Addr) (n c m e : Nat) (g2 g3 : Nat) (hb2 : Blk w g2 36 (ntA z h (.slice A n c))) (hb3 : Blk w g3 36 (ntA y g (.slice B m e))) (hpq : (decide (z = y) && (h == g)) = false) (hsz : a.tmps.size = 38) (o2 : Sl a 2 (.pointer (some ⟨g2, 0, none⟩))) (o3 : Sl a 3 (.pointer (some ⟨g3, 0, none⟩)))
 (hend : ∀ a' W, Same a a' [6, 7, 8, 9, 10, 11, 12, 13, 14, 15, 16, 17, 18, 19] → Kp [] w W → Sl a' 19 (.bool true) → Q .normal a' W) : (Code.region 1 (opsOf 1 Tryd.f23).toArray false).wp Tryd.prog Q a w := by
 have hap : apartB (opsOf 1 Tryd.f23) = true := by kernel_rfl
 refine wp_region_invS (l := (opsOf 1 Tryd.f23)) (fun i v W => match i with | 0 => v = .pointer (some ⟨g2, 0, none⟩) | 1 => v = .agg (ptA z h) | 2 => v = .pointer (some ⟨g3, 0, none⟩) | 3 => v = .agg (ptA y g) | 4 => v = .bool true | 5 => v = .bool true | 13 => v = .bool true | _ => True) hap ?_ ?_ ?_
 · intro i v W W' h _
   iterate 14 (rcases i with _ | i; · exact h)
   exact h
 · refine ⟨?_, ?_, ?_, ?_, ?_, ?_, ?_, ?_, ?_, ?_, ?_, ?_, ?_, ?_, trivial⟩
   · intro vs A' W hA hW hd hu K hK; refine wpOp_free _ rfl rfl ?_; (conv => arg 2; whnf); have e2 := sO 2 o2 hA hap hsz; clear hA hd hu o2 o3; go_step; exact hK _ _ kR rfl
   · intro vs A' W hA hW hd hu K hK; refine wpOp_free _ rfl rfl ?_; (conv => arg 2; whnf); have e6 := sV 6 (hd 0 (by kernel_rfl)) hA hap hsz; clear hA hd hu o2 o3
     refine op_runs (v := .agg (ptA z h)) (w' := W) (exec_load rfl (by simpa [Act.eval] using e6) (run_loadAt_agg W (⟨g2, 0, none⟩) 33 (ptA z h).toList _ (nt_pointAt (hb2.kp hW (by simp))) Tryd.underlying33 rfl (by rw [Array.length_toList, ptA_size hh]; exact Tryd.infoPointP))) ?_
     exact hK _ _ kR rfl
   · intro vs A' W hA hW hd hu K hK; refine wpOp_free _ rfl rfl ?_; (conv => arg 2; whnf); have e3 := sO 3 o3 hA hap hsz; clear hA hd hu o2 o3; go_step; exact hK _ _ kR rfl
   · intro vs A' W hA hW hd hu K hK; refine wpOp_free _ rfl rfl ?_; (conv => arg 2; whnf); have e8 := sV 8 (hd 2 (by kernel_rfl)) hA hap hsz; clear hA hd hu o2 o3
     refine op_runs (v := .agg (ptA y g)) (w' := W) (exec_load rfl (by simpa [Act.eval] using e8) (run_loadAt_agg W (⟨g3, 0, none⟩) 33 (ptA y g).toList _ (nt_pointAt (hb3.kp hW (by simp))) Tryd.underlying33 rfl (by rw [Array.length_toList, ptA_size hg]; exact Tryd.infoPointP))) ?_
     exact hK _ _ kR rfl
   · intro vs A' W hA hW hd hu K hK; refine wpOp_free _ rfl rfl ?_; (conv => arg 2; whnf); have e7 := sV 7 (hd 1 (by kernel_rfl)) hA hap hsz; have e9 := sV 9 (hd 3 (by kernel_rfl)) hA hap hsz; clear hA hd hu o2 o3
     refine op_runs (v := .bool true) (w' := W) (exec_bin_agg rfl (by simpa [Act.eval] using e7) (by simpa [Act.eval] using e9) Tryd.eqGuardType33 ((neq_pt W z y h g hh hg).trans (by rw [hpq]; rfl))) ?_
     exact hK _ _ kR rfl
   · intro vs A' W hA hW hd hu K hK; refine wpOp_free _ rfl rfl ?_; (conv => arg 2; whnf); have e10 := sV 10 (hd 4 (by kernel_rfl)) hA hap hsz; clear hA hd hu o2 o3; go_step; exact hK _ _ kR rfl
   · intro vs A' W hA hW hd hu K hK; have e11 := sV 11 (hd 5 (by kernel_rfl)) hA hap hsz; refine wpOp_skip _ rfl 5 11 false rfl rfl e11 ?_; exact hK _ _ kR trivial
   · intro vs A' W hA hW hd hu K hK; have e11 := sV 11 (hd 5 (by kernel_rfl)) hA hap hsz; refine wpOp_skip _ rfl 5 11 false rfl rfl e11 ?_; exact hK _ _ kR trivial
   · intro vs A' W hA hW hd hu K hK; have e11 := sV 11 (hd 5 (by kernel_rfl)) hA hap hsz; refine wpOp_skip _ rfl 5 11 false rfl rfl e11 ?_; exact hK _ _ kR trivial
   · intro vs A' W hA hW hd hu K hK; have e11 := sV 11 (hd 5 (by kernel_rfl)) hA hap hsz; refine wpOp_skip _ rfl 5 11 false rfl rfl e11 ?_; exact hK _ _ kR trivial
   · intro vs A' W hA hW hd hu K hK; have e11 := sV 11 (hd 5 (by kernel_rfl)) hA hap hsz; refine wpOp_skip _ rfl 5 11 false rfl rfl e11 ?_; exact hK _ _ kR trivial
   · intro vs A' W hA hW hd hu K hK; have e11 := sV 11 (hd 5 (by kernel_rfl)) hA hap hsz; refine wpOp_skip _ rfl 5 11 false rfl rfl e11 ?_; exact hK _ _ kR trivial
   · intro vs A' W hA hW hd hu K hK; have e11 := sV 11 (hd 5 (by kernel_rfl)) hA hap hsz; refine wpOp_skip _ rfl 5 11 false rfl rfl e11 ?_; exact hK _ _ kR trivial
   · intro vs A' W hA hW hd hu K hK; refine wpOp_free _ rfl rfl ?_; (conv => arg 2; whnf); have e11 := sV 11 (hd 5 (by kernel_rfl)) hA hap hsz
     have e18 := sU 18 12 hA hap hsz
     clear hA hd hu o2 o3; go_step; exact hK _ _ kR rfl
 · intro vs W hW hp
   rw [putAll_eq]
   exact hend _ W sQ hW (sW (hp 13 sB))
theorem ssa_r2  (hsz : a.tmps.size = 38) 
 (hend : ∀ a', Same a a' [4] → Sl a' 4 (.bool false) → Q .normal a' (w)) : (Code.region 2 (opsOf 2 Tryd.f23).toArray false).wp Tryd.prog Q a w := by
 refine wp_region_lit ?_
 (conv => arg 4; whnf)
 go_wp2_with fail
 try simp only [Act.put]
 exact hend _ sS sP
theorem ssa_r7  (hsz : a.tmps.size = 38) 
 (hend : ∀ a', Same a a' [4] → Sl a' 4 (.bool false) → Q .normal a' (w)) : (Code.region 7 (opsOf 7 Tryd.f23).toArray false).wp Tryd.prog Q a w := by
 refine wp_region_lit ?_
 (conv => arg 4; whnf)
 go_wp2_with fail
 try simp only [Act.put]
 exact hend _ sS sP
theorem ssa_r8  (hsz : a.tmps.size = 38) 
 (hend : ∀ a', Same a a' [4] → Sl a' 4 (.bool true) → Q .normal a' (w)) : (Code.region 8 (opsOf 8 Tryd.f23).toArray false).wp Tryd.prog Q a w := by
 refine wp_region_lit ?_
 (conv => arg 4; whnf)
 go_wp2_with fail
 try simp only [Act.put]
 exact hend _ sS sP
theorem ssa_r3  (hsz : a.tmps.size = 38) 
 (hend : ∀ a', Same a a' [5] → Sl a' 5 (.int .i64 ((0 : Nat) : Int)) → Q .normal a' (w)) : (Code.region 3 (opsOf 3 Tryd.f23).toArray false).wp Tryd.prog Q a w := by
 refine wp_region_lit ?_
 (conv => arg 4; whnf)
 go_wp2_with fail
 try simp only [Act.put]
 exact hend _ sS sP
theorem ssa_r4 (z : Int) (h : List UInt8) (hh : h.length = 32) (A : Option Addr) (n c g2 k : Nat) (hb2 : Blk w g2 36 (ntA z h (.slice A n c))) (hsz : a.tmps.size = 38) (o2 : Sl a 2 (.pointer (some ⟨g2, 0, none⟩))) (o5 : Sl a 5 (.int .i64 ((k : Nat) : Int)))
 (hend : ∀ a', Same a a' [20, 21, 22, 23, 24] → Sl a' 24 (.bool (decide (k < n))) → Q .normal a' (w)) : (Code.region 4 (opsOf 4 Tryd.f23).toArray false).wp Tryd.prog Q a w := by
 refine wp_region_lit ?_
 (conv => arg 4; whnf)
 unfold Sl at o2 o5
 have c33 : w.cell? ⟨g2, 33, none⟩ = some (.slice A n c) := by rw [hb2.cell]; exact ntA_sigs hh
 go_wp2_with fail
 try simp only [Act.put]
 exact hend _ sS sP
theorem ssa_r6 (z y : Int) (h g : List UInt8) (hh : h.length = 32) (hg : g.length = 32) (a2 a3 : Addr) (n c m e k : Nat) (hk : k < n) (hkm : k < m) (g2 g3 : Nat) (hb2 : Blk w.drew g2 36 (ntA z h (.slice (some a2) n c))) (hb3 : Blk w.drew g3 36 (ntA y g (.slice (some a3) m e))) (s t : SigD) (hs : s.2.length = 32) (ht : t.2.length = 32) (hc2 : ∀ V, Kp [] w.drew V → ∀ j u, (sgA s).toList[j]? = some u → V.cell? ((a2.add (k * 33)).add j) = some u) (hc3 : ∀ V, Kp [] w.drew V → ∀ j u, (sgA t).toList[j]? = some u → V.cell? ((a3.add (k * 33)).add j) = some u) (hsz : a.tmps.size = 38) (o2 : Sl a 2 (.pointer (some ⟨g2, 0, none⟩))) (o3 : Sl a 3 (.pointer (some ⟨g3, 0, none⟩))) (o5 : Sl a 5 (.int .i64 ((k : Nat) : Int)))
 (hend : ∀ a' W, Same a a' [27, 28, 29, 30, 31, 32, 33, 34, 35, 36, 37] → Kp [] w.drew W → Sl a' 37 (.bool (!((s.1 == t.1) && (s.2 == t.2)))) → Q .normal a' W) : (Code.region 6 (opsOf 6 Tryd.f23).toArray true).wp Tryd.prog Q a w := by
 have hap : apartB (opsOf 6 Tryd.f23) = true := by kernel_rfl
 refine wp_region_inv (l := (opsOf 6 Tryd.f23)) (fun i v W => match i with | 0 => v = .pointer (some ⟨g2, 33, none⟩) | 1 => v = .slice (some a2) n c | 2 => v = .int .i64 ((k : Nat) : Int) | 3 => v = .pointer (some (a2.add (k * 33))) | 4 => v = .agg (sgA s) | 5 => v = .pointer (some ⟨g3, 33, none⟩) | 6 => v = .slice (some a3) m e | 7 => v = .int .i64 ((k : Nat) : Int) | 8 => v = .pointer (some (a3.add (k * 33))) | 9 => v = .agg (sgA t) | 10 => v = .bool (!((s.1 == t.1) && (s.2 == t.2))) | _ => True) (by kernel_rfl) hap (by kernel_rfl) ?_ ?_ ?_
 · intro i v W W' h _
   iterate 11 (rcases i with _ | i; · exact h)
   exact h
 · refine ⟨?_, ?_, ?_, ?_, ?_, ?_, ?_, ?_, ?_, ?_, ?_, trivial⟩
   · intro vs A' W hA hW hd K hK; have e2 := sO 2 o2 hA hap hsz; clear hA hd o2 o3 o5; go_step; exact hK _ _ kR rfl
   · intro vs A' W hA hW hd K hK; have e27 := sV 27 (hd 0 (by kernel_rfl)) hA hap hsz; clear hA hd o2 o3 o5
     have c0 : W.cell? ⟨g2, 33, none⟩ = some (.slice (some a2) n c) := by rw [(hb2.kp hW (by simp)).cell]; exact ntA_sigs hh
     go_step; exact hK _ _ kR rfl
   · intro vs A' W hA hW hd K hK; have e5 := sO 5 o5 hA hap hsz; clear hA hd o2 o3 o5; go_step; exact hK _ _ kR rfl
   · intro vs A' W hA hW hd K hK; have e28 := sV 28 (hd 1 (by kernel_rfl)) hA hap hsz; have e29 := sV 29 (hd 2 (by kernel_rfl)) hA hap hsz; clear hA hd o2 o3 o5
     have h0 : 0 ≤ (k : Int) := by omega
     have h1 : (k : Int) < (n : Int) := by omega
     go_step; exact hK _ _ kR rfl
   · intro vs A' W hA hW hd K hK; have e30 := sV 30 (hd 3 (by kernel_rfl)) hA hap hsz; clear hA hd o2 o3 o5
     refine op_runs (v := .agg (sgA s)) (w' := W) (exec_load rfl (by simpa [Act.eval] using e30) (run_loadAt_agg W (a2.add (k * 33)) 81 (sgA s).toList _ (hc2 _ hW) Tryd.underlying81 rfl (by rw [Array.length_toList, sgA_size hs]; exact Tryd.infoSig))) ?_
     exact hK _ _ kR rfl
   · intro vs A' W hA hW hd K hK; have e3 := sO 3 o3 hA hap hsz; clear hA hd o2 o3 o5; go_step; exact hK _ _ kR rfl
   · intro vs A' W hA hW hd K hK; have e32 := sV 32 (hd 5 (by kernel_rfl)) hA hap hsz; clear hA hd o2 o3 o5
     have c0 : W.cell? ⟨g3, 33, none⟩ = some (.slice (some a3) m e) := by rw [(hb3.kp hW (by simp)).cell]; exact ntA_sigs hg
     go_step; exact hK _ _ kR rfl
   · intro vs A' W hA hW hd K hK; have e5 := sO 5 o5 hA hap hsz; clear hA hd o2 o3 o5; go_step; exact hK _ _ kR rfl
   · intro vs A' W hA hW hd K hK; have e33 := sV 33 (hd 6 (by kernel_rfl)) hA hap hsz; have e34 := sV 34 (hd 7 (by kernel_rfl)) hA hap hsz; clear hA hd o2 o3 o5
     have h0 : 0 ≤ (k : Int) := by omega
     have h1 : (k : Int) < (m : Int) := by omega
     go_step; exact hK _ _ kR rfl
   · intro vs A' W hA hW hd K hK; have e35 := sV 35 (hd 8 (by kernel_rfl)) hA hap hsz; clear hA hd o2 o3 o5
     refine op_runs (v := .agg (sgA t)) (w' := W) (exec_load rfl (by simpa [Act.eval] using e35) (run_loadAt_agg W (a3.add (k * 33)) 81 (sgA t).toList _ (hc3 _ hW) Tryd.underlying81 rfl (by rw [Array.length_toList, sgA_size ht]; exact Tryd.infoSig))) ?_
     exact hK _ _ kR rfl
   · intro vs A' W hA hW hd K hK; have e31 := sV 31 (hd 4 (by kernel_rfl)) hA hap hsz; have e36 := sV 36 (hd 9 (by kernel_rfl)) hA hap hsz; clear hA hd o2 o3 o5
     refine op_runs (v := .bool (!((s.1 == t.1) && (s.2 == t.2)))) (w' := W) (exec_bin_agg rfl (by simpa [Act.eval] using e31) (by simpa [Act.eval] using e36) Tryd.eqGuardType81 (neq_sg W s t hs ht)) ?_
     exact hK _ _ kR rfl
 · intro vs W hW hp
   rw [putAll_eq]
   exact hend _ W sQ hW (sW (hp 10 sB))
theorem ssa_r5 (k : Nat) (hk : k < 9223372036854775807) (hsz : a.tmps.size = 38) (o5 : Sl a 5 (.int .i64 ((k : Nat) : Int)))
 (hend : ∀ a', Same a a' [25, 26, 5] → Sl a' 5 (.int .i64 ((k + 1 : Nat) : Int)) → Q .normal a' (w)) : (Code.region 5 (opsOf 5 Tryd.f23).toArray false).wp Tryd.prog Q a w := by
 refine wp_region_lit ?_
 (conv => arg 4; whnf)
 unfold Sl at o5
 have hw : wrap64 ((k : Int) + 1) = (k : Int) + 1 := by unfold wrap64; omega
 go_wp2_with fail
 try simp only [Act.put]
 exact hend _ sS sP
theorem slt_r0 (w0 : World) (ca : Array Value) (L : List Res) (S : Held w0 w L) (hsz : a.tmps.size = 15) (o0 : Sl a 0 (.agg ca))
 (hend : ∀ a' W, Same a a' [1, 2] → (∃ g1 g2, Sl a' 1 (.pointer (some ⟨g1, 0, none⟩)) ∧ Sl a' 2 (.pointer (some ⟨g2, 0, none⟩)) ∧ Held w0 W (blkR g2 36 zeroN :: blkR g1 36 ca :: L)) → Q .normal a' W) : (Code.region 0 (opsOf 0 Tryd.f18).toArray false).wp Tryd.prog Q a w := by
 refine wp_region_lit ?_
 (conv => arg 4; whnf)
 unfold Sl at o0
 have S1 := Lib.hid ((S.newBlk 36 ca).newBlkN 36 zeroN (g := w.heap.size + 1) (by simp))
 go_wp2_with fail
 try simp only [Act.put]
 exact hend _ _ sS (⟨_, _, sP0, sP0, S1.out⟩)
theorem slt_r1 (w0 : World) (z : Int) (h : List UInt8) (hh : h.length = 32) (A : Option Addr) (c : Nat) (l : List SigD) (hok : SgOk l) (hll : (l.length + 1) * 48 ≤ 140737488355328) (hv : ∀ V, Kp [] w0 V → Rd V 33 (.slice A l.length c) l.length (sgsC l)) (g1 : Nat) (L : List Res) (hsz : a.tmps.size = 15) (o1 : Sl a 1 (.pointer (some ⟨g1, 0, none⟩)))
 (S0 : Held w0 w (blkR g1 36 (ntA z h (.slice A l.length c)) :: L))
 (hend : ∀ (a' : Act) (vs : Nat → Value) (gs : Nat → Nat) (W : World), Same a a' [3, 4, 5, 6, 7, 8, 9, 10, 11, 12, 13] → Sl a' 12 (vs 9) → (∃ A c, vs 9 = .slice A l.length c) → Held w0 W (blkR (gs 4) 81 (sgA roomS) :: rowR 81 33 (grow1 (vs 9)) (l.length + 1) (sgsC (l ++ [roomS])) :: blkR g1 36 (ntA z h (vs 9)) :: L) → Q .normal a' W) : (Code.region 1 (opsOf 1 Tryd.f18).toArray true).wp Tryd.prog Q a w := by
 have hap : apartB (opsOf 1 Tryd.f18) = true := by kernel_rfl
 refine wp_region_sep (Γ := Nat) (l := (opsOf 1 Tryd.f18)) 2 [0, 1, 3, 4, 6, 7, 8, 9, 10, 11, 13]
  (fun i vs gs => match i with | 0 => vs 0 = .pointer (some ⟨g1, 33, none⟩) | 1 => vs 1 = .slice A l.length c | 3 => vs 3 = .agg (sgA roomS) | 4 => vs 4 = .slice (some ⟨gs 4, 0, none⟩) 1 1 | 6 => vs 6 = .pointer (some ⟨g1, 33, none⟩) | 7 => vs 7 = .slice A l.length c | 8 => vs 8 = .int .i64 ((l.length : Nat) : Int) | 9 => ∃ A c, vs 9 = .slice A l.length c | 10 => vs 10 = .pointer (some ⟨g1, 33, none⟩) | _ => True)
  (fun i vs gs => match i with | 2 => [rowR 81 33 (vs 2) l.length (sgsC l)] | 4 => [blkR (gs 4) 81 (sgA roomS)] | 5 => [rowR 81 33 (vs 5) (l.length + 1) (sgsC (l ++ [roomS]))] | 9 => [rowR 81 33 (grow1 (vs 9)) (l.length + 1) (sgsC (l ++ [roomS]))] | 11 => [blkR g1 36 (ntA z h (vs 9))] | 12 => [blkR g1 36 (ntA z h (.slice A l.length c))] | 13 => L | _ => [])
  (fun i => match i with | 5 => [2] | 9 => [5] | 11 => [12] | _ => []) (fun i => match i with | 1 => [12] | 5 => [4] | 7 => [12] | _ => []) S0 (by kernel_rfl) hap (by kernel_rfl) (by kernel_rfl) (fun i => match i with | 0 => [0] | 1 => [1] | 2 => [2] | 3 => [3] | 4 => [4] | 5 => [5] | 6 => [6] | 7 => [7] | 8 => [8] | 9 => [9] | 10 => [10] | 11 => [9] | _ => []) (by kernel_rfl) ?_ (by kernel_rfl) ?_ ?_ ?_
 · intro s vs vs' gs gs' h
   iterate 14 (rcases s with _ | s; · (first | exact ⟨rfl, id⟩ | (simp only [List.mem_cons, List.not_mem_nil, or_false, forall_eq] at h; simp [h])))
   exact ⟨rfl, id⟩
 · simp only [List.range, List.range.loop, List.flatMap_cons, List.flatMap_nil, List.append_nil]
   exact List.Perm.refl _
 · clear S0 hend
   refine ⟨?_, ?_, ?_, ?_, ?_, ?_, ?_, ?_, ?_, ?_, ?_, ?_, trivial⟩
   · intro vs gs A' W LF hA S hR hd hu K hK; replace hK := hK default; have e1 := sO 1 o1 hA hap hsz; clear hA o1; go_step; exact hK _ _ S rfl
   · intro vs gs A' W LF hA S hR hd hu K hK; replace hK := hK default; have e3 := sV 3 (hd 0 (by kernel_rfl)) hA hap hsz; clear hA o1
     have c33 : W.cell? ⟨g1, 33, none⟩ = some (.slice A l.length c) := by rw [(show Blk W g1 36 (ntA z h (.slice A l.length c)) from S.ok (blkR g1 36 (ntA z h (.slice A l.length c))) (hR 12 (List.mem_singleton.2 rfl) _ (List.mem_singleton.2 rfl))).cell]; exact ntA_sigs hh
     go_step; exact hK _ _ S rfl
   · intro vs gs A' W LF hA S hR hd hu K hK; replace hK := hK default; have e4 := sV 4 (hd 1 (by kernel_rfl)) hA hap hsz; clear hA o1
     exact op_app_nil (.const (.slice none 0 0)) (.tmp 4) 34 81 rfl Tryd.infoSigZ Tryd.underlying34 rfl (by decide) rfl S (.slice A l.length c) l.length (sgsC l) (by simpa [Act.eval] using e4) (hv _ S.k) (sgsC_one _) (by unfold maxLen; omega) (by omega) (fun v' w' S' => hK v' w' S' trivial)
   · intro vs gs A' W LF hA S hR hd hu K hK; replace hK := hK default; clear hA o1
     refine op_build 81 _ rfl [(0, .string ⟨#[114, 111, 111, 109]⟩)] (by simp [Act.eval]) _ Tryd.built_room ?_
     exact hK _ _ S rfl
   · intro vs gs A' W LF hA S hR hd hu K hK; have e6 := sV 6 (hd 3 (by kernel_rfl)) hA hap hsz; clear hA o1
     refine op_sigs1 (.tmp 6) rfl (sgA roomS) (sgA_size rfl) (by simpa [Act.eval] using e6) ?_
     exact hK W.heap.size _ _ (S.newBlk _ _) rfl
   · intro vs gs A' W LF hA S hR hd hu K hK; replace hK := hK default
     have e5 := sU 5 2 hA hap hsz
     have e7 := sV 7 (hd 4 (by kernel_rfl)) hA hap hsz; clear hA o1
     refine op_app (.tmp 5) (.tmp 7) 34 81 rfl Tryd.infoSigZ Tryd.underlying34 rfl (by decide) (vs 2) l.length (sgsC l) (by simpa [Act.eval] using e5) S (.slice (some ⟨gs 4, 0, none⟩) 1 1) 1 (sgA roomS).toList (by simpa [Act.eval] using e7) (rd_sig1 (show Blk W (gs 4) 81 (sgA roomS) from S.ok (blkR (gs 4) 81 (sgA roomS)) (List.mem_cons_of_mem _ (hR 4 (List.mem_singleton.2 rfl) _ (List.mem_singleton.2 rfl)))) rfl) (sgA_one _) (by unfold maxLen; omega) (by omega) (fun v' w' S' => hK v' w' (by rw [sgsC_append, show sgsC [roomS] = (sgA roomS).toList from by simp [sgsC, sgA]]; exact S') trivial)
   · intro vs gs A' W LF hA S hR hd hu K hK; replace hK := hK default; have e1 := sO 1 o1 hA hap hsz; clear hA o1; go_step; exact hK _ _ S rfl
   · intro vs gs A' W LF hA S hR hd hu K hK; replace hK := hK default; have e9 := sV 9 (hd 6 (by kernel_rfl)) hA hap hsz; clear hA o1
     have c33 : W.cell? ⟨g1, 33, none⟩ = some (.slice A l.length c) := by rw [(show Blk W g1 36 (ntA z h (.slice A l.length c)) from S.ok (blkR g1 36 (ntA z h (.slice A l.length c))) (hR 12 (List.mem_singleton.2 rfl) _ (List.mem_singleton.2 rfl))).cell]; exact ntA_sigs hh
     go_step; exact hK _ _ S rfl
   · intro vs gs A' W LF hA S hR hd hu K hK; replace hK := hK default; have e10 := sV 10 (hd 7 (by kernel_rfl)) hA hap hsz; clear hA o1; go_step; exact hK _ _ S rfl
   · intro vs gs A' W LF hA S hR hd hu K hK; replace hK := hK default
     have e8 := sU 8 5 hA hap hsz
     have e11 := sV 11 (hd 8 (by kernel_rfl)) hA hap hsz; clear hA o1
     have S1 : Held w0 W (rowR 81 33 (vs 5) (l.length + 1) (sgsC (l ++ [roomS])) :: LF) := S
     obtain ⟨A7, c7, h7, h7a, h7b⟩ := ow_form (S1.at_ (l1 := []))
     clear S1
     rw [h7] at e8
     have q := fun w => cut_hiS A7 (l.length + 1) c7 l.length (by omega) w
     go_step
     refine hK _ _ ?_ ⟨A7, c7, rfl⟩
     have S2 : Held w0 W (rowR 81 33 (vs 5) (l.length + 1) (sgsC (l ++ [roomS])) :: LF) := S
     rw [h7] at S2
     exact S2
   · intro vs gs A' W LF hA S hR hd hu K hK; replace hK := hK default; have e1 := sO 1 o1 hA hap hsz; clear hA o1; go_step; exact hK _ _ S rfl
   · intro vs gs A' W LF hA S hR hd hu K hK; replace hK := hK default; have e13 := sV 13 (hd 10 (by kernel_rfl)) hA hap hsz; have f9 : ∃ A c, vs 9 = .slice A l.length c := hd 9 (by kernel_rfl)
     have e12 := sU 12 9 hA hap hsz
     clear hA o1
     obtain ⟨A1, c1, hq⟩ := f9
     rw [hq] at e12
     have S1 : Held w0 W (blkR g1 36 (ntA z h (.slice A l.length c)) :: LF) := S
     have S2 := S1.set (l1 := []) 33 (.slice A1 l.length c1)
     rw [ntA_setSigs hh, show ntA z h (.slice A1 l.length c1) = ntA z h (vs 9) from by rw [hq]] at S2
     have c33 : W.cell? ⟨g1, 33, none⟩ = some (.slice A l.length c) := by rw [(S1.at_ (l1 := [])).cell]; exact ntA_sigs hh
     have f33 := (show Blk W g1 _ _ from S1.at_ (l1 := [])).frozen 33
     go_step
     exact hK undef _ S2 trivial
 · intro vs gs W S hp
   have S : Held w0 W (blkR (gs 4) 81 (sgA roomS) :: rowR 81 33 (grow1 (vs 9)) (l.length + 1) (sgsC (l ++ [roomS])) :: blkR g1 36 (ntA z h (vs 9)) :: L) := by simpa only [List.flatMap_cons, List.flatMap_nil, List.append_nil, List.nil_append, List.cons_append, List.append_assoc] using S
   rw [putAll_eq]
   exact hend _ vs gs W sQ sX (hp 9 sB) S
theorem slt_r2 (w0 : World) (g1 g2 : Nat) (cn : Array Value) (hcn : cn.size = 34) (h1 : ∀ u, u ∈ cn.toList → u.oneCell' = true) (L : List Res) (S : Held w0 w (blkR g2 36 zeroN :: blkR g1 36 cn :: L)) (hsz : a.tmps.size = 15) (o1 : Sl a 1 (.pointer (some ⟨g1, 0, none⟩))) (o2 : Sl a 2 (.pointer (some ⟨g2, 0, none⟩)))
 (hend : ∀ a' W, Same a a' [14] → (Held w0 W (blkR g2 36 cn :: blkR g1 36 cn :: L)) → Q .normal a' W) : (Code.region 2 (opsOf 2 Tryd.f18).toArray false).wp Tryd.prog Q a w := by
 refine wp_region_lit ?_
 (conv => arg 4; whnf)
 unfold Sl at o1 o2
 have S1 := Lib.hid S
 clear S
 have hz2 := Lib.hid hcn
 have HO := Lib.hid h1
 clear hcn h1
 go_wp2_with (first
  | (refine wpList_load_blk rfl 36 (.tmp 1) rfl g1 (by simp [Act.eval, Act.put, hsz, o1]) 36 _ (S1.out.at_ (l1 := [_])) _ Tryd.underlying36 rfl (by rw [hz2.out]; exact Tryd.infoNote) ?_)
  | (refine wpList_store_blk rfl 36 (.tmp 2) (.tmp 14) rfl g2 (by simp [Act.eval, Act.put, hsz, o2]) cn (by simp [Act.eval, Act.put, hsz]) 36 _ (S1.out.at_ (l1 := [])) (by rw [hz2.out]; exact Tryd.infoNote) (by rw [hz2.out]; rfl) HO.out ?_; intro w7 b7 k7; have S7 := Lib.hid (Held.setBlk (l1 := []) S1.out b7 k7); clear b7 k7))
 try simp only [Act.put]
 exact hend _ _ sS (S7.out)
theorem slf_r0 (w0 : World) (ca cb : Array Value) (L : List Res) (S : Held w0 w L) (hsz : a.tmps.size = 24) (o0 : Sl a 0 (.agg ca)) (o1 : Sl a 1 (.agg cb))
 (hend : ∀ a' W, Same a a' [2, 3, 4] → Sl a' 4 (.bool false) → (∃ g2 g3, Sl a' 2 (.pointer (some ⟨g2, 0, none⟩)) ∧ Sl a' 3 (.pointer (some ⟨g3, 0, none⟩)) ∧ Held w0 W (blkR g3 36 cb :: blkR g2 36 ca :: L)) → Q .normal a' W) : (Code.region 0 (opsOf 0 Tryd.f33).toArray false).wp Tryd.prog Q a w := by
 refine wp_region_lit ?_
 (conv => arg 4; whnf)
 unfold Sl at o0 o1
 have S1 := Lib.hid ((S.newBlk 36 ca).newBlkN 36 cb (g := w.heap.size + 1) (by simp))
 go_wp2_with fail
 try simp only [Act.put]
 exact hend _ _ sS sP (⟨_, _, sP0, sP0, S1.out⟩)
theorem slf_r1 (z : Int) (h : List UInt8) (hh : h.length = 32) (A : Option Addr) (c : Nat) (l : List SigD) (hll : (l.length + 1) * 48 ≤ 140737488355328) (g2 g3 gr cr : Nat) (hcr : l.length + 1 ≤ cr) (hb2 : Blk w.drew g2 36 (ntA z h (.slice (some ⟨gr, 0, none⟩) l.length cr))) (hb3 : Blk w.drew g3 36 (ntA z h (.slice A l.length c))) (hrm : w.drew.cell? ⟨gr, l.length * 33, none⟩ = some (.string ⟨#[114, 111, 111, 109]⟩)) (hS : ∀ V, Kp [] w.drew V → Calls Tryd.prog 23 #[.agg (ntA z h (.slice (some ⟨gr, 0, none⟩) l.length cr)), .agg (ntA z h (.slice A l.length c))] V fun e w' => e = .returned (.bool true) ∧ Kp [] V w') (hsz : a.tmps.size = 24) (o2 : Sl a 2 (.pointer (some ⟨g2, 0, none⟩))) (o3 : Sl a 3 (.pointer (some ⟨g3, 0, none⟩)))
 (hend : ∀ a' W, Same a a' [5, 6, 7, 8, 9, 10, 11, 12, 13, 14, 15, 16, 17, 18, 19, 20, 21, 22, 23, 4] → Kp [] w.drew W → Sl a' 4 (.bool true) → Q .normal a' W) : (Code.region 1 (opsOf 1 Tryd.f33).toArray true).wp Tryd.prog Q a w := by
 have hap : apartB (opsOf 1 Tryd.f33) = true := by kernel_rfl
 refine wp_region_invG (l := (opsOf 1 Tryd.f33)) (fun i v W => match i with | 0 => v = .agg (ntA z h (.slice (some ⟨gr, 0, none⟩) l.length cr)) | 1 => v = .agg (ntA z h (.slice A l.length c)) | 2 => v = .bool true | 3 => v = .bool true | 4 => v = .pointer (some ⟨g2, 33, none⟩) | 5 => v = .slice (some ⟨gr, 0, none⟩) l.length cr | 6 => v = .pointer (some ⟨g3, 33, none⟩) | 7 => v = .slice A l.length c | 8 => v = .int .i64 (l.length : Int) | 9 => v = .int .i64 ((l.length : Int) + 1) | 10 => v = .slice (some ⟨gr, 0, none⟩) (l.length + 1) cr | 11 => v = .pointer (some ⟨g3, 33, none⟩) | 12 => v = .slice A l.length c | 13 => v = .int .i64 (l.length : Int) | 14 => v = .pointer (some ⟨gr, l.length * 33, none⟩) | 15 => v = .pointer (some ⟨gr, l.length * 33, none⟩) | 16 => v = .string ⟨#[114, 111, 111, 109]⟩ | 17 => v = .bool true | 18 => v = .bool true | 19 => v = .bool true | _ => True) (by kernel_rfl) hap (by kernel_rfl) ?_ ?_ ?_
 · intro i v W W' h _
   iterate 20 (rcases i with _ | i; · exact h)
   exact h
 · refine ⟨?_, ?_, ?_, ?_, ?_, ?_, ?_, ?_, ?_, ?_, ?_, ?_, ?_, ?_, ?_, ?_, ?_, ?_, ?_, ?_, trivial⟩
   · intro vs A' W hA hW hd K hK; refine wpOp_free _ rfl rfl ?_; (conv => arg 2; whnf); have e2 := sO 2 o2 hA hap hsz; clear hA hd o2 o3
     refine op_runs (v := .agg (ntA z h (.slice (some ⟨gr, 0, none⟩) l.length cr))) (w' := W) (exec_load rfl (by simpa [Act.eval] using e2) (run_loadAt_agg W (⟨g2, 0, none⟩) 36 (ntA z h (.slice (some ⟨gr, 0, none⟩) l.length cr)).toList _ (Blk.agg (hb2.kp hW (by simp))) Tryd.underlying36 rfl (by rw [Array.length_toList, ntA_size hh]; exact Tryd.infoNote))) ?_
     exact hK _ _ kR rfl
   · intro vs A' W hA hW hd K hK; refine wpOp_free _ rfl rfl ?_; (conv => arg 2; whnf); have e3 := sO 3 o3 hA hap hsz; clear hA hd o2 o3
     refine op_runs (v := .agg (ntA z h (.slice A l.length c))) (w' := W) (exec_load rfl (by simpa [Act.eval] using e3) (run_loadAt_agg W (⟨g3, 0, none⟩) 36 (ntA z h (.slice A l.length c)).toList _ (Blk.agg (hb3.kp hW (by simp))) Tryd.underlying36 rfl (by rw [Array.length_toList, ntA_size hh]; exact Tryd.infoNote))) ?_
     exact hK _ _ kR rfl
   · intro vs A' W hA hW hd K hK; refine wpOp_free _ rfl rfl ?_; (conv => arg 2; whnf); have e5 := sV 5 (hd 0 (by kernel_rfl)) hA hap hsz; have e6 := sV 6 (hd 1 (by kernel_rfl)) hA hap hsz; clear hA hd o2 o3; go_step
     refine (hS _ hW).mono ?_
     rintro e w' ⟨rfl, k⟩
     exact hK _ _ k rfl
   · intro vs A' W hA hW hd K hK; refine wpOp_free _ rfl rfl ?_; (conv => arg 2; whnf); have e7 := sV 7 (hd 2 (by kernel_rfl)) hA hap hsz; clear hA hd o2 o3; go_step; exact hK _ _ kR rfl
   · intro vs A' W hA hW hd K hK; have e8 := sV 8 (hd 3 (by kernel_rfl)) hA hap hsz; refine wpOp_go _ rfl 3 8 true rfl rfl e8 ?_; (conv => arg 2; whnf); have e2 := sO 2 o2 hA hap hsz; clear hA hd o2 o3; go_step; exact hK _ _ kR rfl
   · intro vs A' W hA hW hd K hK; have e8 := sV 8 (hd 3 (by kernel_rfl)) hA hap hsz; refine wpOp_go _ rfl 3 8 true rfl rfl e8 ?_; (conv => arg 2; whnf); have e9 := sV 9 (hd 4 (by kernel_rfl)) hA hap hsz; clear hA hd o2 o3
     have c0 : W.cell? ⟨g2, 33, none⟩ = some (.slice (some ⟨gr, 0, none⟩) l.length cr) := by rw [(hb2.kp hW (by simp)).cell]; exact ntA_sigs hh
     go_step; exact hK _ _ kR rfl
   · intro vs A' W hA hW hd K hK; have e8 := sV 8 (hd 3 (by kernel_rfl)) hA hap hsz; refine wpOp_go _ rfl 3 8 true rfl rfl e8 ?_; (conv => arg 2; whnf); have e3 := sO 3 o3 hA hap hsz; clear hA hd o2 o3; go_step; exact hK _ _ kR rfl
   · intro vs A' W hA hW hd K hK; have e8 := sV 8 (hd 3 (by kernel_rfl)) hA hap hsz; refine wpOp_go _ rfl 3 8 true rfl rfl e8 ?_; (conv => arg 2; whnf); have e11 := sV 11 (hd 6 (by kernel_rfl)) hA hap hsz; clear hA hd o2 o3
     have c0 : W.cell? ⟨g3, 33, none⟩ = some (.slice A l.length c) := by rw [(hb3.kp hW (by simp)).cell]; exact ntA_sigs hh
     go_step; exact hK _ _ kR rfl
   · intro vs A' W hA hW hd K hK; have e8 := sV 8 (hd 3 (by kernel_rfl)) hA hap hsz; refine wpOp_go _ rfl 3 8 true rfl rfl e8 ?_; (conv => arg 2; whnf); have e12 := sV 12 (hd 7 (by kernel_rfl)) hA hap hsz; clear hA hd o2 o3; go_step; exact hK _ _ kR rfl
   · intro vs A' W hA hW hd K hK; have e8 := sV 8 (hd 3 (by kernel_rfl)) hA hap hsz; refine wpOp_go _ rfl 3 8 true rfl rfl e8 ?_; (conv => arg 2; whnf); have e13 := sV 13 (hd 8 (by kernel_rfl)) hA hap hsz; clear hA hd o2 o3
     have hw : wrap64 ((l.length : Int) + 1) = (l.length : Int) + 1 := by unfold wrap64; omega
     go_step; exact hK _ _ kR rfl
   · intro vs A' W hA hW hd K hK; have e8 := sV 8 (hd 3 (by kernel_rfl)) hA hap hsz; refine wpOp_go _ rfl 3 8 true rfl rfl e8 ?_; (conv => arg 2; whnf); have e10 := sV 10 (hd 5 (by kernel_rfl)) hA hap hsz; have e14 := sV 14 (hd 9 (by kernel_rfl)) hA hap hsz; clear hA hd o2 o3
     have q := fun w => cut_hiS (some ⟨gr, 0, none⟩) l.length cr (l.length + 1) hcr w
     have q2 : ((l.length + 1 : Nat) : Int) = (l.length : Int) + 1 := by omega
     rw [q2] at q
     go_step; exact hK _ _ kR rfl
   · intro vs A' W hA hW hd K hK; have e8 := sV 8 (hd 3 (by kernel_rfl)) hA hap hsz; refine wpOp_go _ rfl 3 8 true rfl rfl e8 ?_; (conv => arg 2; whnf); have e3 := sO 3 o3 hA hap hsz; clear hA hd o2 o3; go_step; exact hK _ _ kR rfl
   · intro vs A' W hA hW hd K hK; have e8 := sV 8 (hd 3 (by kernel_rfl)) hA hap hsz; refine wpOp_go _ rfl 3 8 true rfl rfl e8 ?_; (conv => arg 2; whnf); have e16 := sV 16 (hd 11 (by kernel_rfl)) hA hap hsz; clear hA hd o2 o3
     have c0 : W.cell? ⟨g3, 33, none⟩ = some (.slice A l.length c) := by rw [(hb3.kp hW (by simp)).cell]; exact ntA_sigs hh
     go_step; exact hK _ _ kR rfl
   · intro vs A' W hA hW hd K hK; have e8 := sV 8 (hd 3 (by kernel_rfl)) hA hap hsz; refine wpOp_go _ rfl 3 8 true rfl rfl e8 ?_; (conv => arg 2; whnf); have e17 := sV 17 (hd 12 (by kernel_rfl)) hA hap hsz; clear hA hd o2 o3; go_step; exact hK _ _ kR rfl
   · intro vs A' W hA hW hd K hK; have e8 := sV 8 (hd 3 (by kernel_rfl)) hA hap hsz; refine wpOp_go _ rfl 3 8 true rfl rfl e8 ?_; (conv => arg 2; whnf); have e15 := sV 15 (hd 10 (by kernel_rfl)) hA hap hsz; have e18 := sV 18 (hd 13 (by kernel_rfl)) hA hap hsz; clear hA hd o2 o3
     have h0 : 0 ≤ (l.length : Int) := by omega
     have h1 : (l.length : Int) < (l.length : Int) + 1 := by omega
     go_step; exact hK _ _ kR rfl
   · intro vs A' W hA hW hd K hK; have e8 := sV 8 (hd 3 (by kernel_rfl)) hA hap hsz; refine wpOp_go _ rfl 3 8 true rfl rfl e8 ?_; (conv => arg 2; whnf); have e19 := sV 19 (hd 14 (by kernel_rfl)) hA hap hsz; clear hA hd o2 o3; go_step; exact hK _ _ kR rfl
   · intro vs A' W hA hW hd K hK; have e8 := sV 8 (hd 3 (by kernel_rfl)) hA hap hsz; refine wpOp_go _ rfl 3 8 true rfl rfl e8 ?_; (conv => arg 2; whnf); have e20 := sV 20 (hd 15 (by kernel_rfl)) hA hap hsz; clear hA hd o2 o3
     have c0 := cell_kept hrm hW
     go_step; exact hK _ _ kR rfl
   · intro vs A' W hA hW hd K hK; have e8 := sV 8 (hd 3 (by kernel_rfl)) hA hap hsz; refine wpOp_go _ rfl 3 8 true rfl rfl e8 ?_; (conv => arg 2; whnf); have e21 := sV 21 (hd 16 (by kernel_rfl)) hA hap hsz; clear hA hd o2 o3; go_step; exact hK _ _ kR rfl
   · intro vs A' W hA hW hd K hK; refine wpOp_free _ rfl rfl ?_; (conv => arg 2; whnf); have e8 := sV 8 (hd 3 (by kernel_rfl)) hA hap hsz; have e22 := sV 22 (hd 17 (by kernel_rfl)) hA hap hsz; clear hA hd o2 o3; go_step; exact hK _ _ kR rfl
   · intro vs A' W hA hW hd K hK; refine wpOp_free _ rfl rfl ?_; (conv => arg 2; whnf); have e23 := sV 23 (hd 18 (by kernel_rfl)) hA hap hsz; clear hA hd o2 o3; go_step; exact hK _ _ kR rfl
 · intro vs W hW hp
   rw [putAll_eq]
   exact hend _ W sQ hW (sW (hp 19 sB))
end
/- find, lay, Same of the reference; lent, left of the law. -/
section
open Go.RowKit
end
/- Same of the reference; lent, left of the law. -/
section
open Go.RowKit
def sameN (z : Int) (h : List UInt8) (l : List SigD) (y : Int) (g : List UInt8) (m : List SigD) : Bool := (decide (z = y) && (h == g)) && (decide (l.length = m.length) && (l == m))
theorem ssame_any (z y : Int) (h g : List UInt8) (hh : h.length = 32) (hg : g.length = 32) (A B : Option Addr) (c e : Nat) (l m : List SigD) (hok : SgOk l) (hmk : SgOk m) (hll : l.length < 9223372036854775807) (w : World) (hv : Rd w 33 (.slice A l.length c) l.length (sgsC l)) (hu : Rd w 33 (.slice B m.length e) m.length (sgsC m)) :
 Calls Tryd.prog 23 #[.agg (ntA z h (.slice A l.length c)), .agg (ntA y g (.slice B m.length e))] w fun r w' => r = .returned (.bool (sameN z h l y g m)) ∧ Kp [] w w' := by
 refine calls_fr Tryd.func23 rfl 38 rfl (fun a0 hsz hdf hAr => ?_)
 have hz0 : a0.tmps.size = 38 := hsz
 have D := hdf
 have o0 := hAr 0 _ rfl
 have o1 := hAr 1 _ rfl
 refine wp_seq (ssa_r0 w _ _ [] (Held.start w) hz0 o0 o1 (fun a1 w1 hs1 o4 h1 => ?_))
 have hz1 := hs1.size.trans hz0; have o0 := hs1.k o0; have o1 := hs1.k o1; have D := hs1.defers.trans D
 obtain ⟨g2, g3, o2, o3, S⟩ := h1
 have hb2 := S.at_ (l1 := [_])
 have hb3 := S.at_ (l1 := [])
 have K := S.k
 have hfail : ∀ (a : Act) (W : World), a.tmps.size = 38 → a.defers = [] → Sl a 4 (.bool false) → Kp [] w W → sameN z h l y g m = false → bodyPost Tryd.prog Tryd.f23 (fun r w' => r = .returned (.bool (sameN z h l y g m)) ∧ Kp [] w w') .ret a W := by
  intro a W hs hd o4 kk hb
  exact (bodyPost_ret (results_t1 (by rfl) (o4.eval (by rw [hs]; decide))) hd ⟨by rw [hb], kk⟩)
 cases hpq : (decide (z = y) && (h == g))
 · have hF : sameN z h l y g m = false := by unfold sameN; rw [hpq, Bool.false_and]
   refine wp_seq (wp_seq (ssa_r1N z y h g hh hg A B l.length c m.length e g2 g3 hb2 hb3 hpq hz1 o2 o3 (fun a2 w2 hs2 k2 o19 => ?_)))
   have hz2 := hs2.size.trans hz1
   refine wp_cond_true (o19.eval (by rw [hz2]; decide)) ?_
   refine wp_seq (ssa_r2 hz2 (fun a3 hs3 o4 => ?_))
   refine wp_ret ?_
   simp only [Exit.then]
   exact hfail a3 w2 (hs3.size.trans hz2) (hs3.defers.trans (hs2.defers.trans D)) o4 (K.trans k2 (by simp)) hF
 · refine wp_seq (wp_seq (ssa_r1Y z y h g hh hg A B l.length c m.length e g2 g3 hb2 hb3 hpq hz1 o2 o3 (fun a2 w2 hs2 k2 o19 => ?_)))
   have hz2 := hs2.size.trans hz1; have o2 := hs2.k o2; have o3 := hs2.k o3; have D := hs2.defers.trans D
   have hb2 := hb2.kp k2 (by simp)
   have hb3 := hb3.kp k2 (by simp)
   have K := K.trans k2 (by simp)
   by_cases hlm : l.length = m.length
   · refine wp_cond_false ((o19.eval (by rw [hz2]; decide)).trans (by rw [decide_eq_true hlm]; rfl)) (wp_skip ?_)
     simp only [Exit.then]
     refine wp_seq (wp_seq (ssa_r3 hz2 (fun a3 hs3 o5 => ?_)))
     have hz3 := hs3.size.trans hz2; have o2 := hs3.k o2; have o3 := hs3.k o3; have D := hs3.defers.trans D
     refine wp_block ?_
     (conv => arg 2; whnf)
     refine wp_loop (fun a' w' => ∃ (k : Nat), k ≤ l.length ∧ a'.tmps.size = 38 ∧ a'.defers = [] ∧ Kp [] w2 w' ∧ Sl a' 2 (.pointer (some ⟨g2, 0, none⟩)) ∧ Sl a' 3 (.pointer (some ⟨g3, 0, none⟩)) ∧ Sl a' 5 (.int .i64 ((k : Nat) : Int)) ∧ l.take k = m.take k) (fun a' _ => l.length - (intOf (a'.eval (.tmp 5))).toNat) ⟨0, Nat.zero_le _, hz3, D, Kp.refl _ _, o2, o3, o5, by rw [List.take_zero, List.take_zero]⟩ ?_
     iterate 8 (try clear o2)
     iterate 8 (try clear o3)
     iterate 8 (try clear o5)
     rintro a4 w4 ⟨k, hk, hz4, D, k4, o2, o3, o5, hT⟩
     have e5 := o5.eval (by rw [hz4]; decide)
     have hb2 := hb2.kp k4 (by simp)
     have hb3 := hb3.kp k4 (by simp)
     refine wp_seq (wp_seq (ssa_r4 z h hh A l.length c g2 k hb2 hz4 o2 o5 (fun a5 hs5 o24 => ?_)))
     have hz5 := hs5.size.trans hz4; have o2 := hs5.k o2; have o3 := hs5.k o3; have o5 := hs5.k o5; have D := hs5.defers.trans D
     by_cases hlt : k < l.length
     · refine wp_cond_true ((o24.eval (by rw [hz5]; decide)).trans (by rw [decide_eq_true hlt])) (wp_skip ?_)
       simp only [Exit.then]
       obtain ⟨a2', hA⟩ := sgs_addr hv (by omega)
       obtain ⟨a3', hB⟩ := sgs_addr hu (by omega)
       obtain ⟨s, hs⟩ : ∃ s, l[k]? = some s := ⟨_, List.getElem?_eq_getElem hlt⟩
       obtain ⟨t, ht⟩ : ∃ t, m[k]? = some t := ⟨_, List.getElem?_eq_getElem (by omega)⟩
       have kk := K.trans k4.drew (by simp)
       have hb2' := (hb2.drew)
       have hb3' := (hb3.drew)
       rw [hA] at hb2' hv
       rw [hB] at hb3' hu
       refine wp_seq (wp_block ?_)
       refine wp_seq (ssa_r6 z y h g hh hg a2' a3' l.length c m.length e k hlt (by omega) g2 g3 hb2' hb3' s t (hok s (List.mem_of_getElem? hs)).1 (hmk t (List.mem_of_getElem? ht)).1 (fun V kV => sgs_at (rd_old hv (kk.trans kV (by simp))) hok hs) (fun V kV => sgs_at (rd_old hu (kk.trans kV (by simp))) hmk ht) hz5 o2 o3 o5 (fun a6 w6 hs6 k6 o37 => ?_))
       have hz6 := hs6.size.trans hz5; have o2 := hs6.k o2; have o3 := hs6.k o3; have o5 := hs6.k o5; have D := hs6.defers.trans D
       have k46 := k4.drew.trans k6 (by simp)
       cases hst : ((s.1 == t.1) && (s.2 == t.2))
       · have hF : sameN z h l y g m = false := by
          have hne : (l == m) = false := by
           refine beq_false_of_ne (fun e0 => ?_)
           subst e0
           rw [hs] at ht
           cases ht
           simp at hst
          unfold sameN
          rw [hne, Bool.and_false, Bool.and_false]
         refine wp_cond_true ((o37.eval (by rw [hz6]; decide)).trans (by rw [hst]; rfl)) ?_
         refine wp_seq (ssa_r7 hz6 (fun a7 hs7 o4 => ?_))
         refine wp_ret ?_
         simp only [Exit.inBlock, Exit.then]
         exact hfail a7 w6 (hs7.size.trans hz6) (hs7.defers.trans D) o4 (K.trans k46 (by simp)) hF
       · have hst2 : s = t := by
          simp only [Bool.and_eq_true, beq_iff_eq] at hst
          exact Prod.ext hst.1 hst.2
         refine wp_cond_false ((o37.eval (by rw [hz6]; decide)).trans (by rw [hst]; rfl)) (wp_skip ?_)
         simp only [Exit.inBlock, Exit.then]
         refine ssa_r5 k (by omega) hz6 o5 (fun a7 hs7 o5' => ?_)
         have hz7 := hs7.size.trans hz6
         refine ⟨⟨k + 1, by omega, hz7, hs7.defers.trans D, k46, hs7.k o2, hs7.k o3, o5', by rw [List.take_add_one, List.take_add_one, hs, ht, hT, hst2]⟩, ?_⟩
         show l.length - (intOf _).toNat < l.length - (intOf _).toNat
         rw [e5, o5'.eval (by rw [hz7]; decide)]
         simp only [intOf]; omega
     · refine wp_cond_false ((o24.eval (by rw [hz5]; decide)).trans (by rw [decide_eq_false hlt])) (wp_exit ?_)
       simp only [Exit.then, Exit.inBlock]
       have hkl : k = l.length := by omega
       have hlm2 : l = m := by rw [hkl, List.take_length, hlm, List.take_length] at hT; exact hT
       have hF : sameN z h l y g m = true := by unfold sameN; rw [hpq, decide_eq_true hlm, hlm2]; simp
       refine wp_seq (ssa_r8 hz5 (fun a6 hs6 o4 => ?_))
       refine wp_ret ?_
       exact (bodyPost_ret (results_t1 (by rfl) (o4.eval (by rw [hs6.size.trans hz5]; decide))) (hs6.defers.trans D) ⟨by rw [hF], K.trans k4 (by simp)⟩)
   · have hF : sameN z h l y g m = false := by unfold sameN; rw [decide_eq_false hlm, Bool.false_and, Bool.and_false]
     refine wp_cond_true ((o19.eval (by rw [hz2]; decide)).trans (by rw [decide_eq_false hlm]; rfl)) ?_
     refine wp_seq (ssa_r2 hz2 (fun a3 hs3 o4 => ?_))
     refine wp_ret ?_
     simp only [Exit.then]
     exact hfail a3 w2 (hs3.size.trans hz2) (hs3.defers.trans D) o4 K hF
theorem sameN_self (z : Int) (h : List UInt8) (l : List SigD) : sameN z h l z h l = true := by unfold sameN; simp
theorem slent_any (z : Int) (h : List UInt8) (hh : h.length = 32) (A : Option Addr) (c : Nat) (l : List SigD) (hok : SgOk l) (hll : (l.length + 1) * 48 ≤ 140737488355328) (w : World) (hv : Rd w 33 (.slice A l.length c) l.length (sgsC l)) :
 Calls Tryd.prog 18 #[.agg (ntA z h (.slice A l.length c))] w fun e w' => ∃ gr cr, e = .returned (.agg (ntA z h (.slice (some ⟨gr, 0, none⟩) l.length cr))) ∧ l.length + 1 ≤ cr ∧ Held w w' [rowR 81 33 (.slice (some ⟨gr, 0, none⟩) (l.length + 1) cr) (l.length + 1) (sgsC (l ++ [roomS]))] := by
 refine calls_fr Tryd.func18 rfl 15 rfl (fun a0 hsz hdf hAr => ?_)
 have hz0 : a0.tmps.size = 15 := hsz
 have D := hdf
 have o0 := hAr 0 _ rfl
 refine wp_seq (slt_r0 w _ [] (Held.start w) hz0 o0 (fun a1 w1 hs1 h1 => ?_))
 have hz1 := hs1.size.trans hz0; have o0 := hs1.k o0; have D := hs1.defers.trans D
 obtain ⟨g1, g2, o1, o2, S⟩ := h1
 have S : Held w w1 [blkR g1 36 (ntA z h (.slice A l.length c)), blkR g2 36 zeroN] := S.pull 1 rfl
 refine wp_seq (slt_r1 w z h hh A c l hok hll (fun V kV => rd_old hv kV) g1 _ hz1 o1 S (fun a2 vs gs w2 hs2 o12 hf S => ?_))
 have hz2 := hs2.size.trans hz1; have o1 := hs2.k o1; have o2 := hs2.k o2; have D := hs2.defers.trans D
 obtain ⟨A1, c1, hq⟩ := hf
 rw [hq] at S
 have S : Held w w2 [rowR 81 33 (.slice A1 (l.length + 1) c1) (l.length + 1) (sgsC (l ++ [roomS])), blkR g1 36 (ntA z h (.slice A1 l.length c1)), blkR g2 36 zeroN] := S.drop
 obtain ⟨gr, cr, hgr, hcr, -⟩ := ow_some (show Ow w2 81 33 (.slice A1 (l.length + 1) c1) (l.length + 1) (sgsC (l ++ [roomS])) from S.at_ (l1 := [])) (by omega)
 cases hgr
 have S : Held w w2 [blkR g2 36 zeroN, blkR g1 36 (ntA z h (.slice (some ⟨gr, 0, none⟩) l.length c1)), rowR 81 33 (.slice (some ⟨gr, 0, none⟩) (l.length + 1) c1) (l.length + 1) (sgsC (l ++ [roomS]))] := (S.pull 1 rfl).pull 2 rfl
 refine wp_seq (slt_r2 w g1 g2 _ (ntA_size hh) (ntA_one rfl) _ S hz2 o1 o2 (fun a3 w3 hs3 S => ?_))
 have hz3 := hs3.size.trans hz2; have o1 := hs3.k o1; have o2 := hs3.k o2; have D := hs3.defers.trans D
 refine wp_ret ?_
 refine (bodyPost_ret (results_cell1 (by rfl) (o2.eval (by rw [hz3]; decide)) (S.at_ (l1 := [])) Tryd.underlying36 rfl (by rw [ntA_size hh]; exact Tryd.infoNote)) D ⟨gr, c1, rfl, hcr, S.some_of (List.singleton_sublist.2 (by simp))⟩)
theorem sleft_any (z : Int) (h : List UInt8) (hh : h.length = 32) (A : Option Addr) (c : Nat) (l : List SigD) (hok : SgOk l) (hll : (l.length + 1) * 48 ≤ 140737488355328) (gr cr : Nat) (hcr : l.length + 1 ≤ cr) (w : World) (hv : Rd w 33 (.slice A l.length c) l.length (sgsC l)) (ho : Ow w 81 33 (.slice (some ⟨gr, 0, none⟩) (l.length + 1) cr) (l.length + 1) (sgsC (l ++ [roomS]))) :
 Calls Tryd.prog 33 #[.agg (ntA z h (.slice (some ⟨gr, 0, none⟩) l.length cr)), .agg (ntA z h (.slice A l.length c))] w fun e w' => e = .returned (.bool true) ∧ Kp [] w w' := by
 have hok1 : SgOk (l ++ [roomS]) := by
  intro s hs
  rcases List.mem_append.1 hs with hs | hs
  · exact hok s hs
  · rw [List.mem_singleton.1 hs]; exact ⟨rfl, by decide⟩
 have hro := Rd.of_own ho
 have hr2 : Rd w 33 (.slice (some ⟨gr, 0, none⟩) l.length cr) l.length (sgsC l) := by
  have := rd_hiS hok1 hro (by rw [List.length_append]; rfl) (show l.length ≤ l.length + 1 by omega)
  rwa [List.take_left' rfl] at this
 have hrm : w.cell? ⟨gr, l.length * 33, none⟩ = some (.string ⟨#[114, 111, 111, 109]⟩) := by
  have := sgs_at hro hok1 (k := l.length) (s := roomS) (by rw [List.getElem?_append_right (Nat.le_refl _), Nat.sub_self]; rfl) 0 (strV roomS.1) rfl
  rw [addr0, Addr.add_lit, Nat.zero_add] at this
  exact this
 refine calls_fr Tryd.func33 rfl 24 rfl (fun a0 hsz hdf hAr => ?_)
 have hz0 : a0.tmps.size = 24 := hsz
 have D := hdf
 have o0 := hAr 0 _ rfl
 have o1 := hAr 1 _ rfl
 refine wp_seq (slf_r0 w _ _ [] (Held.start w) hz0 o0 o1 (fun a1 w1 hs1 o4 h1 => ?_))
 have hz1 := hs1.size.trans hz0; have o0 := hs1.k o0; have o1 := hs1.k o1; have D := hs1.defers.trans D
 obtain ⟨g2, g3, o2, o3, S⟩ := h1
 have kd := S.k.drew
 refine wp_seq (slf_r1 z h hh A c l hll g2 g3 gr cr hcr ((S.at_ (l1 := [_])).drew) ((S.at_ (l1 := [])).drew) (cell_kept hrm kd) (fun V kV => ?_) hz1 o2 o3 (fun a2 w2 hs2 k2 o4 => ?_))
 · have := ssame_any z z h h hh hh (some ⟨gr, 0, none⟩) A cr c l l hok hok (by omega) V (rd_old hr2 (kd.trans kV (by simp))) (rd_old hv (kd.trans kV (by simp)))
   rw [sameN_self] at this
   exact this
 · refine wp_ret ?_
   exact (bodyPost_ret (results_t1 (by rfl) (o4.eval (by rw [hs2.size.trans hz1]; decide))) (hs2.defers.trans D) ⟨rfl, kd.trans k2 (by simp)⟩)
end
/- Joining notes: mathematics. -/
section
open Go.RowKit
def lk (nm : List UInt8) (l : List SigD) : Option (List UInt8) := (l.find? fun s => s.1 == nm).map (·.2)
theorem lk_nil (nm : List UInt8) : lk nm [] = none := rfl
end
/- SignHolds: its regions. -/
section
open Go.RowKit
end
/- spoil of the law; Join of both: their regions. -/
section
open Go.RowKit
end
/- spoil of the law; Join of both. -/
section
open Go.RowKit
end
/- Join of the reference. -/
section
open Go.RowKit
end
/- SignJoins: its regions. -/
section
open Go.RowKit
end
/- Notes' texts, read: the plain mathematics. -/
section
theorem UH_yes {s : List UInt8} (h : (UH s).2 = true) : s.length = 64 ∧ allDg s = true ∧ (UH s).1 = uprt s 64 := by
 unfold UH at h ⊢
 by_cases c : s.length = 64 ∧ allDg s = true
 · rw [if_pos c]; exact ⟨c.1, c.2, rfl⟩
 · rw [if_neg c] at h; cases h
theorem hexS_at {h s : List UInt8} (hh : h.length = 32) (hs : s.length = 64) (H : ∀ j (hj : j < 32), hx ((h[j]'(by omega)).toNat / 16) = s[2 * j]'(by omega) ∧ hx ((h[j]'(by omega)).toNat % 16) = s[2 * j + 1]'(by omega)) : hexS h = s := by
 apply List.ext_getElem
 · rw [hexS_length, hh, hs]
 · intro i h1 h2
   have g := hexS_getD (h := h) (j := i / 2) (by omega)
   have e := H (i / 2) (by omega)
   by_cases c : i % 2 = 0
   · have := g.1
     rw [e.1, List.getD_eq_getElem?_getD, List.getElem?_eq_getElem (by rw [hexS_length]; omega)] at this
     simp only [Option.getD_some] at this
     have hi : 2 * (i / 2) = i := by omega
     simp only [hi] at this
     exact this
   · have := g.2
     rw [e.2, List.getD_eq_getElem?_getD, List.getElem?_eq_getElem (by rw [hexS_length]; omega)] at this
     simp only [Option.getD_some] at this
     have hi : 2 * (i / 2) + 1 = i := by omega
     simp only [hi] at this
     exact this
theorem UH_back {s : List UInt8} (h : (UH s).2 = true) : s.length = 64 ∧ hexS (UH s).1 = s := by
 obtain ⟨hl, ha, he⟩ := UH_yes h
 refine ⟨hl, ?_⟩
 rw [he]
 refine hexS_at (uprt_length _ _) hl (fun j hj => ?_)
 have da : ∀ i (hi : i < s.length), dg s[i] < 16 := fun i hi => of_decide_eq_true (List.all_eq_true.1 ha _ (List.getElem_mem hi))
 have h1 := da (2 * j) (by omega)
 have h2 := da (2 * j + 1) (by omega)
 have g : (uprt s 64)[j]'(by rw [uprt_length]; exact hj) = UInt8.ofNat (16 * dg (s[2 * j]'(by omega)) + dg (s[2 * j + 1]'(by omega))) := by
  unfold uprt
  simp only [List.getElem_map, List.getElem_range]
  rw [if_pos (by omega), List.getD_eq_getElem?_getD, List.getElem?_eq_getElem (by omega), List.getD_eq_getElem?_getD, List.getElem?_eq_getElem (by omega)]
  rfl
 rw [g, UInt8.toNat_ofNat', show (16 * dg (s[2 * j]'(by omega)) + dg (s[2 * j + 1]'(by omega))) % 2 ^ 8 = 16 * dg (s[2 * j]'(by omega)) + dg (s[2 * j + 1]'(by omega)) by omega, show (16 * dg (s[2 * j]'(by omega)) + dg (s[2 * j + 1]'(by omega))) / 16 = dg (s[2 * j]'(by omega)) by omega, show (16 * dg (s[2 * j]'(by omega)) + dg (s[2 * j + 1]'(by omega))) % 16 = dg (s[2 * j + 1]'(by omega)) by omega, hx_dg h1, hx_dg h2]
 exact ⟨rfl, rfl⟩
def flat (l : List SigD) : List UInt8 := (l.map lineN).flatten
theorem flat_nil : flat [] = [] := rfl
theorem flat_cons (x : SigD) (l : List SigD) : flat (x :: l) = lineN x ++ flat l := by unfold flat; rw [List.map_cons, List.flatten_cons]
theorem flat_append (l m : List SigD) : flat (l ++ m) = flat l ++ flat m := by unfold flat; rw [List.map_append, List.flatten_append]
theorem lineN_app (x : SigD) (b : List UInt8) : lineN x ++ b = (x.1 ++ 32 :: hexS x.2) ++ 10 :: b := by unfold lineN; simp
def Cln (x : SigD) : Prop := (10 : UInt8) ∉ x.1 ∧ (32 : UInt8) ∉ x.1 ∧ x.2.length = 32
theorem nl_line {x : SigD} (h : (10 : UInt8) ∉ x.1) : (10 : UInt8) ∉ x.1 ++ 32 :: hexS x.2 := by
 intro m
 rcases List.mem_append.1 m with m | m
 · exact h m
 · rcases List.mem_cons.1 m with m | m
   · cases m
   · exact nl_hex _ m
theorem lineN_ct (x : SigD) (h : (10 : UInt8) ∉ x.1) (b : List UInt8) : ct 10 (lineN x ++ b) = (x.1 ++ 32 :: hexS x.2, b, true) := by
 rw [lineN_app]
 exact ct_append b (nl_line h)
theorem flat_nl {x : SigD} {l : List SigD} : (10 : UInt8) ∈ flat (x :: l) := by
 rw [flat_cons, lineN_app]; simp
theorem flat_ne {x : SigD} {l : List SigD} : flat (x :: l) ≠ [] := fun h => by
 have := flat_nl (x := x) (l := l)
 rw [h] at this
 cases this
theorem line_inj {x y : SigD} (hx : Cln x) (hy : Cln y) (e : x.1 ++ 32 :: hexS x.2 = y.1 ++ 32 :: hexS y.2) : x = y := by
 have h1 := ct_append (hexS x.2) hx.2.1
 rw [e, ct_append _ hy.2.1] at h1
 simp only [Prod.mk.injEq, and_true] at h1
 exact Prod.ext h1.1.symm (hexS_inj hx.2.2 hy.2.2 h1.2.symm)
theorem lines_pre : ∀ (l m : List SigD) (r : List UInt8), (∀ x, x ∈ l → Cln x) → (∀ x, x ∈ m → Cln x) → flat l ++ r = flat m → ∃ t, m = l ++ t ∧ r = flat t
 | [], m, r, _, _, e => ⟨m, rfl, e⟩
 | x :: l, [], r, _, _, e => by
  rw [flat_nil] at e
  exact absurd (List.append_eq_nil_iff.1 e).1 flat_ne
 | x :: l, y :: m, r, hl, hm, e => by
  rw [flat_cons, flat_cons, List.append_assoc] at e
  have h1 := lineN_ct x (hl x (List.mem_cons_self ..)).1 (flat l ++ r)
  rw [e, lineN_ct y (hm y (List.mem_cons_self ..)).1] at h1
  simp only [Prod.mk.injEq, and_true] at h1
  obtain rfl := line_inj (hm y (List.mem_cons_self ..)) (hl x (List.mem_cons_self ..)) h1.1
  obtain ⟨t, rfl, ht⟩ := lines_pre l m r (fun z hz => hl z (List.mem_cons_of_mem _ hz)) (fun z hz => hm z (List.mem_cons_of_mem _ hz)) h1.2.symm
  exact ⟨t, rfl, ht⟩
theorem flat_inj {l m : List SigD} (hl : ∀ x, x ∈ l → Cln x) (hm : ∀ x, x ∈ m → Cln x) (e : flat l = flat m) : l = m := by
 obtain ⟨t, rfl, ht⟩ := lines_pre l m [] hl hm (by rw [List.append_nil]; exact e)
 match t, ht with
 | [], _ => rw [List.append_nil]
 | x :: t, h => exact absurd h.symm flat_ne
theorem nmOk_cln {s : List UInt8} (h : nmOk s = true) : (10 : UInt8) ∉ s ∧ (32 : UInt8) ∉ s := by
 unfold nmOk at h
 simp only [Bool.and_eq_true, decide_eq_true_eq, List.all_eq_true] at h
 exact ⟨fun m => absurd (h.2 _ m).1 (by decide), fun m => absurd (h.2 _ m).1 (by decide)⟩
structure IsNote (s : List UInt8) (z : Int) (h : List UInt8) (l : List SigD) : Prop where
 text : s = told z.toNat h ++ flat l
 may : mayN z l = true
 hash : h.length = 32
 big : z < 9223372036854775808
 sums : ∀ x, x ∈ l → x.2.length = 32
theorem mayN_z {z : Int} {l : List SigD} (h : mayN z l = true) : 0 ≤ z ∧ l.length ≤ 64 ∧ rising [] l = true := by
 unfold mayN at h
 simp only [Bool.and_eq_true, decide_eq_true_eq] at h
 exact ⟨h.1.1, h.1.2, h.2⟩
theorem IsNote.cln {s : List UInt8} {z : Int} {h : List UInt8} {l : List SigD} (k : IsNote s z h l) : ∀ x, x ∈ l → Cln x := fun x hx => by
 have hn := nmOk_cln (rising_nm (mayN_z k.may).2.2 x hx)
 exact ⟨hn.1, hn.2, k.sums x hx⟩
theorem IsNote.ok {s : List UInt8} {z : Int} {h : List UInt8} {l : List SigD} (k : IsNote s z h l) : SgOk l := fun x hx => ⟨k.sums x hx, Nat.le_trans (nmOk_len (rising_nm (mayN_z k.may).2.2 x hx)) (by decide)⟩
theorem IsNote.pt {s : List UInt8} {z : Int} {h : List UInt8} {l : List SigD} (k : IsNote s z h l) : PT s = some (z.toNat, h, flat l) := by
 have hz := (mayN_z k.may).1
 have hb := k.big
 rw [k.text]
 exact PT_told (by omega) k.hash _
theorem IsNote.inj {s : List UInt8} {z z' : Int} {h h' : List UInt8} {l l' : List SigD} (k : IsNote s z h l) (k' : IsNote s z' h' l') : (z, h, l) = (z', h', l') := by
 have e := k.pt.symm.trans k'.pt
 simp only [Option.some.injEq, Prod.mk.injEq] at e
 have h1 := (mayN_z k.may).1
 have h2 := (mayN_z k'.may).1
 rw [show z = z' by omega, e.2.1, flat_inj k.cln k'.cln e.2.2]
open Classical in
noncomputable def noteP (s : List UInt8) : Option (Int × List UInt8 × List SigD) := if h : ∃ n : Int × List UInt8 × List SigD, IsNote s n.1 n.2.1 n.2.2 then some h.choose else none
theorem noteP_some {s : List UInt8} {z : Int} {h : List UInt8} {l : List SigD} (k : IsNote s z h l) : noteP s = some (z, h, l) := by
 have he : ∃ n : Int × List UInt8 × List SigD, IsNote s n.1 n.2.1 n.2.2 := ⟨(z, h, l), k⟩
 unfold noteP
 rw [dif_pos he]
 have := IsNote.inj he.choose_spec k
 exact congrArg some this
theorem noteP_none {s : List UInt8} (k : ∀ z h l, ¬ IsNote s z h l) : noteP s = none := by
 unfold noteP
 exact dif_neg (fun h => by obtain ⟨n, hn⟩ := h; exact k _ _ _ hn)
theorem noteP_is {s : List UInt8} {z : Int} {h : List UInt8} {l : List SigD} (e : noteP s = some (z, h, l)) : IsNote s z h l := by
 unfold noteP at e
 by_cases he : ∃ n : Int × List UInt8 × List SigD, IsNote s n.1 n.2.1 n.2.2
 · rw [dif_pos he] at e
   have h1 := he.choose_spec
   rw [Option.some.inj e] at h1
   exact h1
 · rw [dif_neg he] at e; cases e
theorem noteP_text {z : Int} {h : List UInt8} {l : List SigD} (hm : mayN z l = true) (hh : h.length = 32) (hb : z < 9223372036854775808) (hs : SgOk l) : noteP (textN z h l) = some (z, h, l) :=
 noteP_some ⟨by unfold textN flat; rw [hm]; rfl, hm, hh, hb, fun x hx => (hs x hx).1⟩
theorem IsNote.textN {s : List UInt8} {z : Int} {h : List UInt8} {l : List SigD} (k : IsNote s z h l) : textN z h l = s := by
 unfold Go.Proofs.YtapboamjpilckaaDoor.textN
 rw [k.may, if_pos rfl]
 exact k.text.symm
def lnB (r : List UInt8) : Bool := (ct 10 r).2.2 && (UH (ct 32 (ct 10 r).1).2.1).2
def lnS (r : List UInt8) : SigD := ((ct 32 (ct 10 r).1).1, (UH (ct 32 (ct 10 r).1).2.1).1)
theorem ct_in {c : UInt8} {l : List UInt8} (h : (ct c l).2.2 = true) : c ∈ l := by
 by_cases hm : c ∈ l
 · exact hm
 · rw [ct_no hm] at h; cases h
theorem lnB_form {r : List UInt8} (h : lnB r = true) : r = lineN (lnS r) ++ (ct 10 r).2.1 ∧ Cln (lnS r) := by
 unfold lnB at h
 simp only [Bool.and_eq_true] at h
 obtain ⟨h1, h2⟩ := h
 have m1 := ct_in h1
 have s1 := ct_split m1
 have e1 := ct_yes m1
 obtain ⟨hl, hb⟩ := UH_back h2
 have m2 : (32 : UInt8) ∈ (ct 10 r).1 := by
  by_cases hm : (32 : UInt8) ∈ (ct 10 r).1
  · exact hm
  · rw [ct_no hm] at hl; cases hl
 have e2 := ct_yes m2
 have s2 := ct_split m2
 have n1 : (10 : UInt8) ∉ (ct 10 r).1 := by rw [e1]; exact ct_before _
 refine ⟨?_, ?_, ?_, UH_len _⟩
 · rw [lineN_app]
   unfold lnS
   simp only
   rw [hb]
   have f1 : (ct 32 (ct 10 r).1).1 ++ 32 :: (ct 32 (ct 10 r).1).2.1 = (ct 10 r).1 := by rw [e2]; exact s2.symm
   rw [f1, e1]
   exact s1
 · unfold lnS
   simp only
   rw [e2]
   exact fun m => n1 (List.mem_of_mem_take m)
 · unfold lnS
   simp only
   rw [e2]
   exact ct_before _
theorem lnB_line {x : SigD} (h : Cln x) (b : List UInt8) : lnB (lineN x ++ b) = true ∧ lnS (lineN x ++ b) = x ∧ (ct 10 (lineN x ++ b)).2.1 = b := by
 unfold lnB lnS
 rw [lineN_ct x h.1]
 simp only
 rw [ct_append _ h.2.1]
 simp only
 rw [UH_hexS h.2.2]
 simp
theorem step_none {s : List UInt8} {z : Int} {h : List UInt8} {l : List SigD} {r : List UInt8} (hP : PT s = some (z.toNat, h, flat l ++ r)) (hc : ∀ x, x ∈ l → Cln x) (hr : r ≠ []) (hb : lnB r = false ∨ l.length = 64) : noteP s = none := by
 refine noteP_none (fun z' h' m k => ?_)
 have e := hP.symm.trans k.pt
 simp only [Option.some.injEq, Prod.mk.injEq] at e
 obtain ⟨t, rfl, ht⟩ := lines_pre l m r hc k.cln e.2.2
 match t, ht with
 | [], ht => exact hr ht
 | x :: t, ht =>
  rw [flat_cons] at ht
  rcases hb with hb | hb
  · rw [ht, (lnB_line (k.cln x (by simp)) _).1] at hb
    cases hb
  · have := (mayN_z k.may).2.1
    simp only [List.length_append, List.length_cons] at this
    omega
theorem end_none {s : List UInt8} {z : Int} {h : List UInt8} {l : List SigD} (hP : PT s = some (z.toNat, h, flat l)) (h0 : 0 ≤ z) (hc : ∀ x, x ∈ l → Cln x) (hm : mayN z l = false) : noteP s = none := by
 refine noteP_none (fun z' h' m k => ?_)
 have e := hP.symm.trans k.pt
 simp only [Option.some.injEq, Prod.mk.injEq] at e
 have h1 := (mayN_z k.may).1
 have hk := k.may
 rw [← flat_inj hc k.cln e.2.2, ← show z = z' by omega, hm] at hk
 cases hk
theorem pt_none {s : List UInt8} (hP : PT s = none) : noteP s = none :=
 noteP_none (fun z h l k => by rw [k.pt] at hP; cases hP)
def Far (s : List UInt8) (r0 : List UInt8) (l : List SigD) (f : Nat) : Prop := ∀ z h m, IsNote s z h m → ∃ t, m = l ++ t ∧ r0.drop f = flat t
theorem Far.start {s r0 h0 : List UInt8} {n0 : Nat} (hP : PT s = some (n0, h0, r0)) : Far s r0 [] 0 := fun z h m k => by
 have e := hP.symm.trans k.pt
 simp only [Option.some.injEq, Prod.mk.injEq] at e
 exact ⟨m, rfl, by rw [List.drop_zero]; exact e.2.2⟩
theorem drop_line {r0 : List UInt8} {f j : Nat} (hj : j < r0.length) (hf : f ≤ j) (hn : ∀ x, x ∈ (r0.take j).drop f → x ≠ 10) (h10 : r0[j] = 10) : r0.drop f = (r0.take j).drop f ++ 10 :: r0.drop (j + 1) := by
 have e : r0 = r0.take j ++ 10 :: r0.drop (j + 1) := by
  conv => lhs; rw [← List.take_append_drop j r0, List.drop_eq_getElem_cons hj, h10]
 conv => lhs; rw [e]
 rw [List.drop_append, List.length_take, show f - min j r0.length = 0 by omega, List.drop_zero]
theorem Far.step {s r0 : List UInt8} {l : List SigD} {f j : Nat} (F : Far s r0 l f) (hj : j < r0.length) (hf : f ≤ j) (hn : ∀ x, x ∈ (r0.take j).drop f → x ≠ 10) (h10 : r0[j] = 10) :
 (∀ p : Nat, p = ((r0.take j).drop f).idxOf 32 → (32 : UInt8) ∈ (r0.take j).drop f → Far s r0 (l ++ [(((r0.take j).drop f).take p, (UH (((r0.take j).drop f).drop (p + 1))).1)]) (j + 1)) ∧ ((32 : UInt8) ∉ (r0.take j).drop f → noteP s = none) := by
 have hd := drop_line hj hf hn h10
 have key : ∀ z h m, IsNote s z h m → ∃ y t, m = l ++ y :: t ∧ Cln y ∧ (r0.take j).drop f = y.1 ++ 32 :: hexS y.2 ∧ r0.drop (j + 1) = flat t := fun z h m k => by
  obtain ⟨t, rfl, ht⟩ := F z h m k
  rw [hd] at ht
  match t, ht with
  | [], ht => simp [flat_nil] at ht
  | y :: t, ht =>
   have hy := k.cln y (by simp)
   have h1 := ct_append (c := 10) (r0.drop (j + 1)) (fun m => hn 10 m rfl)
   rw [ht, flat_cons, lineN_ct y hy.1] at h1
   simp only [Prod.mk.injEq, and_true] at h1
   exact ⟨y, t, rfl, hy, h1.1.symm, h1.2.symm⟩
 constructor
 · rintro p rfl hm z h m k
   obtain ⟨y, t, rfl, hy, e1, e2⟩ := key z h m k
   refine ⟨t, ?_, e2⟩
   have h1 := ct_append (hexS y.2) hy.2.1
   rw [← e1, ct_yes hm] at h1
   simp only [Prod.mk.injEq, and_true] at h1
   rw [h1.1, h1.2, UH_hexS hy.2.2]
   simp
 · intro hm
   refine noteP_none (fun z h m k => ?_)
   obtain ⟨y, t, rfl, hy, e1, e2⟩ := key z h m k
   rw [e1] at hm
   exact hm (by simp)
theorem Far.done {s r0 h0 : List UInt8} {z : Int} {l : List SigD} {f : Nat} (F : Far s r0 l f) (h0z : 0 ≤ z) (hP : PT s = some (z.toNat, h0, r0)) (hend : l.length = 65 ∨ (10 : UInt8) ∉ r0.drop f) (hno : mayN z l = false ∨ told z.toNat h0 ++ flat l ≠ s) : noteP s = none := by
 refine noteP_none (fun z' h' m k => ?_)
 have e := hP.symm.trans k.pt
 simp only [Option.some.injEq, Prod.mk.injEq] at e
 have h1 := (mayN_z k.may).1
 obtain rfl : z = z' := by omega
 obtain rfl := e.2.1
 obtain ⟨t, rfl, ht⟩ := F _ _ _ k
 match t, ht with
 | [], ht =>
  have hm := k.may
  have hs := k.text
  rw [List.append_nil] at hm hs
  rcases hno with hno | hno
  · rw [hno] at hm; cases hm
  · exact hno hs.symm
 | x :: t, ht =>
  rcases hend with hend | hend
  · have := (mayN_z k.may).2.1
    simp only [List.length_append, List.length_cons] at this
    omega
  · rw [ht] at hend
    exact hend flat_nl
end
/- XInvG's rule, where a slot is read that the same region writes later (what waits for this step is not done yet); guards whose own operation was passed over. -/
section
section
variable {P : Program} {ops : Array Oper} {Q : Exit → Act → World → Prop}
def InvStepU (P : Program) (Q : Exit → Act → World → Prop) (PV : Nat → Value → World → Prop) (W0 : World) (a0 : Act) (fr : (Nat → Value) → Act) (ops : Array Oper) (o : Oper) (i : Nat) : Prop :=
 ∀ (vs : Nat → Value) (A : Act) (W : World), fr vs = A → Kp [] W0 W → (∀ j, waitsB .any o j = true → PV j (vs j) W) → (∀ (j : Nat) (oj : Oper), ops[j]? = some oj → waitsF .any ops oj i = true → vs j = slotOf a0 oj.dst) →
  ∀ K : Act → World → Prop, (∀ v W', Kp [] W W' → PV i v W' → K (A.put o.dst v) W') → wpOp P ops (Qn Q) i K A W
def InvStepsU (P : Program) (Q : Exit → Act → World → Prop) (PV : Nat → Value → World → Prop) (W0 : World) (a0 : Act) (fr : (Nat → Value) → Act) (ops : Array Oper) : List Oper → Nat → Prop
 | [], _ => True
 | o :: l, i => InvStepU P Q PV W0 a0 fr ops o i ∧ InvStepsU P Q PV W0 a0 fr ops l (i + 1)
theorem InvStepsU.at_ {PV : Nat → Value → World → Prop} {W0 : World} {a0 : Act} {fr : (Nat → Value) → Act} : ∀ {l : List Oper} {k : Nat}, InvStepsU P Q PV W0 a0 fr ops l k → ∀ {i o}, l[i]? = some o → InvStepU P Q PV W0 a0 fr ops o (k + i)
 | [], _, _, _, _, h => by simp at h
 | x :: l, k, hs, i, o, h => by
  rcases i with _ | i
  · obtain rfl : x = o := by simpa using h
    exact hs.1
  · have := hs.2.at_ (i := i) (o := o) (by simpa using h)
    rwa [show k + 1 + i = k + (i + 1) from by omega] at this
theorem inv_anyU {PV : Nat → Value → World → Prop} {W0 : World} {a0 : Act} {l : List Oper} (hst : ∀ i v W W', PV i v W → Kp [] W W' → PV i v W') (hap : apartB l = true) (hea : earlierG l 0 = true)
 (hs : InvStepsU P Q PV W0 a0 (fun vs => putAll vs l 0 a0) l.toArray l 0)
 (hend : ∀ vs W, Kp [] W0 W → (∀ i, i < l.length → PV i (vs i) W) → Q .normal (putAll vs l 0 a0) W) :
 ∀ (fuel : Nat) (listed : Array Bool) (vs : Nat → Value) (W : World), listed.size = l.length → (listed.toList.filter (fun b => !b)).length = fuel → Kp [] W0 W → (∀ i, listed.getD i false = true → PV i (vs i) W) → Closed .any l.toArray listed → (∀ (j : Nat) (oj : Oper), l[j]? = some oj → listed.getD j false = false → vs j = slotOf a0 oj.dst) →
  wpAny P .any l.toArray Q fuel listed (putAll vs l 0 a0) W := by
 have all_of : ∀ (listed : Array Bool), listed.size = l.length → Region.ready .any l.toArray listed = [] → ∀ i, i < l.length → listed.getD i false = true := by
  intro listed hsz hr i
  induction i using Nat.strongRecOn with
  | _ i ih =>
   intro hi
   cases hl : listed.getD i false with
   | true => rfl
   | false =>
    exfalso
    have hlt : i < listed.size := by omega
    have hmem : i ∈ Region.ready .any l.toArray listed := mem_ready.2 ⟨by simp [hlt] at hl ⊢; exact hl, l[i], by simp [hi], fun e he hb => by
     have := (earlierG_spec l 0 i l[i] hea (by simp [hi])) e he hb
     exact ih e.on (by omega) (by omega)⟩
    rw [hr] at hmem; cases hmem
 have hnil : ∀ (listed : Array Bool) vs W, listed.size = l.length → Kp [] W0 W → (∀ i, listed.getD i false = true → PV i (vs i) W) → Region.ready .any l.toArray listed = [] → Q .normal (putAll vs l 0 a0) W :=
  fun listed vs W hsz hk hp hr => hend vs W hk (fun i hi => hp i (all_of listed hsz hr i hi))
 intro fuel
 induction fuel with
 | zero =>
  intro listed vs W hsz hf hk hp hcl hv0
  have hr : Region.ready .any l.toArray listed = [] := by
   refine List.eq_nil_iff_forall_not_mem.2 fun i hi => ?_
   have h0 := (mem_ready.1 hi).1
   obtain ⟨_, o, ho, _⟩ := mem_ready.1 hi
   have hlt : i < listed.size := by
    have := (Array.getElem?_eq_some_iff.1 ho).1
    simp at this; omega
   have : listed[i] ∈ listed.toList.filter (fun b => !b) := by
    rw [List.mem_filter]
    simp [hlt] at h0
    refine ⟨by simp, by simp [h0]⟩
   rw [List.eq_nil_of_length_eq_zero hf] at this
   cases this
  exact ⟨hr, hnil listed vs W hsz hk hp hr⟩
 | succ fuel ih =>
  intro listed vs W hsz hf hk hp hcl hv0
  refine ⟨hnil listed vs W hsz hk hp, fun i hi => ?_⟩
  obtain ⟨h0, o, ho, hall⟩ := mem_ready.1 hi
  have hol : l[i]? = some o := by simpa using ho
  have hlt : i < listed.size := by
   have := (List.getElem?_eq_some_iff.1 hol).1
   omega
  refine wpOp_n ?_
  have hstep := hs.at_ hol
  rw [Nat.zero_add] at hstep
  refine hstep vs _ W rfl hk (fun j hj => by obtain ⟨e, he, hb, rfl⟩ := waitsB_spec hj; exact hp e.on (hall e he hb)) (fun j oj hj hw => hv0 j oj (by simpa using hj) (by
   cases hjl : listed.getD j false with
   | false => rfl
   | true =>
    have := waitsF_spec hw listed hcl (hcl j oj hj hjl)
    have hli : listed.getD i false = false := by simp [hlt] at h0 ⊢; exact h0
    rw [hli] at this
    cases this)) _ fun v W' hk' hv => ?_
  rw [putAll_upd vs i v l 0 a0 o hap (Nat.zero_le _) (by simpa using hol)]
  refine ih _ _ W' (by simpa using hsz) ?_ (hk.trans hk' (by simp)) (fun j hj => ?_) (hcl.add hi) (fun j oj hj hjl => ?_)
  · simp [hlt] at h0
    have h1 : listed.toList = listed.toList.take i ++ false :: listed.toList.drop (i + 1) := by
     rw [← h0]
     have := List.take_append_drop i listed.toList
     rw [List.drop_eq_getElem_cons (by simpa using hlt)] at this
     simpa using this.symm
    have h2 : (listed.setIfInBounds i true).toList = listed.toList.take i ++ true :: listed.toList.drop (i + 1) := by
     rw [Array.toList_setIfInBounds]
     conv => lhs; rw [h1]
     rw [List.set_append_right _ _ (by simp; omega)]
     simp [Nat.min_eq_left (Nat.le_of_lt hlt)]
    rw [h1] at hf
    rw [h2]
    simp only [List.filter_append, List.filter_cons, List.length_append] at hf ⊢
    simp at hf ⊢
    omega
  · by_cases e : i = j
    · subst e; simpa [upd] using hv
    · rw [getD_set_ne false e] at hj
      simp only [upd, show j ≠ i from fun h => e h.symm, if_false]
      exact hst j _ W W' (hp j hj) hk'
  · have hne : j ≠ i := by
     rintro rfl
     simp [hlt] at hjl
    rw [getD_set_ne false (fun h => hne h.symm)] at hjl
    simp only [upd, if_neg hne]
    exact hv0 j oj hj hjl
theorem wp_region_invU {id : Nat} {a : Act} {w : World} {l : List Oper} (PV : Nat → Value → World → Prop) (hm : P.follows .mixedOrders = true) (hap : apartB l = true) (hea : earlierG l 0 = true)
 (hst : ∀ i v W W', PV i v W → Kp [] W W' → PV i v W')
 (hs : InvStepsU P Q PV w.drew a (fun vs => putAll vs l 0 a) l.toArray l 0)
 (hend : ∀ vs W, Kp [] w.drew W → (∀ i, i < l.length → PV i (vs i) W) → Q .normal (putAll vs l 0 a) W) : (Code.region id l.toArray true).wp P Q a w := by
 refine wp_region_any hm ?_
 have h00 : ∀ i, (Array.replicate l.length false).getD i false = false := fun i => by
  simp [Array.getElem?_replicate]
  split <;> rfl
 have h := inv_anyU (P := P) (Q := Q) hst hap hea hs hend l.length (Array.replicate l.length false) (at0 a l) w.drew (by simp) (by simp) kR (fun i hi => by
  simp [Array.getElem?_replicate] at hi
  split at hi <;> simp at hi) (fun j oj _ hl => by rw [h00] at hl; cases hl) (fun j oj hj _ => by simp [at0, hj])
 rw [putAll_at a l 0 (at0 a l) (fun j o ho => by simp [at0, ho])] at h
 simpa using h
end
end
end Go.Proofs.YtapboamjpilckaaDoor
