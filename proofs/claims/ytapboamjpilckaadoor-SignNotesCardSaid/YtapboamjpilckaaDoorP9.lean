/- Several texts in one: SigBD, SigBE, InvU, SigBF. -/
import Derived.Test.YtapboamjpilckaaDoorP8
set_option maxRecDepth 100000
set_option maxHeartbeats 8000000
namespace Go.Proofs.YtapboamjpilckaaDoor
/- sum, Sum, Sign of the reference: their regions. -/
section
variable {Q : Exit → Act → World → Prop} {a : Act} {w : World}
open Go.RowKit
theorem rsm_r0 (w0 : World) (ca ck : Array Value) (L : List Res) (S : Held w0 w L) (hsz : a.tmps.size = 15) (o0 : Sl a 0 (.agg ca)) (o1 : Sl a 1 (.agg ck))
 (hend : ∀ a' W, Same a a' [2, 3, 4] → (∃ g2 g3 g4, Sl a' 2 (.pointer (some ⟨g2, 0, none⟩)) ∧ Sl a' 3 (.pointer (some ⟨g3, 0, none⟩)) ∧ Sl a' 4 (.pointer (some ⟨g4, 0, none⟩)) ∧ Held w0 W (blkR g4 25 (hashA (List.replicate 32 0)) :: blkR g3 42 ck :: blkR g2 33 ca :: L)) → Q .normal a' W) : (Code.region 0 (opsOf 0 Tryd.f53).toArray false).wp Tryd.prog Q a w := by
 refine wp_region_lit ?_
 (conv => arg 4; whnf)
 unfold Sl at o0 o1
 have S1 := Lib.hid (((S.newBlk 33 ca).newBlkN 42 ck (g := w.heap.size + 1) (by simp)).newBlkN 25 (hashA (List.replicate 32 0)) (g := w.heap.size + 2) (by simp))
 go_wp2_with fail
 try simp only [Act.put]
 exact hend _ _ sS (⟨w.heap.size, w.heap.size + 1, w.heap.size + 2, sP0, sP0, sP0, S1.out⟩)
theorem rsm_r1 (w0 : World) (n : Nat) (hn : n < 9223372036854775808) (h : List UInt8) (hh : h.length = 32) (nm : List UInt8) (Ak : Option Addr) (ck : Nat) (sec : List UInt8) (hnl : nm.length ≤ 64) (hsl : sec.length ≤ 256) (hva : ∀ V, Kp [] w0 V → Rd V 1 (.slice Ak sec.length ck) sec.length (bv sec)) (g2 g3 g4 : Nat) (L : List Res) (hsz : a.tmps.size = 15) (o2 : Sl a 2 (.pointer (some ⟨g2, 0, none⟩))) (o3 : Sl a 3 (.pointer (some ⟨g3, 0, none⟩))) (o4 : Sl a 4 (.pointer (some ⟨g4, 0, none⟩)))
 (S0 : Held w0 w (blkR g4 25 (hashA (List.replicate 32 0)) :: blkR g2 33 (ptA (n : Int) h) :: blkR g3 42 #[.string ⟨nm.toArray⟩, .slice Ak sec.length ck] :: L))
 (hend : ∀ (a' : Act) (vs : Nat → Value) (gs : Nat → Unit) (W : World), Same a a' [5, 6, 7, 8, 9, 10, 11, 12, 13, 14] → Held w0 W (rdR (vs 8) (nm ++ 10 :: told n h).length (bv (nm ++ 10 :: told n h)) :: blkR g4 25 (hashA (sumF (n : Int) h nm sec)) :: blkR g2 33 (ptA (n : Int) h) :: blkR g3 42 #[.string ⟨nm.toArray⟩, .slice Ak sec.length ck] :: L) → Q .normal a' W) : (Code.region 1 (opsOf 1 Tryd.f53).toArray true).wp Tryd.prog Q a w := by
 have hap : apartB (opsOf 1 Tryd.f53) = true := by kernel_rfl
 refine wp_region_sep (Γ := Unit) (l := (opsOf 1 Tryd.f53)) 4 [0, 1, 2, 3, 4, 5, 6, 7, 8, 9, 10, 12, 13, 14]
  (fun i vs gs => match i with | 0 => vs 0 = .pointer (some ⟨g3, 1, none⟩) | 1 => vs 1 = .slice Ak sec.length ck | 2 => vs 2 = .pointer (some ⟨g3, 0, none⟩) | 3 => vs 3 = .string ⟨(nm).toArray⟩ | 4 => vs 4 = .string ⟨(nm ++ [10]).toArray⟩ | 5 => vs 5 = .agg (ptA (n : Int) h) | 6 => vs 6 = .string ⟨(told n h).toArray⟩ | 7 => vs 7 = .string ⟨(nm ++ 10 :: told n h).toArray⟩ | 9 => vs 9 = .agg (hashA (sumF (n : Int) h nm sec)) | _ => True)
  (fun i vs gs => match i with | 8 => [rdR (vs 8) (nm ++ 10 :: told n h).length (bv (nm ++ 10 :: told n h))] | 10 => [blkR g4 25 (hashA (sumF (n : Int) h nm sec))] | 11 => [blkR g4 25 (hashA (List.replicate 32 0))] | 12 => [blkR g2 33 (ptA (n : Int) h)] | 13 => [blkR g3 42 #[.string ⟨nm.toArray⟩, .slice Ak sec.length ck]] | 14 => L | _ => [])
  (fun i => match i with | 10 => [11] | _ => []) (fun i => match i with | 1 => [13] | 3 => [13] | 5 => [12] | 9 => [8] | _ => []) S0 (by kernel_rfl) hap (by kernel_rfl) (by kernel_rfl) (fun i => match i with | 0 => [0] | 1 => [1] | 2 => [2] | 3 => [3] | 4 => [4] | 5 => [5] | 6 => [6] | 7 => [7] | 8 => [8] | 9 => [9] | _ => []) (by kernel_rfl) ?_ (by kernel_rfl) ?_ ?_ ?_
 · intro s vs vs' gs gs' h
   iterate 15 (rcases s with _ | s; · (first | exact ⟨rfl, id⟩ | (simp only [List.mem_cons, List.not_mem_nil, or_false, forall_eq] at h; simp [h])))
   exact ⟨rfl, id⟩
 · simp only [List.range, List.range.loop, List.flatMap_cons, List.flatMap_nil, List.append_nil]
   exact List.Perm.refl _
 · clear S0 hend
   refine ⟨?_, ?_, ?_, ?_, ?_, ?_, ?_, ?_, ?_, ?_, ?_, trivial⟩
   · intro vs gs A' W LF hA S hR hd hu K hK; replace hK := hK default; have e3 := sO 3 o3 hA hap hsz; clear hA o2 o3 o4; go_step; exact hK _ _ S rfl
   · intro vs gs A' W LF hA S hR hd hu K hK; replace hK := hK default; have e5 := sV 5 (hd 0 (by kernel_rfl)) hA hap hsz; clear hA o2 o3 o4
     have c0 : W.cell? ⟨g3, 1, none⟩ = some (.slice Ak sec.length ck) := by rw [(show Blk W g3 42 (#[.string ⟨nm.toArray⟩, .slice Ak sec.length ck]) from S.ok (blkR g3 42 (#[.string ⟨nm.toArray⟩, .slice Ak sec.length ck])) (hR 13 (List.mem_singleton.2 rfl) _ (List.mem_singleton.2 rfl))).cell]; rfl
     go_step; exact hK _ _ S rfl
   · intro vs gs A' W LF hA S hR hd hu K hK; replace hK := hK default; have e3 := sO 3 o3 hA hap hsz; clear hA o2 o3 o4; go_step; exact hK _ _ S rfl
   · intro vs gs A' W LF hA S hR hd hu K hK; replace hK := hK default; have e7 := sV 7 (hd 2 (by kernel_rfl)) hA hap hsz; clear hA o2 o3 o4
     have c0 : W.cell? ⟨g3, 0, none⟩ = some (.string ⟨(nm).toArray⟩) := by rw [(show Blk W g3 42 (#[.string ⟨nm.toArray⟩, .slice Ak sec.length ck]) from S.ok (blkR g3 42 (#[.string ⟨nm.toArray⟩, .slice Ak sec.length ck])) (hR 13 (List.mem_singleton.2 rfl) _ (List.mem_singleton.2 rfl))).cell]; rfl
     go_step; exact hK _ _ S rfl
   · intro vs gs A' W LF hA S hR hd hu K hK; replace hK := hK default; have e8 := sV 8 (hd 3 (by kernel_rfl)) hA hap hsz; clear hA o2 o3 o4
     have hsz2 : ¬ 9223372036854775807 < nm.length + 1 := by omega
     go_step
     exact hK _ _ S (congrArg Value.string ((str_add nm [10]).trans (congrArg (fun x : List UInt8 => ByteArray.mk x.toArray) (by simp))))
   · intro vs gs A' W LF hA S hR hd hu K hK; replace hK := hK default; have e2 := sO 2 o2 hA hap hsz; clear hA o2 o3 o4
     refine op_runs (v := .agg (ptA (n : Int) h)) (w' := W) (exec_load rfl (by simpa [Act.eval] using e2) (run_loadAt_agg W (⟨g2, 0, none⟩) 33 (ptA (n : Int) h).toList _ (Blk.agg (show Blk W g2 33 (ptA (n : Int) h) from S.ok (blkR g2 33 (ptA (n : Int) h)) (hR 12 (List.mem_singleton.2 rfl) _ (List.mem_singleton.2 rfl)))) Tryd.underlying33 rfl (by rw [Array.length_toList, ptA_size hh]; exact Tryd.infoPointP))) ?_
     exact hK _ _ S rfl
   · intro vs gs A' W LF hA S hR hd hu K hK; replace hK := hK default; have e10 := sV 10 (hd 5 (by kernel_rfl)) hA hap hsz; clear hA o2 o3 o4
     simp only at *
     go_step
     refine (rtold_any n hn h hh W).mono ?_
     rintro e w' ⟨rfl, k⟩
     exact hK _ _ (S.kp k) rfl
   · intro vs gs A' W LF hA S hR hd hu K hK; replace hK := hK default; have e9 := sV 9 (hd 4 (by kernel_rfl)) hA hap hsz; have e11 := sV 11 (hd 6 (by kernel_rfl)) hA hap hsz; clear hA o2 o3 o4
     have htl := told_le n hn h hh
     have hsz2 : ¬ 9223372036854775807 < nm.length + 1 + (told n h).length := by omega
     go_step
     exact hK _ _ S (congrArg Value.string ((str_add (nm ++ [10]) (told n h)).trans (congrArg (fun x : List UInt8 => ByteArray.mk x.toArray) (by simp))))
   · intro vs gs A' W LF hA S hR hd hu K hK; replace hK := hK default; have e12 := sV 12 (hd 7 (by kernel_rfl)) hA hap hsz; clear hA o2 o3 o4
     have htl := told_le n hn h hh
     obtain ⟨v, w', hrun, S'⟩ := conv_str W ⟨(nm ++ 10 :: told n h).toArray⟩ (by rw [str_size, List.length_append, List.length_cons]; omega)
     rw [str_size] at S'
     refine op_runs (v := v) (w' := w') ?_ (hK _ _ (S.new _ S'.k (S'.at_ (l1 := [])) (fun b hb => S'.base _ (List.mem_singleton.2 rfl) b hb)) trivial)
     have e12' : A'.eval (.tmp 12) = .string ⟨(nm ++ 10 :: told n h).toArray⟩ := by simpa [Act.eval] using e12
     simp [execOp, e12', hrun, Result.andThen]
   · intro vs gs A' W LF hA S hR hd hu K hK; replace hK := hK default; have e6 := sV 6 (hd 1 (by kernel_rfl)) hA hap hsz
     have e13 := sU 13 8 hA hap hsz
     clear hA o2 o3 o4; go_step
     have htl := told_le n hn h hh
     obtain ⟨Ax, cx, hx⟩ := rd_form (show Rd W 1 (vs 8) (nm ++ 10 :: told n h).length (bv (nm ++ 10 :: told n h)) from (S.ok (rdR (vs 8) (nm ++ 10 :: told n h).length (bv (nm ++ 10 :: told n h))) (hR 8 (List.mem_singleton.2 rfl) _ (List.mem_singleton.2 rfl))).1)
     have hsum : sumF (n : Int) h nm sec = macF sec (nm ++ 10 :: told n h) := by unfold sumF; rw [Int.toNat_natCast]; simp
     have hM := rmac_any w0 LF Ak ck sec (by omega) Ax cx (nm ++ 10 :: told n h) (by rw [List.length_append, List.length_cons]; omega) W S (fun V L' SV => hva V SV.k) (fun V L' SV => by rw [← hx]; exact (SV.ok (rdR (vs 8) (nm ++ 10 :: told n h).length (bv (nm ++ 10 :: told n h))) (List.mem_append_right _ (hR 8 (List.mem_singleton.2 rfl) _ (List.mem_singleton.2 rfl)))).1)
     rw [← hx] at hM
     refine hM.mono ?_
     rintro e w' ⟨rfl, S2⟩
     exact hK _ _ S2 (congrArg (fun x => Value.agg (hashA x)) hsum.symm)
   · intro vs gs A' W LF hA S hR hd hu K hK; replace hK := hK default; have e4 := sO 4 o4 hA hap hsz; have e14 := sV 14 (hd 9 (by kernel_rfl)) hA hap hsz; clear hA o2 o3 o4
     have S1 : Held w0 W (blkR g4 25 (hashA (List.replicate 32 0)) :: LF) := S
     refine op_store_blkS (.tmp 4) (.tmp 14) 25 rfl g4 (by simpa [Act.eval] using e4) (hashA (sumF (n : Int) h nm sec)) (by simpa [Act.eval] using e14) 25 (hashA (List.replicate 32 0)) S1 (by rw [hashA_size, sumF_length]; exact Tryd.infoHashP) (by rw [hashA_size, sumF_length] <;> rfl) (hashA_one _) ?_
     intro w' S2
     exact hK _ _ S2 trivial
 · intro vs gs W S hp
   have S : Held w0 W (rdR (vs 8) (nm ++ 10 :: told n h).length (bv (nm ++ 10 :: told n h)) :: blkR g4 25 (hashA (sumF (n : Int) h nm sec)) :: blkR g2 33 (ptA (n : Int) h) :: blkR g3 42 #[.string ⟨nm.toArray⟩, .slice Ak sec.length ck] :: L) := by simpa only [List.flatMap_cons, List.flatMap_nil, List.append_nil, List.nil_append, List.cons_append, List.append_assoc] using S
   rw [putAll_eq]
   exact hend _ vs gs W sQ  S
theorem rsu_r0 (w0 : World) (ca ck : Array Value) (L : List Res) (S : Held w0 w L) (hsz : a.tmps.size = 18) (o0 : Sl a 0 (.agg ca)) (o1 : Sl a 1 (.agg ck))
 (hend : ∀ a' W, Same a a' [2, 3, 4, 5] → Sl a' 5 (.int .i64 (0 : Int)) → (∃ g2 g3 g4, Sl a' 2 (.pointer (some ⟨g2, 0, none⟩)) ∧ Sl a' 3 (.pointer (some ⟨g3, 0, none⟩)) ∧ Sl a' 4 (.pointer (some ⟨g4, 0, none⟩)) ∧ Held w0 W (blkR g4 25 (hashA (List.replicate 32 0)) :: blkR g3 42 ck :: blkR g2 33 ca :: L)) → Q .normal a' W) : (Code.region 0 (opsOf 0 Tryd.f22).toArray false).wp Tryd.prog Q a w := by
 refine wp_region_lit ?_
 (conv => arg 4; whnf)
 unfold Sl at o0 o1
 have S1 := Lib.hid (((S.newBlk 33 ca).newBlkN 42 ck (g := w.heap.size + 1) (by simp)).newBlkN 25 (hashA (List.replicate 32 0)) (g := w.heap.size + 2) (by simp))
 go_wp2_with fail
 try simp only [Act.put]
 exact hend _ _ sS sP (⟨w.heap.size, w.heap.size + 1, w.heap.size + 2, sP0, sP0, sP0, S1.out⟩)
theorem rsu_r1N (z : Int) (hz : z < 0) (h : List UInt8) (nm : List UInt8) (Ak : Option Addr) (ck : Nat) (sec : List UInt8) (hnl : nm.length ≤ 9223372036854775807) (g2 g3 : Nat) (hb2 : Blk w g2 33 (ptA z h)) (hb3 : Blk w g3 42 #[.string ⟨nm.toArray⟩, .slice Ak sec.length ck]) (hsz : a.tmps.size = 18) (o2 : Sl a 2 (.pointer (some ⟨g2, 0, none⟩))) (o3 : Sl a 3 (.pointer (some ⟨g3, 0, none⟩)))
 (hend : ∀ a' W, Same a a' [6, 7, 8, 9, 10, 11, 12, 13] → Kp [] w W → Sl a' 13 (.bool true) → Q .normal a' W) : (Code.region 1 (opsOf 1 Tryd.f22).toArray false).wp Tryd.prog Q a w := by
 have hap : apartB (opsOf 1 Tryd.f22) = true := by kernel_rfl
 refine wp_region_invS (l := (opsOf 1 Tryd.f22)) (fun i v W => match i with | 0 => v = .pointer (some ⟨g2, 0, none⟩) | 1 => v = .int .i64 z | 2 => v = .bool true | 3 => v = .bool true | 7 => v = .bool true | _ => True) hap ?_ ?_ ?_
 · intro i v W W' h _
   iterate 8 (rcases i with _ | i; · exact h)
   exact h
 · refine ⟨?_, ?_, ?_, ?_, ?_, ?_, ?_, ?_, trivial⟩
   · intro vs A' W hA hW hd hu K hK; refine wpOp_free _ rfl rfl ?_; (conv => arg 2; whnf); have e2 := sO 2 o2 hA hap hsz; clear hA hd hu o2 o3; go_step; exact hK _ _ kR rfl
   · intro vs A' W hA hW hd hu K hK; refine wpOp_free _ rfl rfl ?_; (conv => arg 2; whnf); have e6 := sV 6 (hd 0 (by kernel_rfl)) hA hap hsz; clear hA hd hu o2 o3
     have c0 : W.cell? ⟨g2, 0, none⟩ = some (.int .i64 z) := by rw [(hb2.kp hW (by simp)).cell]; rfl
     go_step; exact hK _ _ kR rfl
   · intro vs A' W hA hW hd hu K hK; refine wpOp_free _ rfl rfl ?_; (conv => arg 2; whnf); have e7 := sV 7 (hd 1 (by kernel_rfl)) hA hap hsz; clear hA hd hu o2 o3
     have hzz : z < 0 := by omega
     go_step
     exact hK _ _ kR (by first | rfl | (refine congrArg Value.bool ?_; simp [hzz]; done) | (refine congrArg Value.bool ?_; simp; omega))
   · intro vs A' W hA hW hd hu K hK; refine wpOp_free _ rfl rfl ?_; (conv => arg 2; whnf); have e8 := sV 8 (hd 2 (by kernel_rfl)) hA hap hsz; clear hA hd hu o2 o3; go_step; exact hK _ _ kR rfl
   · intro vs A' W hA hW hd hu K hK; have e9 := sV 9 (hd 3 (by kernel_rfl)) hA hap hsz; refine wpOp_skip _ rfl 3 9 false rfl rfl e9 ?_; exact hK _ _ kR trivial
   · intro vs A' W hA hW hd hu K hK; have e9 := sV 9 (hd 3 (by kernel_rfl)) hA hap hsz; refine wpOp_skip _ rfl 3 9 false rfl rfl e9 ?_; exact hK _ _ kR trivial
   · intro vs A' W hA hW hd hu K hK; have e9 := sV 9 (hd 3 (by kernel_rfl)) hA hap hsz; refine wpOp_skip _ rfl 3 9 false rfl rfl e9 ?_; exact hK _ _ kR trivial
   · intro vs A' W hA hW hd hu K hK; refine wpOp_free _ rfl rfl ?_; (conv => arg 2; whnf); have e9 := sV 9 (hd 3 (by kernel_rfl)) hA hap hsz
     have e12 := sU 12 6 hA hap hsz
     clear hA hd hu o2 o3; go_step; exact hK _ _ kR rfl
 · intro vs W hW hp
   rw [putAll_eq]
   exact hend _ W sQ hW (sW (hp 7 sB))
theorem rsu_r1Y (z : Int) (hz : 0 ≤ z) (h : List UInt8) (nm : List UInt8) (Ak : Option Addr) (ck : Nat) (sec : List UInt8) (hnl : nm.length ≤ 9223372036854775807) (g2 g3 : Nat) (hb2 : Blk w g2 33 (ptA z h)) (hb3 : Blk w g3 42 #[.string ⟨nm.toArray⟩, .slice Ak sec.length ck]) (hsz : a.tmps.size = 18) (o2 : Sl a 2 (.pointer (some ⟨g2, 0, none⟩))) (o3 : Sl a 3 (.pointer (some ⟨g3, 0, none⟩)))
 (hend : ∀ a' W, Same a a' [6, 7, 8, 9, 10, 11, 12, 13] → Kp [] w W → Sl a' 13 (.bool (!keyOk nm sec)) → Q .normal a' W) : (Code.region 1 (opsOf 1 Tryd.f22).toArray false).wp Tryd.prog Q a w := by
 have hap : apartB (opsOf 1 Tryd.f22) = true := by kernel_rfl
 refine wp_region_invS (l := (opsOf 1 Tryd.f22)) (fun i v W => match i with | 0 => v = .pointer (some ⟨g2, 0, none⟩) | 1 => v = .int .i64 z | 2 => v = .bool false | 3 => v = .bool false | 4 => v = .agg #[.string ⟨nm.toArray⟩, .slice Ak sec.length ck] | 5 => v = .bool (keyOk nm sec) | 6 => v = .bool (!keyOk nm sec) | 7 => v = .bool (!keyOk nm sec) | _ => True) hap ?_ ?_ ?_
 · intro i v W W' h _
   iterate 8 (rcases i with _ | i; · exact h)
   exact h
 · refine ⟨?_, ?_, ?_, ?_, ?_, ?_, ?_, ?_, trivial⟩
   · intro vs A' W hA hW hd hu K hK; refine wpOp_free _ rfl rfl ?_; (conv => arg 2; whnf); have e2 := sO 2 o2 hA hap hsz; clear hA hd hu o2 o3; go_step; exact hK _ _ kR rfl
   · intro vs A' W hA hW hd hu K hK; refine wpOp_free _ rfl rfl ?_; (conv => arg 2; whnf); have e6 := sV 6 (hd 0 (by kernel_rfl)) hA hap hsz; clear hA hd hu o2 o3
     have c0 : W.cell? ⟨g2, 0, none⟩ = some (.int .i64 z) := by rw [(hb2.kp hW (by simp)).cell]; rfl
     go_step; exact hK _ _ kR rfl
   · intro vs A' W hA hW hd hu K hK; refine wpOp_free _ rfl rfl ?_; (conv => arg 2; whnf); have e7 := sV 7 (hd 1 (by kernel_rfl)) hA hap hsz; clear hA hd hu o2 o3
     have hzz : ¬ z < 0 := by omega
     go_step
     exact hK _ _ kR (by first | rfl | (refine congrArg Value.bool ?_; simp [hzz]; done) | (refine congrArg Value.bool ?_; simp; omega))
   · intro vs A' W hA hW hd hu K hK; refine wpOp_free _ rfl rfl ?_; (conv => arg 2; whnf); have e8 := sV 8 (hd 2 (by kernel_rfl)) hA hap hsz; clear hA hd hu o2 o3; go_step; exact hK _ _ kR rfl
   · intro vs A' W hA hW hd hu K hK; have e9 := sV 9 (hd 3 (by kernel_rfl)) hA hap hsz; refine wpOp_go _ rfl 3 9 false rfl rfl e9 ?_; (conv => arg 2; whnf); have e3 := sO 3 o3 hA hap hsz; clear hA hd hu o2 o3
     refine op_runs (v := .agg #[.string ⟨nm.toArray⟩, .slice Ak sec.length ck]) (w' := W) (exec_load rfl (by simpa [Act.eval] using e3) (run_loadAt_agg W (⟨g3, 0, none⟩) 42 (#[.string ⟨nm.toArray⟩, .slice Ak sec.length ck]).toList _ (Blk.agg (hb3.kp hW (by simp))) Tryd.underlying42 rfl (by exact Tryd.infoKeyP))) ?_
     exact hK _ _ kR rfl
   · intro vs A' W hA hW hd hu K hK; have e9 := sV 9 (hd 3 (by kernel_rfl)) hA hap hsz; refine wpOp_go _ rfl 3 9 false rfl rfl e9 ?_; (conv => arg 2; whnf); have e10 := sV 10 (hd 4 (by kernel_rfl)) hA hap hsz; clear hA hd hu o2 o3; go_step
     refine (rkey_any ⟨nm.toArray⟩ (by rw [str_size]; omega) Ak sec.length ck W).mono ?_
     rintro e w' ⟨rfl, k⟩
     exact hK _ _ k rfl
   · intro vs A' W hA hW hd hu K hK; have e9 := sV 9 (hd 3 (by kernel_rfl)) hA hap hsz; refine wpOp_go _ rfl 3 9 false rfl rfl e9 ?_; (conv => arg 2; whnf); have e11 := sV 11 (hd 5 (by kernel_rfl)) hA hap hsz; clear hA hd hu o2 o3; go_step; exact hK _ _ kR rfl
   · intro vs A' W hA hW hd hu K hK; refine wpOp_free _ rfl rfl ?_; (conv => arg 2; whnf); have e9 := sV 9 (hd 3 (by kernel_rfl)) hA hap hsz; have e12 := sV 12 (hd 6 (by kernel_rfl)) hA hap hsz; clear hA hd hu o2 o3; go_step; exact hK _ _ kR rfl
 · intro vs W hW hp
   rw [putAll_eq]
   exact hend _ W sQ hW (sW (hp 7 sB))
theorem rsu_r2 (w0 : World) (g4 : Nat) (L : List Res) (S : Held w0 w (blkR g4 25 (hashA (List.replicate 32 0)) :: L)) (hsz : a.tmps.size = 18) (o4 : Sl a 4 (.pointer (some ⟨g4, 0, none⟩)))
 (hend : ∀ a' W, Same a a' [14, 5] → Sl a' 5 (.int .i64 (2 : Int)) → (Held w0 W (blkR g4 25 (hashA (List.replicate 32 0)) :: L)) → Q .normal a' W) : (Code.region 2 (opsOf 2 Tryd.f22).toArray false).wp Tryd.prog Q a w := by
 refine wp_region_lit ?_
 (conv => arg 4; whnf)
 unfold Sl at o4
 have S := Lib.hid S
 have HB0 := Lib.hid Tryd.built_hashZ
 have hzz : Hid ((hashA (List.replicate 32 0)).size = 32) := Lib.hid rfl
 have hOz := Lib.hid (hashA_one (List.replicate 32 0))
 generalize (hashA (List.replicate 32 0)) = cz at *
 go_wp2_with (first | (refine wpList_buildC rfl 25 _ rfl [] (by simp [Act.eval, Act.put]) _ HB0.out ?_) | (refine wpList_store_blk rfl 25 (.tmp 4) (.tmp 14) rfl g4 (by simp [Act.eval, Act.put, hsz, o4]) cz (by simp [Act.eval, Act.put, hsz]) 25 _ (S.out.at_ (l1 := [])) (by rw [hzz.out]; exact Tryd.infoHashP) (by rw [hzz.out]) hOz.out ?_; intro w7 b7 k7; have S7 := Lib.hid (Held.setBlk (l1 := []) S.out b7 k7); clear b7 k7))
 try simp only [Act.put]
 exact hend _ _ sS sP (S7.out)
theorem rsu_r3 (w0 : World) (ca ck cn : Array Value) (hca : ca.size = 33) (hck : ck.size = 2) (hcn : cn.size = 32) (h1 : ∀ u, u ∈ cn.toList → u.oneCell' = true) (g2 g3 g4 : Nat) (L : List Res) (S : Held w0 w (blkR g4 25 (hashA (List.replicate 32 0)) :: blkR g3 42 ck :: blkR g2 33 ca :: L)) (HJ : Calls Tryd.prog 53 #[.agg ca, .agg ck] w fun r w' => r = .returned (.agg cn) ∧ Kp [] w w') (hsz : a.tmps.size = 18) (o2 : Sl a 2 (.pointer (some ⟨g2, 0, none⟩))) (o3 : Sl a 3 (.pointer (some ⟨g3, 0, none⟩))) (o4 : Sl a 4 (.pointer (some ⟨g4, 0, none⟩)))
 (hend : ∀ a' W, Same a a' [15, 16, 17, 5] → Sl a' 5 (.int .i64 (0 : Int)) → (Held w0 W (blkR g4 25 cn :: blkR g3 42 ck :: blkR g2 33 ca :: L)) → Q .normal a' W) : (Code.region 3 (opsOf 3 Tryd.f22).toArray false).wp Tryd.prog Q a w := by
 refine wp_region_lit ?_
 (conv => arg 4; whnf)
 unfold Sl at o2 o3 o4
 have S := Lib.hid S
 have HJ := Lib.hid HJ
 have hca := Lib.hid hca
 have hck := Lib.hid hck
 have hcn := Lib.hid hcn
 have HO := Lib.hid h1
 clear h1
 have hzz : Hid ((hashA (List.replicate 32 0)).size = 32) := Lib.hid rfl
 generalize (hashA (List.replicate 32 0)) = cz at *
 go_wp2_with (first
  | (refine wpList_load_blk rfl 33 (.tmp 2) rfl g2 (by simp [Act.eval, Act.put, hsz, o2]) 33 _ (S.out.at_ (l1 := [_, _])) _ Tryd.underlying33 rfl (by rw [hca.out]; exact Tryd.infoPointP) ?_)
  | (refine wpList_load_blk rfl 42 (.tmp 3) rfl g3 (by simp [Act.eval, Act.put, hsz, o3]) 42 _ (S.out.at_ (l1 := [_])) _ Tryd.underlying42 rfl (by rw [hck.out]; exact Tryd.infoKeyP) ?_))
 refine HJ.out.mono ?_
 rintro e w1 ⟨rfl, k1⟩
 have S1 := Lib.hid (S.out.kp k1)
 clear k1
 go_wp2_with (refine wpList_store_blk rfl 25 (.tmp 4) (.tmp 17) rfl g4 (by simp [Act.eval, Act.put, hsz, o4]) cn (by simp [Act.eval, Act.put, hsz]) 25 _ (S1.out.at_ (l1 := [])) (by rw [hcn.out]; exact Tryd.infoHashP) (by rw [hcn.out, hzz.out]) HO.out ?_; intro w7 b7 k7; have S7 := Lib.hid (Held.setBlk (l1 := []) S1.out b7 k7); clear b7 k7)
 try simp only [Act.put]
 exact hend _ _ sS sP (S7.out)
theorem rsi_r0 (w0 : World) (ca ck : Array Value) (L : List Res) (S : Held w0 w L) (hsz : a.tmps.size = 40) (o0 : Sl a 0 (.agg ca)) (o1 : Sl a 1 (.agg ck))
 (hend : ∀ a' W, Same a a' [2, 3, 4, 5] → Sl a' 5 (.int .i64 (0 : Int)) → (∃ g2 g3 g4, Sl a' 2 (.pointer (some ⟨g2, 0, none⟩)) ∧ Sl a' 3 (.pointer (some ⟨g3, 0, none⟩)) ∧ Sl a' 4 (.pointer (some ⟨g4, 0, none⟩)) ∧ Held w0 W (blkR g4 36 zeroN :: blkR g3 42 ck :: blkR g2 36 ca :: L)) → Q .normal a' W) : (Code.region 0 (opsOf 0 Tryd.f20).toArray false).wp Tryd.prog Q a w := by
 refine wp_region_lit ?_
 (conv => arg 4; whnf)
 unfold Sl at o0 o1
 have S1 := Lib.hid (((S.newBlk 36 ca).newBlkN 42 ck (g := w.heap.size + 1) (by simp)).newBlkN 36 zeroN (g := w.heap.size + 2) (by simp))
 go_wp2_with fail
 try simp only [Act.put]
 exact hend _ _ sS sP (⟨w.heap.size, w.heap.size + 1, w.heap.size + 2, sP0, sP0, sP0, S1.out⟩)
theorem rsi_r1N (z : Int) (hz : -9223372036854775808 ≤ z ∧ z ≤ 9223372036854775807) (h : List UInt8) (hh : h.length = 32) (A : Option Addr) (c : Nat) (l : List SigD) (hok : SgOk l) (hll : l.length ≤ 9223372036854775806) (hv : Rd w 33 (.slice A l.length c) l.length (sgsC l)) (nm : List UInt8) (Ak : Option Addr) (ck : Nat) (sec : List UInt8) (hnl : nm.length ≤ 9223372036854775807) (g2 g3 : Nat) (hb2 : Blk w g2 36 (ntA z h (.slice A l.length c))) (hb3 : Blk w g3 42 #[.string ⟨nm.toArray⟩, .slice Ak sec.length ck]) (hm : mayN z l = false) (hsz : a.tmps.size = 40) (o2 : Sl a 2 (.pointer (some ⟨g2, 0, none⟩))) (o3 : Sl a 3 (.pointer (some ⟨g3, 0, none⟩)))
 (hend : ∀ a' W, Same a a' [6, 7, 8, 9, 10, 11, 12, 13] → Kp [] w W → Sl a' 13 (.bool true) → Q .normal a' W) : (Code.region 1 (opsOf 1 Tryd.f20).toArray false).wp Tryd.prog Q a w := by
 have hap : apartB (opsOf 1 Tryd.f20) = true := by kernel_rfl
 refine wp_region_invS (l := (opsOf 1 Tryd.f20)) (fun i v W => match i with | 0 => v = .agg (ntA z h (.slice A l.length c)) | 1 => v = .bool false | 2 => v = .bool true | 3 => v = .bool true | 7 => v = .bool true | _ => True) hap ?_ ?_ ?_
 · intro i v W W' h _
   iterate 8 (rcases i with _ | i; · exact h)
   exact h
 · refine ⟨?_, ?_, ?_, ?_, ?_, ?_, ?_, ?_, trivial⟩
   · intro vs A' W hA hW hd hu K hK; refine wpOp_free _ rfl rfl ?_; (conv => arg 2; whnf); have e2 := sO 2 o2 hA hap hsz; clear hA hd hu o2 o3
     refine op_runs (v := .agg (ntA z h (.slice A l.length c))) (w' := W) (exec_load rfl (by simpa [Act.eval] using e2) (run_loadAt_agg W (⟨g2, 0, none⟩) 36 (ntA z h (.slice A l.length c)).toList _ (Blk.agg (hb2.kp hW (by simp))) Tryd.underlying36 rfl (by rw [Array.length_toList, ntA_size hh]; exact Tryd.infoNote))) ?_
     exact hK _ _ kR rfl
   · intro vs A' W hA hW hd hu K hK; refine wpOp_free _ rfl rfl ?_; (conv => arg 2; whnf); have e6 := sV 6 (hd 0 (by kernel_rfl)) hA hap hsz; clear hA hd hu o2 o3; go_step
     refine (rmay_any z hz h hh l hok (by omega) A c W (rd_old hv hW)).mono ?_
     rintro e w' ⟨rfl, k⟩
     exact hK _ _ k (congrArg Value.bool hm)
   · intro vs A' W hA hW hd hu K hK; refine wpOp_free _ rfl rfl ?_; (conv => arg 2; whnf); have e7 := sV 7 (hd 1 (by kernel_rfl)) hA hap hsz; clear hA hd hu o2 o3; go_step; exact hK _ _ kR rfl
   · intro vs A' W hA hW hd hu K hK; refine wpOp_free _ rfl rfl ?_; (conv => arg 2; whnf); have e8 := sV 8 (hd 2 (by kernel_rfl)) hA hap hsz; clear hA hd hu o2 o3; go_step; exact hK _ _ kR rfl
   · intro vs A' W hA hW hd hu K hK; have e9 := sV 9 (hd 3 (by kernel_rfl)) hA hap hsz; refine wpOp_skip _ rfl 3 9 false rfl rfl e9 ?_; exact hK _ _ kR trivial
   · intro vs A' W hA hW hd hu K hK; have e9 := sV 9 (hd 3 (by kernel_rfl)) hA hap hsz; refine wpOp_skip _ rfl 3 9 false rfl rfl e9 ?_; exact hK _ _ kR trivial
   · intro vs A' W hA hW hd hu K hK; have e9 := sV 9 (hd 3 (by kernel_rfl)) hA hap hsz; refine wpOp_skip _ rfl 3 9 false rfl rfl e9 ?_; exact hK _ _ kR trivial
   · intro vs A' W hA hW hd hu K hK; refine wpOp_free _ rfl rfl ?_; (conv => arg 2; whnf); have e9 := sV 9 (hd 3 (by kernel_rfl)) hA hap hsz
     have e12 := sU 12 6 hA hap hsz
     clear hA hd hu o2 o3; go_step; exact hK _ _ kR rfl
 · intro vs W hW hp
   rw [putAll_eq]
   exact hend _ W sQ hW (sW (hp 7 sB))
theorem rsi_r1Y (z : Int) (hz : -9223372036854775808 ≤ z ∧ z ≤ 9223372036854775807) (h : List UInt8) (hh : h.length = 32) (A : Option Addr) (c : Nat) (l : List SigD) (hok : SgOk l) (hll : l.length ≤ 9223372036854775806) (hv : Rd w 33 (.slice A l.length c) l.length (sgsC l)) (nm : List UInt8) (Ak : Option Addr) (ck : Nat) (sec : List UInt8) (hnl : nm.length ≤ 9223372036854775807) (g2 g3 : Nat) (hb2 : Blk w g2 36 (ntA z h (.slice A l.length c))) (hb3 : Blk w g3 42 #[.string ⟨nm.toArray⟩, .slice Ak sec.length ck]) (hm : mayN z l = true) (hsz : a.tmps.size = 40) (o2 : Sl a 2 (.pointer (some ⟨g2, 0, none⟩))) (o3 : Sl a 3 (.pointer (some ⟨g3, 0, none⟩)))
 (hend : ∀ a' W, Same a a' [6, 7, 8, 9, 10, 11, 12, 13] → Kp [] w W → Sl a' 13 (.bool (!keyOk nm sec)) → Q .normal a' W) : (Code.region 1 (opsOf 1 Tryd.f20).toArray false).wp Tryd.prog Q a w := by
 have hap : apartB (opsOf 1 Tryd.f20) = true := by kernel_rfl
 refine wp_region_invS (l := (opsOf 1 Tryd.f20)) (fun i v W => match i with | 0 => v = .agg (ntA z h (.slice A l.length c)) | 1 => v = .bool true | 2 => v = .bool false | 3 => v = .bool false | 4 => v = .agg #[.string ⟨nm.toArray⟩, .slice Ak sec.length ck] | 5 => v = .bool (keyOk nm sec) | 6 => v = .bool (!keyOk nm sec) | 7 => v = .bool (!keyOk nm sec) | _ => True) hap ?_ ?_ ?_
 · intro i v W W' h _
   iterate 8 (rcases i with _ | i; · exact h)
   exact h
 · refine ⟨?_, ?_, ?_, ?_, ?_, ?_, ?_, ?_, trivial⟩
   · intro vs A' W hA hW hd hu K hK; refine wpOp_free _ rfl rfl ?_; (conv => arg 2; whnf); have e2 := sO 2 o2 hA hap hsz; clear hA hd hu o2 o3
     refine op_runs (v := .agg (ntA z h (.slice A l.length c))) (w' := W) (exec_load rfl (by simpa [Act.eval] using e2) (run_loadAt_agg W (⟨g2, 0, none⟩) 36 (ntA z h (.slice A l.length c)).toList _ (Blk.agg (hb2.kp hW (by simp))) Tryd.underlying36 rfl (by rw [Array.length_toList, ntA_size hh]; exact Tryd.infoNote))) ?_
     exact hK _ _ kR rfl
   · intro vs A' W hA hW hd hu K hK; refine wpOp_free _ rfl rfl ?_; (conv => arg 2; whnf); have e6 := sV 6 (hd 0 (by kernel_rfl)) hA hap hsz; clear hA hd hu o2 o3; go_step
     refine (rmay_any z hz h hh l hok (by omega) A c W (rd_old hv hW)).mono ?_
     rintro e w' ⟨rfl, k⟩
     exact hK _ _ k (congrArg Value.bool hm)
   · intro vs A' W hA hW hd hu K hK; refine wpOp_free _ rfl rfl ?_; (conv => arg 2; whnf); have e7 := sV 7 (hd 1 (by kernel_rfl)) hA hap hsz; clear hA hd hu o2 o3; go_step; exact hK _ _ kR rfl
   · intro vs A' W hA hW hd hu K hK; refine wpOp_free _ rfl rfl ?_; (conv => arg 2; whnf); have e8 := sV 8 (hd 2 (by kernel_rfl)) hA hap hsz; clear hA hd hu o2 o3; go_step; exact hK _ _ kR rfl
   · intro vs A' W hA hW hd hu K hK; have e9 := sV 9 (hd 3 (by kernel_rfl)) hA hap hsz; refine wpOp_go _ rfl 3 9 false rfl rfl e9 ?_; (conv => arg 2; whnf); have e3 := sO 3 o3 hA hap hsz; clear hA hd hu o2 o3
     refine op_runs (v := .agg #[.string ⟨nm.toArray⟩, .slice Ak sec.length ck]) (w' := W) (exec_load rfl (by simpa [Act.eval] using e3) (run_loadAt_agg W (⟨g3, 0, none⟩) 42 (#[.string ⟨nm.toArray⟩, .slice Ak sec.length ck]).toList _ (Blk.agg (hb3.kp hW (by simp))) Tryd.underlying42 rfl (by exact Tryd.infoKeyP))) ?_
     exact hK _ _ kR rfl
   · intro vs A' W hA hW hd hu K hK; have e9 := sV 9 (hd 3 (by kernel_rfl)) hA hap hsz; refine wpOp_go _ rfl 3 9 false rfl rfl e9 ?_; (conv => arg 2; whnf); have e10 := sV 10 (hd 4 (by kernel_rfl)) hA hap hsz; clear hA hd hu o2 o3; go_step
     refine (rkey_any ⟨nm.toArray⟩ (by rw [str_size]; omega) Ak sec.length ck W).mono ?_
     rintro e w' ⟨rfl, k⟩
     exact hK _ _ k rfl
   · intro vs A' W hA hW hd hu K hK; have e9 := sV 9 (hd 3 (by kernel_rfl)) hA hap hsz; refine wpOp_go _ rfl 3 9 false rfl rfl e9 ?_; (conv => arg 2; whnf); have e11 := sV 11 (hd 5 (by kernel_rfl)) hA hap hsz; clear hA hd hu o2 o3; go_step; exact hK _ _ kR rfl
   · intro vs A' W hA hW hd hu K hK; refine wpOp_free _ rfl rfl ?_; (conv => arg 2; whnf); have e9 := sV 9 (hd 3 (by kernel_rfl)) hA hap hsz; have e12 := sV 12 (hd 6 (by kernel_rfl)) hA hap hsz; clear hA hd hu o2 o3; go_step; exact hK _ _ kR rfl
 · intro vs W hW hp
   rw [putAll_eq]
   exact hend _ W sQ hW (sW (hp 7 sB))
theorem rsi_r2 (w0 : World) (g4 : Nat) (L : List Res) (S : Held w0 w (blkR g4 36 zeroN :: L)) (hsz : a.tmps.size = 40) (o4 : Sl a 4 (.pointer (some ⟨g4, 0, none⟩)))
 (hend : ∀ a' W, Same a a' [14, 5] → Sl a' 5 (.int .i64 (2 : Int)) → (Held w0 W (blkR g4 36 zeroN :: L)) → Q .normal a' W) : (Code.region 2 (opsOf 2 Tryd.f20).toArray false).wp Tryd.prog Q a w := by
 refine wp_region_lit ?_
 (conv => arg 4; whnf)
 unfold Sl at o4
 have S := Lib.hid S
 have HB0 := Lib.hid Tryd.built_noteZ
 have hzz : Hid (zeroN.size = 34) := Lib.hid rfl
 have hOz : Hid (∀ u, u ∈ zeroN.toList → u.oneCell' = true) := Lib.hid (ntA_one (v := .slice none 0 0) rfl)
 generalize zeroN = cz at *
 go_wp2_with (first | (refine wpList_buildC rfl 36 _ rfl [] (by simp [Act.eval, Act.put]) _ HB0.out ?_) | (refine wpList_store_blk rfl 36 (.tmp 4) (.tmp 14) rfl g4 (by simp [Act.eval, Act.put, hsz, o4]) cz (by simp [Act.eval, Act.put, hsz]) 36 _ (S.out.at_ (l1 := [])) (by rw [hzz.out]; exact Tryd.infoNote) (by rw [hzz.out]) hOz.out ?_; intro w7 b7 k7; have S7 := Lib.hid (Held.setBlk (l1 := []) S.out b7 k7); clear b7 k7))
 try simp only [Act.put]
 exact hend _ _ sS sP (S7.out)
theorem rsi_r4 (w0 : World) (g4 : Nat) (L : List Res) (S : Held w0 w (blkR g4 36 zeroN :: L)) (hsz : a.tmps.size = 40) (o4 : Sl a 4 (.pointer (some ⟨g4, 0, none⟩)))
 (hend : ∀ a' W, Same a a' [21, 5] → Sl a' 5 (.int .i64 (8 : Int)) → (Held w0 W (blkR g4 36 zeroN :: L)) → Q .normal a' W) : (Code.region 4 (opsOf 4 Tryd.f20).toArray false).wp Tryd.prog Q a w := by
 refine wp_region_lit ?_
 (conv => arg 4; whnf)
 unfold Sl at o4
 have S := Lib.hid S
 have HB0 := Lib.hid Tryd.built_noteZ
 have hzz : Hid (zeroN.size = 34) := Lib.hid rfl
 have hOz : Hid (∀ u, u ∈ zeroN.toList → u.oneCell' = true) := Lib.hid (ntA_one (v := .slice none 0 0) rfl)
 generalize zeroN = cz at *
 go_wp2_with (first | (refine wpList_buildC rfl 36 _ rfl [] (by simp [Act.eval, Act.put]) _ HB0.out ?_) | (refine wpList_store_blk rfl 36 (.tmp 4) (.tmp 21) rfl g4 (by simp [Act.eval, Act.put, hsz, o4]) cz (by simp [Act.eval, Act.put, hsz]) 36 _ (S.out.at_ (l1 := [])) (by rw [hzz.out]; exact Tryd.infoNote) (by rw [hzz.out]) hOz.out ?_; intro w7 b7 k7; have S7 := Lib.hid (Held.setBlk (l1 := []) S.out b7 k7); clear b7 k7))
 try simp only [Act.put]
 exact hend _ _ sS sP (S7.out)
theorem rsi_r6 (w0 : World) (g4 : Nat) (L : List Res) (S : Held w0 w (blkR g4 36 zeroN :: L)) (hsz : a.tmps.size = 40) (o4 : Sl a 4 (.pointer (some ⟨g4, 0, none⟩)))
 (hend : ∀ a' W, Same a a' [26, 5] → Sl a' 5 (.int .i64 (380 : Int)) → (Held w0 W (blkR g4 36 zeroN :: L)) → Q .normal a' W) : (Code.region 6 (opsOf 6 Tryd.f20).toArray false).wp Tryd.prog Q a w := by
 refine wp_region_lit ?_
 (conv => arg 4; whnf)
 unfold Sl at o4
 have S := Lib.hid S
 have HB0 := Lib.hid Tryd.built_noteZ
 have hzz : Hid (zeroN.size = 34) := Lib.hid rfl
 have hOz : Hid (∀ u, u ∈ zeroN.toList → u.oneCell' = true) := Lib.hid (ntA_one (v := .slice none 0 0) rfl)
 generalize zeroN = cz at *
 go_wp2_with (first | (refine wpList_buildC rfl 36 _ rfl [] (by simp [Act.eval, Act.put]) _ HB0.out ?_) | (refine wpList_store_blk rfl 36 (.tmp 4) (.tmp 26) rfl g4 (by simp [Act.eval, Act.put, hsz, o4]) cz (by simp [Act.eval, Act.put, hsz]) 36 _ (S.out.at_ (l1 := [])) (by rw [hzz.out]; exact Tryd.infoNote) (by rw [hzz.out]) hOz.out ?_; intro w7 b7 k7; have S7 := Lib.hid (Held.setBlk (l1 := []) S.out b7 k7); clear b7 k7))
 try simp only [Act.put]
 exact hend _ _ sS sP (S7.out)
theorem rsi_r3 (z : Int) (hz : -9223372036854775808 ≤ z ∧ z ≤ 9223372036854775807) (h : List UInt8) (hh : h.length = 32) (A : Option Addr) (c : Nat) (l : List SigD) (hok : SgOk l) (hll : l.length ≤ 9223372036854775806) (hv : Rd w 33 (.slice A l.length c) l.length (sgsC l)) (nm : List UInt8) (Ak : Option Addr) (ck : Nat) (sec : List UInt8) (g2 g3 : Nat) (hb2 : Blk w g2 36 (ntA z h (.slice A l.length c))) (hb3 : Blk w g3 42 #[.string ⟨nm.toArray⟩, .slice Ak sec.length ck]) (hsz : a.tmps.size = 40) (o2 : Sl a 2 (.pointer (some ⟨g2, 0, none⟩))) (o3 : Sl a 3 (.pointer (some ⟨g3, 0, none⟩)))
 (hend : ∀ a' W, Same a a' [15, 16, 17, 18, 19, 20] → Kp [] w W → Sl a' 20 (.bool (decide (0 ≤ findN nm l))) → Q .normal a' W) : (Code.region 3 (opsOf 3 Tryd.f20).toArray false).wp Tryd.prog Q a w := by
 have hap : apartB (opsOf 3 Tryd.f20) = true := by kernel_rfl
 refine wp_region_invS (l := (opsOf 3 Tryd.f20)) (fun i v W => match i with | 0 => v = .pointer (some ⟨g2, 33, none⟩) | 1 => v = .slice A l.length c | 2 => v = .pointer (some ⟨g3, 0, none⟩) | 3 => v = .string ⟨(nm).toArray⟩ | 4 => v = .int .i64 (findN nm l) | 5 => v = .bool (decide (0 ≤ findN nm l)) | _ => True) hap ?_ ?_ ?_
 · intro i v W W' h _
   iterate 6 (rcases i with _ | i; · exact h)
   exact h
 · refine ⟨?_, ?_, ?_, ?_, ?_, ?_, trivial⟩
   · intro vs A' W hA hW hd hu K hK; refine wpOp_free _ rfl rfl ?_; (conv => arg 2; whnf); have e2 := sO 2 o2 hA hap hsz; clear hA hd hu o2 o3; go_step; exact hK _ _ kR rfl
   · intro vs A' W hA hW hd hu K hK; refine wpOp_free _ rfl rfl ?_; (conv => arg 2; whnf); have e15 := sV 15 (hd 0 (by kernel_rfl)) hA hap hsz; clear hA hd hu o2 o3
     have c0 : W.cell? ⟨g2, 33, none⟩ = some (.slice A l.length c) := by rw [(hb2.kp hW (by simp)).cell]; exact ntA_sigs hh
     go_step; exact hK _ _ kR rfl
   · intro vs A' W hA hW hd hu K hK; refine wpOp_free _ rfl rfl ?_; (conv => arg 2; whnf); have e3 := sO 3 o3 hA hap hsz; clear hA hd hu o2 o3; go_step; exact hK _ _ kR rfl
   · intro vs A' W hA hW hd hu K hK; refine wpOp_free _ rfl rfl ?_; (conv => arg 2; whnf); have e17 := sV 17 (hd 2 (by kernel_rfl)) hA hap hsz; clear hA hd hu o2 o3
     have c0 : W.cell? ⟨g3, 0, none⟩ = some (.string ⟨(nm).toArray⟩) := by rw [(hb3.kp hW (by simp)).cell]; rfl
     go_step; exact hK _ _ kR rfl
   · intro vs A' W hA hW hd hu K hK; refine wpOp_free _ rfl rfl ?_; (conv => arg 2; whnf); have e16 := sV 16 (hd 1 (by kernel_rfl)) hA hap hsz; have e18 := sV 18 (hd 3 (by kernel_rfl)) hA hap hsz; clear hA hd hu o2 o3; go_step
     refine (sfind_any A c l hok (by omega) ⟨nm.toArray⟩ W (rd_old hv hW)).mono ?_
     rintro e w' ⟨rfl, rfl⟩
     exact hK _ _ kR (show Value.int .i64 (findN (ByteArray.mk nm.toArray).toList l) = Value.int .i64 (findN nm l) from by rw [str_list])
   · intro vs A' W hA hW hd hu K hK; refine wpOp_free _ rfl rfl ?_; (conv => arg 2; whnf); have e19 := sV 19 (hd 4 (by kernel_rfl)) hA hap hsz; clear hA hd hu o2 o3; go_step
     exact hK _ _ kR (by first | rfl | (refine congrArg Value.bool ?_; simp))
 · intro vs W hW hp
   rw [putAll_eq]
   exact hend _ W sQ hW (sW (hp 5 sB))
theorem rsi_r5 (z : Int) (h : List UInt8) (hh : h.length = 32) (A : Option Addr) (n c g2 : Nat) (hb : Blk w g2 36 (ntA z h (.slice A n c))) (hsz : a.tmps.size = 40) (o2 : Sl a 2 (.pointer (some ⟨g2, 0, none⟩)))
 (hend : ∀ a', Same a a' [22, 23, 24, 25] → Sl a' 25 (.bool ((n : Int) == 64)) → Q .normal a' (w)) : (Code.region 5 (opsOf 5 Tryd.f20).toArray false).wp Tryd.prog Q a w := by
 refine wp_region_lit ?_
 (conv => arg 4; whnf)
 unfold Sl at o2
 have c33 : w.cell? ⟨g2, 33, none⟩ = some (.slice A n c) := by rw [hb.cell]; exact ntA_sigs hh
 go_wp2_with fail
 try simp only [Act.put]
 exact hend _ sS sP
theorem rsi_r7 (w0 : World) (z : Int) (h : List UInt8) (hh : h.length = 32) (A : Option Addr) (c : Nat) (l : List SigD) (hok : SgOk l) (hll : l.length ≤ 64) (hva : ∀ V, Kp [] w0 V → Rd V 33 (.slice A l.length c) l.length (sgsC l)) (nm : List UInt8) (Ak : Option Addr) (ck : Nat) (sec : List UInt8) (HJ : ∀ V, Kp [] w0 V → Calls Tryd.prog 53 #[.agg (ptA z h), .agg #[.string ⟨nm.toArray⟩, .slice Ak sec.length ck]] V fun r w' => r = .returned (.agg (hashA (sumF z h nm sec))) ∧ Kp [] V w') (g2 g3 g4 : Nat) (L : List Res) (hsz : a.tmps.size = 40) (o2 : Sl a 2 (.pointer (some ⟨g2, 0, none⟩))) (o3 : Sl a 3 (.pointer (some ⟨g3, 0, none⟩))) (o4 : Sl a 4 (.pointer (some ⟨g4, 0, none⟩)))
 (S0 : Held w0 w (blkR g4 36 zeroN :: blkR g2 36 (ntA z h (.slice A l.length c)) :: blkR g3 42 #[.string ⟨nm.toArray⟩, .slice Ak sec.length ck] :: L))
 (hend : ∀ (a' : Act) (vs : Nat → Value) (gs : Nat → Unit) (W : World), Same a a' [27, 28, 29, 30, 31, 32, 33, 34, 35, 36, 37, 38, 39, 5] → Sl a' 5 (.int .i64 (0 : Int)) → Held w0 W (rowR 81 33 (vs 11) (l.length + 1) (sgsC (insN l (nm, sumF z h nm sec))) :: blkR g4 36 (ntA z h (vs 11)) :: blkR g2 36 (ntA z h (.slice A l.length c)) :: blkR g3 42 #[.string ⟨nm.toArray⟩, .slice Ak sec.length ck] :: L) → Q .normal a' W) : (Code.region 7 (opsOf 7 Tryd.f20).toArray true).wp Tryd.prog Q a w := by
 have hap : apartB (opsOf 7 Tryd.f20) = true := by kernel_rfl
 refine wp_region_sep (Γ := Unit) (l := (opsOf 7 Tryd.f20)) 4 [0, 1, 2, 3, 4, 5, 6, 7, 8, 9, 10, 11, 12, 13, 14, 16, 17, 18]
  (fun i vs gs => match i with | 0 => vs 0 = .pointer (some ⟨g2, 0, none⟩) | 1 => vs 1 = .agg (ptA z h) | 2 => vs 2 = .pointer (some ⟨g2, 33, none⟩) | 3 => vs 3 = .slice A l.length c | 4 => vs 4 = .pointer (some ⟨g3, 0, none⟩) | 5 => vs 5 = .string ⟨(nm).toArray⟩ | 6 => vs 6 = .pointer (some ⟨g2, 0, none⟩) | 7 => vs 7 = .agg (ptA z h) | 8 => vs 8 = .agg #[.string ⟨nm.toArray⟩, .slice Ak sec.length ck] | 9 => vs 9 = .agg (hashA (sumF z h nm sec)) | 10 => vs 10 = .agg (sgA (nm, sumF z h nm sec)) | 12 => vs 12 = .agg (ntA z h (vs 11)) | 14 => vs 14 = .int .i64 (0 : Int) | _ => True)
  (fun i vs gs => match i with | 11 => [rowR 81 33 (vs 11) (l.length + 1) (sgsC (insN l (nm, sumF z h nm sec)))] | 13 => [blkR g4 36 (ntA z h (vs 11))] | 15 => [blkR g4 36 zeroN] | 16 => [blkR g2 36 (ntA z h (.slice A l.length c))] | 17 => [blkR g3 42 #[.string ⟨nm.toArray⟩, .slice Ak sec.length ck]] | 18 => L | _ => [])
  (fun i => match i with | 13 => [15] | _ => []) (fun i => match i with | 1 => [16] | 3 => [16] | 5 => [17] | 7 => [16] | 8 => [17] | 12 => [11] | 13 => [11] | _ => []) S0 (by kernel_rfl) hap (by kernel_rfl) (by kernel_rfl) (fun i => match i with | 0 => [0] | 1 => [1] | 2 => [2] | 3 => [3] | 4 => [4] | 5 => [5] | 6 => [6] | 7 => [7] | 8 => [8] | 9 => [9] | 10 => [10] | 11 => [11] | 12 => [11, 12] | 13 => [11] | 14 => [14] | _ => []) (by kernel_rfl) ?_ (by kernel_rfl) ?_ ?_ ?_
 · intro s vs vs' gs gs' h
   iterate 19 (rcases s with _ | s; · (first | exact ⟨rfl, id⟩ | (simp only [List.mem_cons, List.not_mem_nil, or_false, forall_eq_or_imp, forall_eq] at h; simp [h])))
   exact ⟨rfl, id⟩
 · simp only [List.range, List.range.loop, List.flatMap_cons, List.flatMap_nil, List.append_nil]
   exact List.Perm.refl _
 · clear S0 hend
   refine ⟨?_, ?_, ?_, ?_, ?_, ?_, ?_, ?_, ?_, ?_, ?_, ?_, ?_, ?_, ?_, trivial⟩
   · intro vs gs A' W LF hA S hR hd hu K hK; replace hK := hK default; have e2 := sO 2 o2 hA hap hsz; clear hA o2 o3 o4; go_step; exact hK _ _ S rfl
   · intro vs gs A' W LF hA S hR hd hu K hK; replace hK := hK default; have e27 := sV 27 (hd 0 (by kernel_rfl)) hA hap hsz; clear hA o2 o3 o4
     refine op_runs (v := .agg (ptA z h)) (w' := W) (exec_load rfl (by simpa [Act.eval] using e27) (run_loadAt_agg W (⟨g2, 0, none⟩) 33 (ptA z h).toList _ (nt_pointAt (show Blk W g2 36 (ntA z h (.slice A l.length c)) from S.ok (blkR g2 36 (ntA z h (.slice A l.length c))) (hR 16 (List.mem_singleton.2 rfl) _ (List.mem_singleton.2 rfl)))) Tryd.underlying33 rfl (by rw [Array.length_toList, ptA_size hh]; exact Tryd.infoPointP))) ?_
     exact hK _ _ S rfl
   · intro vs gs A' W LF hA S hR hd hu K hK; replace hK := hK default; have e2 := sO 2 o2 hA hap hsz; clear hA o2 o3 o4; go_step; exact hK _ _ S rfl
   · intro vs gs A' W LF hA S hR hd hu K hK; replace hK := hK default; have e29 := sV 29 (hd 2 (by kernel_rfl)) hA hap hsz; clear hA o2 o3 o4
     have c33 : W.cell? ⟨g2, 33, none⟩ = some (.slice A l.length c) := by rw [(show Blk W g2 36 (ntA z h (.slice A l.length c)) from S.ok (blkR g2 36 (ntA z h (.slice A l.length c))) (hR 16 (List.mem_singleton.2 rfl) _ (List.mem_singleton.2 rfl))).cell]; exact ntA_sigs hh
     go_step; exact hK _ _ S rfl
   · intro vs gs A' W LF hA S hR hd hu K hK; replace hK := hK default; have e3 := sO 3 o3 hA hap hsz; clear hA o2 o3 o4; go_step; exact hK _ _ S rfl
   · intro vs gs A' W LF hA S hR hd hu K hK; replace hK := hK default; have e31 := sV 31 (hd 4 (by kernel_rfl)) hA hap hsz; clear hA o2 o3 o4
     have c0 : W.cell? ⟨g3, 0, none⟩ = some (.string ⟨(nm).toArray⟩) := by rw [(show Blk W g3 42 (#[.string ⟨nm.toArray⟩, .slice Ak sec.length ck]) from S.ok (blkR g3 42 (#[.string ⟨nm.toArray⟩, .slice Ak sec.length ck])) (hR 17 (List.mem_singleton.2 rfl) _ (List.mem_singleton.2 rfl))).cell]; rfl
     go_step; exact hK _ _ S rfl
   · intro vs gs A' W LF hA S hR hd hu K hK; replace hK := hK default; have e2 := sO 2 o2 hA hap hsz; clear hA o2 o3 o4; go_step; exact hK _ _ S rfl
   · intro vs gs A' W LF hA S hR hd hu K hK; replace hK := hK default; have e33 := sV 33 (hd 6 (by kernel_rfl)) hA hap hsz; clear hA o2 o3 o4
     refine op_runs (v := .agg (ptA z h)) (w' := W) (exec_load rfl (by simpa [Act.eval] using e33) (run_loadAt_agg W (⟨g2, 0, none⟩) 33 (ptA z h).toList _ (nt_pointAt (show Blk W g2 36 (ntA z h (.slice A l.length c)) from S.ok (blkR g2 36 (ntA z h (.slice A l.length c))) (hR 16 (List.mem_singleton.2 rfl) _ (List.mem_singleton.2 rfl)))) Tryd.underlying33 rfl (by rw [Array.length_toList, ptA_size hh]; exact Tryd.infoPointP))) ?_
     exact hK _ _ S rfl
   · intro vs gs A' W LF hA S hR hd hu K hK; replace hK := hK default; have e3 := sO 3 o3 hA hap hsz; clear hA o2 o3 o4
     refine op_runs (v := .agg (#[.string ⟨nm.toArray⟩, .slice Ak sec.length ck])) (w' := W) (exec_load rfl (by simpa [Act.eval] using e3) (run_loadAt_agg W (⟨g3, 0, none⟩) 42 (#[.string ⟨nm.toArray⟩, .slice Ak sec.length ck]).toList _ (Blk.agg (show Blk W g3 42 (#[.string ⟨nm.toArray⟩, .slice Ak sec.length ck]) from S.ok (blkR g3 42 (#[.string ⟨nm.toArray⟩, .slice Ak sec.length ck])) (hR 17 (List.mem_singleton.2 rfl) _ (List.mem_singleton.2 rfl)))) Tryd.underlying42 rfl (by exact Tryd.infoKeyP))) ?_
     exact hK _ _ S rfl
   · intro vs gs A' W LF hA S hR hd hu K hK; replace hK := hK default; have e34 := sV 34 (hd 7 (by kernel_rfl)) hA hap hsz; have e35 := sV 35 (hd 8 (by kernel_rfl)) hA hap hsz; clear hA o2 o3 o4; go_step
     refine (HJ _ S.k).mono ?_
     rintro e w' ⟨rfl, k⟩
     exact hK _ _ (S.kp k) rfl
   · intro vs gs A' W LF hA S hR hd hu K hK; replace hK := hK default; have e32 := sV 32 (hd 5 (by kernel_rfl)) hA hap hsz; have e36 := sV 36 (hd 9 (by kernel_rfl)) hA hap hsz; clear hA o2 o3 o4
     refine op_build 81 _ rfl [(0, strV nm), (1, .agg (hashA (sumF z h nm sec)))] (by simp [Act.eval, e32, e36, strV]) _ (Tryd.built_sig (nm, sumF z h nm sec) (sumF_length ..)) ?_
     exact hK _ _ S rfl
   · intro vs gs A' W LF hA S hR hd hu K hK; replace hK := hK default; have e30 := sV 30 (hd 3 (by kernel_rfl)) hA hap hsz; have e37 := sV 37 (hd 10 (by kernel_rfl)) hA hap hsz; clear hA o2 o3 o4; go_step
     refine (slay_any A c l hok (by omega) (nm, sumF z h nm sec) (sumF_length ..) W (hva _ S.k)).mono ?_
     rintro e w' ⟨v, rfl, H⟩
     exact hK v w' ((S.join H).perm (List.perm_append_singleton _ _)) trivial
   · intro vs gs A' W LF hA S hR hd hu K hK; replace hK := hK default; have e28 := sV 28 (hd 1 (by kernel_rfl)) hA hap hsz
     have e38 := sU 38 11 hA hap hsz
     clear hA o2 o3 o4
     obtain ⟨Av, cv, hv4, -, -⟩ := ow_form (show Ow W 81 33 (vs 11) (l.length + 1) (sgsC (insN l (nm, sumF z h nm sec))) from S.ok (rowR 81 33 (vs 11) (l.length + 1) (sgsC (insN l (nm, sumF z h nm sec)))) (hR 11 (List.mem_singleton.2 rfl) _ (List.mem_singleton.2 rfl)))
     rw [hv4] at e38
     refine op_build 36 _ rfl [(0, .agg (ptA z h)), (1, .slice Av (l.length + 1) cv)] (by simp [Act.eval, e28, e38]) _ (Tryd.built_note2 z h hh Av (l.length + 1) cv) ?_
     rw [← hv4]
     exact hK _ _ S rfl
   · intro vs gs A' W LF hA S hR hd hu K hK; replace hK := hK default; have e4 := sO 4 o4 hA hap hsz; have e39 := sV 39 (hd 12 (by kernel_rfl)) hA hap hsz; clear hA o2 o3 o4
     have S1 : Held w0 W (blkR g4 36 zeroN :: LF) := S
     obtain ⟨Av, cv, hv4, -, -⟩ := ow_form (show Ow W 81 33 (vs 11) (l.length + 1) (sgsC (insN l (nm, sumF z h nm sec))) from S.ok (rowR 81 33 (vs 11) (l.length + 1) (sgsC (insN l (nm, sumF z h nm sec)))) (List.mem_cons_of_mem _ (hR 11 (List.mem_singleton.2 rfl) _ (List.mem_singleton.2 rfl))))
     refine op_store_blkS (.tmp 4) (.tmp 39) 36 rfl g4 (by simpa [Act.eval] using e4) (ntA z h (vs 11)) (by simpa [Act.eval] using e39) 36 zeroN S1 (by rw [ntA_size hh]; exact Tryd.infoNote) (by rw [ntA_size hh] <;> rfl) (ntA_one (by rw [hv4]; rfl)) ?_
     intro w' S2
     exact hK _ _ S2 trivial
   · intro vs gs A' W LF hA S hR hd hu K hK; replace hK := hK default; clear hA o2 o3 o4; go_step; exact hK _ _ S rfl
 · intro vs gs W S hp
   have S : Held w0 W (rowR 81 33 (vs 11) (l.length + 1) (sgsC (insN l (nm, sumF z h nm sec))) :: blkR g4 36 (ntA z h (vs 11)) :: blkR g2 36 (ntA z h (.slice A l.length c)) :: blkR g3 42 #[.string ⟨nm.toArray⟩, .slice Ak sec.length ck] :: L) := by simpa only [List.flatMap_cons, List.flatMap_nil, List.append_nil, List.nil_append, List.cons_append, List.append_assoc] using S
   rw [putAll_eq]
   exact hend _ vs gs W sQ (sW (hp 14 sB)) S
end
/- sum, Sum, Sign of the reference. -/
section
open Go.RowKit
theorem find_has {nm : List UInt8} {l : List SigD} (hr : rising [] l = true) : (0 ≤ findN nm l) ↔ hasN nm l = true := by
 rw [hasN_lk hr]
 cases e : lk nm l with
 | none =>
  rw [show findN nm l = -1 from findK_none e]
  simp
 | some v =>
  obtain ⟨p, hp, -⟩ := findK_some (k := 0) e
  rw [show findN nm l = ((0 + p : Nat) : Int) from hp]
  simp
theorem rnsum_any (n : Nat) (hn : n < 9223372036854775808) (h : List UInt8) (hh : h.length = 32) (nm : List UInt8) (hnl : nm.length ≤ 64) (Ak : Option Addr) (ck : Nat) (sec : List UInt8) (hsl : sec.length ≤ 256) (w : World) (hk : Rd w 1 (.slice Ak sec.length ck) sec.length (bv sec)) :
 Calls Tryd.prog 53 #[.agg (ptA (n : Int) h), .agg #[.string ⟨nm.toArray⟩, .slice Ak sec.length ck]] w fun r w' => r = .returned (.agg (hashA (sumF (n : Int) h nm sec))) ∧ Kp [] w w' := by
 refine calls_fr Tryd.func53 rfl 15 rfl (fun a0 hsz hdf hAr => ?_)
 have hz0 : a0.tmps.size = 15 := hsz
 have D := hdf
 have o0 := hAr 0 _ rfl
 have o1 := hAr 1 _ rfl
 refine wp_seq (rsm_r0 w _ _ [] (Held.start w) hz0 o0 o1 (fun a1 w1 hs1 h1 => ?_))
 have hz1 := hs1.size.trans hz0; have o0 := hs1.k o0; have o1 := hs1.k o1; have D := hs1.defers.trans D
 obtain ⟨g2, g3, g4, o2, o3, o4, S⟩ := h1
 have S := (S.pull 2 rfl).pull 1 rfl
 refine wp_seq (rsm_r1 w n hn h hh nm Ak ck sec hnl hsl (fun V kV => rd_old hk kV) g2 g3 g4 _ hz1 o2 o3 o4 S (fun a2 vs gs w2 hs2 S => ?_))
 have hz2 := hs2.size.trans hz1; have o2 := hs2.k o2; have o3 := hs2.k o3; have o4 := hs2.k o4; have D := hs2.defers.trans D
 refine wp_ret ?_
 exact (bodyPost_ret (results_cell1 (by rfl) (o4.eval (by rw [hz2]; decide)) (S.at_ (l1 := [_])) Tryd.underlying25 rfl (by rw [hashA_size, sumF_length]; exact Tryd.infoHashP)) D ⟨rfl, S.k⟩)
theorem sum_call (z : Int) (hz : -9223372036854775808 ≤ z ∧ z ≤ 9223372036854775807) (h : List UInt8) (hh : h.length = 32) (nm : List UInt8) (hnl : nm.length ≤ 9223372036854775807) (Ak : Option Addr) (ck : Nat) (sec : List UInt8) (w : World) (hk : Rd w 1 (.slice Ak sec.length ck) sec.length (bv sec)) (hok : sumOk z nm sec = true) :
 Calls Tryd.prog 53 #[.agg (ptA z h), .agg #[.string ⟨nm.toArray⟩, .slice Ak sec.length ck]] w fun r w' => r = .returned (.agg (hashA (sumF z h nm sec))) ∧ Kp [] w w' := by
 unfold sumOk keyOk at hok
 simp only [Bool.and_eq_true, decide_eq_true_eq] at hok
 obtain ⟨n, rfl⟩ := Int.eq_ofNat_of_zero_le hok.1
 exact rnsum_any n (by omega) h hh nm (nmOk_len hok.2.1.1) Ak ck sec hok.2.2 w hk
theorem rsu_any (z : Int) (hz : -9223372036854775808 ≤ z ∧ z ≤ 9223372036854775807) (h : List UInt8) (hh : h.length = 32) (nm : List UInt8) (hnl : nm.length ≤ 9223372036854775807) (Ak : Option Addr) (ck : Nat) (sec : List UInt8) (w : World) (hk : Rd w 1 (.slice Ak sec.length ck) sec.length (bv sec)) :
 Calls Tryd.prog 22 #[.agg (ptA z h), .agg #[.string ⟨nm.toArray⟩, .slice Ak sec.length ck]] w fun r w' => r = .returned (.tuple #[.agg (hashA (sumV z h nm sec)), .int .i64 (if sumOk z nm sec then 0 else 2)]) ∧ Kp [] w w' := by
 refine calls_fr Tryd.func22 rfl 18 rfl (fun a0 hsz hdf hAr => ?_)
 have hz0 : a0.tmps.size = 18 := hsz
 have D := hdf
 have o0 := hAr 0 _ rfl
 have o1 := hAr 1 _ rfl
 refine wp_seq (rsu_r0 w _ _ [] (Held.start w) hz0 o0 o1 (fun a1 w1 hs1 o5 h1 => ?_))
 have hz1 := hs1.size.trans hz0; have o0 := hs1.k o0; have o1 := hs1.k o1; have D := hs1.defers.trans D
 obtain ⟨g2, g3, g4, o2, o3, o4, S⟩ := h1
 have hb2 := S.at_ (l1 := [_, _])
 have hb3 := S.at_ (l1 := [_])
 have hfail : ∀ (a : Act) (W : World) (L : List Res), a.tmps.size = 18 → a.defers = [] → Sl a 4 (.pointer (some ⟨g4, 0, none⟩)) → Sl a 5 (.int .i64 (2 : Int)) → Held w W (blkR g4 25 (hashA (List.replicate 32 0)) :: L) → sumOk z nm sec = false → bodyPost Tryd.prog Tryd.f22 (fun r w' => r = .returned (.tuple #[.agg (hashA (sumV z h nm sec)), .int .i64 (if sumOk z nm sec then 0 else 2)]) ∧ Kp [] w w') .ret a W := by
  intro a W L hs hd o4 o5 S hF
  refine (bodyPost_ret (results_cell_tmp (by rfl) (o4.eval (by rw [hs]; decide)) (S.at_ (l1 := [])) Tryd.underlying25 rfl (by exact Tryd.infoHashP)) hd ⟨?_, S.k⟩)
  unfold sumV
  rw [hF]
  exact congrArg (fun x => Ending.returned (.tuple #[.agg (hashA (List.replicate 32 0)), x])) (o5.eval (by rw [hs]; decide))
 by_cases hz1' : z < 0
 · have hF : sumOk z nm sec = false := by unfold sumOk; rw [decide_eq_false (by omega), Bool.false_and]
   refine wp_seq (wp_seq (rsu_r1N z hz1' h nm Ak ck sec hnl g2 g3 hb2 hb3 hz1 o2 o3 (fun a2 w2 hs2 k2 o13 => ?_)))
   have hz2 := hs2.size.trans hz1; have o2 := hs2.k o2; have o3 := hs2.k o3; have o4 := hs2.k o4; have D := hs2.defers.trans D
   refine wp_cond_true (o13.eval (by rw [hz2]; decide)) ?_
   refine wp_seq (rsu_r2 w g4 _ (S.kp k2) hz2 o4 (fun a3 w9 hs3 o5 S => ?_))
   have hz3 := hs3.size.trans hz2; have o2 := hs3.k o2; have o3 := hs3.k o3; have o4 := hs3.k o4; have o13 := hs3.k o13; have D := hs3.defers.trans D
   refine wp_ret ?_
   simp only [Exit.then]
   exact hfail a3 w9 _ hz3 D o4 o5 S hF
 · have hO : sumOk z nm sec = keyOk nm sec := by unfold sumOk; rw [decide_eq_true (by omega), Bool.true_and]
   refine wp_seq (wp_seq (rsu_r1Y z (by omega) h nm Ak ck sec hnl g2 g3 hb2 hb3 hz1 o2 o3 (fun a2 w2 hs2 k2 o13 => ?_)))
   have hz2 := hs2.size.trans hz1; have o2 := hs2.k o2; have o3 := hs2.k o3; have o4 := hs2.k o4; have D := hs2.defers.trans D
   cases hK : keyOk nm sec
   · rw [hK] at hO o13
     refine wp_cond_true (o13.eval (by rw [hz2]; decide)) ?_
     refine wp_seq (rsu_r2 w g4 _ (S.kp k2) hz2 o4 (fun a3 w9 hs3 o5 S => ?_))
     have hz3 := hs3.size.trans hz2; have o2 := hs3.k o2; have o3 := hs3.k o3; have o4 := hs3.k o4; have o13 := hs3.k o13; have D := hs3.defers.trans D
     refine wp_ret ?_
     simp only [Exit.then]
     exact hfail a3 w9 _ hz3 D o4 o5 S hO
   · rw [hK] at hO o13
     refine wp_cond_false (o13.eval (by rw [hz2]; decide)) (wp_skip ?_)
     simp only [Exit.then]
     refine wp_seq (rsu_r3 w _ _ (hashA (sumF z h nm sec)) (ptA_size hh) rfl (by rw [hashA_size, sumF_length]) (hashA_one _) g2 g3 g4 [] (S.kp k2) (sum_call z hz h hh nm hnl Ak ck sec w2 (rd_old hk (S.k.trans k2 (by simp))) hO) hz2 o2 o3 o4 (fun a3 w3 hs3 o5 S3 => ?_))
     have hz3 := hs3.size.trans hz2; have o2 := hs3.k o2; have o3 := hs3.k o3; have o4 := hs3.k o4; have o13 := hs3.k o13; have D := hs3.defers.trans D
     refine wp_ret ?_
     refine (bodyPost_ret (results_cell_tmp (by rfl) (o4.eval (by rw [hz3]; decide)) (S3.at_ (l1 := [])) Tryd.underlying25 rfl (by rw [hashA_size, sumF_length]; exact Tryd.infoHashP)) D ⟨?_, S3.k⟩)
     unfold sumV
     rw [hO]
     exact congrArg (fun x => Ending.returned (.tuple #[.agg (hashA (sumF z h nm sec)), x])) (o5.eval (by rw [hz3]; decide))
theorem rsign_any (z : Int) (hz : -9223372036854775808 ≤ z ∧ z ≤ 9223372036854775807) (h : List UInt8) (hh : h.length = 32) (A : Option Addr) (c : Nat) (l : List SigD) (hok : SgOk l) (hll : l.length ≤ 9223372036854775806) (nm : List UInt8) (hnl : nm.length ≤ 9223372036854775807) (Ak : Option Addr) (ck : Nat) (sec : List UInt8) (w : World) (hv : Rd w 33 (.slice A l.length c) l.length (sgsC l)) (hk : Rd w 1 (.slice Ak sec.length ck) sec.length (bv sec)) :
 Calls Tryd.prog 20 #[.agg (ntA z h (.slice A l.length c)), .agg #[.string ⟨nm.toArray⟩, .slice Ak sec.length ck]] w fun e w' => ∃ v, e = .returned (.tuple #[.agg (if signE z l nm sec = 0 then ntA z h v else zeroN), .int .i64 (signE z l nm sec)]) ∧ (signE z l nm sec = 0 → Held w w' [rowR 81 33 v (l.length + 1) (sgsC (insN l (nm, sumF z h nm sec)))]) ∧ Kp [] w w' := by
 refine calls_fr Tryd.func20 rfl 40 rfl (fun a0 hsz hdf hAr => ?_)
 have hz0 : a0.tmps.size = 40 := hsz
 have D := hdf
 have o0 := hAr 0 _ rfl
 have o1 := hAr 1 _ rfl
 refine wp_seq (rsi_r0 w _ _ [] (Held.start w) hz0 o0 o1 (fun a1 w1 hs1 o5 h1 => ?_))
 have hz1 := hs1.size.trans hz0; have o0 := hs1.k o0; have o1 := hs1.k o1; have D := hs1.defers.trans D
 obtain ⟨g2, g3, g4, o2, o3, o4, S⟩ := h1
 have hb2 := S.at_ (l1 := [_, _])
 have hb3 := S.at_ (l1 := [_])
 have hfail : ∀ (a : Act) (W : World) (L : List Res) (E : Int), a.tmps.size = 40 → a.defers = [] → Sl a 4 (.pointer (some ⟨g4, 0, none⟩)) → Sl a 5 (.int .i64 E) → Held w W (blkR g4 36 zeroN :: L) → signE z l nm sec = E → E ≠ 0 → bodyPost Tryd.prog Tryd.f20 (fun e w' => ∃ v, e = .returned (.tuple #[.agg (if signE z l nm sec = 0 then ntA z h v else zeroN), .int .i64 (signE z l nm sec)]) ∧ (signE z l nm sec = 0 → Held w w' [rowR 81 33 v (l.length + 1) (sgsC (insN l (nm, sumF z h nm sec)))]) ∧ Kp [] w w') .ret a W := by
  intro a W L E hs hd o4 o5 S hE h0
  refine (bodyPost_ret (results_cell_tmp (by rfl) (o4.eval (by rw [hs]; decide)) (S.at_ (l1 := [])) Tryd.underlying36 rfl (by rw [show zeroN.size = 34 from rfl]; exact Tryd.infoNote)) hd ⟨.slice none 0 0, ?_, fun h1 => absurd (hE.symm.trans h1) h0, S.k⟩)
  rw [hE, if_neg h0]
  exact congrArg (fun x => Ending.returned (.tuple #[.agg zeroN, x])) (o5.eval (by rw [hs]; decide))
 cases hm : mayN z l
 · skip
   refine wp_seq (wp_seq (rsi_r1N z hz h hh A c l hok hll (rd_old hv S.k) nm Ak ck sec hnl g2 g3 hb2 hb3 hm hz1 o2 o3 (fun a2 w2 hs2 k2 o13 => ?_)))
   have hz2 := hs2.size.trans hz1; have o2 := hs2.k o2; have o3 := hs2.k o3; have o4 := hs2.k o4; have D := hs2.defers.trans D
   refine wp_cond_true (o13.eval (by rw [hz2]; decide)) ?_
   refine wp_seq (rsi_r2 w g4 _ (S.kp k2) hz2 o4 (fun a3 w9 hs3 o5 S => ?_))
   have hz3 := hs3.size.trans hz2; have o2 := hs3.k o2; have o3 := hs3.k o3; have o4 := hs3.k o4; have o13 := hs3.k o13; have D := hs3.defers.trans D
   refine wp_ret ?_
   simp only [Exit.then]
   exact hfail a3 w9 _ 2 hz3 D o4 o5 S (by unfold signE; rw [hm]; rfl) (by decide)
 · obtain ⟨h64, hr⟩ := mayN_64 hm
   have hz0' : 0 ≤ z := by unfold mayN at hm; simp only [Bool.and_eq_true, decide_eq_true_eq] at hm; exact hm.1.1
   have hO : sumOk z nm sec = keyOk nm sec := by unfold sumOk; rw [decide_eq_true hz0', Bool.true_and]
   refine wp_seq (wp_seq (rsi_r1Y z hz h hh A c l hok hll (rd_old hv S.k) nm Ak ck sec hnl g2 g3 hb2 hb3 hm hz1 o2 o3 (fun a2 w2 hs2 k2 o13 => ?_)))
   have hz2 := hs2.size.trans hz1; have o2 := hs2.k o2; have o3 := hs2.k o3; have o4 := hs2.k o4; have D := hs2.defers.trans D
   cases hK : keyOk nm sec
   · rw [hK] at hO o13
     refine wp_cond_true (o13.eval (by rw [hz2]; decide)) ?_
     refine wp_seq (rsi_r2 w g4 _ (S.kp k2) hz2 o4 (fun a3 w9 hs3 o5 S => ?_))
     have hz3 := hs3.size.trans hz2; have o2 := hs3.k o2; have o3 := hs3.k o3; have o4 := hs3.k o4; have o13 := hs3.k o13; have D := hs3.defers.trans D
     refine wp_ret ?_
     simp only [Exit.then]
     exact hfail a3 w9 _ 2 hz3 D o4 o5 S (by unfold signE; rw [hm, hO]; rfl) (by decide)
   · rw [hK] at hO o13
     refine wp_cond_false (o13.eval (by rw [hz2]; decide)) (wp_skip ?_)
     simp only [Exit.then]
     have S := S.kp k2
     have hb2 := S.at_ (l1 := [_, _])
     have hb3 := S.at_ (l1 := [_])
     refine wp_seq (wp_seq (rsi_r3 z hz h hh A c l hok hll (rd_old hv S.k) nm Ak ck sec g2 g3 hb2 hb3 hz2 o2 o3 (fun a3 w3 hs3 k3 o20 => ?_)))
     have hz3 := hs3.size.trans hz2; have o2 := hs3.k o2; have o3 := hs3.k o3; have o4 := hs3.k o4; have o13 := hs3.k o13; have D := hs3.defers.trans D
     have S := S.kp k3
     cases hH : hasN nm l
     · have hfn : ¬ 0 ≤ findN nm l := by rw [find_has hr, hH]; decide
       refine wp_cond_false ((o20.eval (by rw [hz3]; decide)).trans (by rw [decide_eq_false hfn])) (wp_skip ?_)
       simp only [Exit.then]
       refine wp_seq (wp_seq (rsi_r5 z h hh A l.length c g2 (S.at_ (l1 := [_, _])) hz3 o2 (fun a4 hs4 o25 => ?_)))
       have hz4 := hs4.size.trans hz3; have o2 := hs4.k o2; have o3 := hs4.k o3; have o4 := hs4.k o4; have o13 := hs4.k o13; have o20 := hs4.k o20; have D := hs4.defers.trans D
       by_cases h6 : l.length = 64
       · skip
         refine wp_cond_true ((o25.eval (by rw [hz4]; decide)).trans (by rw [h6]; rfl)) ?_
         refine wp_seq (rsi_r6 w g4 _ S hz4 o4 (fun a5 w9 hs5 o5 S => ?_))
         have hz5 := hs5.size.trans hz4; have o2 := hs5.k o2; have o3 := hs5.k o3; have o4 := hs5.k o4; have o13 := hs5.k o13; have o20 := hs5.k o20; have o25 := hs5.k o25; have D := hs5.defers.trans D
         refine wp_ret ?_
         simp only [Exit.then]
         exact hfail a5 w9 _ 380 hz5 D o4 o5 S (by unfold signE; rw [hm, hO, hH, if_neg (by decide), if_neg (by decide), if_neg (by decide), if_pos h6]) (by decide)
       · have hE : signE z l nm sec = 0 := by unfold signE; rw [hm, hO, hH, if_neg (by decide), if_neg (by decide), if_neg (by decide), if_neg h6]
         have hne : (((l.length : Nat) : Int) == 64) = false := by rw [beq_eq_false_iff_ne]; omega
         refine wp_cond_false ((o25.eval (by rw [hz4]; decide)).trans (by rw [hne])) (wp_skip ?_)
         simp only [Exit.then]
         have S : Held w w3 [blkR g4 36 zeroN, blkR g2 36 (ntA z h (.slice A l.length c)), blkR g3 42 #[.string ⟨nm.toArray⟩, .slice Ak sec.length ck]] := (S.pull 2 rfl).pull 1 rfl
         refine wp_seq (rsi_r7 w z h hh A c l hok h64 (fun V kV => rd_old hv kV) nm Ak ck sec (fun V kV => sum_call z hz h hh nm hnl Ak ck sec V (rd_old hk kV) hO) g2 g3 g4 _ hz4 o2 o3 o4 S (fun a5 vs gs w4 hs5 o5 S => ?_))
         have hz5 := hs5.size.trans hz4; have o2 := hs5.k o2; have o3 := hs5.k o3; have o4 := hs5.k o4; have o13 := hs5.k o13; have o20 := hs5.k o20; have o25 := hs5.k o25; have D := hs5.defers.trans D
         refine wp_ret ?_
         refine (bodyPost_ret (results_cell_tmp (by rfl) (o4.eval (by rw [hz5]; decide)) (S.at_ (l1 := [_])) Tryd.underlying36 rfl (by rw [ntA_size hh]; exact Tryd.infoNote)) D ⟨vs 11, ?_, fun _ => S.some_of (List.singleton_sublist.2 (by simp)), S.k⟩)
         rw [hE, if_pos rfl]
         exact congrArg (fun x => Ending.returned (.tuple #[.agg (ntA z h (vs 11)), x])) (o5.eval (by rw [hz5]; decide))
     · have hfn : 0 ≤ findN nm l := (find_has hr).2 hH
       refine wp_cond_true ((o20.eval (by rw [hz3]; decide)).trans (by rw [decide_eq_true hfn])) ?_
       refine wp_seq (rsi_r4 w g4 _ S hz3 o4 (fun a4 w9 hs4 o5 S => ?_))
       have hz4 := hs4.size.trans hz3; have o2 := hs4.k o2; have o3 := hs4.k o3; have o4 := hs4.k o4; have o13 := hs4.k o13; have o20 := hs4.k o20; have D := hs4.defers.trans D
       refine wp_ret ?_
       simp only [Exit.then]
       exact hfail a4 w9 _ 8 hz4 D o4 o5 S (by unfold signE; rw [hm, hO, hH, if_neg (by decide), if_neg (by decide), if_pos rfl]) (by decide)
end
/- XInvG's rule, where a slot is read that the same region writes later (what waits for this step is not done yet); guards whose own operation was passed over. -/
section
section
variable {P : Program} {ops : Array Oper} {Q : Exit → Act → World → Prop}
def InvStepU (P : Program) (Q : Exit → Act → World → Prop) (PV : Nat → Value → World → Prop) (W0 : World) (a0 : Act) (fr : (Nat → Value) → Act) (ops : Array Oper) (o : Oper) (i : Nat) : Prop :=
 ∀ (vs : Nat → Value) (A : Act) (W : World), fr vs = A → Kp [] W0 W → (∀ j, waitsB .any o j = true → PV j (vs j) W) → (∀ (j : Nat) (oj : Oper), ops[j]? = some oj → waitsF .any ops oj i = true → vs j = slotOf a0 oj.dst) →
  ∀ K : Act → World → Prop, (∀ v W', Kp [] W W' → PV i v W' → K (A.put o.dst v) W') → wpOp P ops (Qn Q) i K A W
def InvStepsU (P : Program) (Q : Exit → Act → World → Prop) (PV : Nat → Value → World → Prop) (W0 : World) (a0 : Act) (fr : (Nat → Value) → Act) (ops : Array Oper) : List Oper → Nat → Prop
 | [], _ => True
 | o :: l, i => InvStepU P Q PV W0 a0 fr ops o i ∧ InvStepsU P Q PV W0 a0 fr ops l (i + 1)
theorem InvStepsU.at_ {PV : Nat → Value → World → Prop} {W0 : World} {a0 : Act} {fr : (Nat → Value) → Act} : ∀ {l : List Oper} {k : Nat}, InvStepsU P Q PV W0 a0 fr ops l k → ∀ {i o}, l[i]? = some o → InvStepU P Q PV W0 a0 fr ops o (k + i)
 | [], _, _, _, _, h => by simp at h
 | x :: l, k, hs, i, o, h => by
  rcases i with _ | i
  · obtain rfl : x = o := by simpa using h
    exact hs.1
  · have := hs.2.at_ (i := i) (o := o) (by simpa using h)
    rwa [show k + 1 + i = k + (i + 1) from by omega] at this
theorem yielded_undef {a : Act} {j d : Nat} (hj : (ops[j]?).bind (·.dst) = some d) (hd : a.tmps[d]?.getD undef = undef) : yielded ops a.tmps j = none := by
 unfold yielded
 rw [hj]
 show (match a.tmps[d]? with | some (.bool b) => some b | _ => none) = none
 cases h : a.tmps[d]? with
 | none => rfl
 | some v => rw [h] at hd; obtain rfl : v = undef := hd; rfl
theorem wpOp_skipU {i : Nat} {K : Act → World → Prop} {a : Act} {w : World} (o : Oper) (ho : ops[i]? = some o) (j d : Nat) (b : Bool) (hg : o.guard = some (j, b)) (hj : (ops[j]?).bind (·.dst) = some d) (hd : a.tmps[d]?.getD undef = undef) (h : K (a.put o.dst undef) w) : wpOp P ops Q i K a w := by
 unfold wpOp
 simp only [ho]
 rw [if_neg (by simp [Region.wanted, hg, yielded_undef hj hd])]
 exact h
theorem inv_anyU {PV : Nat → Value → World → Prop} {W0 : World} {a0 : Act} {l : List Oper} (hst : ∀ i v W W', PV i v W → Kp [] W W' → PV i v W') (hap : apartB l = true) (hea : earlierG l 0 = true)
 (hs : InvStepsU P Q PV W0 a0 (fun vs => putAll vs l 0 a0) l.toArray l 0)
 (hend : ∀ vs W, Kp [] W0 W → (∀ i, i < l.length → PV i (vs i) W) → Q .normal (putAll vs l 0 a0) W) :
 ∀ (fuel : Nat) (listed : Array Bool) (vs : Nat → Value) (W : World), listed.size = l.length → (listed.toList.filter (fun b => !b)).length = fuel → Kp [] W0 W → (∀ i, listed.getD i false = true → PV i (vs i) W) → Closed .any l.toArray listed → (∀ (j : Nat) (oj : Oper), l[j]? = some oj → listed.getD j false = false → vs j = slotOf a0 oj.dst) →
  wpAny P .any l.toArray Q fuel listed (putAll vs l 0 a0) W := by
 have all_of : ∀ (listed : Array Bool), listed.size = l.length → Region.ready .any l.toArray listed = [] → ∀ i, i < l.length → listed.getD i false = true := by
  intro listed hsz hr i
  induction i using Nat.strongRecOn with
  | _ i ih =>
   intro hi
   cases hl : listed.getD i false with
   | true => rfl
   | false =>
    exfalso
    have hlt : i < listed.size := by omega
    have hmem : i ∈ Region.ready .any l.toArray listed := mem_ready.2 ⟨by simp [hlt] at hl ⊢; exact hl, l[i], by simp [hi], fun e he hb => by
     have := (earlierG_spec l 0 i l[i] hea (by simp [hi])) e he hb
     exact ih e.on (by omega) (by omega)⟩
    rw [hr] at hmem; cases hmem
 have hnil : ∀ (listed : Array Bool) vs W, listed.size = l.length → Kp [] W0 W → (∀ i, listed.getD i false = true → PV i (vs i) W) → Region.ready .any l.toArray listed = [] → Q .normal (putAll vs l 0 a0) W :=
  fun listed vs W hsz hk hp hr => hend vs W hk (fun i hi => hp i (all_of listed hsz hr i hi))
 intro fuel
 induction fuel with
 | zero =>
  intro listed vs W hsz hf hk hp hcl hv0
  have hr : Region.ready .any l.toArray listed = [] := by
   refine List.eq_nil_iff_forall_not_mem.2 fun i hi => ?_
   have h0 := (mem_ready.1 hi).1
   obtain ⟨_, o, ho, _⟩ := mem_ready.1 hi
   have hlt : i < listed.size := by
    have := (Array.getElem?_eq_some_iff.1 ho).1
    simp at this; omega
   have : listed[i] ∈ listed.toList.filter (fun b => !b) := by
    rw [List.mem_filter]
    simp [hlt] at h0
    refine ⟨by simp, by simp [h0]⟩
   rw [List.eq_nil_of_length_eq_zero hf] at this
   cases this
  exact ⟨hr, hnil listed vs W hsz hk hp hr⟩
 | succ fuel ih =>
  intro listed vs W hsz hf hk hp hcl hv0
  refine ⟨hnil listed vs W hsz hk hp, fun i hi => ?_⟩
  obtain ⟨h0, o, ho, hall⟩ := mem_ready.1 hi
  have hol : l[i]? = some o := by simpa using ho
  have hlt : i < listed.size := by
   have := (List.getElem?_eq_some_iff.1 hol).1
   omega
  refine wpOp_n ?_
  have hstep := hs.at_ hol
  rw [Nat.zero_add] at hstep
  refine hstep vs _ W rfl hk (fun j hj => by obtain ⟨e, he, hb, rfl⟩ := waitsB_spec hj; exact hp e.on (hall e he hb)) (fun j oj hj hw => hv0 j oj (by simpa using hj) (by
   cases hjl : listed.getD j false with
   | false => rfl
   | true =>
    have := waitsF_spec hw listed hcl (hcl j oj hj hjl)
    have hli : listed.getD i false = false := by simp [hlt] at h0 ⊢; exact h0
    rw [hli] at this
    cases this)) _ fun v W' hk' hv => ?_
  rw [putAll_upd vs i v l 0 a0 o hap (Nat.zero_le _) (by simpa using hol)]
  refine ih _ _ W' (by simpa using hsz) ?_ (hk.trans hk' (by simp)) (fun j hj => ?_) (hcl.add hi) (fun j oj hj hjl => ?_)
  · simp [hlt] at h0
    have h1 : listed.toList = listed.toList.take i ++ false :: listed.toList.drop (i + 1) := by
     rw [← h0]
     have := List.take_append_drop i listed.toList
     rw [List.drop_eq_getElem_cons (by simpa using hlt)] at this
     simpa using this.symm
    have h2 : (listed.setIfInBounds i true).toList = listed.toList.take i ++ true :: listed.toList.drop (i + 1) := by
     rw [Array.toList_setIfInBounds]
     conv => lhs; rw [h1]
     rw [List.set_append_right _ _ (by simp; omega)]
     simp [Nat.min_eq_left (Nat.le_of_lt hlt)]
    rw [h1] at hf
    rw [h2]
    simp only [List.filter_append, List.filter_cons, List.length_append] at hf ⊢
    simp at hf ⊢
    omega
  · by_cases e : i = j
    · subst e; simpa [upd] using hv
    · rw [getD_set_ne false e] at hj
      simp only [upd, show j ≠ i from fun h => e h.symm, if_false]
      exact hst j _ W W' (hp j hj) hk'
  · have hne : j ≠ i := by
     rintro rfl
     simp [hlt] at hjl
    rw [getD_set_ne false (fun h => hne h.symm)] at hjl
    simp only [upd, if_neg hne]
    exact hv0 j oj hj hjl
theorem wp_region_invU {id : Nat} {a : Act} {w : World} {l : List Oper} (PV : Nat → Value → World → Prop) (hm : P.follows .mixedOrders = true) (hap : apartB l = true) (hea : earlierG l 0 = true)
 (hst : ∀ i v W W', PV i v W → Kp [] W W' → PV i v W')
 (hs : InvStepsU P Q PV w.drew a (fun vs => putAll vs l 0 a) l.toArray l 0)
 (hend : ∀ vs W, Kp [] w.drew W → (∀ i, i < l.length → PV i (vs i) W) → Q .normal (putAll vs l 0 a) W) : (Code.region id l.toArray true).wp P Q a w := by
 refine wp_region_any hm ?_
 have h00 : ∀ i, (Array.replicate l.length false).getD i false = false := fun i => by
  simp [Array.getElem?_replicate]
  split <;> rfl
 have h := inv_anyU (P := P) (Q := Q) hst hap hea hs hend l.length (Array.replicate l.length false) (at0 a l) w.drew (by simp) (by simp) kR (fun i hi => by
  simp [Array.getElem?_replicate] at hi
  split at hi <;> simp at hi) (fun j oj _ hl => by rw [h00] at hl; cases hl) (fun j oj hj _ => by simp [at0, hj])
 rw [putAll_at a l 0 (at0 a l) (fun j o ho => by simp [at0, ho])] at h
 simpa using h
end
end
/- Right of the reference: its regions. -/
section
variable {Q : Exit → Act → World → Prop} {a : Act} {w : World}
open Go.RowKit
theorem rrt_r0 (w0 : World) (ca : Array Value) (L : List Res) (S : Held w0 w L) (hsz : a.tmps.size = 75) (o0 : Sl a 0 (.agg ca))
 (hend : ∀ a' W, Same a a' [2, 4] → Sl a' 4 (.slice none 0 0) → (∃ g2, Sl a' 2 (.pointer (some ⟨g2, 0, none⟩)) ∧ Held w0 W (blkR g2 36 ca :: L)) → Q .normal a' W) : (Code.region 0 (opsOf 0 Tryd.f29).toArray false).wp Tryd.prog Q a w := by
 refine wp_region_lit ?_
 (conv => arg 4; whnf)
 unfold Sl at o0
 have S1 := Lib.hid (S.newBlk 36 ca)
 go_wp2_with fail
 try simp only [Act.put]
 exact hend _ _ sS sP (⟨_, sP0, S1.out⟩)
theorem rrt_r1  (hsz : a.tmps.size = 75) 
 (hend : ∀ a', Same a a' [5] → Sl a' 5 (.slice none 0 0) → Q .normal a' (w)) : (Code.region 1 (opsOf 1 Tryd.f29).toArray false).wp Tryd.prog Q a w := by
 refine wp_region_lit ?_
 (conv => arg 4; whnf)
 go_wp2_with fail
 try simp only [Act.put]
 exact hend _ sS sP
theorem rrt_r2  (hsz : a.tmps.size = 75) 
 (hend : ∀ a', Same a a' [6] → Sl a' 6 (.int .i64 ((0 : Nat) : Int)) → Q .normal a' (w)) : (Code.region 2 (opsOf 2 Tryd.f29).toArray false).wp Tryd.prog Q a w := by
 refine wp_region_lit ?_
 (conv => arg 4; whnf)
 go_wp2_with fail
 try simp only [Act.put]
 exact hend _ sS sP
theorem rrt_r5  (hsz : a.tmps.size = 75) 
 (hend : ∀ a', Same a a' [7] → Sl a' 7 (.bool false) → Q .normal a' (w)) : (Code.region 5 (opsOf 5 Tryd.f29).toArray false).wp Tryd.prog Q a w := by
 refine wp_region_lit ?_
 (conv => arg 4; whnf)
 go_wp2_with fail
 try simp only [Act.put]
 exact hend _ sS sP
theorem rrt_r6  (hsz : a.tmps.size = 75) 
 (hend : ∀ a', Same a a' [8] → Sl a' 8 (.int .i64 ((0 : Nat) : Int)) → Q .normal a' (w)) : (Code.region 6 (opsOf 6 Tryd.f29).toArray false).wp Tryd.prog Q a w := by
 refine wp_region_lit ?_
 (conv => arg 4; whnf)
 go_wp2_with fail
 try simp only [Act.put]
 exact hend _ sS sP
theorem rrt_r7 (A : Option Addr) (k n c : Nat) (hsz : a.tmps.size = 75) (o1 : Sl a 1 (.slice A n c)) (o8 : Sl a 8 (.int .i64 ((k : Nat) : Int)))
 (hend : ∀ a', Same a a' [20, 21, 22, 23] → Sl a' 23 (.bool (decide (k < n))) → Q .normal a' (w)) : (Code.region 7 (opsOf 7 Tryd.f29).toArray false).wp Tryd.prog Q a w := by
 refine wp_region_lit ?_
 (conv => arg 4; whnf)
 unfold Sl at o1 o8
 go_wp2_with fail
 try simp only [Act.put]
 exact hend _ sS sP
theorem rrt_r8 (k : Nat) (hk : k < 9223372036854775807) (hsz : a.tmps.size = 75) (o8 : Sl a 8 (.int .i64 ((k : Nat) : Int)))
 (hend : ∀ a', Same a a' [24, 25, 8] → Sl a' 8 (.int .i64 ((k + 1 : Nat) : Int)) → Q .normal a' (w)) : (Code.region 8 (opsOf 8 Tryd.f29).toArray false).wp Tryd.prog Q a w := by
 refine wp_region_lit ?_
 (conv => arg 4; whnf)
 unfold Sl at o8
 have hw : wrap64 ((k : Int) + 1) = (k : Int) + 1 := by unfold wrap64; omega
 go_wp2_with fail
 try simp only [Act.put]
 exact hend _ sS sP
theorem rrt_r4 (k : Nat) (hk : k < 9223372036854775807) (hsz : a.tmps.size = 75) (o6 : Sl a 6 (.int .i64 ((k : Nat) : Int)))
 (hend : ∀ a', Same a a' [18, 19, 6] → Sl a' 6 (.int .i64 ((k + 1 : Nat) : Int)) → Q .normal a' (w)) : (Code.region 4 (opsOf 4 Tryd.f29).toArray false).wp Tryd.prog Q a w := by
 refine wp_region_lit ?_
 (conv => arg 4; whnf)
 unfold Sl at o6
 have hw : wrap64 ((k : Int) + 1) = (k : Int) + 1 := by unfold wrap64; omega
 go_wp2_with fail
 try simp only [Act.put]
 exact hend _ sS sP
theorem rrt_r10 (b : Bool) (hsz : a.tmps.size = 75) (o7 : Sl a 7 (.bool b))
 (hend : ∀ a', Same a a' [64] → Sl a' 64 (.bool b) → Q .normal a' (w)) : (Code.region 10 (opsOf 10 Tryd.f29).toArray false).wp Tryd.prog Q a w := by
 refine wp_region_lit ?_
 (conv => arg 4; whnf)
 unfold Sl at o7
 go_wp2_with fail
 try simp only [Act.put]
 exact hend _ sS sP
theorem rrt_r12 (v : Value) (hsz : a.tmps.size = 75) (o5 : Sl a 5 (v))
 (hend : ∀ a', Same a a' [74, 4] → Sl a' 4 (v) → Q .normal a' (w)) : (Code.region 12 (opsOf 12 Tryd.f29).toArray false).wp Tryd.prog Q a w := by
 refine wp_region_lit ?_
 (conv => arg 4; whnf)
 unfold Sl at o5
 go_wp2_with fail
 try simp only [Act.put]
 exact hend _ sS sP
theorem rrt_r3N (z : Int) (hz : -9223372036854775808 ≤ z ∧ z ≤ 9223372036854775807) (h : List UInt8) (hh : h.length = 32) (A : Option Addr) (c : Nat) (l : List SigD) (hok : SgOk l) (hll : l.length ≤ 9223372036854775806) (hv : Rd w 33 (.slice A l.length c) l.length (sgsC l)) (ix g2 : Nat) (hb2 : Blk w g2 36 (ntA z h (.slice A l.length c))) (hm : mayN z l = false) (hsz : a.tmps.size = 75) (o2 : Sl a 2 (.pointer (some ⟨g2, 0, none⟩))) (o6 : Sl a 6 (.int .i64 ((ix : Nat) : Int)))
 (hend : ∀ a' W, Same a a' [9, 10, 11, 12, 13, 14, 15, 16, 17] → Kp [] w W → Sl a' 17 (.bool false) → Q .normal a' W) : (Code.region 3 (opsOf 3 Tryd.f29).toArray false).wp Tryd.prog Q a w := by
 have hap : apartB (opsOf 3 Tryd.f29) = true := by kernel_rfl
 refine wp_region_invS (l := (opsOf 3 Tryd.f29)) (fun i v W => match i with | 0 => v = .agg (ntA z h (.slice A l.length c)) | 1 => v = .bool false | 2 => v = .bool false | 8 => v = .bool false | _ => True) hap ?_ ?_ ?_
 · intro i v W W' h _
   iterate 9 (rcases i with _ | i; · exact h)
   exact h
 · refine ⟨?_, ?_, ?_, ?_, ?_, ?_, ?_, ?_, ?_, trivial⟩
   · intro vs A' W hA hW hd hu K hK; refine wpOp_free _ rfl rfl ?_; (conv => arg 2; whnf); have e2 := sO 2 o2 hA hap hsz; clear hA hd hu o2 o6
     refine op_runs (v := .agg (ntA z h (.slice A l.length c))) (w' := W) (exec_load rfl (by simpa [Act.eval] using e2) (run_loadAt_agg W (⟨g2, 0, none⟩) 36 (ntA z h (.slice A l.length c)).toList _ (Blk.agg (hb2.kp hW (by simp))) Tryd.underlying36 rfl (by rw [Array.length_toList, ntA_size hh]; exact Tryd.infoNote))) ?_
     exact hK _ _ kR rfl
   · intro vs A' W hA hW hd hu K hK; refine wpOp_free _ rfl rfl ?_; (conv => arg 2; whnf); have e9 := sV 9 (hd 0 (by kernel_rfl)) hA hap hsz; clear hA hd hu o2 o6; go_step
     refine (rmay_any z hz h hh l hok (by omega) A c W (rd_old hv hW)).mono ?_
     rintro e w' ⟨rfl, k⟩
     exact hK _ _ k (congrArg Value.bool hm)
   · intro vs A' W hA hW hd hu K hK; refine wpOp_free _ rfl rfl ?_; (conv => arg 2; whnf); have e10 := sV 10 (hd 1 (by kernel_rfl)) hA hap hsz; clear hA hd hu o2 o6; go_step; exact hK _ _ kR rfl
   · intro vs A' W hA hW hd hu K hK; have e11 := sV 11 (hd 2 (by kernel_rfl)) hA hap hsz; refine wpOp_skip _ rfl 2 11 true rfl rfl e11 ?_; exact hK _ _ kR trivial
   · intro vs A' W hA hW hd hu K hK; have e11 := sV 11 (hd 2 (by kernel_rfl)) hA hap hsz; refine wpOp_skip _ rfl 2 11 true rfl rfl e11 ?_; exact hK _ _ kR trivial
   · intro vs A' W hA hW hd hu K hK; have e11 := sV 11 (hd 2 (by kernel_rfl)) hA hap hsz; refine wpOp_skip _ rfl 2 11 true rfl rfl e11 ?_; exact hK _ _ kR trivial
   · intro vs A' W hA hW hd hu K hK; have e11 := sV 11 (hd 2 (by kernel_rfl)) hA hap hsz; refine wpOp_skip _ rfl 2 11 true rfl rfl e11 ?_; exact hK _ _ kR trivial
   · intro vs A' W hA hW hd hu K hK; have e11 := sV 11 (hd 2 (by kernel_rfl)) hA hap hsz; refine wpOp_skip _ rfl 2 11 true rfl rfl e11 ?_; exact hK _ _ kR trivial
   · intro vs A' W hA hW hd hu K hK; refine wpOp_free _ rfl rfl ?_; (conv => arg 2; whnf); have e11 := sV 11 (hd 2 (by kernel_rfl)) hA hap hsz
     have e16 := sU 16 7 hA hap hsz
     clear hA hd hu o2 o6; go_step; exact hK _ _ kR rfl
 · intro vs W hW hp
   rw [putAll_eq]
   exact hend _ W sQ hW (sW (hp 8 sB))
theorem rrt_r3Y (z : Int) (hz : -9223372036854775808 ≤ z ∧ z ≤ 9223372036854775807) (h : List UInt8) (hh : h.length = 32) (A : Option Addr) (c : Nat) (l : List SigD) (hok : SgOk l) (hll : l.length ≤ 9223372036854775806) (hv : Rd w 33 (.slice A l.length c) l.length (sgsC l)) (ix g2 : Nat) (hb2 : Blk w g2 36 (ntA z h (.slice A l.length c))) (hm : mayN z l = true) (hsz : a.tmps.size = 75) (o2 : Sl a 2 (.pointer (some ⟨g2, 0, none⟩))) (o6 : Sl a 6 (.int .i64 ((ix : Nat) : Int)))
 (hend : ∀ a' W, Same a a' [9, 10, 11, 12, 13, 14, 15, 16, 17] → Kp [] w W → Sl a' 17 (.bool (decide (ix < l.length))) → Q .normal a' W) : (Code.region 3 (opsOf 3 Tryd.f29).toArray false).wp Tryd.prog Q a w := by
 have hap : apartB (opsOf 3 Tryd.f29) = true := by kernel_rfl
 refine wp_region_invS (l := (opsOf 3 Tryd.f29)) (fun i v W => match i with | 0 => v = .agg (ntA z h (.slice A l.length c)) | 1 => v = .bool true | 2 => v = .bool true | 3 => v = .int .i64 ((ix : Nat) : Int) | 4 => v = .pointer (some ⟨g2, 33, none⟩) | 5 => v = .slice A l.length c | 6 => v = .int .i64 ((l.length : Nat) : Int) | 7 => v = .bool (decide (ix < l.length)) | 8 => v = .bool (decide (ix < l.length)) | _ => True) hap ?_ ?_ ?_
 · intro i v W W' h _
   iterate 9 (rcases i with _ | i; · exact h)
   exact h
 · refine ⟨?_, ?_, ?_, ?_, ?_, ?_, ?_, ?_, ?_, trivial⟩
   · intro vs A' W hA hW hd hu K hK; refine wpOp_free _ rfl rfl ?_; (conv => arg 2; whnf); have e2 := sO 2 o2 hA hap hsz; clear hA hd hu o2 o6
     refine op_runs (v := .agg (ntA z h (.slice A l.length c))) (w' := W) (exec_load rfl (by simpa [Act.eval] using e2) (run_loadAt_agg W (⟨g2, 0, none⟩) 36 (ntA z h (.slice A l.length c)).toList _ (Blk.agg (hb2.kp hW (by simp))) Tryd.underlying36 rfl (by rw [Array.length_toList, ntA_size hh]; exact Tryd.infoNote))) ?_
     exact hK _ _ kR rfl
   · intro vs A' W hA hW hd hu K hK; refine wpOp_free _ rfl rfl ?_; (conv => arg 2; whnf); have e9 := sV 9 (hd 0 (by kernel_rfl)) hA hap hsz; clear hA hd hu o2 o6; go_step
     refine (rmay_any z hz h hh l hok (by omega) A c W (rd_old hv hW)).mono ?_
     rintro e w' ⟨rfl, k⟩
     exact hK _ _ k (congrArg Value.bool hm)
   · intro vs A' W hA hW hd hu K hK; refine wpOp_free _ rfl rfl ?_; (conv => arg 2; whnf); have e10 := sV 10 (hd 1 (by kernel_rfl)) hA hap hsz; clear hA hd hu o2 o6; go_step; exact hK _ _ kR rfl
   · intro vs A' W hA hW hd hu K hK; have e11 := sV 11 (hd 2 (by kernel_rfl)) hA hap hsz; refine wpOp_go _ rfl 2 11 true rfl rfl e11 ?_; (conv => arg 2; whnf); have e6 := sO 6 o6 hA hap hsz; clear hA hd hu o2 o6; go_step; exact hK _ _ kR rfl
   · intro vs A' W hA hW hd hu K hK; have e11 := sV 11 (hd 2 (by kernel_rfl)) hA hap hsz; refine wpOp_go _ rfl 2 11 true rfl rfl e11 ?_; (conv => arg 2; whnf); have e2 := sO 2 o2 hA hap hsz; clear hA hd hu o2 o6; go_step; exact hK _ _ kR rfl
   · intro vs A' W hA hW hd hu K hK; have e11 := sV 11 (hd 2 (by kernel_rfl)) hA hap hsz; refine wpOp_go _ rfl 2 11 true rfl rfl e11 ?_; (conv => arg 2; whnf); have e13 := sV 13 (hd 4 (by kernel_rfl)) hA hap hsz; clear hA hd hu o2 o6
     have c0 : W.cell? ⟨g2, 33, none⟩ = some (.slice A l.length c) := by rw [(hb2.kp hW (by simp)).cell]; exact ntA_sigs hh
     go_step; exact hK _ _ kR rfl
   · intro vs A' W hA hW hd hu K hK; have e11 := sV 11 (hd 2 (by kernel_rfl)) hA hap hsz; refine wpOp_go _ rfl 2 11 true rfl rfl e11 ?_; (conv => arg 2; whnf); have e14 := sV 14 (hd 5 (by kernel_rfl)) hA hap hsz; clear hA hd hu o2 o6; go_step; exact hK _ _ kR rfl
   · intro vs A' W hA hW hd hu K hK; have e11 := sV 11 (hd 2 (by kernel_rfl)) hA hap hsz; refine wpOp_go _ rfl 2 11 true rfl rfl e11 ?_; (conv => arg 2; whnf); have e12 := sV 12 (hd 3 (by kernel_rfl)) hA hap hsz; have e15 := sV 15 (hd 6 (by kernel_rfl)) hA hap hsz; clear hA hd hu o2 o6; go_step
     exact hK _ _ kR (by first | rfl | (refine congrArg Value.bool ?_; simp))
   · intro vs A' W hA hW hd hu K hK; refine wpOp_free _ rfl rfl ?_; (conv => arg 2; whnf); have e11 := sV 11 (hd 2 (by kernel_rfl)) hA hap hsz; have e16 := sV 16 (hd 7 (by kernel_rfl)) hA hap hsz; clear hA hd hu o2 o6; go_step; exact hK _ _ kR rfl
 · intro vs W hW hp
   rw [putAll_eq]
   exact hend _ W sQ hW (sW (hp 8 sB))
theorem rrt_r9A  (hsz : a.tmps.size = 75) (o7 : Sl a 7 (.bool true))
 (hend : ∀ a' W, Same a a' [26, 27, 28, 29, 30, 31, 32, 33, 34, 35, 36, 37, 38, 39, 40, 41, 42, 43, 44, 45, 46, 47, 48, 49, 50, 51, 52, 53, 54, 55, 56, 57, 58, 59, 60, 61, 62, 63, 7] → Kp [] w.drew W → Sl a' 7 (.bool true) → Q .normal a' W) : (Code.region 9 (opsOf 9 Tryd.f29).toArray true).wp Tryd.prog Q a w := by
 have hap : apartB (opsOf 9 Tryd.f29) = true := by kernel_rfl
 refine wp_region_invU (l := (opsOf 9 Tryd.f29)) (fun i v W => match i with | 0 => v = .bool true | 1 => v = .bool true | 7 => v = undef | 21 => v = undef | 37 => v = .bool true | 38 => v = .bool true | _ => True) (by kernel_rfl) hap (by kernel_rfl) ?_ ?_ ?_
 · intro i v W W' h _
   iterate 39 (rcases i with _ | i; · exact h)
   exact h
 · refine ⟨?_, ?_, ?_, ?_, ?_, ?_, ?_, ?_, ?_, ?_, ?_, ?_, ?_, ?_, ?_, ?_, ?_, ?_, ?_, ?_, ?_, ?_, ?_, ?_, ?_, ?_, ?_, ?_, ?_, ?_, ?_, ?_, ?_, ?_, ?_, ?_, ?_, ?_, ?_, trivial⟩
   · intro vs A' W hA hW hd hu K hK; refine wpOp_free _ rfl rfl ?_; (conv => arg 2; whnf)
     have e7 := sU 7 38 hA hap hsz
     rw [show vs 38 = .bool true from (hu 38 _ rfl (by kernel_rfl)).trans (o7.eval (sH 7 hsz rfl))] at e7
     clear hA hd hu o7; go_step; exact hK _ _ kR rfl
   · intro vs A' W hA hW hd hu K hK; refine wpOp_free _ rfl rfl ?_; (conv => arg 2; whnf); have e26 := sV 26 (hd 0 (by kernel_rfl)) hA hap hsz; clear hA hd hu o7; go_step; exact hK _ _ kR rfl
   · intro vs A' W hA hW hd hu K hK; have e27 := sV 27 (hd 1 (by kernel_rfl)) hA hap hsz; refine wpOp_skip _ rfl 1 27 false rfl rfl e27 ?_; exact hK _ _ kR trivial
   · intro vs A' W hA hW hd hu K hK; have e27 := sV 27 (hd 1 (by kernel_rfl)) hA hap hsz; refine wpOp_skip _ rfl 1 27 false rfl rfl e27 ?_; exact hK _ _ kR trivial
   · intro vs A' W hA hW hd hu K hK; have e27 := sV 27 (hd 1 (by kernel_rfl)) hA hap hsz; refine wpOp_skip _ rfl 1 27 false rfl rfl e27 ?_; exact hK _ _ kR trivial
   · intro vs A' W hA hW hd hu K hK; have e27 := sV 27 (hd 1 (by kernel_rfl)) hA hap hsz; refine wpOp_skip _ rfl 1 27 false rfl rfl e27 ?_; exact hK _ _ kR trivial
   · intro vs A' W hA hW hd hu K hK; have e27 := sV 27 (hd 1 (by kernel_rfl)) hA hap hsz; refine wpOp_skip _ rfl 1 27 false rfl rfl e27 ?_; exact hK _ _ kR trivial
   · intro vs A' W hA hW hd hu K hK; have e27 := sV 27 (hd 1 (by kernel_rfl)) hA hap hsz; refine wpOp_skip _ rfl 1 27 false rfl rfl e27 ?_; exact hK _ _ kR rfl
   · intro vs A' W hA hW hd hu K hK; have e33 := sV 33 (hd 7 (by kernel_rfl)) hA hap hsz; refine wpOp_skipU _ rfl 7 33 true rfl rfl e33 ?_; exact hK _ _ kR trivial
   · intro vs A' W hA hW hd hu K hK; have e33 := sV 33 (hd 7 (by kernel_rfl)) hA hap hsz; refine wpOp_skipU _ rfl 7 33 true rfl rfl e33 ?_; exact hK _ _ kR trivial
   · intro vs A' W hA hW hd hu K hK; have e33 := sV 33 (hd 7 (by kernel_rfl)) hA hap hsz; refine wpOp_skipU _ rfl 7 33 true rfl rfl e33 ?_; exact hK _ _ kR trivial
   · intro vs A' W hA hW hd hu K hK; have e33 := sV 33 (hd 7 (by kernel_rfl)) hA hap hsz; refine wpOp_skipU _ rfl 7 33 true rfl rfl e33 ?_; exact hK _ _ kR trivial
   · intro vs A' W hA hW hd hu K hK; have e33 := sV 33 (hd 7 (by kernel_rfl)) hA hap hsz; refine wpOp_skipU _ rfl 7 33 true rfl rfl e33 ?_; exact hK _ _ kR trivial
   · intro vs A' W hA hW hd hu K hK; have e33 := sV 33 (hd 7 (by kernel_rfl)) hA hap hsz; refine wpOp_skipU _ rfl 7 33 true rfl rfl e33 ?_; exact hK _ _ kR trivial
   · intro vs A' W hA hW hd hu K hK; have e33 := sV 33 (hd 7 (by kernel_rfl)) hA hap hsz; refine wpOp_skipU _ rfl 7 33 true rfl rfl e33 ?_; exact hK _ _ kR trivial
   · intro vs A' W hA hW hd hu K hK; have e33 := sV 33 (hd 7 (by kernel_rfl)) hA hap hsz; refine wpOp_skipU _ rfl 7 33 true rfl rfl e33 ?_; exact hK _ _ kR trivial
   · intro vs A' W hA hW hd hu K hK; have e33 := sV 33 (hd 7 (by kernel_rfl)) hA hap hsz; refine wpOp_skipU _ rfl 7 33 true rfl rfl e33 ?_; exact hK _ _ kR trivial
   · intro vs A' W hA hW hd hu K hK; have e33 := sV 33 (hd 7 (by kernel_rfl)) hA hap hsz; refine wpOp_skipU _ rfl 7 33 true rfl rfl e33 ?_; exact hK _ _ kR trivial
   · intro vs A' W hA hW hd hu K hK; have e33 := sV 33 (hd 7 (by kernel_rfl)) hA hap hsz; refine wpOp_skipU _ rfl 7 33 true rfl rfl e33 ?_; exact hK _ _ kR trivial
   · intro vs A' W hA hW hd hu K hK; have e33 := sV 33 (hd 7 (by kernel_rfl)) hA hap hsz; refine wpOp_skipU _ rfl 7 33 true rfl rfl e33 ?_; exact hK _ _ kR trivial
   · intro vs A' W hA hW hd hu K hK; have e27 := sV 27 (hd 1 (by kernel_rfl)) hA hap hsz; refine wpOp_skip _ rfl 1 27 false rfl rfl e27 ?_; exact hK _ _ kR trivial
   · intro vs A' W hA hW hd hu K hK; have e27 := sV 27 (hd 1 (by kernel_rfl)) hA hap hsz; refine wpOp_skip _ rfl 1 27 false rfl rfl e27 ?_; exact hK _ _ kR rfl
   · intro vs A' W hA hW hd hu K hK; have e47 := sV 47 (hd 21 (by kernel_rfl)) hA hap hsz; refine wpOp_skipU _ rfl 21 47 true rfl rfl e47 ?_; exact hK _ _ kR trivial
   · intro vs A' W hA hW hd hu K hK; have e47 := sV 47 (hd 21 (by kernel_rfl)) hA hap hsz; refine wpOp_skipU _ rfl 21 47 true rfl rfl e47 ?_; exact hK _ _ kR trivial
   · intro vs A' W hA hW hd hu K hK; have e47 := sV 47 (hd 21 (by kernel_rfl)) hA hap hsz; refine wpOp_skipU _ rfl 21 47 true rfl rfl e47 ?_; exact hK _ _ kR trivial
   · intro vs A' W hA hW hd hu K hK; have e47 := sV 47 (hd 21 (by kernel_rfl)) hA hap hsz; refine wpOp_skipU _ rfl 21 47 true rfl rfl e47 ?_; exact hK _ _ kR trivial
   · intro vs A' W hA hW hd hu K hK; have e47 := sV 47 (hd 21 (by kernel_rfl)) hA hap hsz; refine wpOp_skipU _ rfl 21 47 true rfl rfl e47 ?_; exact hK _ _ kR trivial
   · intro vs A' W hA hW hd hu K hK; have e47 := sV 47 (hd 21 (by kernel_rfl)) hA hap hsz; refine wpOp_skipU _ rfl 21 47 true rfl rfl e47 ?_; exact hK _ _ kR trivial
   · intro vs A' W hA hW hd hu K hK; have e47 := sV 47 (hd 21 (by kernel_rfl)) hA hap hsz; refine wpOp_skipU _ rfl 21 47 true rfl rfl e47 ?_; exact hK _ _ kR trivial
   · intro vs A' W hA hW hd hu K hK; have e47 := sV 47 (hd 21 (by kernel_rfl)) hA hap hsz; refine wpOp_skipU _ rfl 21 47 true rfl rfl e47 ?_; exact hK _ _ kR trivial
   · intro vs A' W hA hW hd hu K hK; have e47 := sV 47 (hd 21 (by kernel_rfl)) hA hap hsz; refine wpOp_skipU _ rfl 21 47 true rfl rfl e47 ?_; exact hK _ _ kR trivial
   · intro vs A' W hA hW hd hu K hK; have e47 := sV 47 (hd 21 (by kernel_rfl)) hA hap hsz; refine wpOp_skipU _ rfl 21 47 true rfl rfl e47 ?_; exact hK _ _ kR trivial
   · intro vs A' W hA hW hd hu K hK; have e47 := sV 47 (hd 21 (by kernel_rfl)) hA hap hsz; refine wpOp_skipU _ rfl 21 47 true rfl rfl e47 ?_; exact hK _ _ kR trivial
   · intro vs A' W hA hW hd hu K hK; have e47 := sV 47 (hd 21 (by kernel_rfl)) hA hap hsz; refine wpOp_skipU _ rfl 21 47 true rfl rfl e47 ?_; exact hK _ _ kR trivial
   · intro vs A' W hA hW hd hu K hK; have e47 := sV 47 (hd 21 (by kernel_rfl)) hA hap hsz; refine wpOp_skipU _ rfl 21 47 true rfl rfl e47 ?_; exact hK _ _ kR trivial
   · intro vs A' W hA hW hd hu K hK; have e47 := sV 47 (hd 21 (by kernel_rfl)) hA hap hsz; refine wpOp_skipU _ rfl 21 47 true rfl rfl e47 ?_; exact hK _ _ kR trivial
   · intro vs A' W hA hW hd hu K hK; have e27 := sV 27 (hd 1 (by kernel_rfl)) hA hap hsz; refine wpOp_skip _ rfl 1 27 false rfl rfl e27 ?_; exact hK _ _ kR trivial
   · intro vs A' W hA hW hd hu K hK; refine wpOp_free _ rfl rfl ?_; (conv => arg 2; whnf); have e27 := sV 27 (hd 1 (by kernel_rfl)) hA hap hsz
     have e62 := sU 62 36 hA hap hsz
     clear hA hd hu o7; go_step; exact hK _ _ kR rfl
   · intro vs A' W hA hW hd hu K hK; refine wpOp_free _ rfl rfl ?_; (conv => arg 2; whnf); have e63 := sV 63 (hd 37 (by kernel_rfl)) hA hap hsz; clear hA hd hu o7; go_step; exact hK _ _ kR rfl
 · intro vs W hW hp
   rw [putAll_eq]
   exact hend _ W sQ hW (sW (hp 38 sB))
theorem rrt_r9B (ad : Addr) (k n c : Nat) (hk : k < n) (ns : ByteArray) (Ak : Option Addr) (m ck : Nat) (hc : ∀ V, Kp [] w.drew V → ∀ j u, ([.string ns, .slice Ak m ck] : List Value)[j]? = some u → V.cell? ((ad.add (k * 2)).add j) = some u) (z : Int) (h : List UInt8) (hh : h.length = 32) (a2 : Addr) (q e ix : Nat) (hi : ix < q) (g2 : Nat) (hb2 : Blk w.drew g2 36 (ntA z h (.slice (some a2) q e))) (ms : ByteArray) (sm : List UInt8) (hsl : sm.length = 32) (hs : ∀ V, Kp [] w.drew V → ∀ j u, (.string ms :: bv sm : List Value)[j]? = some u → V.cell? ((a2.add (ix * 33)).add j) = some u) (bk : Bool) (HKY : ∀ V, Kp [] w.drew V → Calls Tryd.prog 50 #[.agg #[.string ns, .slice Ak m ck]] V fun r w' => r = .returned (.bool bk) ∧ Kp [] V w') (SF : List UInt8) (hSF : SF.length = 32) (bq : Bool) (hbq : (ns.toList == ms.toList) = bq) (hbk : bk = false) (hsz : a.tmps.size = 75) (o1 : Sl a 1 (.slice (some ad) n c)) (o2 : Sl a 2 (.pointer (some ⟨g2, 0, none⟩))) (o6 : Sl a 6 (.int .i64 ((ix : Nat) : Int))) (o7 : Sl a 7 (.bool false)) (o8 : Sl a 8 (.int .i64 ((k : Nat) : Int)))
 (hend : ∀ a' W, Same a a' [26, 27, 28, 29, 30, 31, 32, 33, 34, 35, 36, 37, 38, 39, 40, 41, 42, 43, 44, 45, 46, 47, 48, 49, 50, 51, 52, 53, 54, 55, 56, 57, 58, 59, 60, 61, 62, 63, 7] → Kp [] w.drew W → Sl a' 7 (.bool false) → Q .normal a' W) : (Code.region 9 (opsOf 9 Tryd.f29).toArray true).wp Tryd.prog Q a w := by
 have hap : apartB (opsOf 9 Tryd.f29) = true := by kernel_rfl
 refine wp_region_invU (l := (opsOf 9 Tryd.f29)) (fun i v W => match i with | 0 => v = .bool false | 1 => v = .bool false | 2 => v = .slice (some ad) n c | 3 => v = .int .i64 ((k : Nat) : Int) | 4 => v = .pointer (some (ad.add (k * 2))) | 5 => v = .agg #[.string ns, .slice Ak m ck] | 6 => v = .bool false | 7 => v = .bool false | 20 => v = .bool false | 21 => v = .bool false | 36 => v = .bool false | 37 => v = .bool false | 38 => v = .bool false | _ => True) (by kernel_rfl) hap (by kernel_rfl) ?_ ?_ ?_
 · intro i v W W' h _
   iterate 39 (rcases i with _ | i; · exact h)
   exact h
 · refine ⟨?_, ?_, ?_, ?_, ?_, ?_, ?_, ?_, ?_, ?_, ?_, ?_, ?_, ?_, ?_, ?_, ?_, ?_, ?_, ?_, ?_, ?_, ?_, ?_, ?_, ?_, ?_, ?_, ?_, ?_, ?_, ?_, ?_, ?_, ?_, ?_, ?_, ?_, ?_, trivial⟩
   · intro vs A' W hA hW hd hu K hK; refine wpOp_free _ rfl rfl ?_; (conv => arg 2; whnf)
     have e7 := sU 7 38 hA hap hsz
     rw [show vs 38 = .bool false from (hu 38 _ rfl (by kernel_rfl)).trans (o7.eval (sH 7 hsz rfl))] at e7
     clear hA hd hu o1 o2 o6 o7 o8; go_step; exact hK _ _ kR rfl
   · intro vs A' W hA hW hd hu K hK; refine wpOp_free _ rfl rfl ?_; (conv => arg 2; whnf); have e26 := sV 26 (hd 0 (by kernel_rfl)) hA hap hsz; clear hA hd hu o1 o2 o6 o7 o8; go_step; exact hK _ _ kR rfl
   · intro vs A' W hA hW hd hu K hK; have e27 := sV 27 (hd 1 (by kernel_rfl)) hA hap hsz; refine wpOp_go _ rfl 1 27 false rfl rfl e27 ?_; (conv => arg 2; whnf); have e1 := sO 1 o1 hA hap hsz; clear hA hd hu o1 o2 o6 o7 o8; go_step; exact hK _ _ kR rfl
   · intro vs A' W hA hW hd hu K hK; have e27 := sV 27 (hd 1 (by kernel_rfl)) hA hap hsz; refine wpOp_go _ rfl 1 27 false rfl rfl e27 ?_; (conv => arg 2; whnf); have e8 := sO 8 o8 hA hap hsz; clear hA hd hu o1 o2 o6 o7 o8; go_step; exact hK _ _ kR rfl
   · intro vs A' W hA hW hd hu K hK; have e27 := sV 27 (hd 1 (by kernel_rfl)) hA hap hsz; refine wpOp_go _ rfl 1 27 false rfl rfl e27 ?_; (conv => arg 2; whnf); have e28 := sV 28 (hd 2 (by kernel_rfl)) hA hap hsz; have e29 := sV 29 (hd 3 (by kernel_rfl)) hA hap hsz; clear hA hd hu o1 o2 o6 o7 o8
     have h0 : 0 ≤ (k : Int) := by omega
     have h1 : (k : Int) < (n : Int) := by omega
     go_step; exact hK _ _ kR rfl
   · intro vs A' W hA hW hd hu K hK; have e27 := sV 27 (hd 1 (by kernel_rfl)) hA hap hsz; refine wpOp_go _ rfl 1 27 false rfl rfl e27 ?_; (conv => arg 2; whnf); have e30 := sV 30 (hd 4 (by kernel_rfl)) hA hap hsz; clear hA hd hu o1 o2 o6 o7 o8
     refine op_runs (v := .agg #[.string ns, .slice Ak m ck]) (w' := W) (exec_load rfl (by simpa [Act.eval] using e30) (run_loadAt_agg W (ad.add (k * 2)) 42 (#[.string ns, .slice Ak m ck]).toList _ (hc _ hW) Tryd.underlying42 rfl (by exact Tryd.infoKeyP))) ?_
     exact hK _ _ kR rfl
   · intro vs A' W hA hW hd hu K hK; have e27 := sV 27 (hd 1 (by kernel_rfl)) hA hap hsz; refine wpOp_go _ rfl 1 27 false rfl rfl e27 ?_; (conv => arg 2; whnf); have e31 := sV 31 (hd 5 (by kernel_rfl)) hA hap hsz; clear hA hd hu o1 o2 o6 o7 o8; go_step
     refine (HKY _ hW).mono ?_
     rintro e w' ⟨rfl, k⟩
     exact hK _ _ k (congrArg Value.bool hbk)
   · intro vs A' W hA hW hd hu K hK; have e27 := sV 27 (hd 1 (by kernel_rfl)) hA hap hsz; refine wpOp_go _ rfl 1 27 false rfl rfl e27 ?_; (conv => arg 2; whnf); have e32 := sV 32 (hd 6 (by kernel_rfl)) hA hap hsz; clear hA hd hu o1 o2 o6 o7 o8; go_step; exact hK _ _ kR rfl
   · intro vs A' W hA hW hd hu K hK; have e33 := sV 33 (hd 7 (by kernel_rfl)) hA hap hsz; refine wpOp_skip _ rfl 7 33 true rfl rfl e33 ?_; exact hK _ _ kR trivial
   · intro vs A' W hA hW hd hu K hK; have e33 := sV 33 (hd 7 (by kernel_rfl)) hA hap hsz; refine wpOp_skip _ rfl 7 33 true rfl rfl e33 ?_; exact hK _ _ kR trivial
   · intro vs A' W hA hW hd hu K hK; have e33 := sV 33 (hd 7 (by kernel_rfl)) hA hap hsz; refine wpOp_skip _ rfl 7 33 true rfl rfl e33 ?_; exact hK _ _ kR trivial
   · intro vs A' W hA hW hd hu K hK; have e33 := sV 33 (hd 7 (by kernel_rfl)) hA hap hsz; refine wpOp_skip _ rfl 7 33 true rfl rfl e33 ?_; exact hK _ _ kR trivial
   · intro vs A' W hA hW hd hu K hK; have e33 := sV 33 (hd 7 (by kernel_rfl)) hA hap hsz; refine wpOp_skip _ rfl 7 33 true rfl rfl e33 ?_; exact hK _ _ kR trivial
   · intro vs A' W hA hW hd hu K hK; have e33 := sV 33 (hd 7 (by kernel_rfl)) hA hap hsz; refine wpOp_skip _ rfl 7 33 true rfl rfl e33 ?_; exact hK _ _ kR trivial
   · intro vs A' W hA hW hd hu K hK; have e33 := sV 33 (hd 7 (by kernel_rfl)) hA hap hsz; refine wpOp_skip _ rfl 7 33 true rfl rfl e33 ?_; exact hK _ _ kR trivial
   · intro vs A' W hA hW hd hu K hK; have e33 := sV 33 (hd 7 (by kernel_rfl)) hA hap hsz; refine wpOp_skip _ rfl 7 33 true rfl rfl e33 ?_; exact hK _ _ kR trivial
   · intro vs A' W hA hW hd hu K hK; have e33 := sV 33 (hd 7 (by kernel_rfl)) hA hap hsz; refine wpOp_skip _ rfl 7 33 true rfl rfl e33 ?_; exact hK _ _ kR trivial
   · intro vs A' W hA hW hd hu K hK; have e33 := sV 33 (hd 7 (by kernel_rfl)) hA hap hsz; refine wpOp_skip _ rfl 7 33 true rfl rfl e33 ?_; exact hK _ _ kR trivial
   · intro vs A' W hA hW hd hu K hK; have e33 := sV 33 (hd 7 (by kernel_rfl)) hA hap hsz; refine wpOp_skip _ rfl 7 33 true rfl rfl e33 ?_; exact hK _ _ kR trivial
   · intro vs A' W hA hW hd hu K hK; have e33 := sV 33 (hd 7 (by kernel_rfl)) hA hap hsz; refine wpOp_skip _ rfl 7 33 true rfl rfl e33 ?_; exact hK _ _ kR trivial
   · intro vs A' W hA hW hd hu K hK; have e27 := sV 27 (hd 1 (by kernel_rfl)) hA hap hsz; refine wpOp_go _ rfl 1 27 false rfl rfl e27 ?_; (conv => arg 2; whnf); have e33 := sV 33 (hd 7 (by kernel_rfl)) hA hap hsz
     have e45 := sU 45 19 hA hap hsz
     clear hA hd hu o1 o2 o6 o7 o8; go_step; exact hK _ _ kR rfl
   · intro vs A' W hA hW hd hu K hK; have e27 := sV 27 (hd 1 (by kernel_rfl)) hA hap hsz; refine wpOp_go _ rfl 1 27 false rfl rfl e27 ?_; (conv => arg 2; whnf); have e46 := sV 46 (hd 20 (by kernel_rfl)) hA hap hsz; clear hA hd hu o1 o2 o6 o7 o8; go_step; exact hK _ _ kR rfl
   · intro vs A' W hA hW hd hu K hK; have e47 := sV 47 (hd 21 (by kernel_rfl)) hA hap hsz; refine wpOp_skip _ rfl 21 47 true rfl rfl e47 ?_; exact hK _ _ kR trivial
   · intro vs A' W hA hW hd hu K hK; have e47 := sV 47 (hd 21 (by kernel_rfl)) hA hap hsz; refine wpOp_skip _ rfl 21 47 true rfl rfl e47 ?_; exact hK _ _ kR trivial
   · intro vs A' W hA hW hd hu K hK; have e47 := sV 47 (hd 21 (by kernel_rfl)) hA hap hsz; refine wpOp_skip _ rfl 21 47 true rfl rfl e47 ?_; exact hK _ _ kR trivial
   · intro vs A' W hA hW hd hu K hK; have e47 := sV 47 (hd 21 (by kernel_rfl)) hA hap hsz; refine wpOp_skip _ rfl 21 47 true rfl rfl e47 ?_; exact hK _ _ kR trivial
   · intro vs A' W hA hW hd hu K hK; have e47 := sV 47 (hd 21 (by kernel_rfl)) hA hap hsz; refine wpOp_skip _ rfl 21 47 true rfl rfl e47 ?_; exact hK _ _ kR trivial
   · intro vs A' W hA hW hd hu K hK; have e47 := sV 47 (hd 21 (by kernel_rfl)) hA hap hsz; refine wpOp_skip _ rfl 21 47 true rfl rfl e47 ?_; exact hK _ _ kR trivial
   · intro vs A' W hA hW hd hu K hK; have e47 := sV 47 (hd 21 (by kernel_rfl)) hA hap hsz; refine wpOp_skip _ rfl 21 47 true rfl rfl e47 ?_; exact hK _ _ kR trivial
   · intro vs A' W hA hW hd hu K hK; have e47 := sV 47 (hd 21 (by kernel_rfl)) hA hap hsz; refine wpOp_skip _ rfl 21 47 true rfl rfl e47 ?_; exact hK _ _ kR trivial
   · intro vs A' W hA hW hd hu K hK; have e47 := sV 47 (hd 21 (by kernel_rfl)) hA hap hsz; refine wpOp_skip _ rfl 21 47 true rfl rfl e47 ?_; exact hK _ _ kR trivial
   · intro vs A' W hA hW hd hu K hK; have e47 := sV 47 (hd 21 (by kernel_rfl)) hA hap hsz; refine wpOp_skip _ rfl 21 47 true rfl rfl e47 ?_; exact hK _ _ kR trivial
   · intro vs A' W hA hW hd hu K hK; have e47 := sV 47 (hd 21 (by kernel_rfl)) hA hap hsz; refine wpOp_skip _ rfl 21 47 true rfl rfl e47 ?_; exact hK _ _ kR trivial
   · intro vs A' W hA hW hd hu K hK; have e47 := sV 47 (hd 21 (by kernel_rfl)) hA hap hsz; refine wpOp_skip _ rfl 21 47 true rfl rfl e47 ?_; exact hK _ _ kR trivial
   · intro vs A' W hA hW hd hu K hK; have e47 := sV 47 (hd 21 (by kernel_rfl)) hA hap hsz; refine wpOp_skip _ rfl 21 47 true rfl rfl e47 ?_; exact hK _ _ kR trivial
   · intro vs A' W hA hW hd hu K hK; have e47 := sV 47 (hd 21 (by kernel_rfl)) hA hap hsz; refine wpOp_skip _ rfl 21 47 true rfl rfl e47 ?_; exact hK _ _ kR trivial
   · intro vs A' W hA hW hd hu K hK; have e27 := sV 27 (hd 1 (by kernel_rfl)) hA hap hsz; refine wpOp_go _ rfl 1 27 false rfl rfl e27 ?_; (conv => arg 2; whnf); have e47 := sV 47 (hd 21 (by kernel_rfl)) hA hap hsz
     have e61 := sU 61 35 hA hap hsz
     clear hA hd hu o1 o2 o6 o7 o8; go_step; exact hK _ _ kR rfl
   · intro vs A' W hA hW hd hu K hK; refine wpOp_free _ rfl rfl ?_; (conv => arg 2; whnf); have e27 := sV 27 (hd 1 (by kernel_rfl)) hA hap hsz; have e62 := sV 62 (hd 36 (by kernel_rfl)) hA hap hsz; clear hA hd hu o1 o2 o6 o7 o8; go_step; exact hK _ _ kR rfl
   · intro vs A' W hA hW hd hu K hK; refine wpOp_free _ rfl rfl ?_; (conv => arg 2; whnf); have e63 := sV 63 (hd 37 (by kernel_rfl)) hA hap hsz; clear hA hd hu o1 o2 o6 o7 o8; go_step; exact hK _ _ kR rfl
 · intro vs W hW hp
   rw [putAll_eq]
   exact hend _ W sQ hW (sW (hp 38 sB))
theorem rrt_r9C (ad : Addr) (k n c : Nat) (hk : k < n) (ns : ByteArray) (Ak : Option Addr) (m ck : Nat) (hc : ∀ V, Kp [] w.drew V → ∀ j u, ([.string ns, .slice Ak m ck] : List Value)[j]? = some u → V.cell? ((ad.add (k * 2)).add j) = some u) (z : Int) (h : List UInt8) (hh : h.length = 32) (a2 : Addr) (q e ix : Nat) (hi : ix < q) (g2 : Nat) (hb2 : Blk w.drew g2 36 (ntA z h (.slice (some a2) q e))) (ms : ByteArray) (sm : List UInt8) (hsl : sm.length = 32) (hs : ∀ V, Kp [] w.drew V → ∀ j u, (.string ms :: bv sm : List Value)[j]? = some u → V.cell? ((a2.add (ix * 33)).add j) = some u) (bk : Bool) (HKY : ∀ V, Kp [] w.drew V → Calls Tryd.prog 50 #[.agg #[.string ns, .slice Ak m ck]] V fun r w' => r = .returned (.bool bk) ∧ Kp [] V w') (SF : List UInt8) (hSF : SF.length = 32) (bq : Bool) (hbq : (ns.toList == ms.toList) = bq) (hbk : bk = true) (hbt : bq = false) (hsz : a.tmps.size = 75) (o1 : Sl a 1 (.slice (some ad) n c)) (o2 : Sl a 2 (.pointer (some ⟨g2, 0, none⟩))) (o6 : Sl a 6 (.int .i64 ((ix : Nat) : Int))) (o7 : Sl a 7 (.bool false)) (o8 : Sl a 8 (.int .i64 ((k : Nat) : Int)))
 (hend : ∀ a' W, Same a a' [26, 27, 28, 29, 30, 31, 32, 33, 34, 35, 36, 37, 38, 39, 40, 41, 42, 43, 44, 45, 46, 47, 48, 49, 50, 51, 52, 53, 54, 55, 56, 57, 58, 59, 60, 61, 62, 63, 7] → Kp [] w.drew W → Sl a' 7 (.bool false) → Q .normal a' W) : (Code.region 9 (opsOf 9 Tryd.f29).toArray true).wp Tryd.prog Q a w := by
 have hap : apartB (opsOf 9 Tryd.f29) = true := by kernel_rfl
 refine wp_region_invU (l := (opsOf 9 Tryd.f29)) (fun i v W => match i with | 0 => v = .bool false | 1 => v = .bool false | 2 => v = .slice (some ad) n c | 3 => v = .int .i64 ((k : Nat) : Int) | 4 => v = .pointer (some (ad.add (k * 2))) | 5 => v = .agg #[.string ns, .slice Ak m ck] | 6 => v = .bool true | 7 => v = .bool true | 8 => v = .slice (some ad) n c | 9 => v = .int .i64 ((k : Nat) : Int) | 10 => v = .pointer (some (ad.add (k * 2))) | 11 => v = .pointer (some (ad.add (k * 2))) | 12 => v = .string ns | 13 => v = .pointer (some ⟨g2, 33, none⟩) | 14 => v = .slice (some a2) q e | 15 => v = .int .i64 ((ix : Nat) : Int) | 16 => v = .pointer (some (a2.add (ix * 33))) | 17 => v = .pointer (some (a2.add (ix * 33))) | 18 => v = .string ms | 19 => v = .bool false | 20 => v = .bool false | 21 => v = .bool false | 36 => v = .bool false | 37 => v = .bool false | 38 => v = .bool false | _ => True) (by kernel_rfl) hap (by kernel_rfl) ?_ ?_ ?_
 · intro i v W W' h _
   iterate 39 (rcases i with _ | i; · exact h)
   exact h
 · refine ⟨?_, ?_, ?_, ?_, ?_, ?_, ?_, ?_, ?_, ?_, ?_, ?_, ?_, ?_, ?_, ?_, ?_, ?_, ?_, ?_, ?_, ?_, ?_, ?_, ?_, ?_, ?_, ?_, ?_, ?_, ?_, ?_, ?_, ?_, ?_, ?_, ?_, ?_, ?_, trivial⟩
   · intro vs A' W hA hW hd hu K hK; refine wpOp_free _ rfl rfl ?_; (conv => arg 2; whnf)
     have e7 := sU 7 38 hA hap hsz
     rw [show vs 38 = .bool false from (hu 38 _ rfl (by kernel_rfl)).trans (o7.eval (sH 7 hsz rfl))] at e7
     clear hA hd hu o1 o2 o6 o7 o8; go_step; exact hK _ _ kR rfl
   · intro vs A' W hA hW hd hu K hK; refine wpOp_free _ rfl rfl ?_; (conv => arg 2; whnf); have e26 := sV 26 (hd 0 (by kernel_rfl)) hA hap hsz; clear hA hd hu o1 o2 o6 o7 o8; go_step; exact hK _ _ kR rfl
   · intro vs A' W hA hW hd hu K hK; have e27 := sV 27 (hd 1 (by kernel_rfl)) hA hap hsz; refine wpOp_go _ rfl 1 27 false rfl rfl e27 ?_; (conv => arg 2; whnf); have e1 := sO 1 o1 hA hap hsz; clear hA hd hu o1 o2 o6 o7 o8; go_step; exact hK _ _ kR rfl
   · intro vs A' W hA hW hd hu K hK; have e27 := sV 27 (hd 1 (by kernel_rfl)) hA hap hsz; refine wpOp_go _ rfl 1 27 false rfl rfl e27 ?_; (conv => arg 2; whnf); have e8 := sO 8 o8 hA hap hsz; clear hA hd hu o1 o2 o6 o7 o8; go_step; exact hK _ _ kR rfl
   · intro vs A' W hA hW hd hu K hK; have e27 := sV 27 (hd 1 (by kernel_rfl)) hA hap hsz; refine wpOp_go _ rfl 1 27 false rfl rfl e27 ?_; (conv => arg 2; whnf); have e28 := sV 28 (hd 2 (by kernel_rfl)) hA hap hsz; have e29 := sV 29 (hd 3 (by kernel_rfl)) hA hap hsz; clear hA hd hu o1 o2 o6 o7 o8
     have h0 : 0 ≤ (k : Int) := by omega
     have h1 : (k : Int) < (n : Int) := by omega
     go_step; exact hK _ _ kR rfl
   · intro vs A' W hA hW hd hu K hK; have e27 := sV 27 (hd 1 (by kernel_rfl)) hA hap hsz; refine wpOp_go _ rfl 1 27 false rfl rfl e27 ?_; (conv => arg 2; whnf); have e30 := sV 30 (hd 4 (by kernel_rfl)) hA hap hsz; clear hA hd hu o1 o2 o6 o7 o8
     refine op_runs (v := .agg #[.string ns, .slice Ak m ck]) (w' := W) (exec_load rfl (by simpa [Act.eval] using e30) (run_loadAt_agg W (ad.add (k * 2)) 42 (#[.string ns, .slice Ak m ck]).toList _ (hc _ hW) Tryd.underlying42 rfl (by exact Tryd.infoKeyP))) ?_
     exact hK _ _ kR rfl
   · intro vs A' W hA hW hd hu K hK; have e27 := sV 27 (hd 1 (by kernel_rfl)) hA hap hsz; refine wpOp_go _ rfl 1 27 false rfl rfl e27 ?_; (conv => arg 2; whnf); have e31 := sV 31 (hd 5 (by kernel_rfl)) hA hap hsz; clear hA hd hu o1 o2 o6 o7 o8; go_step
     refine (HKY _ hW).mono ?_
     rintro e w' ⟨rfl, k⟩
     exact hK _ _ k (congrArg Value.bool hbk)
   · intro vs A' W hA hW hd hu K hK; have e27 := sV 27 (hd 1 (by kernel_rfl)) hA hap hsz; refine wpOp_go _ rfl 1 27 false rfl rfl e27 ?_; (conv => arg 2; whnf); have e32 := sV 32 (hd 6 (by kernel_rfl)) hA hap hsz; clear hA hd hu o1 o2 o6 o7 o8; go_step; exact hK _ _ kR rfl
   · intro vs A' W hA hW hd hu K hK; have e33 := sV 33 (hd 7 (by kernel_rfl)) hA hap hsz; refine wpOp_go _ rfl 7 33 true rfl rfl e33 ?_; (conv => arg 2; whnf); have e1 := sO 1 o1 hA hap hsz; clear hA hd hu o1 o2 o6 o7 o8; go_step; exact hK _ _ kR rfl
   · intro vs A' W hA hW hd hu K hK; have e33 := sV 33 (hd 7 (by kernel_rfl)) hA hap hsz; refine wpOp_go _ rfl 7 33 true rfl rfl e33 ?_; (conv => arg 2; whnf); have e8 := sO 8 o8 hA hap hsz; clear hA hd hu o1 o2 o6 o7 o8; go_step; exact hK _ _ kR rfl
   · intro vs A' W hA hW hd hu K hK; have e33 := sV 33 (hd 7 (by kernel_rfl)) hA hap hsz; refine wpOp_go _ rfl 7 33 true rfl rfl e33 ?_; (conv => arg 2; whnf); have e34 := sV 34 (hd 8 (by kernel_rfl)) hA hap hsz; have e35 := sV 35 (hd 9 (by kernel_rfl)) hA hap hsz; clear hA hd hu o1 o2 o6 o7 o8
     have h0 : 0 ≤ (k : Int) := by omega
     have h1 : (k : Int) < (n : Int) := by omega
     go_step; exact hK _ _ kR rfl
   · intro vs A' W hA hW hd hu K hK; have e33 := sV 33 (hd 7 (by kernel_rfl)) hA hap hsz; refine wpOp_go _ rfl 7 33 true rfl rfl e33 ?_; (conv => arg 2; whnf); have e36 := sV 36 (hd 10 (by kernel_rfl)) hA hap hsz; clear hA hd hu o1 o2 o6 o7 o8; go_step; exact hK _ _ kR rfl
   · intro vs A' W hA hW hd hu K hK; have e33 := sV 33 (hd 7 (by kernel_rfl)) hA hap hsz; refine wpOp_go _ rfl 7 33 true rfl rfl e33 ?_; (conv => arg 2; whnf); have e37 := sV 37 (hd 11 (by kernel_rfl)) hA hap hsz; clear hA hd hu o1 o2 o6 o7 o8
     have c0 : W.cell? (ad.add (k * 2)) = some (.string ns) := by have := hc _ hW 0 (.string ns) rfl; rwa [addr0] at this
     go_step; exact hK _ _ kR rfl
   · intro vs A' W hA hW hd hu K hK; have e33 := sV 33 (hd 7 (by kernel_rfl)) hA hap hsz; refine wpOp_go _ rfl 7 33 true rfl rfl e33 ?_; (conv => arg 2; whnf); have e2 := sO 2 o2 hA hap hsz; clear hA hd hu o1 o2 o6 o7 o8; go_step; exact hK _ _ kR rfl
   · intro vs A' W hA hW hd hu K hK; have e33 := sV 33 (hd 7 (by kernel_rfl)) hA hap hsz; refine wpOp_go _ rfl 7 33 true rfl rfl e33 ?_; (conv => arg 2; whnf); have e39 := sV 39 (hd 13 (by kernel_rfl)) hA hap hsz; clear hA hd hu o1 o2 o6 o7 o8
     have c0 : W.cell? ⟨g2, 33, none⟩ = some (.slice (some a2) q e) := by rw [(hb2.kp hW (by simp)).cell]; exact ntA_sigs hh
     go_step; exact hK _ _ kR rfl
   · intro vs A' W hA hW hd hu K hK; have e33 := sV 33 (hd 7 (by kernel_rfl)) hA hap hsz; refine wpOp_go _ rfl 7 33 true rfl rfl e33 ?_; (conv => arg 2; whnf); have e6 := sO 6 o6 hA hap hsz; clear hA hd hu o1 o2 o6 o7 o8; go_step; exact hK _ _ kR rfl
   · intro vs A' W hA hW hd hu K hK; have e33 := sV 33 (hd 7 (by kernel_rfl)) hA hap hsz; refine wpOp_go _ rfl 7 33 true rfl rfl e33 ?_; (conv => arg 2; whnf); have e40 := sV 40 (hd 14 (by kernel_rfl)) hA hap hsz; have e41 := sV 41 (hd 15 (by kernel_rfl)) hA hap hsz; clear hA hd hu o1 o2 o6 o7 o8
     have h0 : 0 ≤ (ix : Int) := by omega
     have h1 : (ix : Int) < (q : Int) := by omega
     go_step; exact hK _ _ kR rfl
   · intro vs A' W hA hW hd hu K hK; have e33 := sV 33 (hd 7 (by kernel_rfl)) hA hap hsz; refine wpOp_go _ rfl 7 33 true rfl rfl e33 ?_; (conv => arg 2; whnf); have e42 := sV 42 (hd 16 (by kernel_rfl)) hA hap hsz; clear hA hd hu o1 o2 o6 o7 o8; go_step; exact hK _ _ kR rfl
   · intro vs A' W hA hW hd hu K hK; have e33 := sV 33 (hd 7 (by kernel_rfl)) hA hap hsz; refine wpOp_go _ rfl 7 33 true rfl rfl e33 ?_; (conv => arg 2; whnf); have e43 := sV 43 (hd 17 (by kernel_rfl)) hA hap hsz; clear hA hd hu o1 o2 o6 o7 o8
     have c0 : W.cell? (a2.add (ix * 33)) = some (.string ms) := by have := hs _ hW 0 (.string ms) rfl; rwa [addr0] at this
     go_step; exact hK _ _ kR rfl
   · intro vs A' W hA hW hd hu K hK; have e33 := sV 33 (hd 7 (by kernel_rfl)) hA hap hsz; refine wpOp_go _ rfl 7 33 true rfl rfl e33 ?_; (conv => arg 2; whnf); have e38 := sV 38 (hd 12 (by kernel_rfl)) hA hap hsz; have e44 := sV 44 (hd 18 (by kernel_rfl)) hA hap hsz; clear hA hd hu o1 o2 o6 o7 o8; go_step
     exact hK _ _ kR (by first | rfl | exact congrArg Value.bool (hbq.trans hbt))
   · intro vs A' W hA hW hd hu K hK; have e27 := sV 27 (hd 1 (by kernel_rfl)) hA hap hsz; refine wpOp_go _ rfl 1 27 false rfl rfl e27 ?_; (conv => arg 2; whnf); have e33 := sV 33 (hd 7 (by kernel_rfl)) hA hap hsz; have e45 := sV 45 (hd 19 (by kernel_rfl)) hA hap hsz; clear hA hd hu o1 o2 o6 o7 o8; go_step; exact hK _ _ kR rfl
   · intro vs A' W hA hW hd hu K hK; have e27 := sV 27 (hd 1 (by kernel_rfl)) hA hap hsz; refine wpOp_go _ rfl 1 27 false rfl rfl e27 ?_; (conv => arg 2; whnf); have e46 := sV 46 (hd 20 (by kernel_rfl)) hA hap hsz; clear hA hd hu o1 o2 o6 o7 o8; go_step; exact hK _ _ kR rfl
   · intro vs A' W hA hW hd hu K hK; have e47 := sV 47 (hd 21 (by kernel_rfl)) hA hap hsz; refine wpOp_skip _ rfl 21 47 true rfl rfl e47 ?_; exact hK _ _ kR trivial
   · intro vs A' W hA hW hd hu K hK; have e47 := sV 47 (hd 21 (by kernel_rfl)) hA hap hsz; refine wpOp_skip _ rfl 21 47 true rfl rfl e47 ?_; exact hK _ _ kR trivial
   · intro vs A' W hA hW hd hu K hK; have e47 := sV 47 (hd 21 (by kernel_rfl)) hA hap hsz; refine wpOp_skip _ rfl 21 47 true rfl rfl e47 ?_; exact hK _ _ kR trivial
   · intro vs A' W hA hW hd hu K hK; have e47 := sV 47 (hd 21 (by kernel_rfl)) hA hap hsz; refine wpOp_skip _ rfl 21 47 true rfl rfl e47 ?_; exact hK _ _ kR trivial
   · intro vs A' W hA hW hd hu K hK; have e47 := sV 47 (hd 21 (by kernel_rfl)) hA hap hsz; refine wpOp_skip _ rfl 21 47 true rfl rfl e47 ?_; exact hK _ _ kR trivial
   · intro vs A' W hA hW hd hu K hK; have e47 := sV 47 (hd 21 (by kernel_rfl)) hA hap hsz; refine wpOp_skip _ rfl 21 47 true rfl rfl e47 ?_; exact hK _ _ kR trivial
   · intro vs A' W hA hW hd hu K hK; have e47 := sV 47 (hd 21 (by kernel_rfl)) hA hap hsz; refine wpOp_skip _ rfl 21 47 true rfl rfl e47 ?_; exact hK _ _ kR trivial
   · intro vs A' W hA hW hd hu K hK; have e47 := sV 47 (hd 21 (by kernel_rfl)) hA hap hsz; refine wpOp_skip _ rfl 21 47 true rfl rfl e47 ?_; exact hK _ _ kR trivial
   · intro vs A' W hA hW hd hu K hK; have e47 := sV 47 (hd 21 (by kernel_rfl)) hA hap hsz; refine wpOp_skip _ rfl 21 47 true rfl rfl e47 ?_; exact hK _ _ kR trivial
   · intro vs A' W hA hW hd hu K hK; have e47 := sV 47 (hd 21 (by kernel_rfl)) hA hap hsz; refine wpOp_skip _ rfl 21 47 true rfl rfl e47 ?_; exact hK _ _ kR trivial
   · intro vs A' W hA hW hd hu K hK; have e47 := sV 47 (hd 21 (by kernel_rfl)) hA hap hsz; refine wpOp_skip _ rfl 21 47 true rfl rfl e47 ?_; exact hK _ _ kR trivial
   · intro vs A' W hA hW hd hu K hK; have e47 := sV 47 (hd 21 (by kernel_rfl)) hA hap hsz; refine wpOp_skip _ rfl 21 47 true rfl rfl e47 ?_; exact hK _ _ kR trivial
   · intro vs A' W hA hW hd hu K hK; have e47 := sV 47 (hd 21 (by kernel_rfl)) hA hap hsz; refine wpOp_skip _ rfl 21 47 true rfl rfl e47 ?_; exact hK _ _ kR trivial
   · intro vs A' W hA hW hd hu K hK; have e47 := sV 47 (hd 21 (by kernel_rfl)) hA hap hsz; refine wpOp_skip _ rfl 21 47 true rfl rfl e47 ?_; exact hK _ _ kR trivial
   · intro vs A' W hA hW hd hu K hK; have e27 := sV 27 (hd 1 (by kernel_rfl)) hA hap hsz; refine wpOp_go _ rfl 1 27 false rfl rfl e27 ?_; (conv => arg 2; whnf); have e47 := sV 47 (hd 21 (by kernel_rfl)) hA hap hsz
     have e61 := sU 61 35 hA hap hsz
     clear hA hd hu o1 o2 o6 o7 o8; go_step; exact hK _ _ kR rfl
   · intro vs A' W hA hW hd hu K hK; refine wpOp_free _ rfl rfl ?_; (conv => arg 2; whnf); have e27 := sV 27 (hd 1 (by kernel_rfl)) hA hap hsz; have e62 := sV 62 (hd 36 (by kernel_rfl)) hA hap hsz; clear hA hd hu o1 o2 o6 o7 o8; go_step; exact hK _ _ kR rfl
   · intro vs A' W hA hW hd hu K hK; refine wpOp_free _ rfl rfl ?_; (conv => arg 2; whnf); have e63 := sV 63 (hd 37 (by kernel_rfl)) hA hap hsz; clear hA hd hu o1 o2 o6 o7 o8; go_step; exact hK _ _ kR rfl
 · intro vs W hW hp
   rw [putAll_eq]
   exact hend _ W sQ hW (sW (hp 38 sB))
theorem rrt_r9D (ad : Addr) (k n c : Nat) (hk : k < n) (ns : ByteArray) (Ak : Option Addr) (m ck : Nat) (hc : ∀ V, Kp [] w.drew V → ∀ j u, ([.string ns, .slice Ak m ck] : List Value)[j]? = some u → V.cell? ((ad.add (k * 2)).add j) = some u) (z : Int) (h : List UInt8) (hh : h.length = 32) (a2 : Addr) (q e ix : Nat) (hi : ix < q) (g2 : Nat) (hb2 : Blk w.drew g2 36 (ntA z h (.slice (some a2) q e))) (ms : ByteArray) (sm : List UInt8) (hsl : sm.length = 32) (hs : ∀ V, Kp [] w.drew V → ∀ j u, (.string ms :: bv sm : List Value)[j]? = some u → V.cell? ((a2.add (ix * 33)).add j) = some u) (bk : Bool) (HKY : ∀ V, Kp [] w.drew V → Calls Tryd.prog 50 #[.agg #[.string ns, .slice Ak m ck]] V fun r w' => r = .returned (.bool bk) ∧ Kp [] V w') (SF : List UInt8) (hSF : SF.length = 32) (bq : Bool) (hbq : (ns.toList == ms.toList) = bq) (hbk : bk = true) (hbt : bq = true) (HJ : ∀ V, Kp [] w.drew V → Calls Tryd.prog 53 #[.agg (ptA z h), .agg #[.string ns, .slice Ak m ck]] V fun r w' => r = .returned (.agg (hashA SF)) ∧ Kp [] V w') (hsz : a.tmps.size = 75) (o1 : Sl a 1 (.slice (some ad) n c)) (o2 : Sl a 2 (.pointer (some ⟨g2, 0, none⟩))) (o6 : Sl a 6 (.int .i64 ((ix : Nat) : Int))) (o7 : Sl a 7 (.bool false)) (o8 : Sl a 8 (.int .i64 ((k : Nat) : Int)))
 (hend : ∀ a' W, Same a a' [26, 27, 28, 29, 30, 31, 32, 33, 34, 35, 36, 37, 38, 39, 40, 41, 42, 43, 44, 45, 46, 47, 48, 49, 50, 51, 52, 53, 54, 55, 56, 57, 58, 59, 60, 61, 62, 63, 7] → Kp [] w.drew W → Sl a' 7 (.bool (SF == sm)) → Q .normal a' W) : (Code.region 9 (opsOf 9 Tryd.f29).toArray true).wp Tryd.prog Q a w := by
 have hap : apartB (opsOf 9 Tryd.f29) = true := by kernel_rfl
 refine wp_region_invU (l := (opsOf 9 Tryd.f29)) (fun i v W => match i with | 0 => v = .bool false | 1 => v = .bool false | 2 => v = .slice (some ad) n c | 3 => v = .int .i64 ((k : Nat) : Int) | 4 => v = .pointer (some (ad.add (k * 2))) | 5 => v = .agg #[.string ns, .slice Ak m ck] | 6 => v = .bool true | 7 => v = .bool true | 8 => v = .slice (some ad) n c | 9 => v = .int .i64 ((k : Nat) : Int) | 10 => v = .pointer (some (ad.add (k * 2))) | 11 => v = .pointer (some (ad.add (k * 2))) | 12 => v = .string ns | 13 => v = .pointer (some ⟨g2, 33, none⟩) | 14 => v = .slice (some a2) q e | 15 => v = .int .i64 ((ix : Nat) : Int) | 16 => v = .pointer (some (a2.add (ix * 33))) | 17 => v = .pointer (some (a2.add (ix * 33))) | 18 => v = .string ms | 19 => v = .bool true | 20 => v = .bool true | 21 => v = .bool true | 22 => v = .pointer (some ⟨g2, 0, none⟩) | 23 => v = .agg (ptA z h) | 24 => v = .slice (some ad) n c | 25 => v = .int .i64 ((k : Nat) : Int) | 26 => v = .pointer (some (ad.add (k * 2))) | 27 => v = .agg #[.string ns, .slice Ak m ck] | 28 => v = .agg (hashA SF) | 29 => v = .pointer (some ⟨g2, 33, none⟩) | 30 => v = .slice (some a2) q e | 31 => v = .int .i64 ((ix : Nat) : Int) | 32 => v = .pointer (some (a2.add (ix * 33))) | 33 => v = .pointer (some ((a2.add (ix * 33)).add 1)) | 34 => v = .agg (hashA sm) | 35 => v = .bool (SF == sm) | 36 => v = .bool (SF == sm) | 37 => v = .bool (SF == sm) | 38 => v = .bool (SF == sm) | _ => True) (by kernel_rfl) hap (by kernel_rfl) ?_ ?_ ?_
 · intro i v W W' h _
   iterate 39 (rcases i with _ | i; · exact h)
   exact h
 · refine ⟨?_, ?_, ?_, ?_, ?_, ?_, ?_, ?_, ?_, ?_, ?_, ?_, ?_, ?_, ?_, ?_, ?_, ?_, ?_, ?_, ?_, ?_, ?_, ?_, ?_, ?_, ?_, ?_, ?_, ?_, ?_, ?_, ?_, ?_, ?_, ?_, ?_, ?_, ?_, trivial⟩
   · intro vs A' W hA hW hd hu K hK; refine wpOp_free _ rfl rfl ?_; (conv => arg 2; whnf)
     have e7 := sU 7 38 hA hap hsz
     rw [show vs 38 = .bool false from (hu 38 _ rfl (by kernel_rfl)).trans (o7.eval (sH 7 hsz rfl))] at e7
     clear hA hd hu o1 o2 o6 o7 o8; go_step; exact hK _ _ kR rfl
   · intro vs A' W hA hW hd hu K hK; refine wpOp_free _ rfl rfl ?_; (conv => arg 2; whnf); have e26 := sV 26 (hd 0 (by kernel_rfl)) hA hap hsz; clear hA hd hu o1 o2 o6 o7 o8; go_step; exact hK _ _ kR rfl
   · intro vs A' W hA hW hd hu K hK; have e27 := sV 27 (hd 1 (by kernel_rfl)) hA hap hsz; refine wpOp_go _ rfl 1 27 false rfl rfl e27 ?_; (conv => arg 2; whnf); have e1 := sO 1 o1 hA hap hsz; clear hA hd hu o1 o2 o6 o7 o8; go_step; exact hK _ _ kR rfl
   · intro vs A' W hA hW hd hu K hK; have e27 := sV 27 (hd 1 (by kernel_rfl)) hA hap hsz; refine wpOp_go _ rfl 1 27 false rfl rfl e27 ?_; (conv => arg 2; whnf); have e8 := sO 8 o8 hA hap hsz; clear hA hd hu o1 o2 o6 o7 o8; go_step; exact hK _ _ kR rfl
   · intro vs A' W hA hW hd hu K hK; have e27 := sV 27 (hd 1 (by kernel_rfl)) hA hap hsz; refine wpOp_go _ rfl 1 27 false rfl rfl e27 ?_; (conv => arg 2; whnf); have e28 := sV 28 (hd 2 (by kernel_rfl)) hA hap hsz; have e29 := sV 29 (hd 3 (by kernel_rfl)) hA hap hsz; clear hA hd hu o1 o2 o6 o7 o8
     have h0 : 0 ≤ (k : Int) := by omega
     have h1 : (k : Int) < (n : Int) := by omega
     go_step; exact hK _ _ kR rfl
   · intro vs A' W hA hW hd hu K hK; have e27 := sV 27 (hd 1 (by kernel_rfl)) hA hap hsz; refine wpOp_go _ rfl 1 27 false rfl rfl e27 ?_; (conv => arg 2; whnf); have e30 := sV 30 (hd 4 (by kernel_rfl)) hA hap hsz; clear hA hd hu o1 o2 o6 o7 o8
     refine op_runs (v := .agg #[.string ns, .slice Ak m ck]) (w' := W) (exec_load rfl (by simpa [Act.eval] using e30) (run_loadAt_agg W (ad.add (k * 2)) 42 (#[.string ns, .slice Ak m ck]).toList _ (hc _ hW) Tryd.underlying42 rfl (by exact Tryd.infoKeyP))) ?_
     exact hK _ _ kR rfl
   · intro vs A' W hA hW hd hu K hK; have e27 := sV 27 (hd 1 (by kernel_rfl)) hA hap hsz; refine wpOp_go _ rfl 1 27 false rfl rfl e27 ?_; (conv => arg 2; whnf); have e31 := sV 31 (hd 5 (by kernel_rfl)) hA hap hsz; clear hA hd hu o1 o2 o6 o7 o8; go_step
     refine (HKY _ hW).mono ?_
     rintro e w' ⟨rfl, k⟩
     exact hK _ _ k (congrArg Value.bool hbk)
   · intro vs A' W hA hW hd hu K hK; have e27 := sV 27 (hd 1 (by kernel_rfl)) hA hap hsz; refine wpOp_go _ rfl 1 27 false rfl rfl e27 ?_; (conv => arg 2; whnf); have e32 := sV 32 (hd 6 (by kernel_rfl)) hA hap hsz; clear hA hd hu o1 o2 o6 o7 o8; go_step; exact hK _ _ kR rfl
   · intro vs A' W hA hW hd hu K hK; have e33 := sV 33 (hd 7 (by kernel_rfl)) hA hap hsz; refine wpOp_go _ rfl 7 33 true rfl rfl e33 ?_; (conv => arg 2; whnf); have e1 := sO 1 o1 hA hap hsz; clear hA hd hu o1 o2 o6 o7 o8; go_step; exact hK _ _ kR rfl
   · intro vs A' W hA hW hd hu K hK; have e33 := sV 33 (hd 7 (by kernel_rfl)) hA hap hsz; refine wpOp_go _ rfl 7 33 true rfl rfl e33 ?_; (conv => arg 2; whnf); have e8 := sO 8 o8 hA hap hsz; clear hA hd hu o1 o2 o6 o7 o8; go_step; exact hK _ _ kR rfl
   · intro vs A' W hA hW hd hu K hK; have e33 := sV 33 (hd 7 (by kernel_rfl)) hA hap hsz; refine wpOp_go _ rfl 7 33 true rfl rfl e33 ?_; (conv => arg 2; whnf); have e34 := sV 34 (hd 8 (by kernel_rfl)) hA hap hsz; have e35 := sV 35 (hd 9 (by kernel_rfl)) hA hap hsz; clear hA hd hu o1 o2 o6 o7 o8
     have h0 : 0 ≤ (k : Int) := by omega
     have h1 : (k : Int) < (n : Int) := by omega
     go_step; exact hK _ _ kR rfl
   · intro vs A' W hA hW hd hu K hK; have e33 := sV 33 (hd 7 (by kernel_rfl)) hA hap hsz; refine wpOp_go _ rfl 7 33 true rfl rfl e33 ?_; (conv => arg 2; whnf); have e36 := sV 36 (hd 10 (by kernel_rfl)) hA hap hsz; clear hA hd hu o1 o2 o6 o7 o8; go_step; exact hK _ _ kR rfl
   · intro vs A' W hA hW hd hu K hK; have e33 := sV 33 (hd 7 (by kernel_rfl)) hA hap hsz; refine wpOp_go _ rfl 7 33 true rfl rfl e33 ?_; (conv => arg 2; whnf); have e37 := sV 37 (hd 11 (by kernel_rfl)) hA hap hsz; clear hA hd hu o1 o2 o6 o7 o8
     have c0 : W.cell? (ad.add (k * 2)) = some (.string ns) := by have := hc _ hW 0 (.string ns) rfl; rwa [addr0] at this
     go_step; exact hK _ _ kR rfl
   · intro vs A' W hA hW hd hu K hK; have e33 := sV 33 (hd 7 (by kernel_rfl)) hA hap hsz; refine wpOp_go _ rfl 7 33 true rfl rfl e33 ?_; (conv => arg 2; whnf); have e2 := sO 2 o2 hA hap hsz; clear hA hd hu o1 o2 o6 o7 o8; go_step; exact hK _ _ kR rfl
   · intro vs A' W hA hW hd hu K hK; have e33 := sV 33 (hd 7 (by kernel_rfl)) hA hap hsz; refine wpOp_go _ rfl 7 33 true rfl rfl e33 ?_; (conv => arg 2; whnf); have e39 := sV 39 (hd 13 (by kernel_rfl)) hA hap hsz; clear hA hd hu o1 o2 o6 o7 o8
     have c0 : W.cell? ⟨g2, 33, none⟩ = some (.slice (some a2) q e) := by rw [(hb2.kp hW (by simp)).cell]; exact ntA_sigs hh
     go_step; exact hK _ _ kR rfl
   · intro vs A' W hA hW hd hu K hK; have e33 := sV 33 (hd 7 (by kernel_rfl)) hA hap hsz; refine wpOp_go _ rfl 7 33 true rfl rfl e33 ?_; (conv => arg 2; whnf); have e6 := sO 6 o6 hA hap hsz; clear hA hd hu o1 o2 o6 o7 o8; go_step; exact hK _ _ kR rfl
   · intro vs A' W hA hW hd hu K hK; have e33 := sV 33 (hd 7 (by kernel_rfl)) hA hap hsz; refine wpOp_go _ rfl 7 33 true rfl rfl e33 ?_; (conv => arg 2; whnf); have e40 := sV 40 (hd 14 (by kernel_rfl)) hA hap hsz; have e41 := sV 41 (hd 15 (by kernel_rfl)) hA hap hsz; clear hA hd hu o1 o2 o6 o7 o8
     have h0 : 0 ≤ (ix : Int) := by omega
     have h1 : (ix : Int) < (q : Int) := by omega
     go_step; exact hK _ _ kR rfl
   · intro vs A' W hA hW hd hu K hK; have e33 := sV 33 (hd 7 (by kernel_rfl)) hA hap hsz; refine wpOp_go _ rfl 7 33 true rfl rfl e33 ?_; (conv => arg 2; whnf); have e42 := sV 42 (hd 16 (by kernel_rfl)) hA hap hsz; clear hA hd hu o1 o2 o6 o7 o8; go_step; exact hK _ _ kR rfl
   · intro vs A' W hA hW hd hu K hK; have e33 := sV 33 (hd 7 (by kernel_rfl)) hA hap hsz; refine wpOp_go _ rfl 7 33 true rfl rfl e33 ?_; (conv => arg 2; whnf); have e43 := sV 43 (hd 17 (by kernel_rfl)) hA hap hsz; clear hA hd hu o1 o2 o6 o7 o8
     have c0 : W.cell? (a2.add (ix * 33)) = some (.string ms) := by have := hs _ hW 0 (.string ms) rfl; rwa [addr0] at this
     go_step; exact hK _ _ kR rfl
   · intro vs A' W hA hW hd hu K hK; have e33 := sV 33 (hd 7 (by kernel_rfl)) hA hap hsz; refine wpOp_go _ rfl 7 33 true rfl rfl e33 ?_; (conv => arg 2; whnf); have e38 := sV 38 (hd 12 (by kernel_rfl)) hA hap hsz; have e44 := sV 44 (hd 18 (by kernel_rfl)) hA hap hsz; clear hA hd hu o1 o2 o6 o7 o8; go_step
     exact hK _ _ kR (by first | rfl | exact congrArg Value.bool (hbq.trans hbt))
   · intro vs A' W hA hW hd hu K hK; have e27 := sV 27 (hd 1 (by kernel_rfl)) hA hap hsz; refine wpOp_go _ rfl 1 27 false rfl rfl e27 ?_; (conv => arg 2; whnf); have e33 := sV 33 (hd 7 (by kernel_rfl)) hA hap hsz; have e45 := sV 45 (hd 19 (by kernel_rfl)) hA hap hsz; clear hA hd hu o1 o2 o6 o7 o8; go_step; exact hK _ _ kR rfl
   · intro vs A' W hA hW hd hu K hK; have e27 := sV 27 (hd 1 (by kernel_rfl)) hA hap hsz; refine wpOp_go _ rfl 1 27 false rfl rfl e27 ?_; (conv => arg 2; whnf); have e46 := sV 46 (hd 20 (by kernel_rfl)) hA hap hsz; clear hA hd hu o1 o2 o6 o7 o8; go_step; exact hK _ _ kR rfl
   · intro vs A' W hA hW hd hu K hK; have e47 := sV 47 (hd 21 (by kernel_rfl)) hA hap hsz; refine wpOp_go _ rfl 21 47 true rfl rfl e47 ?_; (conv => arg 2; whnf); have e2 := sO 2 o2 hA hap hsz; clear hA hd hu o1 o2 o6 o7 o8; go_step; exact hK _ _ kR rfl
   · intro vs A' W hA hW hd hu K hK; have e47 := sV 47 (hd 21 (by kernel_rfl)) hA hap hsz; refine wpOp_go _ rfl 21 47 true rfl rfl e47 ?_; (conv => arg 2; whnf); have e48 := sV 48 (hd 22 (by kernel_rfl)) hA hap hsz; clear hA hd hu o1 o2 o6 o7 o8
     refine op_runs (v := .agg (ptA z h)) (w' := W) (exec_load rfl (by simpa [Act.eval] using e48) (run_loadAt_agg W (⟨g2, 0, none⟩) 33 (ptA z h).toList _ (nt_pointAt (hb2.kp hW (by simp))) Tryd.underlying33 rfl (by rw [Array.length_toList, ptA_size hh]; exact Tryd.infoPointP))) ?_
     exact hK _ _ kR rfl
   · intro vs A' W hA hW hd hu K hK; have e47 := sV 47 (hd 21 (by kernel_rfl)) hA hap hsz; refine wpOp_go _ rfl 21 47 true rfl rfl e47 ?_; (conv => arg 2; whnf); have e1 := sO 1 o1 hA hap hsz; clear hA hd hu o1 o2 o6 o7 o8; go_step; exact hK _ _ kR rfl
   · intro vs A' W hA hW hd hu K hK; have e47 := sV 47 (hd 21 (by kernel_rfl)) hA hap hsz; refine wpOp_go _ rfl 21 47 true rfl rfl e47 ?_; (conv => arg 2; whnf); have e8 := sO 8 o8 hA hap hsz; clear hA hd hu o1 o2 o6 o7 o8; go_step; exact hK _ _ kR rfl
   · intro vs A' W hA hW hd hu K hK; have e47 := sV 47 (hd 21 (by kernel_rfl)) hA hap hsz; refine wpOp_go _ rfl 21 47 true rfl rfl e47 ?_; (conv => arg 2; whnf); have e50 := sV 50 (hd 24 (by kernel_rfl)) hA hap hsz; have e51 := sV 51 (hd 25 (by kernel_rfl)) hA hap hsz; clear hA hd hu o1 o2 o6 o7 o8
     have h0 : 0 ≤ (k : Int) := by omega
     have h1 : (k : Int) < (n : Int) := by omega
     go_step; exact hK _ _ kR rfl
   · intro vs A' W hA hW hd hu K hK; have e47 := sV 47 (hd 21 (by kernel_rfl)) hA hap hsz; refine wpOp_go _ rfl 21 47 true rfl rfl e47 ?_; (conv => arg 2; whnf); have e52 := sV 52 (hd 26 (by kernel_rfl)) hA hap hsz; clear hA hd hu o1 o2 o6 o7 o8
     refine op_runs (v := .agg #[.string ns, .slice Ak m ck]) (w' := W) (exec_load rfl (by simpa [Act.eval] using e52) (run_loadAt_agg W (ad.add (k * 2)) 42 (#[.string ns, .slice Ak m ck]).toList _ (hc _ hW) Tryd.underlying42 rfl (by exact Tryd.infoKeyP))) ?_
     exact hK _ _ kR rfl
   · intro vs A' W hA hW hd hu K hK; have e47 := sV 47 (hd 21 (by kernel_rfl)) hA hap hsz; refine wpOp_go _ rfl 21 47 true rfl rfl e47 ?_; (conv => arg 2; whnf); have e49 := sV 49 (hd 23 (by kernel_rfl)) hA hap hsz; have e53 := sV 53 (hd 27 (by kernel_rfl)) hA hap hsz; clear hA hd hu o1 o2 o6 o7 o8; go_step
     refine (HJ _ hW).mono ?_
     rintro e w' ⟨rfl, k⟩
     exact hK _ _ k rfl
   · intro vs A' W hA hW hd hu K hK; have e47 := sV 47 (hd 21 (by kernel_rfl)) hA hap hsz; refine wpOp_go _ rfl 21 47 true rfl rfl e47 ?_; (conv => arg 2; whnf); have e2 := sO 2 o2 hA hap hsz; clear hA hd hu o1 o2 o6 o7 o8; go_step; exact hK _ _ kR rfl
   · intro vs A' W hA hW hd hu K hK; have e47 := sV 47 (hd 21 (by kernel_rfl)) hA hap hsz; refine wpOp_go _ rfl 21 47 true rfl rfl e47 ?_; (conv => arg 2; whnf); have e55 := sV 55 (hd 29 (by kernel_rfl)) hA hap hsz; clear hA hd hu o1 o2 o6 o7 o8
     have c0 : W.cell? ⟨g2, 33, none⟩ = some (.slice (some a2) q e) := by rw [(hb2.kp hW (by simp)).cell]; exact ntA_sigs hh
     go_step; exact hK _ _ kR rfl
   · intro vs A' W hA hW hd hu K hK; have e47 := sV 47 (hd 21 (by kernel_rfl)) hA hap hsz; refine wpOp_go _ rfl 21 47 true rfl rfl e47 ?_; (conv => arg 2; whnf); have e6 := sO 6 o6 hA hap hsz; clear hA hd hu o1 o2 o6 o7 o8; go_step; exact hK _ _ kR rfl
   · intro vs A' W hA hW hd hu K hK; have e47 := sV 47 (hd 21 (by kernel_rfl)) hA hap hsz; refine wpOp_go _ rfl 21 47 true rfl rfl e47 ?_; (conv => arg 2; whnf); have e56 := sV 56 (hd 30 (by kernel_rfl)) hA hap hsz; have e57 := sV 57 (hd 31 (by kernel_rfl)) hA hap hsz; clear hA hd hu o1 o2 o6 o7 o8
     have h0 : 0 ≤ (ix : Int) := by omega
     have h1 : (ix : Int) < (q : Int) := by omega
     go_step; exact hK _ _ kR rfl
   · intro vs A' W hA hW hd hu K hK; have e47 := sV 47 (hd 21 (by kernel_rfl)) hA hap hsz; refine wpOp_go _ rfl 21 47 true rfl rfl e47 ?_; (conv => arg 2; whnf); have e58 := sV 58 (hd 32 (by kernel_rfl)) hA hap hsz; clear hA hd hu o1 o2 o6 o7 o8; go_step; exact hK _ _ kR rfl
   · intro vs A' W hA hW hd hu K hK; have e47 := sV 47 (hd 21 (by kernel_rfl)) hA hap hsz; refine wpOp_go _ rfl 21 47 true rfl rfl e47 ?_; (conv => arg 2; whnf); have e59 := sV 59 (hd 33 (by kernel_rfl)) hA hap hsz; clear hA hd hu o1 o2 o6 o7 o8
     have hcs : ∀ j u, (hashA sm).toList[j]? = some u → W.cell? (((a2.add (ix * 33)).add 1).add j) = some u := fun j u hu => by
      have := hs _ hW (j + 1) u (by rw [List.getElem?_cons_succ]; exact hu)
      rw [add_of_add, Nat.add_comm 1 j]
      exact this
     refine op_runs (v := .agg (hashA sm)) (w' := W) (exec_load rfl (by simpa [Act.eval] using e59) (run_loadAt_agg W ((a2.add (ix * 33)).add 1) 25 (hashA sm).toList _ hcs Tryd.underlying25 rfl (by rw [Array.length_toList, hashA_size, hsl]; exact Tryd.infoHashP))) ?_
     exact hK _ _ kR rfl
   · intro vs A' W hA hW hd hu K hK; have e47 := sV 47 (hd 21 (by kernel_rfl)) hA hap hsz; refine wpOp_go _ rfl 21 47 true rfl rfl e47 ?_; (conv => arg 2; whnf); have e54 := sV 54 (hd 28 (by kernel_rfl)) hA hap hsz; have e60 := sV 60 (hd 34 (by kernel_rfl)) hA hap hsz; clear hA hd hu o1 o2 o6 o7 o8
     refine op_runs (v := .bool (SF == sm)) (w' := W) (exec_bin_agg rfl (by simpa [Act.eval] using e54) (by simpa [Act.eval] using e60) Tryd.eqGuardType25 (eql_hash W SF sm hSF hsl)) ?_
     exact hK _ _ kR rfl
   · intro vs A' W hA hW hd hu K hK; have e27 := sV 27 (hd 1 (by kernel_rfl)) hA hap hsz; refine wpOp_go _ rfl 1 27 false rfl rfl e27 ?_; (conv => arg 2; whnf); have e47 := sV 47 (hd 21 (by kernel_rfl)) hA hap hsz; have e61 := sV 61 (hd 35 (by kernel_rfl)) hA hap hsz; clear hA hd hu o1 o2 o6 o7 o8; go_step; exact hK _ _ kR rfl
   · intro vs A' W hA hW hd hu K hK; refine wpOp_free _ rfl rfl ?_; (conv => arg 2; whnf); have e27 := sV 27 (hd 1 (by kernel_rfl)) hA hap hsz; have e62 := sV 62 (hd 36 (by kernel_rfl)) hA hap hsz; clear hA hd hu o1 o2 o6 o7 o8; go_step; exact hK _ _ kR rfl
   · intro vs A' W hA hW hd hu K hK; refine wpOp_free _ rfl rfl ?_; (conv => arg 2; whnf); have e63 := sV 63 (hd 37 (by kernel_rfl)) hA hap hsz; clear hA hd hu o1 o2 o6 o7 o8; go_step; exact hK _ _ kR rfl
 · intro vs W hW hp
   rw [putAll_eq]
   exact hend _ W sQ hW (sW (hp 38 sB))
theorem rrt_r11 (w0 : World) (z : Int) (h : List UInt8) (hh : h.length = 32) (a2 : Addr) (q e ix : Nat) (hi : ix < q) (g2 : Nat) (ns : ByteArray) (hs : w.cell? (a2.add (ix * 33)) = some (.string ns)) (n : Nat) (hn : n < 1000000) (v : Value) (xs : List Value) (L : List Res) (S : Held w0 w (rowR 9 1 v n xs :: blkR g2 36 (ntA z h (.slice (some a2) q e)) :: L)) (hsz : a.tmps.size = 75) (o2 : Sl a 2 (.pointer (some ⟨g2, 0, none⟩))) (o5 : Sl a 5 (v)) (o6 : Sl a 6 (.int .i64 ((ix : Nat) : Int)))
 (hend : ∀ a' W, Same a a' [65, 66, 67, 68, 69, 70, 71, 72, 73, 5] → (∃ v', Sl a' 5 v' ∧ Held w0 W (rowR 9 1 v' (n + 1) (xs ++ [.string ns]) :: blkR g2 36 (ntA z h (.slice (some a2) q e)) :: L)) → Q .normal a' W) : (Code.region 11 (opsOf 11 Tryd.f29).toArray false).wp Tryd.prog Q a w := by
 refine wp_region_lit ?_
 (conv => arg 4; whnf)
 unfold Sl at o2 o5 o6
 have S := Lib.hid S
 have c33 : w.cell? ⟨g2, 33, none⟩ = some (.slice (some a2) q e) := by rw [(S.out.at_ (l1 := [_])).cell]; exact ntA_sigs hh
 have h0 : 0 ≤ (ix : Int) := by omega
 have h1 : (ix : Int) < (q : Int) := by omega
 have S1 := Lib.hid (S.out.newBlk 9 #[.string ns])
 obtain ⟨i0, hi', hz, hsize, hby⟩ := info_parts Tryd.infoStrZ
 have Hz := Lib.hid hz
 clear hz
 have hle : Hid (n + 1 ≤ maxLen ∧ (n + 1) * 16 ≤ 140737488355328) := Lib.hid ⟨by unfold maxLen; omega, by omega⟩
 have HR : Hid (Rd (w.alloc (.cells #[.string ns] 9)) 1 (.slice (some ⟨w.heap.size, 0, none⟩) 1 1) 1 [.string ns]) := Lib.hid ⟨rfl, _, _, rfl, Nat.le_refl _, by unfold maxLen; omega, (fun h => by cases h), fun ad had j u hu => by cases had; exact (S1.out.at_ (l1 := [])).agg j u hu⟩
 go_wp2_with (at_builtin; refine wpList_app _ rfl (.tmp 65) (.tmp 72) 58 rfl 9 i0 _ 1 16 Tryd.underlying58 hi' Hz.out hsize hby rfl (by decide) _ n xs (by simp [Act.eval, Act.put, hsz, o5]) (S1.out.at_ (l1 := [_])) _ 1 [.string ns] (by simp [Act.eval, Act.put, hsz]) HR.out (by intro u hu; rw [List.mem_singleton.1 hu]; rfl) hle.out.1 hle.out.2 ?_; intro v' w' o3 g3 b3; have S2 := Lib.hid (Held.grow (l1 := [_]) S1.out o3 g3 b3); clear o3 g3 b3)
 try simp only [Act.put]
 exact hend _ _ sS (⟨v', sP0, S2.out.drop⟩)
end
end Go.Proofs.YtapboamjpilckaaDoor
