/- Several texts in one: ShaV, ShaE, Cut, ShaI, PtN, PtE, PtF, PtG, ShaJ, ShaK, ShaL, ShaO, ShaP, CrcF, CrcG, CrcH, CrcI, CrcM2, WireT, RecA, RecB, WireU, Conv, WireV, PtK, PtJ, WireW, WireX, WireY, WireZ, WireAA, WireAB, WireBA, WireBB, WireBC, WireBD, WireBE, WireBF, WireBG, WireBH, EntM, EntA, EntB, WList, EntC, EntD, EntE, EntR, PtR, Keep, Full. -/
import Derived.Laws.CopyOwn
import Derived.Lib.ItoaNum
import Derived.Lib.ParseIntB
import Derived.Lib.Bytealg
import Derived.WalkKit
import Derived.Test.YtapboamjpilckaaDoorShelf
import Derived.Lib.SmallJoins
import Derived.Lib.AtoiErrMem
import Derived.Laws.Bits128
import Derived.Lib.SlBytesConst
import Derived.Laws.Tables
import Derived.Laws.Cover3
import Derived.Test.YtapboamjpilckaaDoorP2
set_option linter.unusedVariables false
set_option linter.unusedSimpArgs false
set_option maxRecDepth 100000
set_option maxHeartbeats 8000000
namespace Go.Proofs.YtapboamjpilckaaDoor
/- Block of sha: the other regions, each a theorem. -/
section
variable {Q : Exit → Act → World → Prop} {a : Act} {w : World}
open Go.RowKit
theorem sblk_r0 (w0 : World) (st : List Nat) (b : List UInt8) (L : List Res) (S : Held w0 w L) (hsz : a.tmps.size = 172) (o0 : Sl a 0 (.agg (u32A st))) (o1 : Sl a 1 (.agg (hashA b)))
 (hend : ∀ a' W, Same a a' [2, 3, 4] → (∃ g2 g3 g4, Sl a' 2 (.pointer (some ⟨g2, 0, none⟩)) ∧ Sl a' 3 (.pointer (some ⟨g3, 0, none⟩)) ∧ Sl a' 4 (.pointer (some ⟨g4, 0, none⟩)) ∧ Held w0 W (blkR g4 111 (u32A (List.replicate 8 0)) :: blkR g3 76 (hashA b) :: blkR g2 111 (u32A st) :: L)) → Q .normal a' W) : (Code.region 0 (opsOf 0 Tryd.f82).toArray false).wp Tryd.prog Q a w := by
 refine wp_region_lit ?_
 (conv => arg 4; whnf)
 unfold Sl at o0 o1
 have S0 := Lib.hid (((S.newBlk 111 (u32A st)).newBlk 76 (hashA b)).newBlk 111 (u32A (List.replicate 8 0)))
 simp only [World.size_alloc] at S0
 generalize hca : u32A st = ca at *
 generalize hcb : hashA b = cb at *
 go_wp2
 try simp only [Act.put]
 exact hend _ _ sS (⟨w.heap.size, w.heap.size + 1, w.heap.size + 1 + 1, sP0, sP0, sP0, S0.out⟩)
theorem sblk_r1 (w0 : World) (L : List Res) (S : Held w0 w L) (hsz : a.tmps.size = 172) 
 (hend : ∀ a' W, Same a a' [5] → (∃ g5, Sl a' 5 (.pointer (some ⟨g5, 0, none⟩)) ∧ Held w0 W (blkR g5 144 (u32A (List.replicate 64 0)) :: L)) → Q .normal a' W) : (Code.region 1 (opsOf 1 Tryd.f82).toArray false).wp Tryd.prog Q a w := by
 refine wp_region_lit ?_
 (conv => arg 4; whnf)
 have S0 := Lib.hid (S.newBlk 144 (u32A (List.replicate 64 0)))
 go_wp2
 try simp only [Act.put]
 exact hend _ _ sS (⟨w.heap.size, sP0, S0.out⟩)
theorem sblk_r2  (hsz : a.tmps.size = 172) 
 (hend : ∀ a', Same a a' [18] → Sl a' 18 (.int .i64 ((0 : Nat) : Int)) → Q .normal a' (w)) : (Code.region 2 (opsOf 2 Tryd.f82).toArray false).wp Tryd.prog Q a w := by
 refine wp_region_lit ?_
 (conv => arg 4; whnf)
 go_wp2_with fail
 try simp only [Act.put]
 exact hend _ sS sP
theorem sblk_r7  (hsz : a.tmps.size = 172) 
 (hend : ∀ a', Same a a' [7] → Sl a' 7 (.int .i64 ((16 : Nat) : Int)) → Q .normal a' (w)) : (Code.region 7 (opsOf 7 Tryd.f82).toArray false).wp Tryd.prog Q a w := by
 refine wp_region_lit ?_
 (conv => arg 4; whnf)
 go_wp2_with fail
 try simp only [Act.put]
 exact hend _ sS sP
theorem sblk_r14 (w0 : World) (L : List Res) (S : Held w0 w L) (hsz : a.tmps.size = 172) 
 (hend : ∀ a' W, Same a a' [77, 10] → (∃ g10, Sl a' 10 (.pointer (some ⟨g10, 0, none⟩)) ∧ Held w0 W (blkR g10 144 (u32A kT) :: L)) → Q .normal a' W) : (Code.region 14 (opsOf 14 Tryd.f82).toArray false).wp Tryd.prog Q a w := by
 refine wp_region_lit ?_
 (conv => arg 4; whnf)
 have S := Lib.hid S
 go_wp2_with fail
 refine (stable_any _).mono ?_
 rintro e w5 ⟨rfl, k5⟩
 have S5 := Lib.hid (S.out.kp k5)
 clear k5
 go_wp2_with (refine wpList_store_blk rfl 144 (.tmp 10) (.tmp 77) rfl w5.heap.size (by simp [Act.eval, Act.put, hsz]) (u32A kT) (by simp [Act.eval, Act.put, hsz]) 144 _ (Blk.new w5 144 _) (by rw [u32A_size]; exact Tryd.info64w) (by rw [u32A_size]; rfl) (u32A_one kT) ?_; intro w6 b6 k6; have S6 := Lib.hid (Held.setBlk (l1 := []) (S5.out.newBlk 144 _) b6 k6); clear b6 k6)
 try simp only [Act.put]
 exact hend _ _ sS (⟨_, sP0, S6.out⟩)
theorem sblk_r15 (w0 : World) (g2 : Nat) (st : List Nat) (hsl : st.length = 8) (L1 L2 : List Res) (S : Held w0 w (L1 ++ blkR g2 111 (u32A st) :: L2)) (hsz : a.tmps.size = 172) (o2 : Sl a 2 (.pointer (some ⟨g2, 0, none⟩)))
 (hend : ∀ a' W, Same a a' [78, 11] → (∃ g11, Sl a' 11 (.pointer (some ⟨g11, 0, none⟩)) ∧ Held w0 W (blkR g11 111 (u32A st) :: (L1 ++ blkR g2 111 (u32A st) :: L2))) → Q .normal a' W) : (Code.region 15 (opsOf 15 Tryd.f82).toArray false).wp Tryd.prog Q a w := by
 refine wp_region_lit ?_
 (conv => arg 4; whnf)
 unfold Sl at o2
 have S := Lib.hid S
 have HSl := Lib.hid hsl
 clear hsl
 go_wp2_with (first
  | (refine wpList_load_blk rfl 111 (.tmp 2) rfl g2 (by simp [Act.eval, Act.put, hsz, o2]) 111 _ S.out.at_ _ Tryd.underlying111 rfl (by rw [u32A_size, HSl.out]; exact Tryd.info8w) ?_)
  | (refine wpList_store_blk rfl 111 (.tmp 11) (.tmp 78) rfl w.heap.size (by simp [Act.eval, Act.put, hsz]) (u32A st) (by simp [Act.eval, Act.put, hsz]) 111 _ (Blk.new w 111 _) (by rw [u32A_size, HSl.out]; exact Tryd.info8w) (by rw [u32A_size, HSl.out]; rfl) (u32A_one st) ?_; intro w7 b7 k7; have S7 := Lib.hid (Held.setBlk (l1 := []) (S.out.newBlk 111 _) b7 k7); clear b7 k7))
 try simp only [Act.put]
 exact hend _ _ sS (⟨_, sP0, S7.out⟩)
theorem sblk_r16  (hsz : a.tmps.size = 172) 
 (hend : ∀ a', Same a a' [79] → Sl a' 79 (.int .i64 0) → Q .normal a' (w)) : (Code.region 16 (opsOf 16 Tryd.f82).toArray false).wp Tryd.prog Q a w := by
 refine wp_region_lit ?_
 (conv => arg 4; whnf)
 go_wp2_with fail
 try simp only [Act.put]
 exact hend _ sS sP
theorem sblk_r24  (hsz : a.tmps.size = 172) 
 (hend : ∀ a', Same a a' [159] → Sl a' 159 (.int .i64 ((0 : Nat) : Int)) → Q .normal a' (w)) : (Code.region 24 (opsOf 24 Tryd.f82).toArray false).wp Tryd.prog Q a w := by
 refine wp_region_lit ?_
 (conv => arg 4; whnf)
 go_wp2_with fail
 try simp only [Act.put]
 exact hend _ sS sP
theorem sblk_r25 (k : Nat) (hsz : a.tmps.size = 172) (o159 : Sl a 159 (.int .i64 (k : Int)))
 (hend : ∀ a', Same a a' [160] → Sl a' 160 (.bool (decide ((k : Int) < 8))) → Q .normal a' (w)) : (Code.region 25 (opsOf 25 Tryd.f82).toArray false).wp Tryd.prog Q a w := by
 refine wp_region_lit ?_
 (conv => arg 4; whnf)
 unfold Sl at o159
 go_wp2_with fail
 try simp only [Act.put]
 exact hend _ sS sP
theorem sblk_r26 (k : Nat) (hsz : a.tmps.size = 172) (o159 : Sl a 159 (.int .i64 (k : Int)))
 (hend : ∀ a', Same a a' [161, 17] → Sl a' 17 (.int .i64 (k : Int)) → Q .normal a' (w)) : (Code.region 26 (opsOf 26 Tryd.f82).toArray false).wp Tryd.prog Q a w := by
 refine wp_region_lit ?_
 (conv => arg 4; whnf)
 unfold Sl at o159
 go_wp2_with fail
 try simp only [Act.put]
 exact hend _ sS sP
theorem sblk_r28 (k : Nat) (hk : k < 8) (hsz : a.tmps.size = 172) (o159 : Sl a 159 (.int .i64 (k : Int)))
 (hend : ∀ a', Same a a' [170, 159] → Sl a' 159 (.int .i64 ((k + 1 : Nat) : Int)) → Q .normal a' (w)) : (Code.region 28 (opsOf 28 Tryd.f82).toArray false).wp Tryd.prog Q a w := by
 refine wp_region_lit ?_
 (conv => arg 4; whnf)
 unfold Sl at o159
 go_wp2_with fail
 try simp only [Act.put]
 exact hend _ sS sP
theorem sblk_r29 (w0 : World) (g11 g4 : Nat) (v c4 : List Nat) (hvl : v.length = 8) (h4l : c4.length = 8) (L1 L2 : List Res) (S : Held w0 w (blkR g11 111 (u32A v) :: (L1 ++ blkR g4 111 (u32A c4) :: L2))) (hsz : a.tmps.size = 172) (o4 : Sl a 4 (.pointer (some ⟨g4, 0, none⟩))) (o11 : Sl a 11 (.pointer (some ⟨g11, 0, none⟩)))
 (hend : ∀ a' W, Same a a' [171] → (Held w0 W (blkR g11 111 (u32A v) :: (L1 ++ blkR g4 111 (u32A v) :: L2))) → Q .normal a' W) : (Code.region 29 (opsOf 29 Tryd.f82).toArray false).wp Tryd.prog Q a w := by
 refine wp_region_lit ?_
 (conv => arg 4; whnf)
 unfold Sl at o4 o11
 have S := Lib.hid S
 have HV := Lib.hid hvl
 have H4 := Lib.hid h4l
 clear hvl h4l
 go_wp2_with (first
  | (refine wpList_load_blk rfl 111 (.tmp 11) rfl g11 (by simp [Act.eval, Act.put, hsz, o11]) 111 _ (S.out.at_ (l1 := [])) _ Tryd.underlying111 rfl (by rw [u32A_size, HV.out]; exact Tryd.info8w) ?_)
  | (refine wpList_store_blk rfl 111 (.tmp 4) (.tmp 171) rfl g4 (by simp [Act.eval, Act.put, hsz, o4]) (u32A v) (by simp [Act.eval, Act.put, hsz]) 111 _ (S.out.at_ (l1 := _ :: L1)) (by rw [u32A_size, HV.out]; exact Tryd.info8w) (by rw [u32A_size, u32A_size, HV.out, H4.out]) (u32A_one v) ?_; intro w7 b7 k7; have S7 := Lib.hid (Held.setBlk (l1 := _ :: L1) S.out b7 k7); clear b7 k7))
 try simp only [Act.put]
 exact hend _ _ sS (S7.out)
theorem sblk_r27 (w0 : World) (k g11 g2 : Nat) (V st : List Nat) (R1 R2 : List Res) (hlt : k < 8) (x y : Nat) (HX : V[k]? = some x) (HY : st[k]? = some y) (hsz : a.tmps.size = 172) (o2 : Sl a 2 (.pointer (some ⟨g2, 0, none⟩))) (o11 : Sl a 11 (.pointer (some ⟨g11, 0, none⟩))) (o17 : Sl a 17 (.int .i64 (k : Int)))
 (S0 : Held w0 w (blkR g11 111 (u32A V) :: (R1 ++ blkR g2 111 (u32A st) :: R2)))
 (hend : ∀ a' W, Same a a' [162, 163, 164, 165, 166, 167, 168, 169] → Held w0 W (blkR g11 111 (u32A (V.set k ((x + y) % 4294967296))) :: R1 ++ blkR g2 111 (u32A st) :: R2) → Q .normal a' W) : (Code.region 27 (opsOf 27 Tryd.f82).toArray true).wp Tryd.prog Q a w := by
 have hap : apartB (opsOf 27 Tryd.f82) = true := by kernel_rfl
 refine wp_region_sep (Γ := Unit) (l := (opsOf 27 Tryd.f82)) 2 [0, 1, 2, 3, 4, 5, 6, 7, 8, 10]
  (fun i vs gs => match i with | 0 => vs 0 = .int .i64 (k : Int) | 1 => vs 1 = .pointer (some ⟨g11, k, none⟩) | 2 => vs 2 = .int .u32 ((x : Nat) : Int) | 3 => vs 3 = .int .i64 (k : Int) | 4 => vs 4 = .pointer (some ⟨g2, k, none⟩) | 5 => vs 5 = .int .u32 ((y : Nat) : Int) | 6 => vs 6 = .int .u32 (((x + y) % 4294967296 : Nat) : Int) | 7 => vs 7 = .pointer (some ⟨g11, k, none⟩) | _ => True)
  (fun i vs gs => match i with | 8 => [blkR g11 111 (u32A (V.set k ((x + y) % 4294967296)))] | 9 => [blkR g11 111 (u32A V)] | 10 => R1 ++ blkR g2 111 (u32A st) :: R2 | _ => [])
  (fun i => match i with | 8 => [9] | _ => []) (fun i => match i with | 2 => [9] | 5 => [10] | _ => []) S0 (by kernel_rfl) hap (by kernel_rfl) (by kernel_rfl) (fun i => match i with | 0 => [0] | 1 => [1] | 2 => [2] | 3 => [3] | 4 => [4] | 5 => [5] | 6 => [6] | 7 => [7] | _ => []) (by kernel_rfl) ?_ (by kernel_rfl) ?_ ?_ ?_
 · intro s vs vs' gs gs' h
   iterate 11 (rcases s with _ | s; · (first | exact ⟨rfl, id⟩ | (simp only [List.mem_cons, List.not_mem_nil, or_false, forall_eq] at h; simp [h])))
   exact ⟨rfl, id⟩
 · simp only [List.range, List.range.loop, List.flatMap_cons, List.flatMap_nil, List.append_nil]
   exact List.Perm.refl _
 · clear S0 hend
   refine ⟨?_, ?_, ?_, ?_, ?_, ?_, ?_, ?_, ?_, trivial⟩
   · intro vs gs A' W LF hA S hR hd hu K hK; replace hK := hK default; have e17 := sO 17 o17 hA hap hsz; clear hA o2 o11 o17; go_step; exact hK _ _ S rfl
   · intro vs gs A' W LF hA S hR hd hu K hK; replace hK := hK default; have e11 := sO 11 o11 hA hap hsz; have e162 := sV 162 (hd 0 (by kernel_rfl)) hA hap hsz; clear hA o2 o11 o17
     have h0 : 0 ≤ (k : Int) := by omega
     have h1 : (k : Int) < 8 := by omega
     go_step; exact hK _ _ S rfl
   · intro vs gs A' W LF hA S hR hd hu K hK; replace hK := hK default; have e163 := sV 163 (hd 1 (by kernel_rfl)) hA hap hsz; clear hA o2 o11 o17
     have c0 := u32_cell (S.ok (blkR g11 111 (u32A V)) (hR 9 (List.mem_singleton.2 rfl) _ (List.mem_singleton.2 rfl))) k x HX
     go_step; exact hK _ _ S rfl
   · intro vs gs A' W LF hA S hR hd hu K hK; replace hK := hK default; have e17 := sO 17 o17 hA hap hsz; clear hA o2 o11 o17; go_step; exact hK _ _ S rfl
   · intro vs gs A' W LF hA S hR hd hu K hK; replace hK := hK default; have e2 := sO 2 o2 hA hap hsz; have e165 := sV 165 (hd 3 (by kernel_rfl)) hA hap hsz; clear hA o2 o11 o17
     have h0 : 0 ≤ (k : Int) := by omega
     have h1 : (k : Int) < 8 := by omega
     go_step; exact hK _ _ S rfl
   · intro vs gs A' W LF hA S hR hd hu K hK; replace hK := hK default; have e166 := sV 166 (hd 4 (by kernel_rfl)) hA hap hsz; clear hA o2 o11 o17
     have c0 := u32_cell (S.ok (blkR g2 111 (u32A st)) (hR 10 (List.mem_singleton.2 rfl) _ (List.mem_append_right _ (List.mem_cons_self ..)))) k y HY
     go_step; exact hK _ _ S rfl
   · intro vs gs A' W LF hA S hR hd hu K hK; replace hK := hK default; have e164 := sV 164 (hd 2 (by kernel_rfl)) hA hap hsz; have e167 := sV 167 (hd 5 (by kernel_rfl)) hA hap hsz; clear hA o2 o11 o17; go_step
     exact hK _ _ S (congrArg (Value.int .u32) (by first | omega | rfl))
   · intro vs gs A' W LF hA S hR hd hu K hK; replace hK := hK default; have e11 := sO 11 o11 hA hap hsz; have e162 := sV 162 (hd 0 (by kernel_rfl)) hA hap hsz; clear hA o2 o11 o17
     have h0 : 0 ≤ (k : Int) := by omega
     have h1 : (k : Int) < 8 := by omega
     go_step; exact hK _ _ S rfl
   · intro vs gs A' W LF hA S hR hd hu K hK; replace hK := hK default; have e169 := sV 169 (hd 7 (by kernel_rfl)) hA hap hsz; have e168 := sV 168 (hd 6 (by kernel_rfl)) hA hap hsz; clear hA o2 o11 o17
     have S1 : Held w0 W (blkR g11 111 (u32A V) :: LF) := S
     have q1 := u32_cell (S1.at_ (l1 := [])) k _ HX
     have q2 := (S1.at_ (l1 := [])).frozen k
     have q3 := (S1.at_ (l1 := [])).lt
     go_step
     have S2 := S1.set (l1 := []) k (.int .u32 (((x + y) % 4294967296 : Nat) : Int))
     rw [u32A_set] at S2
     exact hK undef _ S2 trivial
 · intro vs gs W S hp
   have S : Held w0 W (blkR g11 111 (u32A (V.set k ((x + y) % 4294967296))) :: R1 ++ blkR g2 111 (u32A st) :: R2) := by simpa only [List.flatMap_cons, List.flatMap_nil, List.append_nil, List.nil_append, List.cons_append, List.append_assoc] using S
   rw [putAll_eq]
   exact hend _ W sQ  S
end
/- Block of sha. -/
section
open Go.RowKit
def dsL1 : List Nat := [6, 18, 19, 20, 21, 22, 23, 24, 25, 26, 27]
def dsL2 : List Nat := [7, 8, 9, 28, 29, 30, 31, 32, 33, 34, 35, 36, 37, 38, 39, 40, 41, 42, 43, 44, 45, 46, 47, 48, 49, 50, 51, 52, 53, 54, 55, 56, 57, 58, 59, 60, 61, 62, 63, 64, 65, 66, 67, 68, 69, 70, 71, 72, 73, 74, 75, 76]
def dsL4 : List Nat := [17, 159, 160, 161, 162, 163, 164, 165, 166, 167, 168, 169, 170]
theorem sblk_l1 {Q : Exit → Act → World → Prop} {a : Act} {w0 w : World} (b : List UInt8) (hbl : b.length = 64) (g5 g3 : Nat) (R : List Res) (hsz : a.tmps.size = 172)
 (o3 : Sl a 3 (.pointer (some ⟨g3, 0, none⟩))) (o5 : Sl a 5 (.pointer (some ⟨g5, 0, none⟩))) (o18 : Sl a 18 (.int .i64 ((0 : Nat) : Int)))
 (S : Held w0 w (blkR g5 144 (u32A (List.replicate 64 0)) :: blkR g3 76 (hashA b) :: R))
 (hend : ∀ a' W, Same a a' dsL1 → Held w0 W (blkR g5 144 (u32A (pz (wsN b 16))) :: blkR g3 76 (hashA b) :: R) → Q .normal a' W) :
 (Code.block 0 (blockOf 0 Tryd.f82)).wp Tryd.prog Q a w := by
 refine wp_block ?_
 (conv => arg 2; whnf)
 refine wp_loop (fun a' w' => ∃ k : Nat, k ≤ 16 ∧ Same a a' dsL1 ∧ Sl a' 18 (.int .i64 (k : Int)) ∧ Held w0 w' (blkR g5 144 (u32A (pz (wsN b k))) :: blkR g3 76 (hashA b) :: R)) (fun a' _ => 16 - (intOf (a'.eval (.tmp 18))).toNat) ⟨0, by omega, Same.refl _ _, o18, S⟩ ?_
 clear o18 S
 rintro a1 w1 ⟨k, hk, hs, o18, S⟩
 have o3 := hs.keep 3 _ (by decide) o3
 have o5 := hs.keep 5 _ (by decide) o5
 have hz := hs.size.trans hsz
 refine wp_seq (sblk_r3 k hz o18 (fun a2 hs2 o19 => ?_))
 have e18 := o18.eval (by rw [hz]; decide)
 have hz2 := hs2.size.trans hz
 by_cases hlt : k < 16
 · refine wp_seq (wp_cond_true ((o19.eval (by rw [hz2]; decide)).trans (by rw [decide_eq_true (by omega)])) (wp_skip ?_))
   have o18 := hs2.k o18
   refine wp_seq (wp_block ?_)
   refine wp_seq (sblk_r4 k hz2 o18 (fun a3 hs3 o6 => ?_))
   have T := (hs.trans hs2).trans hs3
   have hz3 := hs3.size.trans hz2; have o18 := hs3.k o18
   have o3 := (hs2.trans hs3).keep 3 _ (by decide) o3
   have o5 := (hs2.trans hs3).keep 5 _ (by decide) o5
   refine sblk_r5 w0 k g5 g3 (wsN b k) b R hlt hbl (wsN_length b k) S hz3 o3 o5 o6 (fun a4 W4 hs4 S4 => ?_)
   rw [← wsN_next16 b hlt] at S4
   have hz4 := hs4.size.trans hz3; have o18 := hs4.k o18
   refine sblk_r6 k hlt hz4 o18 (fun a5 hs5 o18 => ?_)
   have hz5 := hs5.size.trans hz4
   refine ⟨⟨k + 1, by omega, ((T.trans hs4).trans hs5).more (by decide +kernel), o18, S4⟩, ?_⟩
   show 16 - (intOf (a5.eval (.tmp 18))).toNat < 16 - (intOf (a1.eval (.tmp 18))).toNat
   rw [e18, o18.eval (by rw [hz5]; decide)]
   simp [intOf]; omega
 · obtain rfl : k = 16 := by omega
   refine wp_seq (wp_cond_false ((o19.eval (by rw [hz2]; decide)).trans (by rw [decide_eq_false (by omega)])) (wp_exit ?_))
   exact hend _ _ ((hs.trans hs2).more (by decide +kernel)) S
theorem sblk_l2 {Q : Exit → Act → World → Prop} {a : Act} {w0 w : World} (b : List UInt8) (g5 : Nat) (R : List Res) (hsz : a.tmps.size = 172)
 (o5 : Sl a 5 (.pointer (some ⟨g5, 0, none⟩))) (o7 : Sl a 7 (.int .i64 ((16 : Nat) : Int)))
 (S : Held w0 w (blkR g5 144 (u32A (pz (wsN b 16))) :: R))
 (hend : ∀ a' W, Same a a' dsL2 → Held w0 W (blkR g5 144 (u32A (wsN b 64)) :: R) → Q .normal a' W) :
 (Code.block 2 (blockOf 2 Tryd.f82)).wp Tryd.prog Q a w := by
 refine wp_block ?_
 (conv => arg 2; whnf)
 refine wp_loop (fun a' w' => ∃ k : Nat, 16 ≤ k ∧ k ≤ 64 ∧ Same a a' dsL2 ∧ Sl a' 7 (.int .i64 (k : Int)) ∧ Held w0 w' (blkR g5 144 (u32A (pz (wsN b k))) :: R)) (fun a' _ => 64 - (intOf (a'.eval (.tmp 7))).toNat) ⟨16, by omega, by omega, Same.refl _ _, o7, S⟩ ?_
 clear o7 S
 rintro a1 w1 ⟨n, hn16, hn, hs, o7, S⟩
 have o5 := hs.keep 5 _ (by decide) o5
 have hz := hs.size.trans hsz
 refine wp_seq (wp_seq (sblk_r8 n hz o7 (fun a2 hs2 o29 => ?_)))
 have e7 := o7.eval (by rw [hz]; decide)
 have hz2 := hs2.size.trans hz
 by_cases hlt : n < 64
 · refine wp_cond_true ((o29.eval (by rw [hz2]; decide)).trans (by rw [decide_eq_true (by omega)])) (wp_skip ?_)
   have o7 := hs2.k o7; have o5 := hs2.k o5
   obtain ⟨j, rfl⟩ : ∃ j, n = j + 16 := ⟨n - 16, by omega⟩
   have HWl := wsN_lt b (j + 16)
   have HWn := wsN_length b (j + 16)
   have Hnx := wsN_next48 b j
   generalize hl : wsN b (j + 16) = l at *
   have hpl : (pz l).length = 64 := pz_length (by omega)
   have HA : (pz l)[j]? = some (l.getD j 0) := pz_at (getD_at (by omega))
   have HC : (pz l)[j + 9]? = some (l.getD (j + 9) 0) := pz_at (getD_at (by omega))
   have HX : (pz l)[j + 1]? = some (l.getD (j + 1) 0) := pz_at (getD_at (by omega))
   have HY : (pz l)[j + 14]? = some (l.getD (j + 14) 0) := pz_at (getD_at (by omega))
   have HM : (pz l)[j + 16]? = some ((pz l).getD (j + 16) 0) := getD_at (by omega)
   have HXl := getD_lt HWl (j + 1)
   have HYl := getD_lt HWl (j + 14)
   have HE : ∀ x, (pz l).set (j + 16) x = pz (l ++ [x]) := fun x => by rw [← HWn]; exact pz_next (by omega) x
   generalize l.getD j 0 = v at *
   generalize l.getD (j + 9) 0 = c at *
   generalize l.getD (j + 1) 0 = x at *
   generalize l.getD (j + 14) 0 = y at *
   have hs2i : ∀ m : Nat, ((pz l).set (j + 16) m)[j + 16]? = some m := fun m => by rw [List.getElem?_set_self (by omega)]
   refine wp_seq (wp_block ?_)
   refine wp_seq (sblk_r10 j g5 x y (pz l) (by omega) (Lib.hid HX) (Lib.hid HY) (Lib.hid (fun V kk i x h => u32_cell ((S.at_ (l1 := [])).kp kk (by simp)) i x h)) hz2 o5 o7 (fun a3 W3 hs3 k3 o8 o9 => ?_))
   have S3 := S.kp ((Kp.refl [] _).drew.trans k3 (by simp))
   have T := (hs.trans hs2).trans hs3
   have hz3 := hs3.size.trans hz2; have o7 := hs3.k o7; have o5 := hs3.k o5
   refine wp_seq (sblk_r11 w0 j g5 (pz l) R (by omega) v c _ HA HC HM hz3 o5 o7 S3 (fun a4 W4 hs4 S4 => ?_))
   have hz4 := hs4.size.trans hz3; have o7 := hs4.k o7; have o5 := hs4.k o5; have o8 := hs4.k o8; have o9 := hs4.k o9
   refine wp_seq (sblk_r12 w0 j g5 _ R (by omega) _ x (hs2i _) HXl hz4 o5 o7 o8 S4 (fun a5 W5 hs5 S5 => ?_))
   rw [List.set_set] at S5
   have hz5 := hs5.size.trans hz4; have o7 := hs5.k o7; have o5 := hs5.k o5; have o9 := hs5.k o9
   refine sblk_r13 w0 j g5 _ R (by omega) _ y (hs2i _) HYl hz5 o5 o7 o9 S5 (fun a6 W6 hs6 S6 => ?_)
   rw [List.set_set, HE] at S6
   have hz6 := hs6.size.trans hz5; have o7 := hs6.k o7
   refine sblk_r9 (j + 16) hlt hz6 o7 (fun a7 hs7 o7 => ?_)
   have hz7 := hs7.size.trans hz6
   refine ⟨⟨j + 16 + 1, by omega, by omega, (((((T.trans hs4).trans hs5).trans hs6).trans hs7)).more (by decide +kernel), o7, ?_⟩, ?_⟩
   · rw [Hnx]
     have e : (((v + c) % 4294967296 + sg0 x) % 4294967296 + sg1 y) % 4294967296 = (v + sg0 x + c + sg1 y) % 4294967296 := by omega
     rw [e] at S6
     exact S6
   · show 64 - (intOf (a7.eval (.tmp 7))).toNat < 64 - (intOf (a1.eval (.tmp 7))).toNat
     rw [e7, o7.eval (by rw [hz7]; decide)]
     simp [intOf]; omega
 · obtain rfl : n = 64 := by omega
   refine wp_cond_false ((o29.eval (by rw [hz2]; decide)).trans (by rw [decide_eq_false (by omega)])) (wp_exit ?_)
   rw [pz_full (wsN_length b 64)] at S
   exact hend _ _ ((hs.trans hs2).more (by decide +kernel)) S
def addN (v st : List Nat) (k : Nat) : List Nat := (List.zipWith (fun x y => (x + y) % 4294967296) v st).take k ++ v.drop k
theorem addN_at {v st : List Nat} (hv : v.length = 8) (hst : st.length = 8) {k : Nat} (hk : k < 8) : (addN v st k)[k]? = some (v.getD k 0) := by
 unfold addN
 have h1 : ((List.zipWith (fun x y => (x + y) % 4294967296) v st).take k).length = k := by rw [List.length_take, List.length_zipWith]; omega
 rw [List.getElem?_append_right (by omega), h1, Nat.sub_self, List.getElem?_drop, Nat.add_zero]
 exact getD_at (by omega)
theorem addN_next {v st : List Nat} (hv : v.length = 8) (hst : st.length = 8) {k : Nat} (hk : k < 8) : (addN v st k).set k ((v.getD k 0 + st.getD k 0) % 4294967296) = addN v st (k + 1) := by
 unfold addN
 have h1 : ((List.zipWith (fun x y => (x + y) % 4294967296) v st).take k).length = k := by rw [List.length_take, List.length_zipWith]; omega
 rw [List.set_append_right _ _ (by omega), h1, Nat.sub_self, List.drop_eq_getElem_cons (by omega : k < v.length), List.set_cons_zero]
 rw [List.take_add_one, List.getElem?_zipWith, getD_at (show k < v.length by omega), getD_at (show k < st.length by omega)]
 simp
theorem sblk_l4 {Q : Exit → Act → World → Prop} {a : Act} {w0 w : World} (v st : List Nat) (hv : v.length = 8) (hst : st.length = 8) (g11 g2 : Nat) (R1 R2 : List Res) (hsz : a.tmps.size = 172)
 (o2 : Sl a 2 (.pointer (some ⟨g2, 0, none⟩))) (o11 : Sl a 11 (.pointer (some ⟨g11, 0, none⟩))) (o159 : Sl a 159 (.int .i64 ((0 : Nat) : Int)))
 (S : Held w0 w (blkR g11 111 (u32A v) :: (R1 ++ blkR g2 111 (u32A st) :: R2)))
 (hend : ∀ a' W, Same a a' dsL4 → Held w0 W (blkR g11 111 (u32A (List.zipWith (fun x y => (x + y) % 4294967296) v st)) :: (R1 ++ blkR g2 111 (u32A st) :: R2)) → Q .normal a' W) :
 (Code.block 6 (blockOf 6 Tryd.f82)).wp Tryd.prog Q a w := by
 refine wp_block ?_
 (conv => arg 2; whnf)
 refine wp_loop (fun a' w' => ∃ k : Nat, k ≤ 8 ∧ Same a a' dsL4 ∧ Sl a' 159 (.int .i64 (k : Int)) ∧ Held w0 w' (blkR g11 111 (u32A (addN v st k)) :: (R1 ++ blkR g2 111 (u32A st) :: R2))) (fun a' _ => 8 - (intOf (a'.eval (.tmp 159))).toNat) ⟨0, by omega, Same.refl _ _, o159, S⟩ ?_
 clear o159 S
 rintro a1 w1 ⟨k, hk, hs, o159, S⟩
 have o2 := hs.keep 2 _ (by decide) o2
 have o11 := hs.keep 11 _ (by decide) o11
 have hz := hs.size.trans hsz
 refine wp_seq (sblk_r25 k hz o159 (fun a2 hs2 o160 => ?_))
 have e159 := o159.eval (by rw [hz]; decide)
 have hz2 := hs2.size.trans hz
 by_cases hlt : k < 8
 · refine wp_seq (wp_cond_true ((o160.eval (by rw [hz2]; decide)).trans (by rw [decide_eq_true (by omega)])) (wp_skip ?_))
   have o159 := hs2.k o159
   refine wp_seq (wp_block ?_)
   refine wp_seq (sblk_r26 k hz2 o159 (fun a3 hs3 o17 => ?_))
   have T := (hs.trans hs2).trans hs3
   have hz3 := hs3.size.trans hz2; have o159 := hs3.k o159
   have o2 := (hs2.trans hs3).keep 2 _ (by decide) o2
   have o11 := (hs2.trans hs3).keep 11 _ (by decide) o11
   refine sblk_r27 w0 k g11 g2 _ st R1 R2 hlt _ _ (addN_at hv hst hlt) (getD_at (by omega)) hz3 o2 o11 o17 S (fun a4 W4 hs4 S4 => ?_)
   rw [addN_next hv hst hlt] at S4
   have hz4 := hs4.size.trans hz3; have o159 := hs4.k o159
   refine sblk_r28 k hlt hz4 o159 (fun a5 hs5 o159 => ?_)
   have hz5 := hs5.size.trans hz4
   refine ⟨⟨k + 1, by omega, ((T.trans hs4).trans hs5).more (by decide +kernel), o159, S4⟩, ?_⟩
   show 8 - (intOf (a5.eval (.tmp 159))).toNat < 8 - (intOf (a1.eval (.tmp 159))).toNat
   rw [e159, o159.eval (by rw [hz5]; decide)]
   simp [intOf]; omega
 · obtain rfl : k = 8 := by omega
   refine wp_seq (wp_cond_false ((o160.eval (by rw [hz2]; decide)).trans (by rw [decide_eq_false (by omega)])) (wp_exit ?_))
   have e : addN v st 8 = List.zipWith (fun x y => (x + y) % 4294967296) v st := by
    unfold addN
    rw [List.drop_of_length_le (by omega), List.append_nil, List.take_of_length_le (by rw [List.length_zipWith]; omega)]
   rw [e] at S
   exact hend _ _ ((hs.trans hs2).more (by decide +kernel)) S
theorem sblock_any (st : List Nat) (hst : Ws st) (hsl : st.length = 8) (b : List UInt8) (hbl : b.length = 64) (w : World) : Calls Tryd.prog 82 #[.agg (u32A st), .agg (hashA b)] w fun e w' => e = .returned (.agg (u32A (blkF st b))) ∧ Kp [] w w' := by
 refine calls_fr Tryd.func82 rfl 172 rfl (fun a hsz hdf hA => ?_)
 refine wp_seq (sblk_r0 w st b [] (Held.start w) hsz (hA 0 _ rfl) (hA 1 _ rfl) (fun a1 w1 hs1 h => ?_))
 obtain ⟨g2, g3, g4, o2, o3, o4, S⟩ := h
 have hz1 := hs1.size.trans hsz
 refine wp_seq (sblk_r1 w _ S hz1 (fun a2 w2 hs2 h => ?_))
 obtain ⟨g5, o5, S⟩ := h
 have hz2 := hs2.size.trans hz1; have o2 := hs2.k o2; have o3 := hs2.k o3; have o4 := hs2.k o4
 refine wp_seq (wp_seq (sblk_r2 hz2 (fun a3 hs3 o18 => ?_)))
 have hz3 := hs3.size.trans hz2; have o2 := hs3.k o2; have o3 := hs3.k o3; have o4 := hs3.k o4; have o5 := hs3.k o5
 have D3 := (hs3.defers.trans (hs2.defers.trans hs1.defers)).trans hdf
 refine sblk_l1 b hbl g5 g3 _ hz3 o3 o5 o18 (S.perm (List.Perm.cons _ (List.Perm.swap _ _ _))) (fun a4 w4 hs4 S => ?_)
 have hz4 := hs4.size.trans hz3; have o2 := hs4.k o2; have o3 := hs4.k o3; have o4 := hs4.k o4; have o5 := hs4.k o5
 refine wp_seq (wp_seq (sblk_r7 hz4 (fun a5 hs5 o7 => ?_)))
 have hz5 := hs5.size.trans hz4; have o2 := hs5.k o2; have o4 := hs5.k o4; have o5 := hs5.k o5
 refine sblk_l2 b g5 _ hz5 o5 o7 S (fun a6 w6 hs6 S => ?_)
 have hz6 := hs6.size.trans hz5; have o2 := hs6.k o2; have o4 := hs6.k o4; have o5 := hs6.k o5
 refine wp_seq (sblk_r14 w _ S hz6 (fun a7 w7 hs7 h => ?_))
 obtain ⟨g10, o10, S⟩ := h
 have hz7 := hs7.size.trans hz6; have o2 := hs7.k o2; have o4 := hs7.k o4; have o5 := hs7.k o5
 refine wp_seq (sblk_r15 w g2 st hsl [_, _, _, _] _ S hz7 o2 (fun a8 w8 hs8 h => ?_))
 obtain ⟨g11, o11, S⟩ := h
 have hz8 := hs8.size.trans hz7; have o2 := hs8.k o2; have o4 := hs8.k o4; have o5 := hs8.k o5; have o10 := hs8.k o10
 refine wp_seq (wp_seq (sblk_r16 hz8 (fun a9 hs9 o79 => ?_)))
 have hz9 := hs9.size.trans hz8; have o2 := hs9.k o2; have o4 := hs9.k o4; have o5 := hs9.k o5; have o10 := hs9.k o10; have o11 := hs9.k o11
 refine sblk_l3 st (wsN b 64) hst hsl (wsN_length b 64) g5 g10 g11 _ hz9 o5 o10 o11 o79 S (fun a10 w10 hs10 S => ?_)
 have hz10 := hs10.size.trans hz9; have o2 := hs10.k o2; have o4 := hs10.k o4; have o11 := hs10.k o11
 refine wp_seq (wp_seq (sblk_r24 hz10 (fun a11 hs11 o159 => ?_)))
 have hz11 := hs11.size.trans hz10; have o2 := hs11.k o2; have o4 := hs11.k o4; have o11 := hs11.k o11
 refine sblk_l4 _ st ((rnds_length st _ 64).trans hsl) hsl g11 g2 [_, _, _, _] _ hz11 o2 o11 o159 S (fun a12 w12 hs12 S => ?_)
 have hz12 := hs12.size.trans hz11; have o4 := hs12.k o4; have o11 := hs12.k o11
 have hbl8 := (blkF_length st b).trans hsl
 refine wp_seq (sblk_r29 w g11 g4 _ (List.replicate 8 0) hbl8 rfl [_, _, _] _ S hz12 o4 o11 (fun a13 w13 hs13 S => ?_))
 have hz13 := hs13.size.trans hz12; have o4 := hs13.k o4
 refine wp_ret (bodyPost_ret (results_cell1 (by rfl) (o4.eval (by rw [hz13]; decide)) (S.at_ (l1 := [_, _, _, _])) Tryd.underlying111 rfl (by rw [u32A_size, hbl8]; exact Tryd.info8w)) ?_ ⟨rfl, S.k⟩)
 rw [hs13.defers, hs12.defers, hs11.defers, hs10.defers, hs9.defers, hs8.defers, hs7.defers, hs6.defers, hs5.defers, hs4.defers]
 exact D3
end
/- Slices of bytes, cut: one run equation each, with what the cut reads. -/
section
open Go.RowKit
def CutOf (A : Option Addr) (n c lo m : Nat) (A' : Option Addr) (c' : Nat) : Prop :=
 ∀ (W : World) (bs : List UInt8), Rd W 1 (.slice A n c) n (bv bs) → Rd W 1 (.slice A' m c') m (bv ((bs.drop lo).take m))
theorem cut_of {A : Option Addr} {n c lo m : Nat} (h : lo + m ≤ n) : ∃ A' c', sliced A lo (lo + m) c 1 = .slice A' m c' ∧ CutOf A n c lo m A' c' ∧ ∀ g, (Value.slice A' m c').ownBlock = some g → (Value.slice A n c).ownBlock = some g := by
 by_cases e : c = lo
 · refine ⟨A, c - lo, by simp [sliced, e], fun W bs h1 => ?_, fun g hg => by cases A <;> simp_all [Value.ownBlock]⟩
   have := h1.cut0 (a := lo) (k := m) h e
   rwa [bv_drop] at this
 · refine ⟨A.map (fun x => x.add lo), c - lo, by simp [sliced, e], fun W bs h1 => ?_, fun g hg => ?_⟩
   · have := h1.cut (a := lo) (k := m) h e
     rwa [bv_drop] at this
   · cases A with
     | none => simp [Value.ownBlock] at hg
     | some ad =>
      simp only [Option.map_some, Value.ownBlock] at hg ⊢
      rw [← hg]; simp [block_of_add]
theorem run_size_u8 (w : World) : (sizeOf 5).run Tryd.prog w = .ok 1 w := by
 obtain ⟨i0, hi, hz0, hz1, hz2⟩ := info_parts Tryd.infoU8
 simp [sizeOf, typeInfo, hi, hz1]
theorem cut_at (w : World) (x : Value) (lo hi mx : Option Value) : (Instr.sliceAt 22 x lo hi mx).run Tryd.prog w = (Instr.slice 22 x lo hi mx).run Tryd.prog w := by
 simp [Instr.sliceAt, run_underlying Tryd.underlying22]
theorem elem_u8 : Tryd.prog.elem 22 = 5 := by kernel_rfl
theorem und_u8 : Tryd.prog.underlying 22 = some (.slice (Tryd.prog.elem 22)) := by rw [elem_u8]; exact Tryd.underlying22
theorem cut_lo (A : Option Addr) (n c lo m : Nat) (l : Int) (hl : l = lo) (hm : lo + m = n) : ∃ A' c', (∀ w, (Instr.sliceAt 22 (.slice A n c) (some (.int .i64 l)) none none).run Tryd.prog w = .ok (.slice A' m c') w) ∧ CutOf A n c lo m A' c' ∧ ∀ g, (Value.slice A' m c').ownBlock = some g → (Value.slice A n c).ownBlock = some g := by
 subst hl
 obtain ⟨A', c', e, h1, h2⟩ := cut_of (A := A) (n := n) (c := c) (lo := lo) (m := m) (by omega)
 refine ⟨A', c', fun w => ?_, h1, h2⟩
 rw [cut_at, run_slice_l w 22 A n c und_u8 .i64 lo (by omega) (by omega), elem_u8, run_size_u8]
 simp only [Result.andThen_ok, Int.toNat_natCast]
 rw [← hm, e]
end
/- A sum under way in memory; copy into a block; parts of a block. -/
section
open Go.RowKit
def shaL (st : List Nat) (blk : List UInt8) (n : Nat) : List Value := u32L st ++ (bv blk ++ [.int .i64 (n : Int), .bool true])
def shaC (st : List Nat) (blk : List UInt8) (n : Nat) : Array Value := (shaL st blk n).toArray
section
variable {st : List Nat} {blk : List UInt8} {n : Nat}
theorem shaL_length (hs : st.length = 8) (hb : blk.length = 64) : (shaL st blk n).length = 74 := by
 unfold shaL
 simp only [List.length_append, u32L_length, bv_length, List.length_cons, List.length_nil]
 omega
theorem shaC_size (hs : st.length = 8) (hb : blk.length = 64) : (shaC st blk n).size = 74 := by
 simp only [shaC, List.size_toArray]; exact shaL_length hs hb
theorem shaL_drop8 (hs : st.length = 8) : (shaL st blk n).drop 8 = bv blk ++ [.int .i64 (n : Int), .bool true] := by
 unfold shaL; rw [List.drop_left' (by rw [u32L_length, hs])]
theorem shaC_len (hs : st.length = 8) (hb : blk.length = 64) : (shaC st blk n)[72]? = some (.int .i64 (n : Int)) := by
 simp only [shaC, List.getElem?_toArray, shaL]
 rw [List.getElem?_append_right (by rw [u32L_length]; omega), u32L_length, List.getElem?_append_right (by rw [bv_length]; omega), bv_length, hs, hb]
 rfl
theorem shaC_made (hs : st.length = 8) (hb : blk.length = 64) : (shaC st blk n)[73]? = some (.bool true) := by
 simp only [shaC, List.getElem?_toArray, shaL]
 rw [List.getElem?_append_right (by rw [u32L_length]; omega), u32L_length, List.getElem?_append_right (by rw [bv_length]; omega), bv_length, hs, hb]
 rfl
theorem shaC_setLen (hs : st.length = 8) (hb : blk.length = 64) (m : Nat) : (shaC st blk n).setIfInBounds 72 (.int .i64 (m : Int)) = shaC st blk m := by
 unfold shaC shaL
 rw [List.setIfInBounds_toArray, List.set_append_right _ _ (by rw [u32L_length]; omega), u32L_length, List.set_append_right _ _ (by rw [bv_length]; omega), bv_length, hs, hb]
 rfl
theorem shaC_splice (hs : st.length = 8) (hb : blk.length = 64) (k : Nat) (x : List UInt8) (h : k + x.length ≤ 64) : (splice (shaC st blk n).toList (8 + k) (bv x)).toArray = shaC st (lay blk k x) n := by
 unfold splice shaC shaL lay
 rw [List.toList_toArray]
 congr 1
 rw [List.take_append, List.take_of_length_le (l := u32L st) (by rw [u32L_length]; omega), u32L_length, hs, show 8 + k - 8 = k from by omega, List.take_append_of_le_length (by rw [bv_length]; omega),
  List.drop_append, List.drop_of_length_le (l := u32L st) (by rw [u32L_length]; omega), u32L_length, hs, bv_length, show 8 + k + x.length - 8 = k + x.length from by omega, List.drop_append_of_le_length (by rw [bv_length]; omega)]
 simp only [List.append_assoc, List.nil_append, bv, List.map_append, List.map_take, List.map_drop]
theorem shaC_state (hs : st.length = 8) (st' : List Nat) (hs' : st'.length = 8) : ((shaC st blk n).toList.take 0 ++ (u32A st').toList ++ (shaC st blk n).toList.drop (0 + (u32A st').size)).toArray = shaC st' blk n := by
 rw [u32A_size, hs']
 unfold shaC
 rw [List.toList_toArray, List.take_zero, List.nil_append, Nat.zero_add, shaL_drop8 hs]
 rfl
theorem sha_stateAt {w : World} {g : Nat} {t : TypeId} (h : Blk w g t (shaC st blk n)) (hs : st.length = 8) : ∀ j u, (u32A st).toList[j]? = some u → w.cell? ((⟨g, 0, none⟩ : Addr).add j) = some u := by
 intro j u hu
 have hj : j < 8 := by
  have := (List.getElem?_eq_some_iff.1 hu).1
  simpa [u32A, u32L, hs] using this
 refine h.agg j u ?_
 simp only [shaC, List.toList_toArray, shaL]
 rw [List.getElem?_append_left (by rw [u32L_length]; omega)]
 exact hu
theorem sha_blockAt {w : World} {g : Nat} {t : TypeId} (h : Blk w g t (shaC st blk n)) (hs : st.length = 8) (hb : blk.length = 64) : ∀ j u, (hashA blk).toList[j]? = some u → w.cell? ((⟨g, 8, none⟩ : Addr).add j) = some u := by
 intro j u hu
 have hj : j < 64 := by
  have := (List.getElem?_eq_some_iff.1 hu).1
  rw [hashA_list, bv_length] at this
  omega
 have h1 := h.agg (8 + j) u (by
  simp only [shaC, List.toList_toArray, shaL]
  rw [List.getElem?_append_right (by rw [u32L_length]; omega), u32L_length, hs, show 8 + j - 8 = j from by omega, List.getElem?_append_left (by rw [bv_length]; omega)]
  exact hu)
 rw [← h1, ← add_of_add]
 congr 2
theorem shaC_one (st : List Nat) (blk : List UInt8) (n : Nat) : ∀ u, u ∈ (shaC st blk n).toList → u.oneCell' = true := by
 intro u hu
 simp only [shaC, List.toList_toArray, shaL, List.mem_append, List.mem_cons, List.not_mem_nil, or_false] at hu
 rcases hu with hu | hu | rfl | rfl
 · exact u32L_one st u hu
 · exact bv_one blk u hu
 · rfl
 · rfl
end
theorem Tryd.infoSha : (Tryd.prog.info? 134).map (·.size) = some 74 := by kernel_rfl
theorem Tryd.info64u8s : (Tryd.prog.info? 76).map (·.size) = some 64 := by kernel_rfl
theorem Tryd.slice64at (g b : Nat) (w : World) (k : Nat) (z : Int) (hz : z = k) (hk : k < 64) : (Instr.sliceAt 76 (.pointer (some ⟨g, b, none⟩)) (some (.int .i64 z)) none none).run Tryd.prog w = .ok (.slice (some ⟨g, b + k, none⟩) (64 - k) (64 - k)) w := by
 subst hz
 obtain ⟨i0, hi, hz0, hz1, hz2⟩ := info_parts Tryd.infoU8
 rw [run_sliceAt_array_l w 76 ⟨g, b, none⟩ (by kernel_rfl) .i64 (k : Int) (by omega) (by rw [Tryd.len64u8]; omega), Tryd.len64u8, show Tryd.prog.elem 76 = 5 from by kernel_rfl]
 have e : (⟨g, b, none⟩ : Addr).add (k * 1) = ⟨g, b + k, none⟩ := by unfold Addr.add; split <;> simp <;> omega
 simp only [sizeOf, typeInfo, hi, hz1, Sem.run_bind, Sem.run_pure, Result.andThen, run_program, slicedAt, Int.toNat_natCast, e]
 rw [if_neg (by omega)]
theorem wpList_copy_blk {P : Program} {w : World} {ops : Array Oper} {rest : List Oper} {o : Oper} {a : Act} {Q : Exit → Act → World → Prop} (hgd : o.guard = none) (d s : Operand) (dT sT : TypeId)
 (ho : o.op = .call { callee := .builtin .copy, args := #[d, s], argTypes := #[dT, sT] }) (elem : TypeId) (hu : P.underlying dT = some (.slice elem)) (hsz : (P.info? elem).map (·.size) = some 1)
 (g off dLen dCap : Nat) (hd : a.eval d = .slice (some ⟨g, off, none⟩) dLen dCap) (y : Value) (hs : a.eval s = y) (n : Nat) (xs : List Value) (hr : Rd w 1 y n xs)
 (t : TypeId) (cur : Array Value) (hb : Blk w g t cur) (hfit : off + dLen ≤ cur.size) (h1 : ∀ v ∈ xs, v.oneCell' = true) (m : Nat) (hm : min n dLen = m)
 (h : ∀ w', Blk w' g t (splice cur.toList off (xs.take dLen)).toArray → Kp [g] w w' → wpList P ops Q rest (a.put o.dst (goInt (m : Int))) w') : wpList P ops Q (o :: rest) a w := by
 subst hm
 obtain ⟨hl, A, c, rfl, h2, h3, hA, hc⟩ := hr
 by_cases h0 : min n dLen = 0
 · refine wpList_copy_nothing hgd d s dT sT ho elem hu hsz (some ⟨g, off, none⟩) A dLen dCap n c hd hs h0 ?_
   have e : xs.take dLen = [] := by
    apply List.eq_nil_of_length_eq_zero
    rw [List.length_take]; omega
   have := h w (by rw [e]; simpa [splice] using hb) kR
   rwa [h0] at this
 · rcases A with _ | ad
   · have := hA rfl; omega
   · have hcl : (xs.take dLen).length = min n dLen := by rw [List.length_take]; omega
     refine wpList_copy_own hgd d s dT sT ho elem hu hsz g off dLen dCap ad n c hd hs cur t hb (xs.take dLen) (by rw [hcl]) ?_ (by rw [hcl]; omega) (fun v hv => h1 v (List.mem_of_mem_take hv)) ?_
     · intro j v hv
       refine hc ad rfl j v ?_
       rw [List.getElem?_take] at hv
       split at hv
       · exact hv
       · cases hv
     · rw [hcl]
       refine h _ ?_ (setRow_blk hb).2
       have := (setRow_blk (cs := (cur.toList.take off ++ (xs.take dLen ++ cur.toList.drop (off + min n dLen))).toArray) hb).1
       unfold splice
       rw [hcl]
       exact this
end
/- A point's text: the plain mathematics. -/
section
open Go.RowKit
def dec (n : Nat) : List UInt8 := Lib.decDigits n
theorem dec_small {n : Nat} (h : n < 10) : dec n = [UInt8.ofNat (48 + n)] := by unfold dec; rw [Lib.decDigits, dif_pos h]
theorem dec_big {n : Nat} (h : ¬ n < 10) : dec n = dec (n / 10) ++ [UInt8.ofNat (48 + n % 10)] := by
 unfold dec
 conv => lhs; rw [Lib.decDigits, dif_neg h]
def dvF (a : Nat) (l : List UInt8) : Nat := l.foldl (fun a c => 10 * a + (c.toNat - 48)) a
def dv (l : List UInt8) : Nat := dvF 0 l
theorem dvF_cons (a : Nat) (c : UInt8) (l : List UInt8) : dvF a (c :: l) = dvF (10 * a + (c.toNat - 48)) l := by unfold dvF; rw [List.foldl_cons]
theorem dvF_nil (a : Nat) : dvF a [] = a := rfl
theorem dvF_append (a : Nat) (l m : List UInt8) : dvF a (l ++ m) = dvF (dvF a l) m := by simp [dvF]
theorem digit_val {d : Nat} (h : d < 10) : (UInt8.ofNat (48 + d)).toNat = 48 + d := by rw [UInt8.toNat_ofNat']; omega
theorem dv_dec (n : Nat) : dv (dec n) = n := by
 induction n using Nat.strongRecOn with
 | _ n ih =>
  by_cases h : n < 10
  · rw [dec_small h]
    unfold dv
    rw [dvF_cons, digit_val h, dvF_nil]; omega
  · have h2 := ih (n / 10) (by omega)
    rw [dec_big h]
    unfold dv at h2 ⊢
    rw [dvF_append, h2, dvF_cons, digit_val (by omega), dvF_nil]; omega
def dgts (l : List UInt8) : Prop := ∀ c ∈ l, 48 ≤ c.toNat ∧ c.toNat ≤ 57
theorem dec_dgts (n : Nat) : dgts (dec n) := by
 induction n using Nat.strongRecOn with
 | _ n ih =>
  by_cases h : n < 10
  · rw [dec_small h]
    intro c hc
    obtain rfl := List.mem_singleton.1 hc
    rw [digit_val h]; omega
  · rw [dec_big h]
    intro c hc
    rcases List.mem_append.1 hc with hc | hc
    · exact ih (n / 10) (by omega) c hc
    · obtain rfl := List.mem_singleton.1 hc
      rw [digit_val (by omega)]; omega
theorem dec_length_le : ∀ (k n : Nat), n < 10 ^ (k + 1) → (dec n).length ≤ k + 1
 | 0, n, h => by rw [dec_small (by simpa using h)]; simp
 | k + 1, n, h => by
  by_cases h2 : n < 10
  · rw [dec_small h2]; simp
  · rw [dec_big h2, List.length_append]
    have := dec_length_le k (n / 10) (by rw [Nat.pow_succ] at h; omega)
    simp; omega
theorem dec_pos (n : Nat) : 1 ≤ (dec n).length := by
 by_cases h : n < 10
 · rw [dec_small h]; simp
 · rw [dec_big h, List.length_append]; simp
theorem dec_19 {n : Nat} (h : n < 9223372036854775808) : (dec n).length ≤ 19 := dec_length_le 18 n (by omega)
theorem dvF_le : ∀ (l : List UInt8) (a : Nat), a ≤ dvF a l
 | [], a => Nat.le_refl _
 | c :: l, a => by
  rw [dvF_cons]
  have := dvF_le l (10 * a + (c.toNat - 48))
  omega
theorem parseUintM_dgts (M : Nat) (hM : M < 18446744073709551616) : ∀ (l : List UInt8) (a : Nat), dgts l → dvF a l ≤ M → Lib.parseUintM M a l = .ok (dvF a l)
 | [], a, _, _ => rfl
 | c :: l, a, hd, hm => by
  obtain ⟨h1, h2⟩ := hd c (by simp)
  have h3 := dvF_le l (10 * a + (c.toNat - 48))
  rw [dvF_cons] at hm
  unfold Lib.parseUintM
  rw [if_pos ⟨h1, h2⟩, if_neg (by omega), if_neg (by omega), Nat.mul_comm a 10]
  exact parseUintM_dgts M hM l _ (fun x hx => hd x (by simp [hx])) hm
theorem parseInt_dec {n : Nat} (h : n < 9223372036854775808) : Lib.parseIntB 64 (dec n) = .ok (n : Int) := by
 have hd := dec_dgts n
 have hv := dv_dec n
 have hp := dec_pos n
 generalize dec n = l at *
 match l, hp with
 | c :: r, _ =>
  obtain ⟨h1, h2⟩ := hd c (by simp)
  have hu : Lib.parseUintB 64 (c :: r) = .ok n := by
   unfold Lib.parseUintB
   rw [if_neg (by simp)]
   have := parseUintM_dgts (2 ^ 64 - 1) (by decide) (c :: r) 0 hd (by show dv (c :: r) ≤ _; rw [hv]; omega)
   rw [this]
   show Lib.NumEnd.ok (dv (c :: r)) = _
   rw [hv]
  unfold Lib.parseIntB
  have hn : ¬ (c.toNat = 43 ∨ c.toNat = 45) := by omega
  have hn2 : ¬ c.toNat = 45 := by omega
  simp only [if_neg hn, hu, if_neg hn2]
  rw [if_neg (by simp; omega), if_neg (by simp; omega)]
def pv (l : List UInt8) : Int := match Lib.parseIntB 64 l with
 | .ok v => v
 | Lib.NumEnd.syntax => 0
 | .range => Lib.intSat 64 l
theorem pv_dec {n : Nat} (h : n < 9223372036854775808) : pv (dec n) = n := by unfold pv; rw [parseInt_dec h]
theorem pv_bounds (l : List UInt8) : -9223372036854775808 ≤ pv l ∧ pv l ≤ 9223372036854775807 := by
 unfold pv
 split
 · rename_i v hv
   unfold Lib.parseIntB at hv
   split at hv
   · cases hv
   · rename_i c r
     simp only at hv
     split at hv
     · cases hv
     · cases hv
     · rename_i u hu
       split at hv
       · cases hv
       · rename_i h1
         split at hv
         · cases hv
         · rename_i h2
           cases hv
           by_cases hc : c.toNat = 45
           · simp only [hc, if_true]
             simp only [hc, true_and] at h2
             omega
           · simp only [hc, if_false]
             simp only [hc, not_false_eq_true, true_and] at h1
             omega
 · omega
 · unfold Lib.intSat
   split <;> omega
def rvS (n : Int) (c : UInt8) : Int := wrap64 (10 * n + (c.toNat : Int) - 48)
def rv (l : List UInt8) : Int := (l.take 19).foldl rvS 0
theorem wrap64_of {x : Int} (h : -9223372036854775808 ≤ x ∧ x ≤ 9223372036854775807) : wrap64 x = x := by unfold wrap64; omega
theorem rvS_dgts : ∀ (l : List UInt8) (a : Nat), dgts l → dvF a l < 9223372036854775808 → l.foldl rvS (a : Int) = (dvF a l : Nat)
 | [], a, _, _ => rfl
 | c :: l, a, hd, hm => by
  obtain ⟨h1, h2⟩ := hd c (by simp)
  have h3 := dvF_le l (10 * a + (c.toNat - 48))
  rw [dvF_cons] at hm ⊢
  rw [List.foldl_cons]
  have : rvS (a : Int) c = ((10 * a + (c.toNat - 48) : Nat) : Int) := by
   unfold rvS
   rw [wrap64_of (by omega)]; omega
  rw [this]
  exact rvS_dgts l _ (fun x hx => hd x (by simp [hx])) hm
theorem rv_dec {n : Nat} (h : n < 9223372036854775808) : rv (dec n) = n := by
 unfold rv
 rw [List.take_of_length_le (dec_19 h)]
 have := rvS_dgts (dec n) 0 (dec_dgts n) (by show dv (dec n) < _; rw [dv_dec]; exact h)
 rw [show ((0 : Nat) : Int) = 0 from rfl] at this
 rw [this]
 show ((dv (dec n) : Nat) : Int) = n
 rw [dv_dec]
theorem rv_bounds (l : List UInt8) : -9223372036854775808 ≤ rv l ∧ rv l ≤ 9223372036854775807 := by
 unfold rv
 generalize l.take 19 = m
 have : ∀ (m : List UInt8) (a : Int), (-9223372036854775808 ≤ a ∧ a ≤ 9223372036854775807) → -9223372036854775808 ≤ m.foldl rvS a ∧ m.foldl rvS a ≤ 9223372036854775807 := by
  intro m
  induction m with
  | nil => exact fun a h => h
  | cons c m ih =>
   intro a h
   rw [List.foldl_cons]
   exact ih _ (by unfold rvS wrap64; omega)
 exact this m 0 (by omega)
def ct (c : UInt8) (l : List UInt8) : List UInt8 × List UInt8 × Bool := if c ∈ l then (l.take (l.idxOf c), l.drop (l.idxOf c + 1), true) else (l, [], false)
theorem ct_yes {c : UInt8} {l : List UInt8} (h : c ∈ l) : ct c l = (l.take (l.idxOf c), l.drop (l.idxOf c + 1), true) := if_pos h
theorem ct_no {c : UInt8} {l : List UInt8} (h : c ∉ l) : ct c l = (l, [], false) := if_neg h
theorem idx_lt {c : UInt8} {l : List UInt8} (h : c ∈ l) : l.idxOf c < l.length := List.idxOf_lt_length_iff.2 h
theorem ct_split {c : UInt8} {l : List UInt8} (h : c ∈ l) : l = l.take (l.idxOf c) ++ c :: l.drop (l.idxOf c + 1) := by
 have h1 := idx_lt h
 have h2 : l[l.idxOf c] = c := List.getElem_idxOf h1
 conv => lhs; rw [← List.take_append_drop (l.idxOf c) l, List.drop_eq_getElem_cons h1, h2]
theorem idxOf_ne {x c : UInt8} (l : List UInt8) (h : x ≠ c) : (x :: l).idxOf c = l.idxOf c + 1 := by
 rw [List.idxOf_cons, beq_false_of_ne h]; rfl
theorem idxOf_app {c : UInt8} (b : List UInt8) : ∀ (a : List UInt8), c ∉ a → (a ++ c :: b).idxOf c = a.length
 | [], _ => by simp
 | x :: a, h => by
  rw [List.cons_append, idxOf_ne _ (fun e => h (by simp [e])), idxOf_app b a (fun m => h (by simp [m])), List.length_cons]
theorem ct_before {c : UInt8} (l : List UInt8) : c ∉ l.take (l.idxOf c) := by
 induction l with
 | nil => simp
 | cons x l ih =>
  by_cases h : x = c
  · subst h; simp
  · rw [idxOf_ne l h]
    simp only [List.take_succ_cons, List.mem_cons, not_or]
    exact ⟨fun e => h e.symm, ih⟩
theorem ct_append {c : UInt8} {a : List UInt8} (b : List UInt8) (h : c ∉ a) : ct c (a ++ c :: b) = (a, b, true) := by
 have hi : (a ++ c :: b).idxOf c = a.length := idxOf_app b a h
 rw [ct_yes (by simp), hi]
 simp
theorem indexByte_idx (c : UInt8) : ∀ l : List UInt8, Lib.indexByte l c = if c ∈ l then (l.idxOf c : Int) else -1
 | [] => rfl
 | x :: l => by
  unfold Lib.indexByte
  by_cases h : x = c
  · subst h; simp
  · have ih := indexByte_idx c l
    have hb : (x == c) = false := beq_false_of_ne h
    rw [hb, if_neg (by simp), ih, idxOf_ne _ h]
    have hc : c ∈ x :: l ↔ c ∈ l := ⟨fun m => (List.mem_cons.1 m).elim (fun e => absurd e.symm h) id, fun m => List.mem_cons_of_mem _ m⟩
    by_cases hm : c ∈ l
    · rw [if_pos hm, if_pos (hc.2 hm)]
      have : ((l.idxOf c : Int) == -1) = false := beq_false_of_ne (by omega)
      rw [this]; simp
    · rw [if_neg hm, if_neg (fun x => hm (hc.1 x))]; rfl
def titleL : List UInt8 := [110, 111, 116, 97, 114, 121]
def told (n : Nat) (h : List UInt8) : List UInt8 := titleL ++ 10 :: (dec n ++ 10 :: (hexS h ++ [10]))
theorem told_length (n : Nat) (h : List UInt8) : (told n h).length = 9 + (dec n).length + (hexS h).length := by
 simp [told, titleL]; omega
def ln3 (s : List UInt8) : Option (List UInt8 × List UInt8 × List UInt8 × List UInt8) :=
 if (ct 10 s).2.2 = true ∧ (ct 10 (ct 10 s).2.1).2.2 = true ∧ (ct 10 (ct 10 (ct 10 s).2.1).2.1).2.2 = true then
  some ((ct 10 s).1, (ct 10 (ct 10 s).2.1).1, (ct 10 (ct 10 (ct 10 s).2.1).2.1).1, (ct 10 (ct 10 (ct 10 s).2.1).2.1).2.1) else none
def PT (s : List UInt8) : Option (Nat × List UInt8 × List UInt8) := match ln3 s with
 | none => none
 | some (l0, l1, l2, r) => if l0 = titleL ∧ l1 = dec (dv l1) ∧ dv l1 < 9223372036854775808 ∧ l2 = hexS (UH l2).1 then some (dv l1, (UH l2).1, r) else none
theorem nl_dec (n : Nat) : (10 : UInt8) ∉ dec n := fun h => by
 have := (dec_dgts n 10 h).1
 simp at this
theorem hx_ne10 {n : Nat} (h : n < 16) : hx n ≠ 10 := by
 have := all256 (p := fun n => decide (n < 16 → hx n ≠ 10)) (by decide +kernel) (show n < 256 by omega)
 exact of_decide_eq_true this h
theorem nl_hex (h : List UInt8) : (10 : UInt8) ∉ hexS h := by
 induction h with
 | nil => simp [hexS]
 | cons c h ih =>
  rw [hexS_cons]
  intro hm
  rcases List.mem_append.1 hm with hm | hm
  · have := c.toNat_lt
    simp only [hex2, List.mem_cons, List.not_mem_nil, or_false] at hm
    rcases hm with e | e
    · exact hx_ne10 (n := c.toNat / 16) (by omega) e.symm
    · exact hx_ne10 (n := c.toNat % 16) (by omega) e.symm
  · exact ih hm
theorem ln3_told (n : Nat) (h r : List UInt8) : ln3 (told n h ++ r) = some (titleL, dec n, hexS h, r) := by
 have e : told n h ++ r = titleL ++ 10 :: (dec n ++ 10 :: (hexS h ++ 10 :: r)) := by simp [told]
 unfold ln3
 rw [e, ct_append _ (by decide)]
 simp only
 rw [ct_append _ (nl_dec n)]
 simp only
 rw [ct_append _ (nl_hex h)]
 simp
theorem ln3_form {s l0 l1 l2 r : List UInt8} (h : ln3 s = some (l0, l1, l2, r)) : s = l0 ++ 10 :: (l1 ++ 10 :: (l2 ++ 10 :: r)) ∧ (10 : UInt8) ∉ l0 ∧ (10 : UInt8) ∉ l1 ∧ (10 : UInt8) ∉ l2 := by
 unfold ln3 at h
 split at h
 · rename_i hc
   obtain ⟨h0, h1, h2⟩ := hc
   have mem : ∀ l, (ct 10 l).2.2 = true → (10 : UInt8) ∈ l := fun l hl => by
    by_cases hm : (10 : UInt8) ∈ l
    · exact hm
    · rw [ct_no hm] at hl; cases hl
   have m0 := mem _ h0
   have m1 := mem _ h1
   have m2 := mem _ h2
   have s0 := ct_split m0
   have s1 := ct_split m1
   have s2 := ct_split m2
   simp only [Option.some.injEq, Prod.mk.injEq] at h
   obtain ⟨e0, e1, e2, e3⟩ := h
   have a0 : s = (ct 10 s).1 ++ 10 :: (ct 10 s).2.1 := by rw [ct_yes m0]; exact s0
   have a1 : (ct 10 s).2.1 = (ct 10 (ct 10 s).2.1).1 ++ 10 :: (ct 10 (ct 10 s).2.1).2.1 := by rw [ct_yes m1]; exact s1
   have a2 : (ct 10 (ct 10 s).2.1).2.1 = (ct 10 (ct 10 (ct 10 s).2.1).2.1).1 ++ 10 :: (ct 10 (ct 10 (ct 10 s).2.1).2.1).2.1 := by rw [ct_yes m2]; exact s2
   refine ⟨?_, ?_, ?_, ?_⟩
   · rw [← e0, ← e1, ← e2, ← e3, ← a2, ← a1, ← a0]
   · rw [← e0, ct_yes m0]; exact ct_before _
   · rw [← e1, ct_yes m1]; exact ct_before _
   · rw [← e2, ct_yes m2]; exact ct_before _
 · cases h
theorem told_lines {n : Nat} {h l0 l1 l2 : List UInt8} (a : (10 : UInt8) ∉ l0) (b : (10 : UInt8) ∉ l1) (c : (10 : UInt8) ∉ l2) : told n h = l0 ++ 10 :: (l1 ++ 10 :: (l2 ++ [10])) ↔ l0 = titleL ∧ l1 = dec n ∧ l2 = hexS h := by
 constructor
 · intro e
   have h1 := ct_append (l1 ++ 10 :: (l2 ++ [10])) a
   rw [← e] at h1
   unfold told at h1
   rw [ct_append _ (by decide)] at h1
   simp only [Prod.mk.injEq, and_true] at h1
   obtain ⟨e0, e1⟩ := h1
   have h2 := ct_append (l2 ++ [10]) b
   rw [← e1, ct_append _ (nl_dec n)] at h2
   simp only [Prod.mk.injEq, and_true] at h2
   obtain ⟨e2, e3⟩ := h2
   exact ⟨e0.symm, e2.symm, (List.append_cancel_right e3).symm⟩
 · rintro ⟨rfl, rfl, rfl⟩; rfl
theorem PT_told {n : Nat} {h : List UInt8} (hn : n < 9223372036854775808) (hh : h.length = 32) (r : List UInt8) : PT (told n h ++ r) = some (n, h, r) := by
 unfold PT
 rw [ln3_told]
 simp only
 rw [UH_hexS hh, dv_dec]
 simp [hn]
theorem PT_form {s : List UInt8} {n : Nat} {h r : List UInt8} (e : PT s = some (n, h, r)) : s = told n h ++ r ∧ n < 9223372036854775808 ∧ h.length = 32 := by
 unfold PT at e
 split at e
 · cases e
 · rename_i l0 l1 l2 r' hl
   obtain ⟨f1, -⟩ := ln3_form hl
   split at e
   · rename_i hc
     obtain ⟨c1, c2, c3, c4⟩ := hc
     simp only [Option.some.injEq, Prod.mk.injEq] at e
     obtain ⟨rfl, rfl, rfl⟩ := e
     refine ⟨?_, c3, UH_len _⟩
     rw [f1]
     unfold told
     rw [← c2, ← c4, c1]
     simp
   · cases e
theorem PT_by {s l0 l1 l2 r : List UInt8} (hl : ln3 s = some (l0, l1, l2, r)) (z : Int) (hz : -9223372036854775808 ≤ z ∧ z ≤ 9223372036854775807) (hd : ∀ n : Nat, n < 9223372036854775808 → l1 = dec n → z = n) :
 PT s = if 0 ≤ z ∧ told z.toNat (UH l2).1 = l0 ++ 10 :: (l1 ++ 10 :: (l2 ++ [10])) then some (z.toNat, (UH l2).1, r) else none := by
 obtain ⟨f1, n0, n1, n2⟩ := ln3_form hl
 unfold PT
 rw [hl]
 simp only
 by_cases hc : 0 ≤ z ∧ told z.toNat (UH l2).1 = l0 ++ 10 :: (l1 ++ 10 :: (l2 ++ [10]))
 · rw [if_pos hc]
   obtain ⟨e0, e1, e2⟩ := (told_lines n0 n1 n2).1 hc.2
   have hv : dv l1 = z.toNat := by rw [e1, dv_dec]
   rw [hv, if_pos ⟨e0, e1, by omega, e2⟩]
 · rw [if_neg hc, if_neg]
   rintro ⟨e0, e1, e2, e3⟩
   have h1 := hd (dv l1) e2 e1
   apply hc
   refine ⟨by omega, (told_lines n0 n1 n2).2 ⟨e0, ?_, e3⟩⟩
   rw [h1, Int.toNat_natCast]
   exact e1
theorem PT_none {s : List UInt8} (h : ln3 s = none) : PT s = none := by unfold PT; rw [h]
end
/- Numbers in decimal digits; cuts; what the listed variables hold. -/
section
open Go.RowKit Go.Shelf
structure LD (w : World) : Prop where
 tab : Lib.TabIs Tryd.prog w "internal/strconv.uint64pow10" .u64 Lib.pow10Tab
structure LP (w : World) : Prop extends LD w where
 syn : ∃ tp p, w.var? Tryd.prog "strconv.ErrSyntax" = some #[.iface tp p]
 rng : ∃ tp p, w.var? Tryd.prog "strconv.ErrRange" = some #[.iface tp p]
theorem Tryd.named1 : (Tryd.prog.globalNamed "internal/strconv.uint64pow10").isSome = true := by kernel_rfl
theorem LD.kp {w w' : World} (h : LD w) (k : Kp [] w w') : LD w' := by
 have hb : Below w.heap.size w w' := k.below (Nat.le_refl _) (by simp)
 obtain ⟨g1, h1⟩ := Option.isSome_iff_exists.1 Tryd.named1
 exact ⟨Joins.tab_stays h1 h.tab hb (Nat.le_refl _)⟩
theorem Tryd.named2 : (Tryd.prog.globalNamed "strconv.ErrSyntax").isSome = true := by kernel_rfl
theorem Tryd.named3 : (Tryd.prog.globalNamed "strconv.ErrRange").isSome = true := by kernel_rfl
theorem LP.kp {w w' : World} (h : LP w) (k : Kp [] w w') : LP w' := by
 have hb : Below w.heap.size w w' := k.below (Nat.le_refl _) (by simp)
 obtain ⟨g2, h2⟩ := Option.isSome_iff_exists.1 Tryd.named2
 obtain ⟨g3, h3⟩ := Option.isSome_iff_exists.1 Tryd.named3
 obtain ⟨t1, p1, e1⟩ := h.syn
 obtain ⟨t2, p2, e2⟩ := h.rng
 exact ⟨h.toLD.kp k, ⟨t1, p1, Joins.var_stays h2 e1 hb (Nat.le_refl _)⟩, ⟨t2, p2, Joins.var_stays h3 e2 hb (Nat.le_refl _)⟩⟩
theorem Kp.grew {w : World} (n : Nat) (os : Array Obj) : Kp [] w (Sort.grow (w.drewN n) os) :=
 ⟨rfl, rfl, rfl, by simp [Sort.grow], fun k hk _ => by
  show ((w.drewN n).heap ++ os)[k]? = _
  rw [Array.getElem?_append_left (by simpa using hk)]; rfl⟩
theorem fmt_any (n : Nat) (hn : n < 9223372036854775808) (w : World) (h : LD w) : Calls Tryd.prog 72 #[.int .i64 n, .int .i64 10] w fun e w' => e = .returned (.string ⟨(dec n).toArray⟩) ∧ Kp [] w w' := by
 refine (Tryd.strconv_FormatInt_10 n (by omega) (by omega) w h.tab).mono ?_
 rintro e w' ⟨rfl, k, os, rfl⟩
 refine ⟨?_, Kp.grew k os⟩
 unfold dec Lib.itoa
 rw [if_neg (by omega), Int.toNat_natCast]
theorem str_add (a b : List UInt8) : (ByteArray.mk a.toArray) ++ (ByteArray.mk b.toArray) = ⟨(a ++ b).toArray⟩ := by
 apply ByteArray.ext
 rw [ByteArray.data_append]
 simp
theorem rdigits_any (n : Nat) (hn : n < 9223372036854775808) (w : World) : Calls Tryd.prog 92 #[.int .i64 n] w fun e w' => e = .returned (.string ⟨(dec n).toArray⟩) ∧ Kp [] w w' := by
 go_enter Tryd.func92, Tryd.ntmps92
 go_wp2
 go_loopw [0, 3] (fun a s wr => ∃ (m : Nat) (t : List UInt8), a = .int .i64 m ∧ s = .string ⟨t.toArray⟩ ∧ m ≤ n ∧ dec m ++ t = dec n ∧ Kp [] w wr) (fun a _ _ => (intOf a).toNat)
 case atStart => exact ⟨n, [], rfl, rfl, Nat.le_refl _, by simp, Kp.refl _ _⟩
 case round =>
  obtain ⟨m, t, rfl, rfl, hm, ht, kw⟩ := hrel
  have HT := Lib.hid ht
  have KW := Lib.hid kw
  clear ht kw
  by_cases h9 : 9 < m
  · have h9' : (9 : Int) < m := by omega
    obtain ⟨c, hc⟩ : ∃ c : UInt8, c.toNat = 48 + m % 10 := ⟨UInt8.ofNat (48 + m % 10), by rw [UInt8.toNat_ofNat']; omega⟩
    have kv := strB (rd_lit wr 5 #[.int .u8 (48 + (m : Int) % 10)] [c] (by simp [bv, hc]) (by simp))
    simp only [List.length_cons, List.length_nil] at kv
    have Hc := Lib.hid hc
    clear hc
    have htl : t.length ≤ 19 := by
     have h1 := congrArg List.length HT.out
     have h2 := dec_19 hn
     rw [List.length_append] at h1
     omega
    have K2 := Lib.hid (KW.out.alloc (.cells #[.int .u8 (48 + (m : Int) % 10)] 5))
    go_wp2
    go_roundw
    case rel =>
     refine ⟨m / 10, c :: t, by go_num, ?_, by omega, ?_, K2.out⟩
     · have := str_add [c] t
       rw [show ({ data := #[c] } : ByteArray) ++ { data := t.toArray } = ⟨(c :: t).toArray⟩ from this]
     · have h9'' : ¬ m < 10 := by omega
       have hcc : c = UInt8.ofNat (48 + m % 10) := UInt8.toNat_inj.1 (by rw [Hc.out, UInt8.toNat_ofNat']; omega)
       have h1 := HT.out
       rw [dec_big h9'', ← hcc, List.append_assoc] at h1
       exact h1
    case measure => simp [intOf]; omega
  · have h9' : ¬ (9 : Int) < m := by omega
    obtain ⟨c, hc⟩ : ∃ c : UInt8, c.toNat = 48 + m := ⟨UInt8.ofNat (48 + m), by rw [UInt8.toNat_ofNat']; omega⟩
    have kv := strB (rd_lit wr 5 #[.int .u8 (48 + (m : Int))] [c] (by simp [bv, hc]) (by simp))
    simp only [List.length_cons, List.length_nil] at kv
    have Hc := Lib.hid hc
    clear hc
    have htl : t.length ≤ 19 := by
     have h1 := congrArg List.length HT.out
     have h2 := dec_19 hn
     rw [List.length_append] at h1
     omega
    have K2 := Lib.hid (KW.out.alloc (.cells #[.int .u8 (48 + (m : Int))] 5))
    have HE : Hid (({ data := #[c] } : ByteArray) ++ { data := t.toArray } = ⟨(dec n).toArray⟩) := Lib.hid (by
     have h9'' : m < 10 := by omega
     have hcc : c = UInt8.ofNat (48 + m) := UInt8.toNat_inj.1 (by rw [Hc.out, UInt8.toNat_ofNat']; omega)
     have h1 := HT.out
     rw [dec_small h9'', ← hcc] at h1
     rw [← h1]
     exact str_add [c] t)
    go_wp2
    go_ret
    exact ⟨by rw [← HE.out]; rfl, K2.out⟩
theorem ext_take (s : ByteArray) (k : Nat) : s.extract 0 k = ⟨(s.data.toList.take k).toArray⟩ := by
 apply ByteArray.ext
 rw [ByteArray.data_extract]
 apply Array.ext'
 simp
theorem ext_drop (s : ByteArray) (k : Nat) : s.extract k s.size = ⟨(s.data.toList.drop k).toArray⟩ := by
 apply ByteArray.ext
 rw [ByteArray.data_extract]
 apply Array.ext'
 rw [Array.toList_extract, List.extract_eq_take_drop, List.take_of_length_le (by rw [List.length_drop, ← Lib.size_eq]; exact Nat.le_refl _)]
def CutPost (c : UInt8) (s : ByteArray) (w : World) (e : Ending) (w' : World) : Prop :=
 e = .returned (.tuple #[.string ⟨(ct c s.data.toList).1.toArray⟩, .string ⟨(ct c s.data.toList).2.1.toArray⟩, .bool (ct c s.data.toList).2.2]) ∧ Kp [] w w'
theorem scut_any (s : ByteArray) (hs : s.size ≤ 9223372036854775807) (c : UInt8) (w : World) : Calls Tryd.prog 78 #[.string s, .string ⟨#[c]⟩] w (CutPost c s w) := by
 have hI := indexByte_idx c s.data.toList
 have hsz := Lib.size_eq s
 have T0 := Lib.hid ((Kp.refl [] w).drew)
 by_cases hm : c ∈ s.data.toList
 · have HC : Hid (ct c s.data.toList = (s.data.toList.take (s.data.toList.idxOf c), s.data.toList.drop (s.data.toList.idxOf c + 1), true)) := Lib.hid (ct_yes hm)
   have hlt := idx_lt hm
   rw [if_pos hm] at hI
   have HI := Lib.hid hI
   obtain ⟨k, HK⟩ : ∃ k, Hid (s.data.toList.idxOf c = k) := ⟨_, Lib.hid rfl⟩
   rw [HK.out] at HC HI hlt
   rw [← hsz] at hlt
   have HE1 := Lib.hid (ext_take s k)
   have HE2 := Lib.hid (ext_drop s (k + 1))
   clear hI hm hsz
   go_enter Tryd.func78, Tryd.ntmps78
   go_wp2_with fail
   refine (Tryd.stringslite_Index_one s c _).mono ?_
   rw [HI.out]
   rintro e w' ⟨rfl, hw'⟩
   obtain rfl := hw'.symm
   go_wp2
   refine wp_region_lexf [] [] (fun V : World => Kp [] w V) (by kernel_rfl) (by kernel_rfl) T0.out (fun σ hne f hf hsur => ?_); have Hsur := Lib.hid hsur; clear hsur
   clear hf
   go_wp2_with (first
    | (refine lex_qq Hsur.out rfl rfl rfl ?_; intro K hK; go_big_quiet_op; go_big_quiet_on) | (refine lex_skipk rfl ?_; intro K hK; go_simp; refine hK _ _ ?_; clear hK K) | (refine lex_e rfl rfl ?_; intro K hK; go_step) | (refine lex_nil ?_)
    | ((with_reducible apply And.intro); · (intro hl; first | (exact ls_absurd hl rfl) | exact T0.out)))
   go_ret3
   refine ⟨?_, T0.out⟩
   rw [HC.out]
   show _ = Ending.returned (.tuple #[.string ⟨(s.data.toList.take k).toArray⟩, .string ⟨(s.data.toList.drop (k + 1)).toArray⟩, .bool true])
   rw [← HE1.out, ← HE2.out]
   rfl
 · have HC : Hid (ct c s.data.toList = (s.data.toList, [], false)) := Lib.hid (ct_no hm)
   rw [if_neg hm] at hI
   have HI := Lib.hid hI
   clear hI hm hsz
   go_enter Tryd.func78, Tryd.ntmps78
   go_wp2_with fail
   refine (Tryd.stringslite_Index_one s c _).mono ?_
   rw [HI.out]
   rintro e w' ⟨rfl, hw'⟩
   obtain rfl := hw'.symm
   go_wp2
   go_ret3
   exact ⟨by rw [HC.out]; rfl, Kp.refl _ _⟩
theorem cut1_any (s : ByteArray) (hs : s.size ≤ 9223372036854775807) (c : UInt8) (w : World) : Calls Tryd.prog 58 #[.string s, .string ⟨#[c]⟩] w (CutPost c s w) := by
 have HC : Hid (∃ a b d, ct c s.data.toList = (a, b, d)) := Lib.hid ⟨_, _, _, rfl⟩
 obtain ⟨a, b, d, hc⟩ := HC.out
 have Hc := Lib.hid hc
 clear hc HC
 have hS := scut_any s hs c w
 unfold CutPost at hS
 rw [Hc.out] at hS
 have HS := Lib.hid hS
 clear hS
 go_enter Tryd.func58, Tryd.ntmps58
 go_wp2_with fail
 refine HS.out.mono ?_
 rintro e w' ⟨rfl, k⟩
 go_wp2
 go_ret3
 exact ⟨by rw [Hc.out]; rfl, k⟩
end
/- Text of point and of the reference. -/
section
open Go.RowKit
def ptA (s : Int) (h : List UInt8) : Array Value := (Value.int .i64 s :: bv h).toArray
theorem ptA_size {s : Int} {h : List UInt8} (hh : h.length = 32) : (ptA s h).size = 33 := by simp [ptA, bv_length, hh]
theorem ptA_one (s : Int) (h : List UInt8) : ∀ u, u ∈ (ptA s h).toList → u.oneCell' = true := by
 intro u hu
 rcases List.mem_cons.1 hu with rfl | hu
 · rfl
 · exact bv_one h u hu
theorem pt_c0 {w : World} {g : Nat} {t : TypeId} {s : Int} {h : List UInt8} (b : Blk w g t (ptA s h)) : w.cell? ⟨g, 0, none⟩ = some (.int .i64 s) := b.cell 0
theorem pt_root {w : World} {g : Nat} {t : TypeId} {s : Int} {h : List UInt8} (b : Blk w g t (ptA s h)) : ∀ j u, (bv h)[j]? = some u → w.cell? ((⟨g, 1, none⟩ : Addr).add j) = some u := by
 intro j u hu
 have h1 := b.cell (1 + j)
 have h2 : (ptA s h)[1 + j]? = some u := by
  unfold ptA
  rw [List.getElem?_toArray, Nat.add_comm, List.getElem?_cons_succ]
  exact hu
 rw [h2] at h1
 by_cases hj : j = 0
 · subst hj; exact h1
 · simpa [Addr.add, hj] using h1
theorem run_pt_root {w : World} {g : Nat} {t : TypeId} {s : Int} {h : List UInt8} (b : Blk w g t (ptA s h)) (hh : h.length = 32) : (Instr.loadAt 25 (.pointer (some ⟨g, 1, none⟩))).run Tryd.prog w = .ok (.agg (hashA h)) w :=
 run_loadAt_agg w ⟨g, 1, none⟩ 25 (bv h) _ (pt_root b) Tryd.underlying25 rfl (by rw [bv_length, hh]; exact Tryd.infoHashP)
theorem run_pt_load {w : World} {g : Nat} {t : TypeId} {s : Int} {h : List UInt8} (b : Blk w g t (ptA s h)) (hh : h.length = 32) : (Instr.loadAt 33 (.pointer (some ⟨g, 0, none⟩))).run Tryd.prog w = .ok (.agg (ptA s h)) w :=
 run_loadAt_agg w ⟨g, 0, none⟩ 33 (ptA s h).toList _ b.agg Tryd.underlying33 rfl (by rw [Array.length_toList, ptA_size hh]; exact Tryd.infoPointP)
def txt (s : Int) (h : List UInt8) : List UInt8 := if s < 0 then [] else told s.toNat h
def txE (s : Int) : Int := if s < 0 then 2 else 0
def TextPost (s : Int) (h : List UInt8) (w : World) (e : Ending) (w' : World) : Prop := e = .returned (.tuple #[.string ⟨(txt s h).toArray⟩, .int .i64 (txE s)]) ∧ Kp [] w w'
theorem told_str (n : Nat) (h : List UInt8) : ((({ data := #[110, 111, 116, 97, 114, 121, 10] } : ByteArray) ++ ⟨(dec n).toArray⟩ ++ { data := #[10] }) ++ ⟨(hexS h).toArray⟩ ++ { data := #[10] }) = ⟨(told n h).toArray⟩ := by
 rw [show ({ data := #[110, 111, 116, 97, 114, 121, 10] } : ByteArray) = ⟨([110, 111, 116, 97, 114, 121, 10] : List UInt8).toArray⟩ from rfl, show ({ data := #[10] } : ByteArray) = ⟨([10] : List UInt8).toArray⟩ from rfl]
 rw [str_add, str_add, str_add, str_add]
 congr 2
 simp [told, titleL]
theorem ptext_any (s : Int) (hs : -9223372036854775808 ≤ s ∧ s ≤ 9223372036854775807) (h : List UInt8) (hh : h.length = 32) (w : World) (L : LD w) : Calls Tryd.prog 47 #[.agg (ptA s h)] w (TextPost s h w) := by
 have B0 := Lib.hid (Blk.new w 33 (ptA s h))
 have K0 := Lib.hid ((Kp.refl [] w).alloc (.cells (ptA s h) 33))
 have HL := Lib.hid L
 have HH := Lib.hid hh
 clear L hh
 by_cases h0 : s < 0
 · have HT : Hid (txt s h = [] ∧ txE s = 2) := Lib.hid ⟨if_pos h0, if_pos h0⟩
   have c0 := pt_c0 B0.out
   obtain ⟨cs, HC⟩ : ∃ cs, Hid (ptA s h = cs) := ⟨_, Lib.hid rfl⟩
   rw [HC.out] at B0 K0 c0 ⊢
   go_enter Tryd.func47, Tryd.ntmps47
   go_wp2
   go_ret2
   exact ⟨by rw [HT.out.1, HT.out.2]; rfl, K0.out⟩
 · obtain ⟨n, rfl⟩ : ∃ n : Nat, s = n := ⟨s.toNat, by omega⟩
   have HT : Hid (txt n h = told n h ∧ txE n = 0) := Lib.hid ⟨by unfold txt; rw [if_neg h0, Int.toNat_natCast], if_neg h0⟩
   have hl1 : (dec n).length ≤ 19 := dec_19 (by omega)
   have hl2 : (hexS h).length ≤ 64 := by rw [hexS_length, HH.out]; omega
   have c0 := pt_c0 B0.out
   have T0 := Lib.hid ((K0.out).drew)
   have BF := Lib.hid (fun V (kk : Kp [] (w.alloc (.cells (ptA n h) 33)) V) => B0.out.kp kk (by simp))
   have HF := Lib.hid (fun V (LV : LD V) => fmt_any n (by omega) V LV)
   have HX := Lib.hid (fun V => hex_any h HH.out V)
   have HLD := Lib.hid (fun V (kk : Kp [] (w.alloc (.cells (ptA n h) 33)) V) => HL.out.kp (K0.out.trans kk (by simp)))
   obtain ⟨cs, HC⟩ : ∃ cs, Hid (ptA n h = cs) := ⟨_, Lib.hid rfl⟩
   rw [HC.out] at B0 K0 c0 BF T0 HLD ⊢
   go_enter Tryd.func47, Tryd.ntmps47
   go_wp2
   generalize hW1 : w.alloc (.cells cs 33) = w1 at *
   generalize hg1 : w.heap.size = g1 at *
   have T1 := Lib.hid ((Kp.refl [] w1).drew)
   refine wp_region_lexf [2, 7] [] (fun V : World => Kp [] w1 V) (by kernel_rfl) (by kernel_rfl) T1.out (fun σ hne fw hf hsur => ?_); have Hsur := Lib.hid hsur; clear hsur
   have q0 := fun y => pt_c0 (HC.out ▸ BF.out _ (hf y))
   clear hf
   have hld : ∀ V, Kp [] w1 V → (Instr.loadAt 25 (.pointer (some ⟨g1, 1, none⟩))).run Tryd.prog V = .ok (.agg (hashA h)) V := fun V kk => run_pt_root (HC.out ▸ BF.out V kk) HH.out
   have HLoad := Lib.hid hld
   clear hld
   go_wp2_with (first
    | (refine lex_qk (.agg (hashA h)) rfl rfl (fun V hV => exec_load rfl rfl (HLoad.out V hV)) ?_; intro K hK; go_simp; refine hK _ _ ?_; clear hK K)
    | (refine lex_qq Hsur.out rfl rfl rfl ?_; intro K hK; go_big_quiet_op; go_big_quiet_on) | (refine lex_skipk rfl ?_; intro K hK; go_simp; refine hK _ _ ?_; clear hK K) | (refine lex_e rfl rfl ?_; intro K hK; go_step) | (refine lex_nil ?_)
    | (go_at_call 72; ((with_reducible refine (HF.out _ (HLD.out _ T1.out)).mono ?_); rintro r w2 ⟨rfl, k2⟩; have T2 := Lib.hid (T1.out.trans k2 (by simp)); clear k2))
    | (go_at_call 55; ((with_reducible refine (HX.out _).mono ?_); rintro r w3 ⟨rfl, k3⟩; have T3 := Lib.hid (T2.out.trans k3 (by simp)); clear k3))
    | ((with_reducible apply And.intro); · (intro hl; first | (exact ls_absurd hl rfl) | exact T3.out))
    | ((with_reducible apply And.intro); · (intro hl; first | (exact ls_absurd hl rfl) | exact T2.out)))
   go_ret2
   exact ⟨by rw [HT.out.1, HT.out.2, ← told_str]; rfl, K0.out.trans T3.out (by simp)⟩
theorem rtold_any (n : Nat) (hn : n < 9223372036854775808) (h : List UInt8) (hh : h.length = 32) (w : World) : Calls Tryd.prog 74 #[.agg (ptA n h)] w fun e w' => e = .returned (.string ⟨(told n h).toArray⟩) ∧ Kp [] w w' := by
 have B0 := Lib.hid (Blk.new w 33 (ptA n h))
 have K0 := Lib.hid ((Kp.refl [] w).alloc (.cells (ptA n h) 33))
 have HH := Lib.hid hh
 clear hh
 have hl1 : (dec n).length ≤ 19 := dec_19 (by omega)
 have hl2 : (hexS h).length ≤ 64 := by rw [hexS_length, HH.out]; omega
 have T0 := Lib.hid ((K0.out).drew)
 have BF := Lib.hid (fun V (kk : Kp [] (w.alloc (.cells (ptA n h) 33)) V) => B0.out.kp kk (by simp))
 have HF := Lib.hid (fun V => rdigits_any n (by omega) V)
 have HX := Lib.hid (fun V => rhex_any h HH.out V)
 obtain ⟨cs, HC⟩ : ∃ cs, Hid (ptA n h = cs) := ⟨_, Lib.hid rfl⟩
 rw [HC.out] at B0 K0 BF T0 ⊢
 go_enter Tryd.func74, Tryd.ntmps74
 go_wp2
 generalize hW1 : w.alloc (.cells cs 33) = w1 at *
 generalize hg1 : w.heap.size = g1 at *
 have T1 := Lib.hid ((Kp.refl [] w1).drew)
 refine wp_region_lexf [2, 7] [] (fun V : World => Kp [] w1 V) (by kernel_rfl) (by kernel_rfl) T1.out (fun σ hne fw hf hsur => ?_); have Hsur := Lib.hid hsur; clear hsur
 have q0 := fun y => pt_c0 (HC.out ▸ BF.out _ (hf y))
 clear hf
 have hld : ∀ V, Kp [] w1 V → (Instr.loadAt 25 (.pointer (some ⟨g1, 1, none⟩))).run Tryd.prog V = .ok (.agg (hashA h)) V := fun V kk => run_pt_root (HC.out ▸ BF.out V kk) HH.out
 have HLoad := Lib.hid hld
 clear hld
 go_wp2_with (first
  | (refine lex_qk (.agg (hashA h)) rfl rfl (fun V hV => exec_load rfl rfl (HLoad.out V hV)) ?_; intro K hK; go_simp; refine hK _ _ ?_; clear hK K)
  | (refine lex_qq Hsur.out rfl rfl rfl ?_; intro K hK; go_big_quiet_op; go_big_quiet_on) | (refine lex_skipk rfl ?_; intro K hK; go_simp; refine hK _ _ ?_; clear hK K) | (refine lex_e rfl rfl ?_; intro K hK; go_step) | (refine lex_nil ?_)
  | (go_at_call 92; ((with_reducible refine (HF.out _).mono ?_); rintro r w2 ⟨rfl, k2⟩; have T2 := Lib.hid (T1.out.trans k2 (by simp)); clear k2))
  | (go_at_call 76; ((with_reducible refine (HX.out _).mono ?_); rintro r w3 ⟨rfl, k3⟩; have T3 := Lib.hid (T2.out.trans k3 (by simp)); clear k3))
  | ((with_reducible apply And.intro); · (intro hl; first | (exact ls_absurd hl rfl) | exact T3.out))
  | ((with_reducible apply And.intro); · (intro hl; first | (exact ls_absurd hl rfl) | exact T2.out)))
 go_ret
 exact ⟨by rw [← told_str]; rfl, K0.out.trans T3.out (by simp)⟩
end
/- Parse of point. -/
section
open Go.RowKit
def zeroP : Array Value := ptA 0 (List.replicate 32 0)
def lnK (s : List UInt8) : Nat → Option (List (List UInt8) × List UInt8)
 | 0 => some ([], s)
 | k + 1 => match lnK s k with
  | none => none
  | some (ls, r) => if 10 ∈ r then some (ls ++ [(ct 10 r).1], (ct 10 r).2.1) else none
theorem lnK_go {s : List UInt8} {k : Nat} {ls : List (List UInt8)} {r : List UInt8} (h : lnK s k = some (ls, r)) (hm : (10 : UInt8) ∈ r) : lnK s (k + 1) = some (ls ++ [(ct 10 r).1], (ct 10 r).2.1) := by
 unfold lnK; rw [h]; simp only; rw [if_pos hm]
theorem lnK_stop {s : List UInt8} {k : Nat} {ls : List (List UInt8)} {r : List UInt8} (h : lnK s k = some (ls, r)) (hm : (10 : UInt8) ∉ r) : lnK s (k + 1) = none := by
 unfold lnK; rw [h]; simp only; rw [if_neg hm]
theorem ct_flag (l : List UInt8) : (ct 10 l).2.2 = decide ((10 : UInt8) ∈ l) := by
 by_cases h : (10 : UInt8) ∈ l
 · rw [ct_yes h]; exact (decide_eq_true h).symm
 · rw [ct_no h]; exact (decide_eq_false h).symm
theorem ln3_of (s : List UInt8) : ln3 s = match lnK s 3 with | some ([a, b, c], r) => some (a, b, c, r) | _ => none := by
 unfold ln3
 simp only [ct_flag, decide_eq_true_eq]
 by_cases h0 : (10 : UInt8) ∈ s
 · have e1 := lnK_go (s := s) (k := 0) rfl h0
   by_cases h1 : (10 : UInt8) ∈ (ct 10 s).2.1
   · have e2 := lnK_go e1 h1
     by_cases h2 : (10 : UInt8) ∈ (ct 10 (ct 10 s).2.1).2.1
     · have e3 := lnK_go e2 h2
       rw [e3, if_pos ⟨h0, h1, h2⟩]; rfl
     · rw [lnK_stop e2 h2, if_neg (fun h => h2 h.2.2)]
   · have e3 : lnK s 3 = none := by
      have := lnK_stop e1 h1
      show (match lnK s 2 with | none => none | some (ls, r) => if 10 ∈ r then some (ls ++ [(ct 10 r).1], (ct 10 r).2.1) else none) = none
      rw [this]
     rw [e3, if_neg (fun h => h1 h.2.1)]
 · have e1 := lnK_stop (s := s) (k := 0) rfl h0
   have e3 : lnK s 3 = none := by
    show (match (match lnK s 1 with | none => none | some (ls, r) => if 10 ∈ r then some (ls ++ [(ct 10 r).1], (ct 10 r).2.1) else none) with | none => none | some (ls, r) => if 10 ∈ r then some (ls ++ [(ct 10 r).1], (ct 10 r).2.1) else none) = none
    rw [e1]
   rw [e3, if_neg (fun h => h0 h.1)]
theorem ln3_none {s : List UInt8} {k : Nat} (hk : k ≤ 3) (h : lnK s k = none) : ln3 s = none := by
 have up : ∀ d, lnK s (k + d) = none := fun d => by
  induction d with
  | zero => exact h
  | succ d ih => show lnK s (k + d + 1) = none; unfold lnK; rw [ih]
 have := up (3 - k)
 rw [show k + (3 - k) = 3 by omega] at this
 rw [ln3_of, this]
def PVs (s : List UInt8) : Int × List UInt8 × List UInt8 := match PT s with
 | some (n, h, r) => ((n : Int), h, r)
 | none => (0, List.replicate 32 0, [])
def PEs (s : List UInt8) : Int := match PT s with
 | some _ => 0
 | none => 290
theorem PVs_none {s : List UInt8} (h : PT s = none) : PVs s = (0, List.replicate 32 0, []) ∧ PEs s = 290 := by unfold PVs PEs; rw [h]; exact ⟨rfl, rfl⟩
theorem PVs_some {s : List UInt8} {n : Nat} {h r : List UInt8} (e : PT s = some (n, h, r)) : PVs s = ((n : Int), h, r) ∧ PEs s = 0 := by unfold PVs PEs; rw [e]; exact ⟨rfl, rfl⟩
def ParsePost (s : List UInt8) (w : World) (e : Ending) (w' : World) : Prop :=
 e = .returned (.tuple #[.agg (ptA (PVs s).1 (PVs s).2.1), .string ⟨(PVs s).2.2.toArray⟩, .int .i64 (PEs s)]) ∧ Kp [] w w'
def strs (L : List (List UInt8)) : List Value := L.map fun l => .string ⟨l.toArray⟩
theorem Tryd.infoStr : (Tryd.prog.info? 9).map (fun i => (i.zero, i.size, i.bytes)) = some (some (.string ⟨#[]⟩), 1, 16) := by kernel_rfl
theorem kp_bytesWorld (w : World) (t : TypeId) (s : ByteArray) : Kp [] w (Lib.bytesWorld w t s) := Kp.of_below (Lib.bytesWorld_below w t s)
theorem results_cell_tmp2P {P : Program} {fn : Func} {w : World} {tmps : Array Value} {a t u u2 g : Nat} {t' : TypeId} {cs : Array Value} {d : TypeDesc} (h : fn.results = #[.cell a t, .tmp u, .tmp u2]) (ha : tmps.getD a undef = .pointer (some ⟨g, 0, none⟩)) (hb : Blk w g t' cs)
 (hu : P.underlying t = some d) (hd : aggB d = true) (hi : (P.info? t).map (·.size) = some cs.size) : (results fn tmps).run P w = .ok (.tuple #[.agg cs, tmps.getD u undef, tmps.getD u2 undef]) w := by
 have hl : (loadCells ⟨g, 0, none⟩ cs.size).run P w = .ok cs w := by
  have := run_loadCells_list (P := P) w ⟨g, 0, none⟩ cs.toList hb.agg
  simpa using this
 cases hq : P.info? t with
 | none => simp [hq] at hi
 | some i =>
  have hs : i.size = cs.size := by simpa [hq] using hi
  simp only [Array.getD_eq_getD_getElem?] at ha
  simp [results, h, ha, loadVar, asAddr, Sem.run_bind, run_isAgg hu hd, sizeOf, typeInfo, hq, hs, hl]
theorem pint_any (s : ByteArray) (hs : s.size ≤ 281474976710656) (w : World) (L : LP w) : Calls Tryd.prog 77 #[.string s, .int .i64 10, .int .i64 64] w fun e w' => ∃ er, e = .returned (.tuple #[.int .i64 (pv s.data.toList), er]) ∧ Kp [] w w' := by
 unfold pv
 match h : Lib.parseIntB 64 s.data.toList with
 | Lib.NumEnd.ok v =>
  refine (Tryd.strconv_ParseInt_10_at64_ok s (by omega) v h w).mono ?_
  rintro e w' ⟨rfl, hw | ⟨t, hw⟩⟩
  · subst hw; exact ⟨_, rfl, Kp.refl _ _⟩
  · subst hw; exact ⟨_, rfl, kp_bytesWorld _ _ _⟩
 | Lib.NumEnd.syntax =>
  obtain ⟨tp, p, hv⟩ := L.syn
  refine (Tryd.strconv_ParseInt_10_at64_syntax_var s hs h tp p w hv).mono ?_
  rintro e w' ⟨N, rfl, _, _, hb⟩
  exact ⟨_, rfl, Kp.of_below hb⟩
 | Lib.NumEnd.range =>
  obtain ⟨tp, p, hv⟩ := L.rng
  refine (Tryd.strconv_ParseInt_10_at64_range_var s hs h tp p w hv).mono ?_
  rintro e w' ⟨N, rfl, _, _, hb⟩
  exact ⟨_, rfl, Kp.of_below hb⟩
theorem op_store_part {P : Program} {o : Oper} {a : Act} {w : World} {K : Act → World → Prop} {Q : Exit → Act → World → Prop} (x y : Operand) (ty : TypeId) (ho : o.op = .store ty x y) (g off : Nat) (hx : a.eval x = .pointer (some ⟨g, off, none⟩)) (xs : Array Value) (hy : a.eval y = .agg xs)
 (t : TypeId) (cur : Array Value) (hb : Blk w g t cur) (hi : (P.info? ty).map (·.size) = some xs.size) (hfit : off + xs.size ≤ cur.size) (h1 : ∀ u, u ∈ xs.toList → u.oneCell' = true)
 (hK : ∀ w', Blk w' g t (cur.toList.take off ++ xs.toList ++ cur.toList.drop (off + xs.size)).toArray → Kp [g] w w' → K (a.put o.dst undef) w') : o.wp P a w K Q := by
 unfold Oper.wp
 rw [exec_store ho hx hy (run_storeAt_agg w g off t ty xs cur hb hi hfit h1)]
 exact hK _ (setRow_blk hb).1 (setRow_blk hb).2
theorem pt_lay (z : Int) (h0 h : List UInt8) (hh : h.length = 32) (h0l : h0.length = 32) : ((ptA z h0).toList.take 1 ++ (hashA h).toList ++ (ptA z h0).toList.drop (1 + (hashA h).size)).toArray = ptA z h := by
 rw [hashA_size, hh]
 unfold ptA
 rw [List.toList_toArray]
 simp [hashA_list, bv_length, h0l]
end
/- (*Sha).take. -/
section
variable {Q : Exit → Act → World → Prop} {a : Act} {w : World}
open Go.RowKit
theorem stk_r0 (A : Option Addr) (n c : Nat) (hsz : a.tmps.size = 48) (o1 : Sl a 1 (.slice A n c))
 (hend : ∀ a', Same a a' [6, 7, 8] → Sl a' 8 (.bool (decide (0 < n))) → Q .normal a' (w)) : (Code.region 0 (opsOf 0 Tryd.f63).toArray false).wp Tryd.prog Q a w := by
 refine wp_region_lit ?_
 (conv => arg 4; whnf)
 unfold Sl at o1
 go_wp2_with fail
 try simp only [Act.put]
 exact hend _ sS sP
theorem stk_r1 (w0 : World) (g n : Nat) (st : List Nat) (blk : List UInt8) (hs : st.length = 8) (hb : blk.length = 64) (L : List Res) (S : Held w0 w (blkR g 134 (shaC st blk n) :: L)) (hsz : a.tmps.size = 48) (o0 : Sl a 0 (.pointer (some ⟨g, 0, none⟩)))
 (hend : ∀ a', Same a a' [9, 10, 11, 12, 13, 4] → Sl a' 4 (.int .i64 ((n % 64 : Nat) : Int)) → Q .normal a' (w)) : (Code.region 1 (opsOf 1 Tryd.f63).toArray false).wp Tryd.prog Q a w := by
 refine wp_region_lit ?_
 (conv => arg 4; whnf)
 unfold Sl at o0
 have c1 : w.cell? ⟨g, 72, none⟩ = some (.int .i64 (n : Int)) := by rw [(S.at_ (l1 := [])).cell]; exact shaC_len hs hb
 have ht : Int.tmod (n : Int) 64 = ((n % 64 : Nat) : Int) := rfl
 clear S hs hb
 go_wp2_with fail
 try simp only [Act.put]
 exact hend _ sS sP
theorem stk_r2 (w0 : World) (g n : Nat) (st : List Nat) (blk : List UInt8) (hs : st.length = 8) (hb : blk.length = 64) (L : List Res) (S : Held w0 w (blkR g 134 (shaC st blk n) :: L)) (k : Nat) (hk : k < 64) (y : Value) (l : List UInt8) (hy : Rd w 1 y l.length (bv l)) (A : Option Addr) (c : Nat) (hyf : y = .slice A l.length c) (hsz : a.tmps.size = 48) (o0 : Sl a 0 (.pointer (some ⟨g, 0, none⟩))) (o1 : Sl a 1 (.slice A l.length c)) (o4 : Sl a 4 (.int .i64 (k : Int)))
 (hend : ∀ a' W, Same a a' [14, 15, 16, 17, 18, 19, 20, 5] → Sl a' 5 (.int .i64 ((min l.length (64 - k) : Nat) : Int)) → (Kp [g] w W) → (Held w0 W (blkR g 134 (shaC st (lay blk k (l.take (64 - k))) n) :: L)) → Q .normal a' W) : (Code.region 2 (opsOf 2 Tryd.f63).toArray false).wp Tryd.prog Q a w := by
 refine wp_region_lit ?_
 (conv => arg 4; whnf)
 unfold Sl at o0 o1 o4
 subst hyf
 have hsl := Tryd.slice64at g 8 w k (k : Int) rfl hk
 have HB := Lib.hid hb
 have HS := Lib.hid hs
 have S := Lib.hid S
 have Hy := Lib.hid hy
 clear hb hs hy
 obtain ⟨ll, hll⟩ : ∃ ll, l.length = ll := ⟨_, rfl⟩
 have HLL := Lib.hid hll
 rw [hll] at o1 Hy
 clear hll
 obtain ⟨mm, hmm⟩ : ∃ mm, min ll (64 - k) = mm := ⟨_, rfl⟩
 have HM := Lib.hid hmm
 clear hmm
 go_wp2_with (refine wpList_copy_blk rfl (.tmp 18) (.tmp 19) 22 22 rfl 5 Tryd.underlying22 (by kernel_rfl) g (8 + k) (64 - k) (64 - k) (by simp [Act.eval, Act.put, hsz]) _ (by simp [Act.eval, Act.put, hsz]) ll (bv l) Hy.out 134 _ (S.out.at_ (l1 := [])) (by rw [shaC_size HS.out HB.out]; omega) (bv_one l) mm HM.out ?_; intro w2 b2 k2; have S2 := Lib.hid (Held.setBlk (l1 := []) S.out b2 k2); have K2 := Lib.hid k2; clear b2 k2)
 rw [show (bv l).take (64 - k) = bv (l.take (64 - k)) from by simp [bv, List.map_take], shaC_splice HS.out HB.out k _ (by rw [List.length_take]; omega)] at S2
 have e5 : min l.length (64 - k) = mm := by rw [HLL.out]; exact HM.out
 rw [e5] at hend
 try simp only [Act.put]
 exact hend _ _ sS sP (K2.out) (S2.out)
theorem stk_r3 (A A1 : Option Addr) (n m c c1 k : Nat) (hr : ∀ w, (Instr.sliceAt 22 (.slice A n c) (some (.int .i64 (k : Int))) none none).run Tryd.prog w = .ok (.slice A1 m c1) w) (hsz : a.tmps.size = 48) (o1 : Sl a 1 (.slice A n c)) (o5 : Sl a 5 (.int .i64 (k : Int)))
 (hend : ∀ a', Same a a' [21, 22, 23, 1] → Sl a' 1 (.slice A1 m c1) → Q .normal a' (w)) : (Code.region 3 (opsOf 3 Tryd.f63).toArray false).wp Tryd.prog Q a w := by
 refine wp_region_lit ?_
 (conv => arg 4; whnf)
 unfold Sl at o1 o5
 go_wp2_with fail
 try simp only [Act.put]
 exact hend _ sS sP
theorem stk_r4 (w0 : World) (g n : Nat) (st : List Nat) (blk : List UInt8) (hs : st.length = 8) (hb : blk.length = 64) (L : List Res) (S : Held w0 w (blkR g 134 (shaC st blk n) :: L)) (k : Nat) (hn : n + k < 9223372036854775808) (hsz : a.tmps.size = 48) (o0 : Sl a 0 (.pointer (some ⟨g, 0, none⟩))) (o5 : Sl a 5 (.int .i64 (k : Int)))
 (hend : ∀ a' W, Same a a' [24, 25, 26, 27, 28, 29, 30, 31] → (Kp [g] w W) → (Held w0 W (blkR g 134 (shaC st blk (n + k)) :: L)) → Q .normal a' W) : (Code.region 4 (opsOf 4 Tryd.f63).toArray false).wp Tryd.prog Q a w := by
 refine wp_region_lit ?_
 (conv => arg 4; whnf)
 unfold Sl at o0 o5
 have c1 : w.cell? ⟨g, 72, none⟩ = some (.int .i64 (n : Int)) := by rw [(S.at_ (l1 := [])).cell]; exact shaC_len hs hb
 have c2 := (S.at_ (l1 := [])).frozen 72
 have S2 : Hid (Held w0 (w.setCell ⟨g, 72, none⟩ (.int .i64 ((n + k : Nat) : Int))) _) := Lib.hid (S.set (l1 := []) 72 (.int .i64 ((n + k : Nat) : Int)))
 rw [shaC_setLen hs hb] at S2
 have hw := Lib.hid (show wrap64 ((n : Int) + (k : Int)) = ((n + k : Nat) : Int) from by unfold wrap64; omega)
 have K2 := Lib.hid ((Kp.refl [g] w).setCell (p := ⟨g, 72, none⟩) (.inl (by simp)) (.int .i64 ((n + k : Nat) : Int)))
 clear S hs hb hn
 go_wp2
 rw [hw.out]
 try simp only [Act.put]
 exact hend _ _ sS (K2.out) (S2.out)
theorem stk_r5 (k j : Nat) (hk : k + j ≤ 64) (hsz : a.tmps.size = 48) (o4 : Sl a 4 (.int .i64 (k : Int))) (o5 : Sl a 5 (.int .i64 (j : Int)))
 (hend : ∀ a', Same a a' [32, 33, 34, 35] → Sl a' 35 (.bool ((k : Int) + (j : Int) == 64)) → Q .normal a' (w)) : (Code.region 5 (opsOf 5 Tryd.f63).toArray false).wp Tryd.prog Q a w := by
 refine wp_region_lit ?_
 (conv => arg 4; whnf)
 unfold Sl at o4 o5
 have hw : wrap64 ((k : Int) + (j : Int)) = ((k + j : Nat) : Int) := by unfold wrap64; omega
 go_wp2_with fail
 try simp only [Act.put]
 exact hend _ sS sP
theorem stk_r6 (w0 : World) (g n : Nat) (st : List Nat) (blk : List UInt8) (hs : st.length = 8) (hst : Ws st) (hb : blk.length = 64) (L : List Res) (hsz : a.tmps.size = 48) (o0 : Sl a 0 (.pointer (some ⟨g, 0, none⟩)))
 (S0 : Held w0 w (blkR g 134 (shaC st blk n) :: L))
 (hend : ∀ a' W, Same a a' [36, 37, 38, 39, 40, 41, 42, 43, 44, 45, 46, 47] → Held w0 W (blkR g 134 (shaC (blkF st blk) blk n) :: L) → Q .normal a' W) : (Code.region 6 (opsOf 6 Tryd.f63).toArray true).wp Tryd.prog Q a w := by
 have hap : apartB (opsOf 6 Tryd.f63) = true := by kernel_rfl
 refine wp_region_sep (Γ := Unit) (l := (opsOf 6 Tryd.f63)) 2 [0, 1, 2, 3, 4, 5, 6, 7, 8, 9, 10, 11, 12, 14]
  (fun i vs gs => match i with | 0 => vs 0 = .pointer (some ⟨g, 0, none⟩) | 1 => vs 1 = .pointer (some ⟨g, 0, none⟩) | 2 => vs 2 = .pointer (some ⟨g, 0, none⟩) | 3 => vs 3 = .pointer (some ⟨g, 0, none⟩) | 4 => vs 4 = .agg (u32A st) | 5 => vs 5 = .pointer (some ⟨g, 0, none⟩) | 6 => vs 6 = .pointer (some ⟨g, 0, none⟩) | 7 => vs 7 = .pointer (some ⟨g, 8, none⟩) | 8 => vs 8 = .agg (hashA blk) | 9 => vs 9 = .agg (u32A (blkF st blk)) | 10 => vs 10 = .pointer (some ⟨g, 0, none⟩) | 11 => vs 11 = .pointer (some ⟨g, 0, none⟩) | _ => True)
  (fun i vs gs => match i with | 12 => [blkR g 134 (shaC (blkF st blk) blk n)] | 13 => [blkR g 134 (shaC st blk n)] | 14 => L | _ => [])
  (fun i => match i with | 12 => [13] | _ => []) (fun i => match i with | 4 => [13] | 8 => [13] | _ => []) S0 (by kernel_rfl) hap (by kernel_rfl) (by kernel_rfl) (fun i => match i with | 0 => [0] | 1 => [1] | 2 => [2] | 3 => [3] | 4 => [4] | 5 => [5] | 6 => [6] | 7 => [7] | 8 => [8] | 9 => [9] | 10 => [10] | 11 => [11] | _ => []) (by kernel_rfl) ?_ (by kernel_rfl) ?_ ?_ ?_
 · intro s vs vs' gs gs' h
   iterate 15 (rcases s with _ | s; · (first | exact ⟨rfl, id⟩ | (simp only [List.mem_cons, List.not_mem_nil, or_false, forall_eq] at h; simp [h])))
   exact ⟨rfl, id⟩
 · simp only [List.range, List.range.loop, List.flatMap_cons, List.flatMap_nil, List.append_nil]
   exact List.Perm.refl _
 · clear S0 hend
   refine ⟨?_, ?_, ?_, ?_, ?_, ?_, ?_, ?_, ?_, ?_, ?_, ?_, ?_, trivial⟩
   · intro vs gs A' W LF hA S hR hd hu K hK; replace hK := hK default; have e0 := sO 0 o0 hA hap hsz; clear hA o0; go_step; exact hK _ _ S rfl
   · intro vs gs A' W LF hA S hR hd hu K hK; replace hK := hK default; have e0 := sO 0 o0 hA hap hsz; clear hA o0; go_step; exact hK _ _ S rfl
   · intro vs gs A' W LF hA S hR hd hu K hK; replace hK := hK default; have e37 := sV 37 (hd 1 (by kernel_rfl)) hA hap hsz; clear hA o0; go_step; exact hK _ _ S rfl
   · intro vs gs A' W LF hA S hR hd hu K hK; replace hK := hK default; have e38 := sV 38 (hd 2 (by kernel_rfl)) hA hap hsz; clear hA o0; go_step; exact hK _ _ S rfl
   · intro vs gs A' W LF hA S hR hd hu K hK; replace hK := hK default; have e39 := sV 39 (hd 3 (by kernel_rfl)) hA hap hsz; clear hA o0
     refine op_runs (v := .agg (u32A st)) (w' := W) (exec_load rfl (by simpa [Act.eval] using e39) (run_loadAt_agg W ⟨g, 0, none⟩ 111 (u32A st).toList _ (sha_stateAt (show Blk W g 134 (shaC st blk n) from S.ok (blkR g 134 (shaC st blk n)) (hR 13 (List.mem_singleton.2 rfl) _ (List.mem_singleton.2 rfl))) hs) Tryd.underlying111 rfl (by rw [Array.length_toList, u32A_size, hs]; exact Tryd.info8w))) ?_
     exact hK _ _ S rfl
   · intro vs gs A' W LF hA S hR hd hu K hK; replace hK := hK default; have e0 := sO 0 o0 hA hap hsz; clear hA o0; go_step; exact hK _ _ S rfl
   · intro vs gs A' W LF hA S hR hd hu K hK; replace hK := hK default; have e41 := sV 41 (hd 5 (by kernel_rfl)) hA hap hsz; clear hA o0; go_step; exact hK _ _ S rfl
   · intro vs gs A' W LF hA S hR hd hu K hK; replace hK := hK default; have e42 := sV 42 (hd 6 (by kernel_rfl)) hA hap hsz; clear hA o0; go_step; exact hK _ _ S rfl
   · intro vs gs A' W LF hA S hR hd hu K hK; replace hK := hK default; have e43 := sV 43 (hd 7 (by kernel_rfl)) hA hap hsz; clear hA o0
     refine op_runs (v := .agg (hashA blk)) (w' := W) (exec_load rfl (by simpa [Act.eval] using e43) (run_loadAt_agg W ⟨g, 8, none⟩ 76 (hashA blk).toList _ (sha_blockAt (show Blk W g 134 (shaC st blk n) from S.ok (blkR g 134 (shaC st blk n)) (hR 13 (List.mem_singleton.2 rfl) _ (List.mem_singleton.2 rfl))) hs hb) Tryd.underlying76 rfl (by rw [Array.length_toList, hashA_size, hb]; exact Tryd.info64u8s))) ?_
     exact hK _ _ S rfl
   · intro vs gs A' W LF hA S hR hd hu K hK; replace hK := hK default; have e40 := sV 40 (hd 4 (by kernel_rfl)) hA hap hsz; have e44 := sV 44 (hd 8 (by kernel_rfl)) hA hap hsz; clear hA o0
     generalize hca : u32A st = ca at *
     generalize hcb : hashA blk = cb at *
     go_step
     rw [← hca, ← hcb]
     refine (sblock_any st hst hs blk hb _).mono ?_
     rintro e w' ⟨rfl, kq⟩
     exact hK _ _ (S.kp kq) rfl
   · intro vs gs A' W LF hA S hR hd hu K hK; replace hK := hK default; have e36 := sV 36 (hd 0 (by kernel_rfl)) hA hap hsz; clear hA o0; go_step; exact hK _ _ S rfl
   · intro vs gs A' W LF hA S hR hd hu K hK; replace hK := hK default; have e46 := sV 46 (hd 10 (by kernel_rfl)) hA hap hsz; clear hA o0; go_step; exact hK _ _ S rfl
   · intro vs gs A' W LF hA S hR hd hu K hK; replace hK := hK default; have e47 := sV 47 (hd 11 (by kernel_rfl)) hA hap hsz; have e45 := sV 45 (hd 9 (by kernel_rfl)) hA hap hsz; clear hA o0
     have S1 : Held w0 W (blkR g 134 (shaC st blk n) :: LF) := S
     refine op_store_part (.tmp 47) (.tmp 45) 111 rfl g 0 (by simpa [Act.eval] using e47) (u32A (blkF st blk)) (by simpa [Act.eval] using e45) 134 _ (S1.at_ (l1 := [])) (by rw [u32A_size, blkF_length, hs]; exact Tryd.info8w) (by rw [u32A_size, blkF_length, hs, shaC_size hs hb]; omega) (u32A_one _) (fun w' hbk k => hK undef _ ?_ trivial)
     rw [shaC_state hs _ ((blkF_length _ _).trans hs)] at hbk
     exact Held.setBlk (l1 := []) S1 hbk k
 · intro vs gs W S hp
   have S : Held w0 W (blkR g 134 (shaC (blkF st blk) blk n) :: L) := by simpa only [List.flatMap_cons, List.flatMap_nil, List.append_nil, List.nil_append, List.cons_append, List.append_assoc] using S
   rw [putAll_eq]
   exact hend _ W sQ  S
end
/- (*Sha).take, whole. -/
section
open Go.RowKit
def dsTk : List Nat := [1, 4, 5, 6, 7, 8, 9, 10, 11, 12, 13, 14, 15, 16, 17, 18, 19, 20, 21, 22, 23, 24, 25, 26, 27, 28, 29, 30, 31, 32, 33, 34, 35, 36, 37, 38, 39, 40, 41, 42, 43, 44, 45, 46, 47]
def lenV : Value → Nat
 | .slice _ n _ => n
 | _ => 0
theorem Und.len8 {m : List UInt8} {st : List Nat} {blk : List UInt8} (h : Und m st blk) : st.length = 8 := by rw [h.st]; exact shaN_length _ _
theorem Und.ws {m : List UInt8} {st : List Nat} {blk : List UInt8} (h : Und m st blk) : Ws st := by rw [h.st]; exact shaN_lt _ _
theorem take_any (w0 : World) (g : Nat) (m l : List UInt8) (st : List Nat) (blk : List UInt8) (hU : Und m st blk) (hml : m.length + l.length < 4611686018427387904) (x : Value) (L : List Res) (w : World) (HB : ∀ V cs, Held w0 V (blkR g 134 cs :: L) → Rd V 1 x l.length (bv l))
 (S : Held w0 w (blkR g 134 (shaC st blk m.length) :: L)) :
 Calls Tryd.prog 63 #[.pointer (some ⟨g, 0, none⟩), x] w fun e w' => e = .returned (.tuple #[]) ∧ ∃ st' blk', Und (m ++ l) st' blk' ∧ Held w0 w' (blkR g 134 (shaC st' blk' (m ++ l).length) :: L) := by
 obtain ⟨A0, c0, rfl⟩ := rd_form (HB w _ S)
 refine calls_fr Tryd.func63 rfl 48 rfl (fun a hsz hdf hAr => ?_)
 have hsz : a.tmps.size = 48 := hsz
 have o0 := hAr 0 _ rfl
 have o1 := hAr 1 _ rfl
 refine wp_block ?_
 refine wp_loop (fun a' w' => ∃ (pre suf : List UInt8) (st : List Nat) (blk : List UInt8) (A : Option Addr) (c : Nat), pre ++ suf = l ∧ Und (m ++ pre) st blk ∧ Same a a' dsTk ∧ Sl a' 1 (.slice A suf.length c) ∧ (∀ V cs, Held w0 V (blkR g 134 cs :: L) → Rd V 1 (.slice A suf.length c) suf.length (bv suf)) ∧ Held w0 w' (blkR g 134 (shaC st blk (m ++ pre).length) :: L))
  (fun a' _ => lenV (a'.eval (.tmp 1))) ⟨[], l, st, blk, A0, c0, rfl, by rw [List.append_nil]; exact hU, Same.refl _ _, o1, HB, by rw [List.append_nil]; exact S⟩ ?_
 clear hU S HB o1
 rintro a1 w1 ⟨pre, suf, st, blk, A, c, hps, hU, T, o1, HB, S⟩
 have hz1 := T.size.trans hsz
 have o0 := T.keep 0 _ (by decide) o0
 have h8 := hU.len8
 have h64 := hU.len
 have hlen : (m ++ pre).length + suf.length = m.length + l.length := by rw [← hps]; simp only [List.length_append]; omega
 have eCtr := o1.eval (by rw [hz1]; decide)
 refine wp_seq (wp_seq (stk_r0 A suf.length c hz1 o1 (fun a2 hs2 o8 => ?_)))
 have hz2 := hs2.size.trans hz1; have o0 := hs2.k o0; have o1 := hs2.k o1
 have T := T.trans hs2
 by_cases hlt : 0 < suf.length
 · refine wp_cond_true ((o8.eval (by rw [hz2]; decide)).trans (by rw [decide_eq_true hlt])) (wp_skip ?_)
   generalize hnn : (m ++ pre).length = n at *
   refine wp_block ?_
   refine wp_seq (stk_r1 w0 g n st blk h8 h64 L S hz2 o0 (fun a3 hs3 o4 => ?_))
   have hz3 := hs3.size.trans hz2; have o0 := hs3.k o0; have o1 := hs3.k o1; have o8 := hs3.k o8
   have T := T.trans hs3
   have hk : n % 64 < 64 := Nat.mod_lt _ (by decide)
   refine wp_seq (stk_r2 w0 g n st blk h8 h64 L S (n % 64) hk _ suf (HB w1 _ S) A c rfl hz3 o0 o1 o4 (fun a4 w2 hs4 o5 K2 S => ?_))
   have hz4 := hs4.size.trans hz3; have o0 := hs4.k o0; have o1 := hs4.k o1; have o8 := hs4.k o8; have o4 := hs4.k o4
   have T := T.trans hs4
   have hb2 : (lay blk (n % 64) (suf.take (64 - n % 64))).length = 64 := by rw [lay_length (by rw [List.length_take]; omega)]; exact h64
   obtain ⟨q, hq⟩ : ∃ q, min suf.length (64 - n % 64) = q := ⟨_, rfl⟩
   rw [hq] at o5
   have hxl : (suf.take (64 - n % 64)).length = q := by rw [List.length_take, Nat.min_comm]; exact hq
   obtain ⟨A1, c1, run1, rd1, -⟩ := cut_lo A suf.length c q (suf.length - q) (q : Int) rfl (by omega)
   refine wp_seq (stk_r3 A A1 suf.length (suf.length - q) c c1 q run1 hz4 o1 o5 (fun a5 hs5 o1 => ?_))
   have hz5 := hs5.size.trans hz4; have o0 := hs5.k o0; have o8 := hs5.k o8; have o4 := hs5.k o4; have o5 := hs5.k o5
   have T := T.trans hs5
   refine wp_seq (stk_r4 w0 g n st _ h8 hb2 L S q (by omega) hz5 o0 o5 (fun a6 w3 hs6 K3 S => ?_))
   have hz6 := hs6.size.trans hz5; have o0 := hs6.k o0; have o1 := hs6.k o1; have o8 := hs6.k o8; have o4 := hs6.k o4; have o5 := hs6.k o5
   have T := T.trans hs6
   refine wp_seq (stk_r5 (n % 64) q (by omega) hz6 o4 o5 (fun a7 hs7 o35 => ?_))
   have hz7 := hs7.size.trans hz6; have o0 := hs7.k o0; have o1 := hs7.k o1; have o8 := hs7.k o8; have o4 := hs7.k o4; have o5 := hs7.k o5
   have T := T.trans hs7
   have hsuf : suf.take (64 - n % 64) ++ suf.drop q = suf := by
    by_cases hc : suf.length ≤ 64 - n % 64
    · rw [List.take_of_length_le hc, List.drop_of_length_le (by omega), List.append_nil]
    · rw [show q = 64 - n % 64 from by omega, List.take_append_drop]
   have hdl : (suf.drop q).length = suf.length - q := List.length_drop
   have HB1 : ∀ V cs, Held w0 V (blkR g 134 cs :: L) → Rd V 1 (.slice A1 (suf.drop q).length c1) (suf.drop q).length (bv (suf.drop q)) := fun V cs kv => by
    have := rd1 V suf (HB V cs kv)
    rw [List.take_of_length_le (by omega)] at this
    rw [hdl]; exact this
   have hpl : (m ++ (pre ++ suf.take (64 - n % 64))).length = n + q := by rw [← List.append_assoc, List.length_append, hnn, hxl]
   have hmu : ∀ (a' : Act), a'.tmps.size = 48 → Sl a' 1 (.slice A1 (suf.length - q) c1) → lenV (a'.eval (.tmp 1)) < lenV (a1.eval (.tmp 1)) := fun a' hz' h => by
    rw [eCtr, h.eval (by rw [hz']; decide)]
    show suf.length - q < suf.length
    omega
   rw [← hdl] at o1
   have hU0 := hU
   by_cases hfull : n % 64 + q = 64
   · refine wp_cond_true ((o35.eval (by rw [hz7]; decide)).trans (by rw [show ((((n % 64 : Nat) : Int) + (q : Int)) == 64) = true from by rw [beq_iff_eq]; omega])) ?_
     refine stk_r6 w0 g (n + q) st _ h8 hU.ws hb2 L hz7 o0 S (fun a8 w4 hs8 S => ?_)
     have hz8 := hs8.size.trans hz7; have o0 := hs8.k o0; have o1 := hs8.k o1; have o8 := hs8.k o8; have o4 := hs8.k o4; have o5 := hs8.k o5; have o35 := hs8.k o35
     have T := T.trans hs8
     have hU := hU.full (x := suf.take (64 - n % 64)) (by rw [hnn, hxl]; exact hfull)
     rw [hnn, List.append_assoc] at hU
     exact ⟨⟨pre ++ suf.take (64 - n % 64), suf.drop q, _, _, A1, c1, by rw [List.append_assoc, hsuf, hps], hU, T.more (by decide +kernel), o1, HB1, by rw [hpl]; exact S⟩, hmu _ hz8 (by rw [← hdl]; exact o1)⟩
   · refine wp_cond_false ((o35.eval (by rw [hz7]; decide)).trans (by rw [show ((((n % 64 : Nat) : Int) + (q : Int)) == 64) = false from by rw [beq_eq_false_iff_ne]; omega])) (wp_skip ?_)
     have hU := hU.part (x := suf.take (64 - n % 64)) (by rw [hnn, hxl]; omega)
     rw [hnn, List.append_assoc] at hU
     exact ⟨⟨pre ++ suf.take (64 - n % 64), suf.drop q, _, _, A1, c1, by rw [List.append_assoc, hsuf, hps], hU, T.more (by decide +kernel), o1, HB1, by rw [hpl]; exact S⟩, hmu _ hz7 (by rw [← hdl]; exact o1)⟩
 · obtain rfl : suf = [] := List.eq_nil_of_length_eq_zero (by omega)
   refine wp_cond_false ((o8.eval (by rw [hz2]; decide)).trans (by rw [decide_eq_false hlt])) (wp_exit ?_)
   rw [List.append_nil] at hps
   subst hps
   exact ⟨T.defers.trans hdf, .tuple #[], results_none rfl _ _ _, rfl, st, blk, hU, S⟩
end
/- sha: New, none, Write, put. -/
section
open Go.RowKit
theorem none_any (g : Nat) (cs : Array Value) (hc : cs[73]? = some (.bool true)) (w : World) (hb : Blk w g 134 cs) : Calls Tryd.prog 83 #[.pointer (some ⟨g, 0, none⟩)] w fun e w' => e = .returned (.bool false) ∧ w = w' := by
 have c1 : w.cell? ⟨g, 73, none⟩ = some (.bool true) := by rw [hb.cell]; exact hc
 clear hb hc
 go_enter Tryd.func83, Tryd.ntmps83
 go_wp2
 go_ret
 exact ⟨rfl, rfl⟩
theorem Tryd.built_sha : Tryd.prog.built 134 [(0, .agg (u32A hF)), (3, .bool true)] = some (shaC hF (List.replicate 64 0) 0) := by kernel_rfl
theorem snew_any (w0 w : World) (L : List Res) (S : Held w0 w L) : Calls Tryd.prog 62 #[] w fun e w' => ∃ g, e = .returned (.pointer (some ⟨g, 0, none⟩)) ∧ Held w0 w' (blkR g 134 (shaC hF (List.replicate 64 0) 0) :: L) := by
 have S := Lib.hid S
 have HB := Lib.hid Tryd.built_sha
 obtain ⟨cs, hcs⟩ : ∃ cs, Hid (shaC hF (List.replicate 64 0) 0 = cs) := ⟨_, Lib.hid rfl⟩
 rw [hcs.out] at HB ⊢
 go_enter Tryd.func62, Tryd.ntmps62
 go_wp2_with fail
 refine (sfirst_any _).mono ?_
 rintro e w' ⟨rfl, k1⟩
 have S1 := Lib.hid ((S.out.kp k1).newBlk 134 cs)
 clear k1
 obtain ⟨ca, hca⟩ : ∃ ca, Hid (u32A hF = ca) := ⟨_, Lib.hid rfl⟩
 rw [hca.out] at HB ⊢
 go_wp2_with (refine wpList_buildC rfl 134 _ rfl [(0, .agg ca), (3, .bool true)] (by simp [Act.eval]) _ HB.out ?_)
 go_ret
 exact ⟨_, rfl, S1.out⟩
theorem lay_snoc {cs x : List UInt8} {o : Nat} (c : UInt8) (h : o + x.length < cs.length) : (lay cs o x).set (o + x.length) c = lay cs o (x ++ [c]) := by
 unfold lay
 have h1 : (cs.take o ++ x).length = o + x.length := by rw [List.length_append, List.length_take]; omega
 rw [List.set_append_right _ _ (by omega), h1, Nat.sub_self, List.drop_eq_getElem_cons h, List.set_cons_zero, List.length_append, List.length_singleton]
 simp [Nat.add_assoc]
theorem be4_take (W k : Nat) (h : k < 4) : (be 4 W).take (k + 1) = (be 4 W).take k ++ [UInt8.ofNat (W / 2 ^ (24 - 8 * k))] := by
 rcases (by omega : k = 0 ∨ k = 1 ∨ k = 2 ∨ k = 3) with rfl | rfl | rfl | rfl <;> rfl
theorem put_any (w0 : World) (g : Nat) (t : TypeId) (cs : List UInt8) (o n c W : Nat) (hn : 4 ≤ n) (ho : o + 4 ≤ cs.length) (L : List Res) (w : World) (S : Held w0 w (blkR g t (hashA cs) :: L)) :
 Calls Tryd.prog 84 #[.slice (some ⟨g, o, none⟩) n c, .int .u32 (W : Int)] w fun e w' => e = .returned (.tuple #[]) ∧ Held w0 w' (blkR g t (hashA (lay cs o (be 4 W))) :: L) := by
 have S := Lib.hid S
 go_enter Tryd.func84, Tryd.ntmps84
 go_wp2
 go_loopw [4, 5] (fun _ i wr => ∃ k : Nat, k ≤ 4 ∧ i = .int .i64 (k : Int) ∧ Held w0 wr (blkR g t (hashA (lay cs o ((be 4 W).take k))) :: L)) (fun _ i _ => 4 - (intOf i).toNat)
 case atStart =>
  refine ⟨0, by omega, rfl, ?_⟩
  have e : lay cs o ((be 4 W).take 0) = cs := by unfold lay; simp
  rw [e]
  exact S.out
 case round =>
  clear S
  obtain ⟨k, hk, rfl, S⟩ := hrel
  have S := Lib.hid S
  have hxl : ((be 4 W).take k).length = k := by rw [List.length_take, be_length]; omega
  by_cases hlt : k < 4
  · have hw : (lay cs o ((be 4 W).take k)).length = cs.length := lay_length (by omega)
    have hb : (lay cs o ((be 4 W).take k))[o + k]? = some ((lay cs o ((be 4 W).take k)).getD (o + k) 0) := by
     rw [List.getD_eq_getElem?_getD, List.getElem?_eq_getElem (by omega)]; rfl
    have q1 : wr.cell? ⟨g, o + k, none⟩ = some (.int .u8 (((lay cs o ((be 4 W).take k)).getD (o + k) 0).toNat : Int)) := by
     rw [(S.out.at_ (l1 := [])).cell]
     simp only [hashA, List.getElem?_toArray]
     rw [bv_get, hb]
     rfl
    have q2 := (S.out.at_ (l1 := [])).frozen (o + k)
    have S2 : Hid (Held w0 (wr.setCell ⟨g, o + k, none⟩ (.int .u8 ((UInt8.ofNat (W / 2 ^ (24 - 8 * k))).toNat : Int))) _) := Lib.hid (S.out.set (l1 := []) (o + k) (.int .u8 ((UInt8.ofNat (W / 2 ^ (24 - 8 * k))).toNat : Int)))
    rw [hashA_set, show o + k = o + ((be 4 W).take k).length from by rw [hxl], lay_snoc _ (by omega), ← be4_take W k hlt, hxl] at S2
    generalize (lay cs o ((be 4 W).take k)).getD (o + k) 0 = old at *
    clear hw hb hxl S
    have hki : (k : Int) < n := by omega
    generalize hv : (UInt8.ofNat (W / 2 ^ (24 - 8 * k))).toNat = v at *
    have hv2 : Hid (v = W / 2 ^ (24 - 8 * k) % 256) := Lib.hid (by rw [← hv]; simp)
    clear hv
    have add0 : ((⟨g, o, none⟩ : Addr).add k) = ⟨g, o + k, none⟩ := by unfold Addr.add; split <;> simp_all
    have h0 : 0 ≤ (24 : Int) - 8 * (k : Int) := by omega
    rcases (by omega : k = 0 ∨ k = 1 ∨ k = 2 ∨ k = 3) with rfl | rfl | rfl | rfl
    all_goals
     simp only [Nat.add_zero, Nat.mul_zero, Nat.mul_one, Nat.reduceMul, Nat.reduceSub, Nat.reducePow, Nat.sub_self, Nat.pow_zero, Nat.div_one, Nat.sub_zero] at q1 q2 hv2 S2
     go_wp2
     first
      | rw [show (W : Int) / 16777216 % 256 = (v : Int) from by have := hv2.out; omega]
      | rw [show (W : Int) / 65536 % 256 = (v : Int) from by have := hv2.out; omega]
      | rw [show (W : Int) / 256 % 256 = (v : Int) from by have := hv2.out; omega]
      | rw [show (W : Int) % 256 = (v : Int) from by have := hv2.out; omega]
     go_roundw
     case rel => exact ⟨_, (by omega : _ + 1 ≤ 4), by go_num, S2.out⟩
     case measure => simp [intOf]
  · obtain rfl : k = 4 := by omega
    go_wp2
    go_end0
    refine ⟨rfl, ?_⟩
    have := S.out
    rwa [List.take_of_length_le (by simp)] at this
end
/- (*Sha).Sum: its regions. -/
section
variable {Q : Exit → Act → World → Prop} {a : Act} {w : World}
open Go.RowKit
theorem run_index_u32 {P : Program} (w : World) (t e : TypeId) (n : Nat) (h : List Nat) (kd : IntKind) (z : Int) (k x : Nat) (hz : z = k) (hx : h[k]? = some x) (hn : h.length = n) (hu : P.underlying t = some (.array n e)) (he : P.underlying e = some (.int .u32)) (hc : (P.info? e).map (·.size) = some 1) :
 (Instr.index t (.agg (u32A h)) (.int kd z)).run P w = .ok (.int .u32 (x : Int)) w := by
 subst hz
 have hk := (List.getElem?_eq_some_iff.1 hx).1
 have hag : (isAgg e).run P w = .ok false w := by
  unfold isAgg
  rw [Sem.run_bind, run_underlying he w]
  rfl
 cases hq : P.info? e with
 | none => simp [hq] at hc
 | some i =>
  have hs : i.size = 1 := by simpa [hq] using hc
  have hg : (u32A h)[k]? = some (.int .u32 (x : Int)) := by rw [show (u32A h)[k]? = (u32L h)[k]? from by simp [u32A], u32L_get, hx]; rfl
  have hb : ¬ ((k : Int) < 0 ∨ (n : Int) ≤ k) := by omega
  have hb2 : 0 ≤ (k : Int) ∧ (k : Int) < n := by omega
  simp [Instr.index, Sem.run_bind, run_underlying hu w, asIntOf, part, hag, sizeOf, typeInfo, hq, hs, hg]
  intro; omega
theorem Tryd.len32u8 : Tryd.prog.arrayLen 25 = 32 := by kernel_rfl
theorem Tryd.slice32at (g : Nat) (w : World) (k : Nat) (z : Int) (hz : z = k) (hk : k < 32) : (Instr.sliceAt 25 (.pointer (some ⟨g, 0, none⟩)) (some (.int .i64 z)) none none).run Tryd.prog w = .ok (.slice (some ⟨g, k, none⟩) (32 - k) (32 - k)) w := by
 subst hz
 obtain ⟨i0, hi, hz0, hz1, hz2⟩ := info_parts Tryd.infoU8
 rw [run_sliceAt_array_l w 25 ⟨g, 0, none⟩ (by kernel_rfl) .i64 (k : Int) (by omega) (by rw [Tryd.len32u8]; omega), Tryd.len32u8, show Tryd.prog.elem 25 = 5 from by kernel_rfl]
 have e : (⟨g, 0, none⟩ : Addr).add (k * 1) = ⟨g, k, none⟩ := by unfold Addr.add; split <;> simp <;> omega
 simp only [sizeOf, typeInfo, hi, hz1, Sem.run_bind, Sem.run_pure, Result.andThen, run_program, slicedAt, Int.toNat_natCast, e]
 rw [if_neg (by omega)]
theorem ssm_r0 (w0 : World) (L : List Res) (S : Held w0 w L) (hsz : a.tmps.size = 52) 
 (hend : ∀ a' W, Same a a' [2] → (∃ g, Sl a' 2 (.pointer (some ⟨g, 0, none⟩)) ∧ Held w0 W (blkR g 25 (hashA (List.replicate 32 0)) :: L)) → Q .normal a' W) : (Code.region 0 (opsOf 0 Tryd.f64).toArray false).wp Tryd.prog Q a w := by
 refine wp_region_lit ?_
 (conv => arg 4; whnf)
 have S0 := Lib.hid (S.newBlk 25 (hashA (List.replicate 32 0)))
 go_wp2
 try simp only [Act.put]
 exact hend _ _ sS (⟨w.heap.size, sP0, S0.out⟩)
theorem ssm_r1 (w0 : World) (L : List Res) (S : Held w0 w L) (hsz : a.tmps.size = 52) 
 (hend : ∀ a' W, Same a a' [3] → (∃ g, Sl a' 3 (.pointer (some ⟨g, 0, none⟩)) ∧ Held w0 W (blkR g 25 (hashA (List.replicate 32 0)) :: L)) → Q .normal a' W) : (Code.region 1 (opsOf 1 Tryd.f64).toArray false).wp Tryd.prog Q a w := by
 refine wp_region_lit ?_
 (conv => arg 4; whnf)
 have S0 := Lib.hid (S.newBlk 25 (hashA (List.replicate 32 0)))
 go_wp2
 try simp only [Act.put]
 exact hend _ _ sS (⟨w.heap.size, sP0, S0.out⟩)
theorem ssm_r2 (g : Nat) (cs : Array Value) (hc : cs[73]? = some (.bool true)) (hb : Blk w g 134 cs) (hsz : a.tmps.size = 52) (o0 : Sl a 0 (.pointer (some ⟨g, 0, none⟩)))
 (hend : ∀ a', Same a a' [9, 10] → Sl a' 10 (.bool false) → Q .normal a' (w)) : (Code.region 2 (opsOf 2 Tryd.f64).toArray false).wp Tryd.prog Q a w := by
 refine wp_region_lit ?_
 (conv => arg 4; whnf)
 unfold Sl at o0
 have HR := Lib.hid (none_any g cs hc w hb)
 clear hb hc
 go_wp2_with fail
 refine HR.out.mono ?_
 rintro e w' ⟨rfl, rfl⟩
 go_wp2
 try simp only [Act.put]
 exact hend _ sS sP
theorem ssm_r4 (w0 : World) (g n : Nat) (st : List Nat) (blk : List UInt8) (hs : st.length = 8) (hb : blk.length = 64) (L1 L2 : List Res) (S : Held w0 w (L1 ++ blkR g 134 (shaC st blk n) :: L2)) (hsz : a.tmps.size = 52) (o0 : Sl a 0 (.pointer (some ⟨g, 0, none⟩)))
 (hend : ∀ a' W, Same a a' [12, 13, 14, 4] → (∃ g4, Sl a' 4 (.pointer (some ⟨g4, 0, none⟩)) ∧ Held w0 W (blkR g4 134 (shaC st blk n) :: (L1 ++ blkR g 134 (shaC st blk n) :: L2))) → Q .normal a' W) : (Code.region 4 (opsOf 4 Tryd.f64).toArray false).wp Tryd.prog Q a w := by
 refine wp_region_lit ?_
 (conv => arg 4; whnf)
 unfold Sl at o0
 have S := Lib.hid S
 have HS := Lib.hid hs
 have HB := Lib.hid hb
 clear hs hb
 obtain ⟨cs, hcs⟩ : ∃ cs, Hid (shaC st blk n = cs) := ⟨_, Lib.hid rfl⟩
 have hz := Lib.hid (shaC_size (n := n) HS.out HB.out)
 have h1 := Lib.hid (shaC_one st blk n)
 rw [hcs.out] at S hz h1
 go_wp2_with (first
  | (refine wpList_load_blk rfl 134 (.tmp 13) rfl g (by simp [Act.eval, Act.put, hsz, o0]) 134 _ S.out.at_ _ Tryd.underlying134 rfl (by rw [hz.out]; exact Tryd.infoSha) ?_)
  | (refine wpList_store_blk rfl 134 (.tmp 4) (.tmp 14) rfl w.heap.size (by simp [Act.eval, Act.put, hsz]) cs (by simp [Act.eval, Act.put, hsz]) 134 _ (Blk.new w 134 _) (by rw [hz.out]; exact Tryd.infoSha) (by rw [hz.out]; rfl) h1.out ?_; intro w7 b7 k7; have S7 := Lib.hid (Held.setBlk (l1 := []) (S.out.newBlk 134 _) b7 k7); clear b7 k7))
 rw [← hcs.out] at S7
 try simp only [Act.put]
 exact hend _ _ sS (⟨_, sP0, S7.out⟩)
theorem ssm_r5 (g n : Nat) (cs : Array Value) (hc : cs[72]? = some (.int .i64 (n : Int))) (hb : Blk w g 134 cs) (hn : n < 1152921504606846976) (hsz : a.tmps.size = 52) (o0 : Sl a 0 (.pointer (some ⟨g, 0, none⟩)))
 (hend : ∀ a', Same a a' [15, 16, 17, 18, 19, 20, 5] → Sl a' 5 (.int .u64 ((8 * n : Nat) : Int)) → Q .normal a' (w)) : (Code.region 5 (opsOf 5 Tryd.f64).toArray false).wp Tryd.prog Q a w := by
 refine wp_region_lit ?_
 (conv => arg 4; whnf)
 unfold Sl at o0
 have c1 : w.cell? ⟨g, 72, none⟩ = some (.int .i64 (n : Int)) := by rw [hb.cell]; exact hc
 have hw := Lib.hid (show ((n : Int) * 8) % 18446744073709551616 = ((8 * n : Nat) : Int) from by omega)
 have hn := Lib.hid hn
 clear hb hc
 go_wp2
 first | rw [hw.out] | skip
 try simp only [Act.put]
 exact hend _ sS sP
theorem ssm_r6 (w0 : World) (g4 : Nat) (m : List UInt8) (st : List Nat) (blk : List UInt8) (hU : Und m st blk) (hm : m.length + 1 < 4611686018427387904) (L : List Res) (S : Held w0 w (blkR g4 134 (shaC st blk m.length) :: L)) (hsz : a.tmps.size = 52) (o4 : Sl a 4 (.pointer (some ⟨g4, 0, none⟩)))
 (hend : ∀ a' W, Same a a' [21, 22] → (∃ st' blk', Und (m ++ [128]) st' blk' ∧ Held w0 W (blkR g4 134 (shaC st' blk' (m ++ [128]).length) :: L)) → Q .normal a' W) : (Code.region 6 (opsOf 6 Tryd.f64).toArray false).wp Tryd.prog Q a w := by
 refine wp_region_lit ?_
 (conv => arg 4; whnf)
 unfold Sl at o4
 have S := Lib.hid S
 have hU := Lib.hid hU
 have Hm := Lib.hid hm
 clear hm
 go_wp2_with fail
 refine (take_any w0 g4 m [128] st blk hU.out (by simp; exact Hm.out) _ (rowR 5 1 (.slice (some ⟨w.heap.size, 0, none⟩) 1 1) 1 (bv [128]) :: L) _ (fun V cs SV => Rd.of_own (SV.at_ (l1 := [_]))) ?_).mono ?_
 · refine (Held.perm ?_ (List.Perm.swap _ _ _))
   exact S.out.rownew (ow_new w 5 1 1 #[.int .u8 128] rfl (by decide)) ((Kp.refl [] w).alloc _) (fun g hg => Nat.le_of_eq (Option.some.inj hg))
 rintro e w2 ⟨rfl, st2, blk2, U2, S2⟩
 have S2 := Lib.hid (S2.dropAt (l1 := [_]))
 go_wp2
 try simp only [Act.put]
 exact hend _ _ sS (⟨st2, blk2, U2, S2.out⟩)
theorem ssm_r8 (w0 : World) (g4 : Nat) (m : List UInt8) (st : List Nat) (blk : List UInt8) (hU : Und m st blk) (hm : m.length + 1 < 4611686018427387904) (L : List Res) (S : Held w0 w (blkR g4 134 (shaC st blk m.length) :: L)) (hsz : a.tmps.size = 52) (o4 : Sl a 4 (.pointer (some ⟨g4, 0, none⟩)))
 (hend : ∀ a' W, Same a a' [27, 28] → (∃ st' blk', Und (m ++ [0]) st' blk' ∧ Held w0 W (blkR g4 134 (shaC st' blk' (m ++ [0]).length) :: L)) → Q .normal a' W) : (Code.region 8 (opsOf 8 Tryd.f64).toArray false).wp Tryd.prog Q a w := by
 refine wp_region_lit ?_
 (conv => arg 4; whnf)
 unfold Sl at o4
 have S := Lib.hid S
 have hU := Lib.hid hU
 have Hm := Lib.hid hm
 clear hm
 go_wp2_with fail
 refine (take_any w0 g4 m [0] st blk hU.out (by simp; exact Hm.out) _ (rowR 5 1 (.slice (some ⟨w.heap.size, 0, none⟩) 1 1) 1 (bv [0]) :: L) _ (fun V cs SV => Rd.of_own (SV.at_ (l1 := [_]))) ?_).mono ?_
 · refine (Held.perm ?_ (List.Perm.swap _ _ _))
   exact S.out.rownew (ow_new w 5 1 1 #[.int .u8 0] rfl (by decide)) ((Kp.refl [] w).alloc _) (fun g hg => Nat.le_of_eq (Option.some.inj hg))
 rintro e w2 ⟨rfl, st2, blk2, U2, S2⟩
 have S2 := Lib.hid (S2.dropAt (l1 := [_]))
 go_wp2
 try simp only [Act.put]
 exact hend _ _ sS (⟨st2, blk2, U2, S2.out⟩)
theorem ssm_r12 (w0 : World) (g4 : Nat) (m : List UInt8) (st : List Nat) (blk : List UInt8) (b : UInt8) (hU : Und m st blk) (hm : m.length + 1 < 4611686018427387904) (L : List Res) (S : Held w0 w (blkR g4 134 (shaC st blk m.length) :: L)) (N i : Nat) (hi : i ≤ 56) (hb : b = UInt8.ofNat (N / 2 ^ i)) (hsz : a.tmps.size = 52) (o4 : Sl a 4 (.pointer (some ⟨g4, 0, none⟩))) (o5 : Sl a 5 (.int .u64 (N : Int))) (o6 : Sl a 6 (.int .i64 (i : Int)))
 (hend : ∀ a' W, Same a a' [33, 34, 35, 36, 37, 38] → (∃ st' blk', Und (m ++ [b]) st' blk' ∧ Held w0 W (blkR g4 134 (shaC st' blk' (m ++ [b]).length) :: L)) → Q .normal a' W) : (Code.region 12 (opsOf 12 Tryd.f64).toArray false).wp Tryd.prog Q a w := by
 refine wp_region_lit ?_
 (conv => arg 4; whnf)
 unfold Sl at o4 o5 o6
 have S := Lib.hid S
 have hU := Lib.hid hU
 have Hm := Lib.hid hm
 clear hm
 have hbv : Hid (((N : Int) / 2 ^ i) % 256 = (b.toNat : Int)) := Lib.hid (by rw [hb, UInt8.toNat_ofNat', Int.natCast_emod, Int.natCast_ediv, Int.natCast_pow]; rfl)
 clear hb
 go_wp2_with fail
 rw [hbv.out]
 refine (take_any w0 g4 m [b] st blk hU.out (by simp; exact Hm.out) _ (rowR 5 1 (.slice (some ⟨w.heap.size, 0, none⟩) 1 1) 1 (bv [b]) :: L) _ (fun V cs SV => Rd.of_own (SV.at_ (l1 := [_]))) ?_).mono ?_
 · refine (Held.perm ?_ (List.Perm.swap _ _ _))
   exact S.out.rownew (ow_new w 5 1 1 #[.int .u8 (b.toNat : Int)] rfl (by decide)) ((Kp.refl [] w).alloc _) (fun g hg => Nat.le_of_eq (Option.some.inj hg))
 rintro e w2 ⟨rfl, st2, blk2, U2, S2⟩
 have S2 := Lib.hid (S2.dropAt (l1 := [_]))
 go_wp2
 try simp only [Act.put]
 exact hend _ _ sS (⟨st2, blk2, U2, S2.out⟩)
theorem ssm_r7 (g4 n : Nat) (cs : Array Value) (hc : cs[72]? = some (.int .i64 (n : Int))) (hb : Blk w g4 134 cs) (hsz : a.tmps.size = 52) (o4 : Sl a 4 (.pointer (some ⟨g4, 0, none⟩)))
 (hend : ∀ a', Same a a' [23, 24, 25, 26] → Sl a' 26 (.bool (((n % 64 : Nat) : Int) != 56)) → Q .normal a' (w)) : (Code.region 7 (opsOf 7 Tryd.f64).toArray false).wp Tryd.prog Q a w := by
 refine wp_region_lit ?_
 (conv => arg 4; whnf)
 unfold Sl at o4
 have c1 : w.cell? ⟨g4, 72, none⟩ = some (.int .i64 (n : Int)) := by rw [hb.cell]; exact hc
 have ht : Int.tmod (n : Int) 64 = ((n % 64 : Nat) : Int) := rfl
 have hd : (((n % 64 : Nat) : Int) == 56) = decide (n % 64 = 56) := by rw [Bool.eq_iff_iff, beq_iff_eq, decide_eq_true_iff]; omega
 obtain ⟨q, hq⟩ : ∃ q, n % 64 = q := ⟨_, rfl⟩
 rw [hq] at ht hd hend
 have hq := Lib.hid hq
 clear hb hc
 go_wp2_with fail
 try simp only [Act.put]
 exact hend _ sS sP
theorem ssm_r9  (hsz : a.tmps.size = 52) 
 (hend : ∀ a', Same a a' [6] → Sl a' 6 (.int .i64 ((56 : Nat) : Int)) → Q .normal a' (w)) : (Code.region 9 (opsOf 9 Tryd.f64).toArray false).wp Tryd.prog Q a w := by
 refine wp_region_lit ?_
 (conv => arg 4; whnf)
 go_wp2_with fail
 try simp only [Act.put]
 exact hend _ sS sP
theorem ssm_r10 (z : Int) (hsz : a.tmps.size = 52) (o6 : Sl a 6 (.int .i64 z))
 (hend : ∀ a', Same a a' [29, 30] → Sl a' 30 (.bool (decide (0 ≤ z))) → Q .normal a' (w)) : (Code.region 10 (opsOf 10 Tryd.f64).toArray false).wp Tryd.prog Q a w := by
 refine wp_region_lit ?_
 (conv => arg 4; whnf)
 unfold Sl at o6
 go_wp2_with fail
 try simp only [Act.put]
 exact hend _ sS sP
theorem ssm_r11 (z : Int) (hz : -100 ≤ z ∧ z ≤ 100) (hsz : a.tmps.size = 52) (o6 : Sl a 6 (.int .i64 z))
 (hend : ∀ a', Same a a' [31, 32, 6] → Sl a' 6 (.int .i64 (z - 8)) → Q .normal a' (w)) : (Code.region 11 (opsOf 11 Tryd.f64).toArray false).wp Tryd.prog Q a w := by
 refine wp_region_lit ?_
 (conv => arg 4; whnf)
 unfold Sl at o6
 have hw : wrap64 (z - 8) = z - 8 := by unfold wrap64; omega
 go_wp2_with fail
 try simp only [Act.put]
 exact hend _ sS sP
theorem ssm_r13 (w0 : World) (g n : Nat) (st : List Nat) (blk : List UInt8) (hs : st.length = 8) (hb : blk.length = 64) (L : List Res) (S : Held w0 w (blkR g 134 (shaC st blk n) :: L)) (hsz : a.tmps.size = 52) (o4 : Sl a 4 (.pointer (some ⟨g, 0, none⟩)))
 (hend : ∀ a', Same a a' [39, 40, 41] → Sl a' 40 (.agg (u32A st)) → Sl a' 41 (.int .i64 ((0 : Nat) : Int)) → Q .normal a' (w)) : (Code.region 13 (opsOf 13 Tryd.f64).toArray false).wp Tryd.prog Q a w := by
 refine wp_region_lit ?_
 (conv => arg 4; whnf)
 unfold Sl at o4
 have S := Lib.hid S
 have HS := Lib.hid hs
 clear hs hb
 go_wp2_with (refine wpList_load_agg rfl 111 (.tmp 39) rfl ⟨g, 0, none⟩ (by simp [Act.eval, Act.put, hsz]) (u32A st).toList _ (sha_stateAt (S.out.at_ (l1 := [])) HS.out) Tryd.underlying111 rfl (by rw [Array.length_toList, u32A_size, HS.out]; exact Tryd.info8w) ?_)
 try simp only [Act.put]
 exact hend _ sS sP sP
theorem ssm_r14 (k : Nat) (hsz : a.tmps.size = 52) (o41 : Sl a 41 (.int .i64 (k : Int)))
 (hend : ∀ a', Same a a' [42] → Sl a' 42 (.bool (decide ((k : Int) < 8))) → Q .normal a' (w)) : (Code.region 14 (opsOf 14 Tryd.f64).toArray false).wp Tryd.prog Q a w := by
 refine wp_region_lit ?_
 (conv => arg 4; whnf)
 unfold Sl at o41
 go_wp2_with fail
 try simp only [Act.put]
 exact hend _ sS sP
theorem ssm_r15 (k x : Nat) (st : List Nat) (hk : k < 8) (hs : st.length = 8) (hx : st[k]? = some x) (hsz : a.tmps.size = 52) (o40 : Sl a 40 (.agg (u32A st))) (o41 : Sl a 41 (.int .i64 (k : Int)))
 (hend : ∀ a', Same a a' [43, 44, 7, 8] → Sl a' 7 (.int .i64 (k : Int)) → Sl a' 8 (.int .u32 (x : Int)) → Q .normal a' (w)) : (Code.region 15 (opsOf 15 Tryd.f64).toArray false).wp Tryd.prog Q a w := by
 refine wp_region_lit ?_
 (conv => arg 4; whnf)
 unfold Sl at o40 o41
 have hr : (Instr.index 111 (.agg (u32A st)) (.int .i64 (k : Int))).run Tryd.prog w = .ok (.int .u32 (x : Int)) w := run_index_u32 w 111 110 8 st .i64 (k : Int) k x rfl hx hs Tryd.underlying111 Tryd.underlying110 (by kernel_rfl)
 obtain ⟨ca, hca⟩ : ∃ ca, u32A st = ca := ⟨_, rfl⟩
 rw [hca] at hr o40
 clear hca
 go_wp2_with fail
 try simp only [Act.put]
 exact hend _ sS sP sP
theorem ssm_r16 (w0 : World) (g3 : Nat) (cs : List UInt8) (hl : cs.length = 32) (k x : Nat) (hk : k < 8) (L1 L : List Res) (S : Held w0 w (L1 ++ blkR g3 25 (hashA cs) :: L)) (hsz : a.tmps.size = 52) (o3 : Sl a 3 (.pointer (some ⟨g3, 0, none⟩))) (o7 : Sl a 7 (.int .i64 (k : Int))) (o8 : Sl a 8 (.int .u32 (x : Int)))
 (hend : ∀ a' W, Same a a' [45, 46, 47, 48, 49] → (Held w0 W (L1 ++ blkR g3 25 (hashA (lay cs (4 * k) (be 4 x))) :: L)) → Q .normal a' W) : (Code.region 16 (opsOf 16 Tryd.f64).toArray false).wp Tryd.prog Q a w := by
 refine wp_region_lit ?_
 (conv => arg 4; whnf)
 unfold Sl at o3 o7 o8
 have hsl := Tryd.slice32at g3 w (4 * k) (4 * (k : Int)) (by omega) (by omega)
 have HR := Lib.hid (put_any w0 g3 25 cs (4 * k) (32 - 4 * k) (32 - 4 * k) x (by omega) (by omega) (L1 ++ L) w (S.perm List.perm_middle))
 clear S
 go_wp2_with fail
 refine HR.out.mono ?_
 rintro e w2 ⟨rfl, S2⟩
 have S2 := Lib.hid (S2.perm List.perm_middle.symm)
 go_wp2
 try simp only [Act.put]
 exact hend _ _ sS (S2.out)
theorem ssm_r17 (k : Nat) (hk : k < 8) (hsz : a.tmps.size = 52) (o41 : Sl a 41 (.int .i64 (k : Int)))
 (hend : ∀ a', Same a a' [50, 41] → Sl a' 41 (.int .i64 ((k + 1 : Nat) : Int)) → Q .normal a' (w)) : (Code.region 17 (opsOf 17 Tryd.f64).toArray false).wp Tryd.prog Q a w := by
 refine wp_region_lit ?_
 (conv => arg 4; whnf)
 unfold Sl at o41
 go_wp2_with fail
 try simp only [Act.put]
 exact hend _ sS sP
theorem ssm_r18 (w0 : World) (g3 g2 : Nat) (cs c2 : List UInt8) (hl : cs.length = 32) (h2 : c2.length = 32) (L1 L2 L3 : List Res) (S : Held w0 w (L1 ++ blkR g3 25 (hashA cs) :: (L2 ++ blkR g2 25 (hashA c2) :: L3))) (hsz : a.tmps.size = 52) (o2 : Sl a 2 (.pointer (some ⟨g2, 0, none⟩))) (o3 : Sl a 3 (.pointer (some ⟨g3, 0, none⟩)))
 (hend : ∀ a' W, Same a a' [51] → (Held w0 W ((L1 ++ blkR g3 25 (hashA cs) :: L2) ++ blkR g2 25 (hashA cs) :: L3)) → Q .normal a' W) : (Code.region 18 (opsOf 18 Tryd.f64).toArray false).wp Tryd.prog Q a w := by
 refine wp_region_lit ?_
 (conv => arg 4; whnf)
 unfold Sl at o2 o3
 have S := Lib.hid S
 have HL := Lib.hid hl
 have H2 := Lib.hid h2
 clear hl h2
 have S' : Hid (Held w0 w ((L1 ++ blkR g3 25 (hashA cs) :: L2) ++ blkR g2 25 (hashA c2) :: L3)) := Lib.hid (by have := S.out; simpa [List.append_assoc] using this)
 go_wp2_with (first
  | (refine wpList_load_blk rfl 25 (.tmp 3) rfl g3 (by simp [Act.eval, Act.put, hsz, o3]) 25 _ S.out.at_ _ Tryd.underlying25 rfl (by rw [hashA_size, HL.out]; exact Tryd.infoHashP) ?_)
  | (refine wpList_store_blk rfl 25 (.tmp 2) (.tmp 51) rfl g2 (by simp [Act.eval, Act.put, hsz, o2]) (hashA cs) (by simp [Act.eval, Act.put, hsz]) 25 _ S'.out.at_ (by rw [hashA_size, HL.out]; exact Tryd.infoHashP) (by rw [hashA_size, hashA_size, HL.out, H2.out]) (hashA_one cs) ?_; intro w7 b7 k7; have S7 := Lib.hid (Held.setBlk S'.out b7 k7); clear b7 k7))
 try simp only [Act.put]
 exact hend _ _ sS (S7.out)
end
/- (*Sha).Sum, whole; sha.Sum. -/
section
open Go.RowKit
def dsSm0 : List Nat := [23, 24, 25, 26, 27, 28]
def dsSm1 : List Nat := [6, 29, 30, 31, 32, 33, 34, 35, 36, 37, 38]
def dsSm2 : List Nat := [7, 8, 41, 42, 43, 44, 45, 46, 47, 48, 49, 50]
theorem padZ_le (n j : Nat) (h : (n + 1 + j) % 64 ≠ 56) (hj : j ≤ padZ n) : j < padZ n := by
 unfold padZ at *
 omega
theorem padZ_end (n j : Nat) (h : (n + 1 + j) % 64 = 56) (hj : j ≤ padZ n) : j = padZ n := by
 unfold padZ at *
 omega
theorem ssm_l0 {Q : Exit → Act → World → Prop} {a : Act} {w0 w : World} (g4 : Nat) (m : List UInt8) (st : List Nat) (blk : List UInt8) (hU : Und (m ++ [128]) st blk) (hm : m.length < 1152921504606846976) (L : List Res) (hsz : a.tmps.size = 52) (o4 : Sl a 4 (.pointer (some ⟨g4, 0, none⟩)))
 (S : Held w0 w (blkR g4 134 (shaC st blk (m ++ [128]).length) :: L))
 (hend : ∀ (a' : Act) (W : World) (st : List Nat) (blk : List UInt8), Same a a' dsSm0 → Und (m ++ [128] ++ List.replicate (padZ m.length) 0) st blk → Held w0 W (blkR g4 134 (shaC st blk (m ++ [128] ++ List.replicate (padZ m.length) 0).length) :: L) → Q .normal a' W) :
 (Code.block 0 (blockOf 0 Tryd.f64)).wp Tryd.prog Q a w := by
 refine wp_block ?_
 (conv => arg 2; whnf)
 obtain ⟨M, hM⟩ : ∃ M : Act → World → Nat, M = fun _ w' => padZ m.length - (match w'.cell? ⟨g4, 72, none⟩ with | some v => (intOf v).toNat - (m.length + 1) | none => 0) := ⟨_, rfl⟩
 refine wp_loop (fun a' w' => ∃ (j : Nat) (st : List Nat) (blk : List UInt8), j ≤ padZ m.length ∧ Same a a' dsSm0 ∧ Und (m ++ [128] ++ List.replicate j 0) st blk ∧ Held w0 w' (blkR g4 134 (shaC st blk (m ++ [128] ++ List.replicate j 0).length) :: L)) M ⟨0, st, blk, Nat.zero_le _, Same.refl _ _, by rw [List.replicate_zero, List.append_nil]; exact hU, by rw [List.replicate_zero, List.append_nil]; exact S⟩ ?_
 clear hU S
 rintro a1 w1 ⟨j, st, blk, hj, T, hU, S⟩
 have o4 := T.keep 4 _ (by decide) o4
 have hz1 := T.size.trans hsz
 have hpz := (padZ_spec m.length).2
 have hl : (m ++ [128] ++ List.replicate j 0).length = m.length + 1 + j := by simp; omega
 have hM1 : ∀ (a' : Act) (W : World) (st : List Nat) (blk : List UInt8) (j : Nat), st.length = 8 → blk.length = 64 → Held w0 W (blkR g4 134 (shaC st blk (m ++ [128] ++ List.replicate j 0).length) :: L) → M a' W = padZ m.length - j := by
  intro a' W st blk j h8 h64 S
  rw [hM]
  show padZ m.length - (match W.cell? ⟨g4, 72, none⟩ with | some v => (intOf v).toNat - (m.length + 1) | none => 0) = _
  rw [(S.at_ (l1 := [])).cell, shaC_len h8 h64]
  simp [intOf]
  omega
 refine wp_seq (wp_seq (ssm_r7 g4 _ _ (shaC_len hU.len8 hU.len) (S.at_ (l1 := [])) hz1 o4 (fun a2 hs2 o26 => ?_)))
 have hz2 := hs2.size.trans hz1; have o4 := hs2.k o4
 have T := T.trans hs2
 rw [hl] at o26
 by_cases hlt : (m.length + 1 + j) % 64 = 56
 · refine wp_cond_false ((o26.eval (by rw [hz2]; decide)).trans (by rw [hlt]; rfl)) (wp_exit ?_)
   obtain rfl := padZ_end _ _ hlt hj
   exact hend _ _ st blk (T.more (by decide +kernel)) hU S
 · refine wp_cond_true ((o26.eval (by rw [hz2]; decide)).trans (by rw [show ((((m.length + 1 + j) % 64 : Nat) : Int) != 56) = true from by rw [bne_iff_ne]; omega])) (wp_skip ?_)
   have hjl := padZ_le _ _ hlt hj
   refine wp_block ?_
   refine ssm_r8 w0 g4 _ st blk hU (by rw [hl]; omega) L S hz2 o4 (fun a3 w2 hs3 h => ?_)
   have hz3 := hs3.size.trans hz2; have o4 := hs3.k o4; have o26 := hs3.k o26
   have T := T.trans hs3
   obtain ⟨st2, blk2, U2, S2⟩ := h
   have e : m ++ [128] ++ List.replicate j 0 ++ [0] = m ++ [128] ++ List.replicate (j + 1) 0 := by rw [List.append_assoc, ← List.replicate_succ']
   rw [e] at U2 S2
   refine ⟨⟨j + 1, st2, blk2, hjl, T.more (by decide +kernel), U2, S2⟩, ?_⟩
   show M _ _ < M _ _
   rw [hM1 _ _ _ _ _ U2.len8 U2.len S2, hM1 a1 w1 _ _ _ hU.len8 hU.len S]
   omega
theorem be8_take (N r : Nat) (h : r < 8) : (be 8 N).take (r + 1) = (be 8 N).take r ++ [UInt8.ofNat (N / 2 ^ (56 - 8 * r))] := by
 rcases (by omega : r = 0 ∨ r = 1 ∨ r = 2 ∨ r = 3 ∨ r = 4 ∨ r = 5 ∨ r = 6 ∨ r = 7) with rfl | rfl | rfl | rfl | rfl | rfl | rfl | rfl <;> rfl
theorem ssm_l1 {Q : Exit → Act → World → Prop} {a : Act} {w0 w : World} (g4 : Nat) (m : List UInt8) (N : Nat) (st : List Nat) (blk : List UInt8) (hU : Und m st blk) (hm : m.length + 8 < 4611686018427387904) (L : List Res) (hsz : a.tmps.size = 52) (o4 : Sl a 4 (.pointer (some ⟨g4, 0, none⟩))) (o5 : Sl a 5 (.int .u64 (N : Int))) (o6 : Sl a 6 (.int .i64 ((56 : Nat) : Int)))
 (S : Held w0 w (blkR g4 134 (shaC st blk m.length) :: L))
 (hend : ∀ (a' : Act) (W : World) (st : List Nat) (blk : List UInt8), Same a a' dsSm1 → Und (m ++ be 8 N) st blk → Held w0 W (blkR g4 134 (shaC st blk (m ++ be 8 N).length) :: L) → Q .normal a' W) :
 (Code.block 2 (blockOf 2 Tryd.f64)).wp Tryd.prog Q a w := by
 refine wp_block ?_
 (conv => arg 2; whnf)
 refine wp_loop (fun a' w' => ∃ (r : Nat) (st : List Nat) (blk : List UInt8), r ≤ 8 ∧ Same a a' dsSm1 ∧ Sl a' 6 (.int .i64 (56 - 8 * (r : Int))) ∧ Und (m ++ (be 8 N).take r) st blk ∧ Held w0 w' (blkR g4 134 (shaC st blk (m ++ (be 8 N).take r).length) :: L)) (fun a' _ => (intOf (a'.eval (.tmp 6)) + 8).toNat) ⟨0, st, blk, Nat.zero_le _, Same.refl _ _, o6, by rw [List.take_zero, List.append_nil]; exact hU, by rw [List.take_zero, List.append_nil]; exact S⟩ ?_
 clear hU S o6
 rintro a1 w1 ⟨r, st, blk, hr, T, o6, hU, S⟩
 have o4 := T.keep 4 _ (by decide) o4
 have o5 := T.keep 5 _ (by decide) o5
 have hz1 := T.size.trans hsz
 have eCtr := o6.eval (by rw [hz1]; decide)
 have hl : (m ++ (be 8 N).take r).length = m.length + r := by rw [List.length_append, List.length_take, be_length]; omega
 refine wp_seq (wp_seq (ssm_r10 _ hz1 o6 (fun a2 hs2 o30 => ?_)))
 have hz2 := hs2.size.trans hz1; have o4 := hs2.k o4; have o5 := hs2.k o5; have o6 := hs2.k o6
 have T := T.trans hs2
 by_cases hlt : r < 8
 · refine wp_cond_true ((o30.eval (by rw [hz2]; decide)).trans (by rw [decide_eq_true (by omega)])) (wp_skip ?_)
   have e6 : (56 - 8 * (r : Int)) = (((56 - 8 * r : Nat)) : Int) := by omega
   have o6' := o6
   rw [e6] at o6'
   refine wp_seq (wp_block ?_)
   refine ssm_r12 w0 g4 _ st blk _ hU (by rw [hl]; omega) L S N (56 - 8 * r) (by omega) rfl hz2 o4 o5 o6' (fun a3 w2 hs3 h => ?_)
   have hz3 := hs3.size.trans hz2; have o4 := hs3.k o4; have o5 := hs3.k o5; have o6 := hs3.k o6; have o30 := hs3.k o30
   have T := T.trans hs3
   obtain ⟨st2, blk2, U2, S2⟩ := h
   rw [List.append_assoc, ← be8_take N r hlt] at U2 S2
   refine ssm_r11 _ (by omega) hz3 o6 (fun a4 hs4 o6 => ?_)
   have hz4 := hs4.size.trans hz3; have o4 := hs4.k o4; have o5 := hs4.k o5; have o30 := hs4.k o30
   have T := T.trans hs4
   have e7 : (56 - 8 * (r : Int)) - 8 = 56 - 8 * ((r + 1 : Nat) : Int) := by omega
   rw [e7] at o6
   refine ⟨⟨r + 1, st2, blk2, by omega, T.more (by decide +kernel), o6, U2, S2⟩, ?_⟩
   show (intOf (_) + 8).toNat < (intOf (_) + 8).toNat
   rw [eCtr, o6.eval (by rw [hz4]; decide)]
   show (56 - 8 * ((r + 1 : Nat) : Int) + 8).toNat < (56 - 8 * (r : Int) + 8).toNat
   omega
 · obtain rfl : r = 8 := by omega
   refine wp_cond_false ((o30.eval (by rw [hz2]; decide)).trans (by rw [decide_eq_false (by omega)])) (wp_exit ?_)
   rw [List.take_of_length_le (by simp)] at hU S
   exact hend _ _ st blk (T.more (by decide +kernel)) hU S
def layW (st : List Nat) (k : Nat) : List UInt8 := (st.take k).flatMap (be 4) ++ List.replicate (32 - 4 * k) 0
theorem flat4 (l : List Nat) : (l.flatMap (be 4)).length = 4 * l.length := by
 induction l with
 | nil => rfl
 | cons a l ih => rw [List.flatMap_cons, List.length_append, ih, be_length, List.length_cons]; omega
theorem layW_length {st : List Nat} (hs : st.length = 8) {k : Nat} (hk : k ≤ 8) : (layW st k).length = 32 := by
 unfold layW
 rw [List.length_append, flat4, List.length_take, List.length_replicate]; omega
theorem layW_next {st : List Nat} (hs : st.length = 8) {k x : Nat} (hk : k < 8) (hx : st[k]? = some x) : lay (layW st k) (4 * k) (be 4 x) = layW st (k + 1) := by
 have h1 : ((st.take k).flatMap (be 4)).length = 4 * k := by rw [flat4, List.length_take]; omega
 unfold lay layW
 rw [List.take_left' h1, List.drop_append, List.drop_of_length_le (by rw [h1, be_length]; omega), List.nil_append, h1, be_length, List.drop_replicate, List.take_add_one, hx]
 simp only [Option.toList_some, List.flatMap_append, List.flatMap_cons, List.flatMap_nil, List.append_nil]
 congr 2
 omega
theorem ssm_l2 {Q : Exit → Act → World → Prop} {a : Act} {w0 w : World} (g3 : Nat) (st : List Nat) (hs : st.length = 8) (L1 L : List Res) (hsz : a.tmps.size = 52) (o3 : Sl a 3 (.pointer (some ⟨g3, 0, none⟩))) (o40 : Sl a 40 (.agg (u32A st))) (o41 : Sl a 41 (.int .i64 ((0 : Nat) : Int)))
 (S : Held w0 w (L1 ++ blkR g3 25 (hashA (List.replicate 32 0)) :: L))
 (hend : ∀ a' W, Same a a' dsSm2 → Held w0 W (L1 ++ blkR g3 25 (hashA (st.flatMap (be 4))) :: L) → Q .normal a' W) :
 (Code.block 4 (blockOf 4 Tryd.f64)).wp Tryd.prog Q a w := by
 refine wp_block ?_
 (conv => arg 2; whnf)
 refine wp_loop (fun a' w' => ∃ k : Nat, k ≤ 8 ∧ Same a a' dsSm2 ∧ Sl a' 41 (.int .i64 (k : Int)) ∧ Held w0 w' (L1 ++ blkR g3 25 (hashA (layW st k)) :: L)) (fun a' _ => 8 - (intOf (a'.eval (.tmp 41))).toNat) ⟨0, Nat.zero_le _, Same.refl _ _, o41, S⟩ ?_
 clear S o41
 rintro a1 w1 ⟨k, hk, T, o41, S⟩
 have o3 := T.keep 3 _ (by decide) o3
 have o40 := T.keep 40 _ (by decide) o40
 have hz1 := T.size.trans hsz
 have eCtr := o41.eval (by rw [hz1]; decide)
 refine wp_seq (ssm_r14 k hz1 o41 (fun a2 hs2 o42 => ?_))
 have hz2 := hs2.size.trans hz1; have o3 := hs2.k o3; have o40 := hs2.k o40; have o41 := hs2.k o41
 have T := T.trans hs2
 by_cases hlt : k < 8
 · refine wp_seq (wp_cond_true ((o42.eval (by rw [hz2]; decide)).trans (by rw [decide_eq_true (by omega)])) (wp_skip ?_))
   obtain ⟨x, hx⟩ : ∃ x, st[k]? = some x := ⟨_, List.getElem?_eq_getElem (by omega)⟩
   refine wp_seq (wp_block ?_)
   refine wp_seq (ssm_r15 k x st hlt hs hx hz2 o40 o41 (fun a3 hs3 o7 o8 => ?_))
   have hz3 := hs3.size.trans hz2; have o3 := hs3.k o3; have o40 := hs3.k o40; have o41 := hs3.k o41; have o42 := hs3.k o42
   have T := T.trans hs3
   refine ssm_r16 w0 g3 _ (layW_length hs hk) k x hlt L1 L S hz3 o3 o7 o8 (fun a4 w2 hs4 S => ?_)
   have hz4 := hs4.size.trans hz3; have o3 := hs4.k o3; have o40 := hs4.k o40; have o41 := hs4.k o41; have o42 := hs4.k o42; have o7 := hs4.k o7; have o8 := hs4.k o8
   have T := T.trans hs4
   rw [layW_next hs hlt hx] at S
   refine ssm_r17 k hlt hz4 o41 (fun a5 hs5 o41 => ?_)
   have hz5 := hs5.size.trans hz4; have o3 := hs5.k o3; have o40 := hs5.k o40; have o42 := hs5.k o42; have o7 := hs5.k o7; have o8 := hs5.k o8
   have T := T.trans hs5
   refine ⟨⟨k + 1, by omega, T.more (by decide +kernel), o41, S⟩, ?_⟩
   show 8 - (intOf _).toNat < 8 - (intOf _).toNat
   rw [eCtr, o41.eval (by rw [hz5]; decide)]
   simp [intOf]; omega
 · obtain rfl : k = 8 := by omega
   refine wp_seq (wp_cond_false ((o42.eval (by rw [hz2]; decide)).trans (by rw [decide_eq_false (by omega)])) (wp_exit ?_))
   have e : layW st 8 = st.flatMap (be 4) := by unfold layW; rw [List.take_of_length_le (by omega)]; simp
   rw [e] at S
   exact hend _ _ (T.more (by decide +kernel)) S
theorem ssum_any (w0 : World) (g : Nat) (m : List UInt8) (st : List Nat) (blk : List UInt8) (hU : Und m st blk) (hm : m.length < 1152921504606846976) (L : List Res) (w : World) (S : Held w0 w (blkR g 134 (shaC st blk m.length) :: L)) :
 Calls Tryd.prog 64 #[.pointer (some ⟨g, 0, none⟩)] w fun e w' => e = .returned (.agg (hashA (shaF m))) ∧ Held w0 w' (blkR g 134 (shaC st blk m.length) :: L) := by
 refine calls_fr Tryd.func64 rfl 52 rfl (fun a0 hsz hdf hAr => ?_)
 have hz0 : a0.tmps.size = 52 := hsz
 have D := hdf
 have o0 := hAr 0 _ rfl
 refine wp_seq (ssm_r0 w0 _ S hz0 (fun a1 w1 hs1 h => ?_))
 have hz1 := hs1.size.trans hz0; have o0 := hs1.k o0; have D := hs1.defers.trans D
 obtain ⟨g2, o2, S⟩ := h
 refine wp_seq (ssm_r1 w0 _ S hz1 (fun a2 w2 hs2 h => ?_))
 have hz2 := hs2.size.trans hz1; have o0 := hs2.k o0; have o2 := hs2.k o2; have D := hs2.defers.trans D
 obtain ⟨g3, o3, S⟩ := h
 refine wp_seq (wp_seq (ssm_r2 g _ (shaC_made hU.len8 hU.len) (S.at_ (l1 := [_, _])) hz2 o0 (fun a3 hs3 o10 => ?_)))
 have hz3 := hs3.size.trans hz2; have o0 := hs3.k o0; have o2 := hs3.k o2; have o3 := hs3.k o3; have D := hs3.defers.trans D
 refine wp_cond_false (o10.eval (by rw [hz3]; decide)) (wp_skip ?_)
 refine wp_seq (ssm_r4 w0 g _ st blk hU.len8 hU.len [_, _] _ S hz3 o0 (fun a4 w4 hs4 h => ?_))
 have hz4 := hs4.size.trans hz3; have o0 := hs4.k o0; have o2 := hs4.k o2; have o3 := hs4.k o3; have D := hs4.defers.trans D
 obtain ⟨g4, o4, S⟩ := h
 refine wp_seq (ssm_r5 g _ _ (shaC_len hU.len8 hU.len) (S.at_ (l1 := [_, _, _])) hm hz4 o0 (fun a5 hs5 o5 => ?_))
 have hz5 := hs5.size.trans hz4; have o0 := hs5.k o0; have o2 := hs5.k o2; have o3 := hs5.k o3; have o4 := hs5.k o4; have D := hs5.defers.trans D
 refine wp_seq (ssm_r6 w0 g4 m st blk hU (by omega) _ S hz5 o4 (fun a6 w6 hs6 h => ?_))
 have hz6 := hs6.size.trans hz5; have o0 := hs6.k o0; have o2 := hs6.k o2; have o3 := hs6.k o3; have o4 := hs6.k o4; have o5 := hs6.k o5; have D := hs6.defers.trans D
 obtain ⟨st1, blk1, U1, S⟩ := h
 refine wp_seq (ssm_l0 g4 m st1 blk1 U1 hm _ hz6 o4 S (fun a7 w7 st2 blk2 hs7 U2 S => ?_))
 have hz7 := hs7.size.trans hz6; have o0 := hs7.k o0; have o2 := hs7.k o2; have o3 := hs7.k o3; have o4 := hs7.k o4; have o5 := hs7.k o5; have D := hs7.defers.trans D
 have hpz := (padZ_spec m.length).2
 have hl2 : (m ++ [128] ++ List.replicate (padZ m.length) 0).length = m.length + 1 + padZ m.length := by simp; omega
 refine wp_seq (wp_seq (ssm_r9 hz7 (fun a8 hs8 o6 => ?_)))
 have hz8 := hs8.size.trans hz7; have o0 := hs8.k o0; have o2 := hs8.k o2; have o3 := hs8.k o3; have o4 := hs8.k o4; have o5 := hs8.k o5; have D := hs8.defers.trans D
 refine ssm_l1 g4 _ (8 * m.length) st2 blk2 U2 (by omega) _ hz8 o4 o5 o6 S (fun a9 w9 st3 blk3 hs9 U3 S => ?_)
 have hz9 := hs9.size.trans hz8; have o0 := hs9.k o0; have o2 := hs9.k o2; have o3 := hs9.k o3; have o4 := hs9.k o4; have o5 := hs9.k o5; have D := hs9.defers.trans D
 have ep : m ++ [128] ++ List.replicate (padZ m.length) 0 ++ be 8 (8 * m.length) = pad m := by unfold pad; simp only [List.append_assoc, List.cons_append, List.nil_append]
 rw [ep] at U3 S
 have h8 := U3.len8
 have h64 := U3.len
 refine wp_seq (wp_seq (ssm_r13 w0 g4 _ st3 blk3 h8 h64 _ S hz9 o4 (fun a10 hs10 o40 o41 => ?_)))
 have hz10 := hs10.size.trans hz9; have o0 := hs10.k o0; have o2 := hs10.k o2; have o3 := hs10.k o3; have o4 := hs10.k o4; have o5 := hs10.k o5; have D := hs10.defers.trans D
 refine ssm_l2 g3 st3 h8 [_] _ hz10 o3 o40 o41 S (fun a11 w11 hs11 S => ?_)
 have hz11 := hs11.size.trans hz10; have o0 := hs11.k o0; have o2 := hs11.k o2; have o3 := hs11.k o3; have o4 := hs11.k o4; have o5 := hs11.k o5; have o40 := hs11.k o40; have D := hs11.defers.trans D
 have ef : st3.flatMap (be 4) = shaF m := by unfold shaF; rw [U3.st]
 rw [ef] at S
 refine wp_seq (ssm_r18 w0 g3 g2 _ (List.replicate 32 0) (shaF_length m) rfl [_] [] _ S hz11 o2 o3 (fun a12 w12 hs12 S => ?_))
 have hz12 := hs12.size.trans hz11; have o0 := hs12.k o0; have o2 := hs12.k o2; have o3 := hs12.k o3; have o4 := hs12.k o4; have o5 := hs12.k o5; have o40 := hs12.k o40; have D := hs12.defers.trans D
 refine wp_ret (bodyPost_ret (results_cell1 (by rfl) (o2.eval (by rw [hz12]; decide)) (S.at_ (l1 := [_, _])) Tryd.underlying25 rfl (by rw [hashA_size, shaF_length]; exact Tryd.infoHashP)) D ⟨rfl, ?_⟩)
 exact S.drop.drop.drop
end
/- Walks of package crc: numbers carried. -/
section
open Go.RowKit
end
/- Walks: joined, parted, patched; and the reference's. -/
section
open Go.RowKit
end
/- Walks of package crc: Sums. -/
section
open Go.RowKit
end
/- Walks: lists of texts: their sum, are they long; Append, New. -/
section
open Go.RowKit
end
/- Crc: the plain mathematics: texts xored; four bytes. -/
section
/-! ### Four bytes -/
def le4 (y : Nat) : List UInt8 := [UInt8.ofNat y, UInt8.ofNat (y / 256), UInt8.ofNat (y / 65536), UInt8.ofNat (y / 16777216)]
end
/- Walks of package wire: a reader is made, its end; the law's 'known'. -/
section
open Go.RowKit
end
/- Walks of package record and of its reference: sizes, the sum's bytes. -/
section
open Go.RowKit
end
/- The reference's Ends; Frame. -/
section
open Go.RowKit
end
/- WireOrders: the walk. -/
section
open Go.RowKit
end
/- '[]byte("..")' of a constant: what it yields, and that it reads. -/
section
open Go.RowKit
theorem rd_txt (w : World) (e : TypeId) (cs : Array Value) (l : List UInt8) (fr : Nat × Nat) (h : cs.toList = bv l) (hn : l.length ≤ 4096) {g : Nat} (hg : g = w.heap.size) : Rd (w.alloc (.cells cs e fr)) 1 (.slice (some ⟨g, 0, none⟩) l.length l.length) l.length (bv l) := by
 subst hg
 refine ⟨by rw [bv_length]; omega, _, _, rfl, Nat.le_refl _, by unfold maxLen; omega, (fun h => by cases h), fun ad had j u hu => ?_⟩
 cases had
 have h1 := World.cell?_alloc_mark w cs e fr j
 rw [← h, Array.getElem?_toList] at hu
 rw [hu] at h1
 by_cases hj : j = 0
 · subst hj; simpa [Addr.add] using h1
 · simpa [Addr.add, hj] using h1
theorem conv_txt (w : World) (C : Array Value) (n c g : Nat) (hg : g = w.heap.size) : (convert 22 22 (.slice (some ⟨g, 0, none⟩) n c)).run Tryd.prog (w.alloc (.cells C 5)) = .ok (.slice (some ⟨g, 0, none⟩) n c) (w.alloc (.cells C 5 (C.size, C.size + 1))) := by
 subst hg
 exact Lib.run_convert_bytes_const (P := Tryd.prog) w 22 5 C n c Tryd.underlying22 Tryd.underlying5
def rdR (v : Value) (n : Nat) (xs : List Value) : Res where
 fp := v.ownBlock.toList
 ok := fun w => Rd w 1 v n xs ∧ ∀ g, v.ownBlock = some g → g < w.heap.size
 keep := fun _ _ _ h hk hn => ⟨h.1.kp hk (fun g hg => hn g (by simp [hg])), fun g hg => Nat.lt_of_lt_of_le (h.2 g hg) hk.size⟩
 lt := fun _ h b hb => h.2 b (by simpa using hb)
end
/- Walks of the reference for layer 1, and of the law's helpers: Number, Eight, List; lent, left, spoil. -/
section
open Go.RowKit
end
/- Bytes of point. -/
section
open Go.RowKit
def ntry : List UInt8 := [78, 84, 82, 89]
def headL (s : Int) (h : List UInt8) : List UInt8 := ntry ++ be 8 (tou64 s) ++ h
def formL (s : Int) (h : List UInt8) : List UInt8 := headL s h ++ le4 (crc (headL s h))
end
/- A point put together from its number and its root. -/
section
open Go.RowKit
theorem foldl_place (off : Nat) : ∀ (xs : List Value) (k : Nat) (cs : Array Value), (xs.zipIdx k).foldl (fun cs (x : Value × Nat) => cs.setIfInBounds (off + x.2) x.1) cs = (cs.toList.take (off + k) ++ (xs.take (cs.size - (off + k))) ++ cs.toList.drop (off + k + xs.length)).toArray
 | [], k, cs => by simp
 | x :: xs, k, cs => by
  rw [List.zipIdx_cons, List.foldl_cons, foldl_place off xs (k + 1)]
  congr 1
  simp only [Array.toList_setIfInBounds, Array.size_setIfInBounds]
  by_cases h : off + k < cs.size
  · have e1 : (cs.toList.set (off + k) x).take (off + (k + 1)) = cs.toList.take (off + k) ++ [x] := by
     rw [List.set_eq_take_append_cons_drop, if_pos (by simpa using h), List.take_append, List.take_take, List.length_take]
     simp [show min (off + k) cs.size = off + k from by omega, show off + (k + 1) - (off + k) = 1 from by omega]
    have e2 : (cs.toList.set (off + k) x).drop (off + (k + 1) + xs.length) = cs.toList.drop (off + k + (x :: xs).length) := by
     rw [List.drop_set, if_pos (by omega)]
     congr 1
     simp only [List.length_cons]
     omega
    rw [e1, e2, show cs.size - (off + k) = (cs.size - (off + (k + 1))) + 1 from by omega, List.take_succ_cons]
    simp
  · rw [List.set_eq_of_length_le (by simpa using h)]
    rw [show cs.size - (off + (k + 1)) = 0 from by omega, show cs.size - (off + k) = 0 from by omega]
    have hl : cs.toList.length ≤ off + k := by simpa using h
    rw [List.take_of_length_le (by omega), List.take_of_length_le hl, List.drop_of_length_le (by omega), List.drop_of_length_le (by omega)]
    simp
theorem Tryd.built_is (ps : List (Nat × Value)) : Tryd.prog.built 33 ps = Instr.fill (#[(0, 1), (1, 32)][·]?) zeroP ps := by
 unfold Program.built
 kernel_rfl
theorem Tryd.built_pt (z : Int) (hh : List UInt8) (hl : hh.length = 32) : Tryd.prog.built 33 [(0, .int .i64 z), (1, .agg (hashA hh))] = some (ptA z hh) := by
 rw [Tryd.built_is]
 have e : ∀ (z : Int), (zeroP.setIfInBounds 0 (.int .i64 z)) = ptA z (List.replicate 32 0) := fun z => rfl
 have h : ((hashA hh).zipIdx.foldl (fun cs (x : Value × Nat) => cs.setIfInBounds (1 + x.2) x.1) (ptA z (List.replicate 32 0))) = ptA z hh := by
  have h1 := foldl_place 1 (hashA hh).toList 0 (ptA z (List.replicate 32 0))
  have h2 := pt_lay z (List.replicate 32 0) hh hl rfl
  rw [show (hashA hh).zipIdx.foldl (fun cs (x : Value × Nat) => cs.setIfInBounds (1 + x.2) x.1) (ptA z (List.replicate 32 0)) = ((hashA hh).toList.zipIdx 0).foldl (fun cs (x : Value × Nat) => cs.setIfInBounds (1 + x.2) x.1) (ptA z (List.replicate 32 0)) from by rw [← Array.foldl_toList, Array.toList_zipIdx], h1, ← h2]
  congr 1
  rw [List.take_of_length_le (l := (hashA hh).toList) (by rw [ptA_size (by simp), Array.length_toList, hashA_size, hl]; decide)]
  simp
 have hs : (hashA hh).size = 32 := by rw [hashA_size, hl]
 have hs0 : zeroP.size = 33 := rfl
 have hs1 : (ptA z (List.replicate 32 0)).size = 33 := ptA_size (by simp)
 have f1 : Instr.fill (#[(0, 1), (1, 32)][·]?) (ptA z (List.replicate 32 0)) [(1, .agg (hashA hh))] = some (ptA z hh) := by
  unfold Instr.fill
  show (if (decide ((hashA hh).size ≠ 32) || decide (1 + (hashA hh).size > (ptA z (List.replicate 32 0)).size)) = true then none else Instr.fill (#[(0, 1), (1, 32)][·]?) ((hashA hh).zipIdx.foldl (fun cs (x : Value × Nat) => cs.setIfInBounds (1 + x.2) x.1) (ptA z (List.replicate 32 0))) []) = some (ptA z hh)
  rw [hs, hs1, h]
  rfl
 unfold Instr.fill
 exact f1
theorem wpList_build2 {P : Program} {ops : Array Oper} {rest : List Oper} {o : Oper} {a : Act} {w : World} {Q : Exit → Act → World → Prop} (hg : o.guard = none) (t : TypeId) (x y : Operand) (ho : o.op = .build t #[(0, x), (1, y)]) (u v : Value) (hx : a.eval x = u) (hy : a.eval y = v)
 (cells : Array Value) (hb : P.built t [(0, u), (1, v)] = some cells) (h : wpList P ops Q rest (a.put o.dst (.agg cells)) w) : wpList P ops Q (o :: rest) a w := by
 have e : P.built t ((#[(0, x), (1, y)] : Array (Nat × Operand)).map fun (i, x) => (i, a.eval x)).toList = some cells := by
  rw [← hb, ← hx, ← hy]
  simp
 refine wpList_build hg t _ ho (by rw [e]; rfl) ?_
 rw [e]
 exact h
end
/- Walks for layer 1's laws: the reference's List; 'puts'. -/
section
open Go.RowKit
end
/- 'puts': what is written, by the program and by the document. -/
section
open Go.RowKit
end
/- 'puts', the other kinds. -/
section
open Go.RowKit
end
/- 'puts', the kinds that lend. -/
section
open Go.RowKit
end
/- 'puts', all kinds; its loop. -/
section
open Go.RowKit
end
/- WireWrites: what comes in; what the call holds. -/
section
open Go.RowKit
end
/- WireReads: the reference's reader. -/
section
open Go.RowKit
end
/- WireReads: Raw, List. -/
section
open Go.RowKit
end
/- WireReads: the reference's Raw; List. -/
section
open Go.RowKit
end
/- WireReads: List. -/
section
open Go.RowKit
end
/- WireReads: the reader's List. -/
section
open Go.RowKit
end
/- WireReads: the reference's List. -/
section
open Go.RowKit
end
/- WireReads: Hash. -/
section
open Go.RowKit
end
/- WireReads: Hash, of both. -/
section
open Go.RowKit
end
/- Batches and entries as bytes: the plain mathematics. -/
section
open Go.RowKit
end
/- Check of entry and of the reference. -/
section
open Go.RowKit
theorem Txs.len_le {w : World} {v : Value} {L : List (List UInt8)} (h : Txs w v L) : L.length ≤ 9223372036854775807 := by
 obtain ⟨vs, ⟨_, A', c', _, h1, h2, _⟩, _⟩ := h
 unfold maxLen at h2
 omega
end
/- The reference's Put and One for layer 15. -/
section
open Go.RowKit
end
/- A fellow of w_list (XWireC): an empty list may share the writer's block. -/
section
open Go.RowKit
end
/- Put and One of entry. -/
section
open Go.RowKit
end
/- The law's lent: texts in memory of their own, with marks behind. -/
section
open Go.RowKit
end
/- The reference's Same of layer 15; the law's kept. -/
section
open Go.RowKit
end
/- Same of entry: slices.EqualFunc over bytes.Equal. -/
section
open Go.RowKit
end
/- Read of point. -/
section
open Go.RowKit
def rdS (bs : List UInt8) : Int := wrap64 (num ((bs.drop 4).take 8))
def rdH (bs : List UInt8) : List UInt8 := (bs.drop 12).take 32
def RVok (bs : List UInt8) : Prop := bs.length = 48 ∧ 0 ≤ rdS bs ∧ formL (rdS bs) (rdH bs) = bs
instance (bs : List UInt8) : Decidable (RVok bs) := by unfold RVok; exact inferInstance
end
/- Appending onto a row of the call's own whose shorter slice is read afterwards. -/
section
open Go.RowKit
section
variable {ops : Array Oper} {rest : List Oper} {o : Oper} {a : Act} {w : World} {Q : Exit → Act → World → Prop}
end
end
/- 'append(x, y...)' for bytes where x has no room (a constant's bytes: frozen): a new row. -/
section
open Go.RowKit
end
end Go.Proofs.YtapboamjpilckaaDoor
