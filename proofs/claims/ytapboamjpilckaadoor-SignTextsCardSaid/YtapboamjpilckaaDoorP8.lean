/- Several texts in one: SigBQ, PtI. -/
import Derived.Test.YtapboamjpilckaaDoorP7
set_option linter.unusedVariables false
set_option linter.unusedSimpArgs false
set_option maxRecDepth 100000
set_option maxHeartbeats 8000000
namespace Go.Proofs.YtapboamjpilckaaDoor
/- Parse of sign and of the reference; Told, Text of the reference: their regions. -/
section
variable {Q : Exit → Act → World → Prop} {a : Act} {w : World}
open Go.RowKit
theorem ba_get {r : List UInt8} {k : Nat} {x : UInt8} (h : r[k]? = some x) {hk : k < (ByteArray.mk r.toArray).size} : (ByteArray.mk r.toArray)[k]'hk = x := by
 obtain ⟨h1, h2⟩ := List.getElem?_eq_some_iff.1 h
 rw [← h2]
 rfl
theorem sps_r0 (w0 : World) (L : List Res) (S : Held w0 w L) (hsz : a.tmps.size = 73) 
 (hend : ∀ a' W, Same a a' [2, 3] → Sl a' 3 (.int .i64 (0 : Int)) → (∃ g2, Sl a' 2 (.pointer (some ⟨g2, 0, none⟩)) ∧ Held w0 W (blkR g2 36 zeroN :: L)) → Q .normal a' W) : (Code.region 0 (opsOf 0 Tryd.f38).toArray false).wp Tryd.prog Q a w := by
 refine wp_region_lit ?_
 (conv => arg 4; whnf)
 have S1 := Lib.hid (S.newBlk 36 zeroN)
 go_wp2_with fail
 try simp only [Act.put]
 exact hend _ _ sS sP (⟨_, sP0, S1.out⟩)
theorem sps_r1 (w0 : World) (s : ByteArray) (z : Int) (h : List UInt8) (hh : h.length = 32) (t : List UInt8) (te : Int) (L : List Res) (S : Held w0 w L) (HC0 : ∀ V, Held w0 V L → Calls Tryd.prog 57 #[.string s] V fun e w' => e = .returned (.tuple #[.agg (ptA z h), .string ⟨t.toArray⟩, .int .i64 te]) ∧ Kp [] V w') (hsz : a.tmps.size = 73) (o0 : Sl a 0 (.string s))
 (hend : ∀ a' W, Same a a' [17, 18, 16, 19, 20, 21, 4, 5, 6] → Sl a' 5 (.string ⟨(t).toArray⟩) → Sl a' 6 (.int .i64 te) → (∃ g4, Sl a' 4 (.pointer (some ⟨g4, 0, none⟩)) ∧ Held w0 W (blkR g4 33 (ptA z h) :: L)) → Q .normal a' W) : (Code.region 1 (opsOf 1 Tryd.f38).toArray false).wp Tryd.prog Q a w := by
 refine wp_region_lit ?_
 (conv => arg 4; whnf)
 unfold Sl at o0
 have S := Lib.hid S
 have HC := Lib.hid (HC0 _ S.out)
 clear HC0
 have HP := Lib.hid (ptA_size (s := z) hh)
 have HO := Lib.hid (ptA_one z h)
 generalize ptA z h = cp at *
 obtain ⟨tb, htb⟩ : ∃ tb, (ByteArray.mk t.toArray) = tb := ⟨_, rfl⟩
 rw [htb] at HC hend
 clear htb
 go_wp2_with fail
 refine HC.out.mono ?_
 rintro e w1 ⟨rfl, k1⟩
 have S1 := Lib.hid ((S.out.kp k1).newBlk 33 (ptA 0 (List.replicate 32 0)))
 clear k1
 go_wp2_with (refine wpList_store_blk rfl 33 (.tmp 4) (.tmp 19) rfl w1.heap.size (by simp [Act.eval, Act.put, hsz]) cp (by simp [Act.eval, Act.put, hsz]) 33 _ (S1.out.at_ (l1 := [])) (by rw [HP.out]; exact Tryd.infoPointP) (by rw [HP.out]; rfl) HO.out ?_; intro w7 b7 k7; have S7 := Lib.hid (Held.setBlk (l1 := []) S1.out b7 k7); clear b7 k7)
 try simp only [Act.put]
 exact hend _ _ sS sP sP (⟨_, sP0, S7.out⟩)
theorem sps_r2 (te : Int) (hsz : a.tmps.size = 73) (o6 : Sl a 6 (.int .i64 te))
 (hend : ∀ a', Same a a' [22, 23] → Sl a' 23 (.bool (te != 0)) → Q .normal a' (w)) : (Code.region 2 (opsOf 2 Tryd.f38).toArray false).wp Tryd.prog Q a w := by
 refine wp_region_lit ?_
 (conv => arg 4; whnf)
 unfold Sl at o6
 go_wp2_with fail
 try simp only [Act.put]
 exact hend _ sS sP
theorem sps_r3 (w0 : World) (g2 : Nat) (L : List Res) (S : Held w0 w (blkR g2 36 zeroN :: L)) (hsz : a.tmps.size = 73) (o2 : Sl a 2 (.pointer (some ⟨g2, 0, none⟩)))
 (hend : ∀ a' W, Same a a' [24, 3] → Sl a' 3 (.int .i64 (381 : Int)) → (Held w0 W (blkR g2 36 zeroN :: L)) → Q .normal a' W) : (Code.region 3 (opsOf 3 Tryd.f38).toArray false).wp Tryd.prog Q a w := by
 refine wp_region_lit ?_
 (conv => arg 4; whnf)
 unfold Sl at o2
 have S := Lib.hid S
 have HB0 := Lib.hid Tryd.built_noteZ
 have hzz : Hid (zeroN.size = 34) := Lib.hid rfl
 have hOz : Hid (∀ u, u ∈ zeroN.toList → u.oneCell' = true) := Lib.hid (ntA_one (v := .slice none 0 0) rfl)
 generalize zeroN = cz at *
 go_wp2_with (first | (refine wpList_buildC rfl 36 _ rfl [] (by simp [Act.eval, Act.put]) _ HB0.out ?_) | (refine wpList_store_blk rfl 36 (.tmp 2) (.tmp 24) rfl g2 (by simp [Act.eval, Act.put, hsz, o2]) cz (by simp [Act.eval, Act.put, hsz]) 36 _ (S.out.at_ (l1 := [])) (by rw [hzz.out]; exact Tryd.infoNote) (by rw [hzz.out]) hOz.out ?_; intro w7 b7 k7; have S7 := Lib.hid (Held.setBlk (l1 := []) S.out b7 k7); clear b7 k7))
 try simp only [Act.put]
 exact hend _ _ sS sP (S7.out)
theorem sps_r4 (w0 : World) (g4 : Nat) (z : Int) (h : List UInt8) (hh : h.length = 32) (L : List Res) (S : Held w0 w (blkR g4 33 (ptA z h) :: L)) (hsz : a.tmps.size = 73) (o4 : Sl a 4 (.pointer (some ⟨g4, 0, none⟩)))
 (hend : ∀ a' W, Same a a' [25, 26, 7] → (∃ g7, Sl a' 7 (.pointer (some ⟨g7, 0, none⟩)) ∧ Held w0 W (blkR g7 36 (ntA z h (.slice none 0 0)) :: blkR g4 33 (ptA z h) :: L)) → Q .normal a' W) : (Code.region 4 (opsOf 4 Tryd.f38).toArray false).wp Tryd.prog Q a w := by
 refine wp_region_lit ?_
 (conv => arg 4; whnf)
 unfold Sl at o4
 have S := Lib.hid S
 have HP := Lib.hid (ptA_size (s := z) hh)
 have HB := Lib.hid (Tryd.built_note z h hh)
 have hz2 : Hid ((ntA z h (.slice none 0 0)).size = 34) := Lib.hid (ntA_size hh)
 have HO : Hid (∀ u, u ∈ (ntA z h (.slice none 0 0)).toList → u.oneCell' = true) := Lib.hid (ntA_one rfl)
 have S1 := Lib.hid (S.out.newBlk 36 zeroN)
 generalize ntA z h (.slice none 0 0) = cn at *
 generalize ptA z h = cp at *
 go_wp2_with (first
  | (refine wpList_load_blk rfl 33 (.tmp 4) rfl g4 (by simp [Act.eval, Act.put, hsz, o4]) 33 _ (S.out.at_ (l1 := [])) _ Tryd.underlying33 rfl (by rw [HP.out]; exact Tryd.infoPointP) ?_)
  | (refine wpList_buildC rfl 36 _ rfl [(0, .agg cp)] (by simp [Act.eval, Act.put, hsz]) _ HB.out ?_)
  | (refine wpList_store_blk rfl 36 (.tmp 7) (.tmp 26) rfl w.heap.size (by simp [Act.eval, Act.put, hsz]) cn (by simp [Act.eval, Act.put, hsz]) 36 _ (S1.out.at_ (l1 := [])) (by rw [hz2.out]; exact Tryd.infoNote) (by rw [hz2.out]; rfl) HO.out ?_; intro w7 b7 k7; have S7 := Lib.hid (Held.setBlk (l1 := []) S1.out b7 k7); clear b7 k7))
 try simp only [Act.put]
 exact hend _ _ sS (⟨_, sP0, S7.out⟩)
theorem sps_r5 (t : List UInt8) (hsz : a.tmps.size = 73) (o5 : Sl a 5 (.string ⟨(t).toArray⟩))
 (hend : ∀ a', Same a a' [27, 28] → Sl a' 28 (.bool (!t.isEmpty)) → Q .normal a' (w)) : (Code.region 5 (opsOf 5 Tryd.f38).toArray false).wp Tryd.prog Q a w := by
 refine wp_region_lit ?_
 (conv => arg 4; whnf)
 unfold Sl at o5
 go_wp2_with fail
 try simp only [Act.put]
 exact hend _ sS sP
theorem sps_r6 (w0 : World) (s x y : ByteArray) (b : Bool) (L : List Res) (S : Held w0 w L) (HC0 : ∀ V, Calls Tryd.prog 58 #[.string s, .string ⟨#[10]⟩] V fun e w' => e = .returned (.tuple #[.string x, .string y, .bool b]) ∧ Kp [] V w') (hsz : a.tmps.size = 73) (o5 : Sl a 5 (.string s))
 (hend : ∀ a' W, Same a a' [30, 31, 29, 32, 33, 34, 8, 9, 10] → Sl a' 8 (.string x) → Sl a' 9 (.string y) → Sl a' 10 (.bool b) → (Held w0 W L) → Q .normal a' W) : (Code.region 6 (opsOf 6 Tryd.f38).toArray false).wp Tryd.prog Q a w := by
 refine wp_region_lit ?_
 (conv => arg 4; whnf)
 unfold Sl at o5
 have S := Lib.hid S
 have HC := Lib.hid (HC0 w)
 clear HC0
 go_wp2_with fail
 refine HC.out.mono ?_
 rintro e w1 ⟨rfl, k1⟩
 have S1 := Lib.hid (S.out.kp k1)
 clear k1
 go_wp2_with fail
 try simp only [Act.put]
 exact hend _ _ sS sP sP sP (S1.out)
theorem sps_r7 (w0 : World) (s x y : ByteArray) (b : Bool) (L : List Res) (S : Held w0 w L) (HC0 : ∀ V, Calls Tryd.prog 58 #[.string s, .string ⟨#[32]⟩] V fun e w' => e = .returned (.tuple #[.string x, .string y, .bool b]) ∧ Kp [] V w') (hsz : a.tmps.size = 73) (o8 : Sl a 8 (.string s))
 (hend : ∀ a' W, Same a a' [36, 37, 35, 38, 39, 40, 11, 12, 13] → Sl a' 11 (.string x) → Sl a' 12 (.string y) → Sl a' 13 (.bool b) → (Held w0 W L) → Q .normal a' W) : (Code.region 7 (opsOf 7 Tryd.f38).toArray false).wp Tryd.prog Q a w := by
 refine wp_region_lit ?_
 (conv => arg 4; whnf)
 unfold Sl at o8
 have S := Lib.hid S
 have HC := Lib.hid (HC0 w)
 clear HC0
 go_wp2_with fail
 refine HC.out.mono ?_
 rintro e w1 ⟨rfl, k1⟩
 have S1 := Lib.hid (S.out.kp k1)
 clear k1
 go_wp2_with fail
 try simp only [Act.put]
 exact hend _ _ sS sP sP sP (S1.out)
theorem sps_r8 (w0 : World) (s : ByteArray) (u : List UInt8) (hu : u.length = 32) (b : Bool) (L : List Res) (S : Held w0 w L) (HC0 : ∀ V, Calls Tryd.prog 59 #[.string s] V fun e w' => e = .returned (.tuple #[.agg (hashA u), .bool b]) ∧ Kp [] V w') (hsz : a.tmps.size = 73) (o12 : Sl a 12 (.string s))
 (hend : ∀ a' W, Same a a' [42, 43, 41, 44, 45, 14, 15] → Sl a' 15 (.bool b) → (∃ gh, Sl a' 14 (.pointer (some ⟨gh, 0, none⟩)) ∧ Held w0 W (blkR gh 25 (hashA u) :: L)) → Q .normal a' W) : (Code.region 8 (opsOf 8 Tryd.f38).toArray false).wp Tryd.prog Q a w := by
 refine wp_region_lit ?_
 (conv => arg 4; whnf)
 unfold Sl at o12
 have S := Lib.hid S
 have HC := Lib.hid (HC0 w)
 clear HC0
 have hO := Lib.hid (hashA_one u)
 have hz2 : Hid ((hashA u).size = 32) := Lib.hid (by rw [hashA_size, hu])
 generalize hashA u = ch at *
 go_wp2_with fail
 refine HC.out.mono ?_
 rintro e w1 ⟨rfl, k1⟩
 have S1 := Lib.hid ((S.out.kp k1).newBlk 25 (hashA (List.replicate 32 0)))
 clear k1
 go_wp2_with (refine wpList_store_blk rfl 25 (.tmp 14) (.tmp 44) rfl w1.heap.size (by simp [Act.eval, Act.put, hsz]) ch (by simp [Act.eval, Act.put, hsz]) 25 _ (S1.out.at_ (l1 := [])) (by rw [hz2.out]; exact Tryd.infoHashP) (by rw [hz2.out]; rfl) hO.out ?_; intro w7 b7 k7; have S7 := Lib.hid (Held.setBlk (l1 := []) S1.out b7 k7); clear b7 k7)
 try simp only [Act.put]
 exact hend _ _ sS sP (⟨_, sP0, S7.out⟩)
theorem sps_r9N  (hsz : a.tmps.size = 73) (o10 : Sl a 10 (.bool false))
 (hend : ∀ a' W, Same a a' [46, 47, 48, 49, 50, 51, 52, 53, 54, 55, 56, 57] → Kp [] w W → Sl a' 57 (.bool true) → Q .normal a' W) : (Code.region 9 (opsOf 9 Tryd.f38).toArray false).wp Tryd.prog Q a w := by
 have hap : apartB (opsOf 9 Tryd.f38) = true := by kernel_rfl
 refine wp_region_invS (l := (opsOf 9 Tryd.f38)) (fun i v W => match i with | 0 => v = .bool false | 1 => v = .bool true | 2 => v = .bool true | 5 => v = .bool true | 6 => v = .bool true | 11 => v = .bool true | _ => True) hap ?_ ?_ ?_
 · intro i v W W' h _
   iterate 12 (rcases i with _ | i; · exact h)
   exact h
 · refine ⟨?_, ?_, ?_, ?_, ?_, ?_, ?_, ?_, ?_, ?_, ?_, ?_, trivial⟩
   · intro vs A' W hA hW hd hu K hK; refine wpOp_free _ rfl rfl ?_; (conv => arg 2; whnf); have e10 := sO 10 o10 hA hap hsz; clear hA hd hu o10; go_step; exact hK _ _ kR rfl
   · intro vs A' W hA hW hd hu K hK; refine wpOp_free _ rfl rfl ?_; (conv => arg 2; whnf); have e46 := sV 46 (hd 0 (by kernel_rfl)) hA hap hsz; clear hA hd hu o10; go_step; exact hK _ _ kR rfl
   · intro vs A' W hA hW hd hu K hK; refine wpOp_free _ rfl rfl ?_; (conv => arg 2; whnf); have e47 := sV 47 (hd 1 (by kernel_rfl)) hA hap hsz; clear hA hd hu o10; go_step; exact hK _ _ kR rfl
   · intro vs A' W hA hW hd hu K hK; have e48 := sV 48 (hd 2 (by kernel_rfl)) hA hap hsz; refine wpOp_skip _ rfl 2 48 false rfl rfl e48 ?_; exact hK _ _ kR trivial
   · intro vs A' W hA hW hd hu K hK; have e48 := sV 48 (hd 2 (by kernel_rfl)) hA hap hsz; refine wpOp_skip _ rfl 2 48 false rfl rfl e48 ?_; exact hK _ _ kR trivial
   · intro vs A' W hA hW hd hu K hK; refine wpOp_free _ rfl rfl ?_; (conv => arg 2; whnf); have e48 := sV 48 (hd 2 (by kernel_rfl)) hA hap hsz
     have e50 := sU 50 4 hA hap hsz
     clear hA hd hu o10; go_step; exact hK _ _ kR rfl
   · intro vs A' W hA hW hd hu K hK; refine wpOp_free _ rfl rfl ?_; (conv => arg 2; whnf); have e51 := sV 51 (hd 5 (by kernel_rfl)) hA hap hsz; clear hA hd hu o10; go_step; exact hK _ _ kR rfl
   · intro vs A' W hA hW hd hu K hK; have e52 := sV 52 (hd 6 (by kernel_rfl)) hA hap hsz; refine wpOp_skip _ rfl 6 52 false rfl rfl e52 ?_; exact hK _ _ kR trivial
   · intro vs A' W hA hW hd hu K hK; have e52 := sV 52 (hd 6 (by kernel_rfl)) hA hap hsz; refine wpOp_skip _ rfl 6 52 false rfl rfl e52 ?_; exact hK _ _ kR trivial
   · intro vs A' W hA hW hd hu K hK; have e52 := sV 52 (hd 6 (by kernel_rfl)) hA hap hsz; refine wpOp_skip _ rfl 6 52 false rfl rfl e52 ?_; exact hK _ _ kR trivial
   · intro vs A' W hA hW hd hu K hK; have e52 := sV 52 (hd 6 (by kernel_rfl)) hA hap hsz; refine wpOp_skip _ rfl 6 52 false rfl rfl e52 ?_; exact hK _ _ kR trivial
   · intro vs A' W hA hW hd hu K hK; refine wpOp_free _ rfl rfl ?_; (conv => arg 2; whnf); have e52 := sV 52 (hd 6 (by kernel_rfl)) hA hap hsz
     have e56 := sU 56 10 hA hap hsz
     clear hA hd hu o10; go_step; exact hK _ _ kR rfl
 · intro vs W hW hp
   rw [putAll_eq]
   exact hend _ W sQ hW (sW (hp 11 sB))
theorem sps_r9M  (hsz : a.tmps.size = 73) (o10 : Sl a 10 (.bool true)) (o15 : Sl a 15 (.bool false))
 (hend : ∀ a' W, Same a a' [46, 47, 48, 49, 50, 51, 52, 53, 54, 55, 56, 57] → Kp [] w W → Sl a' 57 (.bool true) → Q .normal a' W) : (Code.region 9 (opsOf 9 Tryd.f38).toArray false).wp Tryd.prog Q a w := by
 have hap : apartB (opsOf 9 Tryd.f38) = true := by kernel_rfl
 refine wp_region_invS (l := (opsOf 9 Tryd.f38)) (fun i v W => match i with | 0 => v = .bool true | 1 => v = .bool false | 2 => v = .bool false | 3 => v = .bool false | 4 => v = .bool true | 5 => v = .bool true | 6 => v = .bool true | 11 => v = .bool true | _ => True) hap ?_ ?_ ?_
 · intro i v W W' h _
   iterate 12 (rcases i with _ | i; · exact h)
   exact h
 · refine ⟨?_, ?_, ?_, ?_, ?_, ?_, ?_, ?_, ?_, ?_, ?_, ?_, trivial⟩
   · intro vs A' W hA hW hd hu K hK; refine wpOp_free _ rfl rfl ?_; (conv => arg 2; whnf); have e10 := sO 10 o10 hA hap hsz; clear hA hd hu o10 o15; go_step; exact hK _ _ kR rfl
   · intro vs A' W hA hW hd hu K hK; refine wpOp_free _ rfl rfl ?_; (conv => arg 2; whnf); have e46 := sV 46 (hd 0 (by kernel_rfl)) hA hap hsz; clear hA hd hu o10 o15; go_step; exact hK _ _ kR rfl
   · intro vs A' W hA hW hd hu K hK; refine wpOp_free _ rfl rfl ?_; (conv => arg 2; whnf); have e47 := sV 47 (hd 1 (by kernel_rfl)) hA hap hsz; clear hA hd hu o10 o15; go_step; exact hK _ _ kR rfl
   · intro vs A' W hA hW hd hu K hK; have e48 := sV 48 (hd 2 (by kernel_rfl)) hA hap hsz; refine wpOp_go _ rfl 2 48 false rfl rfl e48 ?_; (conv => arg 2; whnf); have e15 := sO 15 o15 hA hap hsz; clear hA hd hu o10 o15; go_step; exact hK _ _ kR rfl
   · intro vs A' W hA hW hd hu K hK; have e48 := sV 48 (hd 2 (by kernel_rfl)) hA hap hsz; refine wpOp_go _ rfl 2 48 false rfl rfl e48 ?_; (conv => arg 2; whnf); have e49 := sV 49 (hd 3 (by kernel_rfl)) hA hap hsz; clear hA hd hu o10 o15; go_step; exact hK _ _ kR rfl
   · intro vs A' W hA hW hd hu K hK; refine wpOp_free _ rfl rfl ?_; (conv => arg 2; whnf); have e48 := sV 48 (hd 2 (by kernel_rfl)) hA hap hsz; have e50 := sV 50 (hd 4 (by kernel_rfl)) hA hap hsz; clear hA hd hu o10 o15; go_step; exact hK _ _ kR rfl
   · intro vs A' W hA hW hd hu K hK; refine wpOp_free _ rfl rfl ?_; (conv => arg 2; whnf); have e51 := sV 51 (hd 5 (by kernel_rfl)) hA hap hsz; clear hA hd hu o10 o15; go_step; exact hK _ _ kR rfl
   · intro vs A' W hA hW hd hu K hK; have e52 := sV 52 (hd 6 (by kernel_rfl)) hA hap hsz; refine wpOp_skip _ rfl 6 52 false rfl rfl e52 ?_; exact hK _ _ kR trivial
   · intro vs A' W hA hW hd hu K hK; have e52 := sV 52 (hd 6 (by kernel_rfl)) hA hap hsz; refine wpOp_skip _ rfl 6 52 false rfl rfl e52 ?_; exact hK _ _ kR trivial
   · intro vs A' W hA hW hd hu K hK; have e52 := sV 52 (hd 6 (by kernel_rfl)) hA hap hsz; refine wpOp_skip _ rfl 6 52 false rfl rfl e52 ?_; exact hK _ _ kR trivial
   · intro vs A' W hA hW hd hu K hK; have e52 := sV 52 (hd 6 (by kernel_rfl)) hA hap hsz; refine wpOp_skip _ rfl 6 52 false rfl rfl e52 ?_; exact hK _ _ kR trivial
   · intro vs A' W hA hW hd hu K hK; refine wpOp_free _ rfl rfl ?_; (conv => arg 2; whnf); have e52 := sV 52 (hd 6 (by kernel_rfl)) hA hap hsz
     have e56 := sU 56 10 hA hap hsz
     clear hA hd hu o10 o15; go_step; exact hK _ _ kR rfl
 · intro vs W hW hp
   rw [putAll_eq]
   exact hend _ W sQ hW (sW (hp 11 sB))
theorem sps_r9Y (z : Int) (h : List UInt8) (hh : h.length = 32) (A : Option Addr) (n c g7 : Nat) (hb7 : Blk w g7 36 (ntA z h (.slice A n c))) (hsz : a.tmps.size = 73) (o7 : Sl a 7 (.pointer (some ⟨g7, 0, none⟩))) (o10 : Sl a 10 (.bool true)) (o15 : Sl a 15 (.bool true))
 (hend : ∀ a' W, Same a a' [46, 47, 48, 49, 50, 51, 52, 53, 54, 55, 56, 57] → Kp [] w W → Sl a' 57 (.bool (decide (n = 64))) → Q .normal a' W) : (Code.region 9 (opsOf 9 Tryd.f38).toArray false).wp Tryd.prog Q a w := by
 have hap : apartB (opsOf 9 Tryd.f38) = true := by kernel_rfl
 refine wp_region_invS (l := (opsOf 9 Tryd.f38)) (fun i v W => match i with | 0 => v = .bool true | 1 => v = .bool false | 2 => v = .bool false | 3 => v = .bool true | 4 => v = .bool false | 5 => v = .bool false | 6 => v = .bool false | 7 => v = .pointer (some ⟨g7, 33, none⟩) | 8 => v = .slice A n c | 9 => v = .int .i64 ((n : Nat) : Int) | 10 => v = .bool (decide (n = 64)) | 11 => v = .bool (decide (n = 64)) | _ => True) hap ?_ ?_ ?_
 · intro i v W W' h _
   iterate 12 (rcases i with _ | i; · exact h)
   exact h
 · refine ⟨?_, ?_, ?_, ?_, ?_, ?_, ?_, ?_, ?_, ?_, ?_, ?_, trivial⟩
   · intro vs A' W hA hW hd hu K hK; refine wpOp_free _ rfl rfl ?_; (conv => arg 2; whnf); have e10 := sO 10 o10 hA hap hsz; clear hA hd hu o7 o10 o15; go_step; exact hK _ _ kR rfl
   · intro vs A' W hA hW hd hu K hK; refine wpOp_free _ rfl rfl ?_; (conv => arg 2; whnf); have e46 := sV 46 (hd 0 (by kernel_rfl)) hA hap hsz; clear hA hd hu o7 o10 o15; go_step; exact hK _ _ kR rfl
   · intro vs A' W hA hW hd hu K hK; refine wpOp_free _ rfl rfl ?_; (conv => arg 2; whnf); have e47 := sV 47 (hd 1 (by kernel_rfl)) hA hap hsz; clear hA hd hu o7 o10 o15; go_step; exact hK _ _ kR rfl
   · intro vs A' W hA hW hd hu K hK; have e48 := sV 48 (hd 2 (by kernel_rfl)) hA hap hsz; refine wpOp_go _ rfl 2 48 false rfl rfl e48 ?_; (conv => arg 2; whnf); have e15 := sO 15 o15 hA hap hsz; clear hA hd hu o7 o10 o15; go_step; exact hK _ _ kR rfl
   · intro vs A' W hA hW hd hu K hK; have e48 := sV 48 (hd 2 (by kernel_rfl)) hA hap hsz; refine wpOp_go _ rfl 2 48 false rfl rfl e48 ?_; (conv => arg 2; whnf); have e49 := sV 49 (hd 3 (by kernel_rfl)) hA hap hsz; clear hA hd hu o7 o10 o15; go_step; exact hK _ _ kR rfl
   · intro vs A' W hA hW hd hu K hK; refine wpOp_free _ rfl rfl ?_; (conv => arg 2; whnf); have e48 := sV 48 (hd 2 (by kernel_rfl)) hA hap hsz; have e50 := sV 50 (hd 4 (by kernel_rfl)) hA hap hsz; clear hA hd hu o7 o10 o15; go_step; exact hK _ _ kR rfl
   · intro vs A' W hA hW hd hu K hK; refine wpOp_free _ rfl rfl ?_; (conv => arg 2; whnf); have e51 := sV 51 (hd 5 (by kernel_rfl)) hA hap hsz; clear hA hd hu o7 o10 o15; go_step; exact hK _ _ kR rfl
   · intro vs A' W hA hW hd hu K hK; have e52 := sV 52 (hd 6 (by kernel_rfl)) hA hap hsz; refine wpOp_go _ rfl 6 52 false rfl rfl e52 ?_; (conv => arg 2; whnf); have e7 := sO 7 o7 hA hap hsz; clear hA hd hu o7 o10 o15; go_step; exact hK _ _ kR rfl
   · intro vs A' W hA hW hd hu K hK; have e52 := sV 52 (hd 6 (by kernel_rfl)) hA hap hsz; refine wpOp_go _ rfl 6 52 false rfl rfl e52 ?_; (conv => arg 2; whnf); have e53 := sV 53 (hd 7 (by kernel_rfl)) hA hap hsz; clear hA hd hu o7 o10 o15
     have c0 : W.cell? ⟨g7, 33, none⟩ = some (.slice A n c) := by rw [(hb7.kp hW (by simp)).cell]; exact ntA_sigs hh
     go_step; exact hK _ _ kR rfl
   · intro vs A' W hA hW hd hu K hK; have e52 := sV 52 (hd 6 (by kernel_rfl)) hA hap hsz; refine wpOp_go _ rfl 6 52 false rfl rfl e52 ?_; (conv => arg 2; whnf); have e54 := sV 54 (hd 8 (by kernel_rfl)) hA hap hsz; clear hA hd hu o7 o10 o15; go_step; exact hK _ _ kR rfl
   · intro vs A' W hA hW hd hu K hK; have e52 := sV 52 (hd 6 (by kernel_rfl)) hA hap hsz; refine wpOp_go _ rfl 6 52 false rfl rfl e52 ?_; (conv => arg 2; whnf); have e55 := sV 55 (hd 9 (by kernel_rfl)) hA hap hsz; clear hA hd hu o7 o10 o15; go_step
     exact hK _ _ kR (by first | rfl | (congr 1; by_cases h6 : n = 64 <;> simp [h6] <;> omega))
   · intro vs A' W hA hW hd hu K hK; refine wpOp_free _ rfl rfl ?_; (conv => arg 2; whnf); have e52 := sV 52 (hd 6 (by kernel_rfl)) hA hap hsz; have e56 := sV 56 (hd 10 (by kernel_rfl)) hA hap hsz; clear hA hd hu o7 o10 o15; go_step; exact hK _ _ kR rfl
 · intro vs W hW hp
   rw [putAll_eq]
   exact hend _ W sQ hW (sW (hp 11 sB))
theorem sps_r10 (w0 : World) (g2 : Nat) (L : List Res) (S : Held w0 w (blkR g2 36 zeroN :: L)) (hsz : a.tmps.size = 73) (o2 : Sl a 2 (.pointer (some ⟨g2, 0, none⟩)))
 (hend : ∀ a' W, Same a a' [58, 3] → Sl a' 3 (.int .i64 (381 : Int)) → (Held w0 W (blkR g2 36 zeroN :: L)) → Q .normal a' W) : (Code.region 10 (opsOf 10 Tryd.f38).toArray false).wp Tryd.prog Q a w := by
 refine wp_region_lit ?_
 (conv => arg 4; whnf)
 unfold Sl at o2
 have S := Lib.hid S
 have HB0 := Lib.hid Tryd.built_noteZ
 have hzz : Hid (zeroN.size = 34) := Lib.hid rfl
 have hOz : Hid (∀ u, u ∈ zeroN.toList → u.oneCell' = true) := Lib.hid (ntA_one (v := .slice none 0 0) rfl)
 generalize zeroN = cz at *
 go_wp2_with (first | (refine wpList_buildC rfl 36 _ rfl [] (by simp [Act.eval, Act.put]) _ HB0.out ?_) | (refine wpList_store_blk rfl 36 (.tmp 2) (.tmp 58) rfl g2 (by simp [Act.eval, Act.put, hsz, o2]) cz (by simp [Act.eval, Act.put, hsz]) 36 _ (S.out.at_ (l1 := [])) (by rw [hzz.out]; exact Tryd.infoNote) (by rw [hzz.out]) hOz.out ?_; intro w7 b7 k7; have S7 := Lib.hid (Held.setBlk (l1 := []) S.out b7 k7); clear b7 k7))
 try simp only [Act.put]
 exact hend _ _ sS sP (S7.out)
theorem sps_r11 (w0 : World) (z : Int) (h : List UInt8) (hh : h.length = 32) (A : Option Addr) (n c : Nat) (hn : n ≤ 2000000) (xs : List Value) (g7 gh : Nat) (nm : ByteArray) (s : SigD) (hs : s.2.length = 32) (hnm : strV s.1 = .string nm) (L : List Res) (S : Held w0 w (rowR 81 33 (.slice A n c) n xs :: blkR g7 36 (ntA z h (.slice A n c)) :: blkR gh 25 (hashA s.2) :: L)) (hsz : a.tmps.size = 73) (o7 : Sl a 7 (.pointer (some ⟨g7, 0, none⟩))) (o11 : Sl a 11 (.string nm)) (o14 : Sl a 14 (.pointer (some ⟨gh, 0, none⟩)))
 (hend : ∀ a' W, Same a a' [59, 60, 61, 62, 63, 64, 65, 66] → (∃ A2 c2, Held w0 W (rowR 81 33 (.slice A2 (n + 1) c2) (n + 1) (xs ++ (sgA s).toList) :: blkR g7 36 (ntA z h (.slice A2 (n + 1) c2)) :: blkR gh 25 (hashA s.2) :: L)) → Q .normal a' W) : (Code.region 11 (opsOf 11 Tryd.f38).toArray false).wp Tryd.prog Q a w := by
 refine wp_region_lit ?_
 (conv => arg 4; whnf)
 unfold Sl at o7 o11 o14
 have S := Lib.hid S
 have HB := Lib.hid (Tryd.built_sig s hs)
 rw [hnm] at HB
 have HO := Lib.hid (sgA_one s)
 have hz2 : Hid ((sgA s).size = 33) := Lib.hid (sgA_size hs)
 have hzh : Hid ((hashA s.2).size = 32) := Lib.hid (by rw [hashA_size, hs])
 have hR1 := Lib.hid (fun V vb (hb : Blk V vb 81 (sgA s)) => rd_sig1 hb hs)
 have c33 : w.cell? ⟨g7, 33, none⟩ = some (.slice A n c) := by rw [(S.out.at_ (l1 := [_])).cell]; exact ntA_sigs hh
 have C33 := Lib.hid (fun V (b : Blk V g7 36 (ntA z h (.slice A n c))) => show V.cell? ⟨g7, 33, none⟩ = some (.slice A n c) from by rw [b.cell]; exact ntA_sigs hh)
 have E33 := Lib.hid (fun u => ntA_setSigs (z := z) (v := .slice A n c) hh u)
 have hb1 : Hid (n + 1 ≤ maxLen ∧ (n + 1) * 48 ≤ 140737488355328) := Lib.hid (by unfold maxLen; omega)
 clear hnm
 generalize sgA s = cs at *
 generalize hashA s.2 = ch at *
 go_wp2_with (first
  | (refine wpList_load_blk rfl 25 (.tmp 14) rfl gh (by simp [Act.eval, Act.put, hsz, o14]) 25 _ (S.out.at_ (l1 := [_, _])) _ Tryd.underlying25 rfl (by rw [hzh.out]; exact Tryd.infoHashP) ?_)
  | (refine wpList_buildC rfl 81 _ rfl [(0, .string nm), (1, .agg ch)] (by simp [Act.eval, Act.put, hsz]) _ HB.out ?_)
  | (refine wpList_sigs1 rfl (.tmp 63) rfl cs hz2.out (by simp [Act.eval, Act.put, hsz]) ?_; have S2 := Lib.hid ((S.out.newBlk 81 cs).pull 1 rfl); have HR := Lib.hid (hR1.out _ _ (S2.out.at_ (l1 := [_]))))
  | (at_builtin; refine wpList_appH rfl (.tmp 60) (.tmp 64) 34 81 rfl Tryd.infoSigZ Tryd.underlying34 rfl (by decide) (.slice A n c) n xs (by simp [Act.eval, Act.put, hsz]) S2.out (.slice (some ⟨w.heap.size, 0, none⟩) 1 1) 1 cs.toList (by simp [Act.eval, Act.put, hsz]) HR.out HO.out hb1.out.1 hb1.out.2 ?_; intro v2 w2 S3; obtain ⟨A2, c2, hv2, -, -⟩ := ow_form (show Ow w2 81 33 v2 (n + 1) _ from S3.at_ (l1 := [])); subst hv2; have c34 := C33.out _ (S3.at_ (l1 := [_, _])); have f34 := (show Blk w2 g7 _ _ from S3.at_ (l1 := [_, _])).frozen 33; have S4 := S3.set (l1 := [_, _]) 33 (.slice A2 (n + 1) c2); rw [E33.out] at S4; have S4 := Lib.hid S4; clear S3 c33))
 try simp only [Act.put]
 exact hend _ _ sS (⟨A2, c2, (S4.out.some_of (List.Sublist.cons_cons _ (List.Sublist.cons _ (List.Sublist.refl _))))⟩)
theorem sps_r12 (y : Value) (hsz : a.tmps.size = 73) (o9 : Sl a 9 (y))
 (hend : ∀ a', Same a a' [67, 5] → Sl a' 5 (y) → Q .normal a' (w)) : (Code.region 12 (opsOf 12 Tryd.f38).toArray false).wp Tryd.prog Q a w := by
 refine wp_region_lit ?_
 (conv => arg 4; whnf)
 unfold Sl at o9
 go_wp2_with fail
 try simp only [Act.put]
 exact hend _ sS sP
theorem sps_r13 (w0 : World) (g7 : Nat) (cn : Array Value) (hz : cn.size = 34) (ck : Int) (L : List Res) (S : Held w0 w (blkR g7 36 cn :: L)) (HC0 : ∀ V, Held w0 V (blkR g7 36 cn :: L) → Calls Tryd.prog 24 #[.agg cn] V fun e w' => e = .returned (.int .i64 ck) ∧ Kp [] V w') (hsz : a.tmps.size = 73) (o7 : Sl a 7 (.pointer (some ⟨g7, 0, none⟩)))
 (hend : ∀ a' W, Same a a' [68, 69, 70] → Sl a' 70 (.bool (ck != 0)) → (Held w0 W (blkR g7 36 cn :: L)) → Q .normal a' W) : (Code.region 13 (opsOf 13 Tryd.f38).toArray false).wp Tryd.prog Q a w := by
 refine wp_region_lit ?_
 (conv => arg 4; whnf)
 unfold Sl at o7
 have S := Lib.hid S
 have HC := Lib.hid (HC0 _ S.out)
 clear HC0
 have hz := Lib.hid hz
 go_wp2_with (refine wpList_load_blk rfl 36 (.tmp 7) rfl g7 (by simp [Act.eval, Act.put, hsz, o7]) 36 _ (S.out.at_ (l1 := [])) _ Tryd.underlying36 rfl (by rw [hz.out]; exact Tryd.infoNote) ?_)
 refine HC.out.mono ?_
 rintro e w1 ⟨rfl, k1⟩
 have S1 := Lib.hid (S.out.kp k1)
 clear k1
 go_wp2_with fail
 try simp only [Act.put]
 exact hend _ _ sS sP (S1.out)
theorem sps_r14 (w0 : World) (g2 : Nat) (L : List Res) (S : Held w0 w (blkR g2 36 zeroN :: L)) (hsz : a.tmps.size = 73) (o2 : Sl a 2 (.pointer (some ⟨g2, 0, none⟩)))
 (hend : ∀ a' W, Same a a' [71, 3] → Sl a' 3 (.int .i64 (381 : Int)) → (Held w0 W (blkR g2 36 zeroN :: L)) → Q .normal a' W) : (Code.region 14 (opsOf 14 Tryd.f38).toArray false).wp Tryd.prog Q a w := by
 refine wp_region_lit ?_
 (conv => arg 4; whnf)
 unfold Sl at o2
 have S := Lib.hid S
 have HB0 := Lib.hid Tryd.built_noteZ
 have hzz : Hid (zeroN.size = 34) := Lib.hid rfl
 have hOz : Hid (∀ u, u ∈ zeroN.toList → u.oneCell' = true) := Lib.hid (ntA_one (v := .slice none 0 0) rfl)
 generalize zeroN = cz at *
 go_wp2_with (first | (refine wpList_buildC rfl 36 _ rfl [] (by simp [Act.eval, Act.put]) _ HB0.out ?_) | (refine wpList_store_blk rfl 36 (.tmp 2) (.tmp 71) rfl g2 (by simp [Act.eval, Act.put, hsz, o2]) cz (by simp [Act.eval, Act.put, hsz]) 36 _ (S.out.at_ (l1 := [])) (by rw [hzz.out]; exact Tryd.infoNote) (by rw [hzz.out]) hOz.out ?_; intro w7 b7 k7; have S7 := Lib.hid (Held.setBlk (l1 := []) S.out b7 k7); clear b7 k7))
 try simp only [Act.put]
 exact hend _ _ sS sP (S7.out)
theorem sps_r15 (w0 : World) (g7 g2 : Nat) (cn : Array Value) (hcn : cn.size = 34) (h1 : ∀ u, u ∈ cn.toList → u.oneCell' = true) (L : List Res) (S : Held w0 w (blkR g2 36 zeroN :: blkR g7 36 cn :: L)) (hsz : a.tmps.size = 73) (o2 : Sl a 2 (.pointer (some ⟨g2, 0, none⟩))) (o7 : Sl a 7 (.pointer (some ⟨g7, 0, none⟩)))
 (hend : ∀ a' W, Same a a' [72, 3] → Sl a' 3 (.int .i64 (0 : Int)) → (Held w0 W (blkR g2 36 cn :: blkR g7 36 cn :: L)) → Q .normal a' W) : (Code.region 15 (opsOf 15 Tryd.f38).toArray false).wp Tryd.prog Q a w := by
 refine wp_region_lit ?_
 (conv => arg 4; whnf)
 unfold Sl at o2 o7
 have S1 := Lib.hid S
 clear S
 have hz2 := Lib.hid hcn
 have HO := Lib.hid h1
 clear hcn h1
 go_wp2_with (first
  | (refine wpList_load_blk rfl 36 (.tmp 7) rfl g7 (by simp [Act.eval, Act.put, hsz, o7]) 36 _ (S1.out.at_ (l1 := [_])) _ Tryd.underlying36 rfl (by rw [hz2.out]; exact Tryd.infoNote) ?_)
  | (refine wpList_store_blk rfl 36 (.tmp 2) (.tmp 72) rfl g2 (by simp [Act.eval, Act.put, hsz, o2]) cn (by simp [Act.eval, Act.put, hsz]) 36 _ (S1.out.at_ (l1 := [])) (by rw [hz2.out]; exact Tryd.infoNote) (by rw [hz2.out]; rfl) HO.out ?_; intro w7 b7 k7; have S7 := Lib.hid (Held.setBlk (l1 := []) S1.out b7 k7); clear b7 k7))
 try simp only [Act.put]
 exact hend _ _ sS sP (S7.out)
theorem rtd_r0 (w0 : World) (ca : Array Value) (L : List Res) (S : Held w0 w L) (hsz : a.tmps.size = 34) (o0 : Sl a 0 (.agg ca))
 (hend : ∀ a' W, Same a a' [1, 2] → Sl a' 2 (.string ⟨#[]⟩) → (∃ g1, Sl a' 1 (.pointer (some ⟨g1, 0, none⟩)) ∧ Held w0 W (blkR g1 36 ca :: L)) → Q .normal a' W) : (Code.region 0 (opsOf 0 Tryd.f56).toArray false).wp Tryd.prog Q a w := by
 refine wp_region_lit ?_
 (conv => arg 4; whnf)
 unfold Sl at o0
 have S0 := Lib.hid (S.newBlk 36 ca)
 go_wp2_with fail
 try simp only [Act.put]
 exact hend _ _ sS sP (⟨_, sP0, S0.out⟩)
theorem rtd_r1 (w0 : World) (g1 : Nat) (z : Int) (h : List UInt8) (hh : h.length = 32) (v0 : Value) (t : ByteArray) (L : List Res) (S : Held w0 w (blkR g1 36 (ntA z h v0) :: L)) (HC0 : ∀ V, Calls Tryd.prog 74 #[.agg (ptA z h)] V fun e w' => e = .returned (.string t) ∧ Kp [] V w') (hsz : a.tmps.size = 34) (o1 : Sl a 1 (.pointer (some ⟨g1, 0, none⟩)))
 (hend : ∀ a' W, Same a a' [5, 6, 7, 3] → Sl a' 3 (.string t) → (Held w0 W (blkR g1 36 (ntA z h v0) :: L)) → Q .normal a' W) : (Code.region 1 (opsOf 1 Tryd.f56).toArray false).wp Tryd.prog Q a w := by
 refine wp_region_lit ?_
 (conv => arg 4; whnf)
 unfold Sl at o1
 have S := Lib.hid S
 have HC := Lib.hid (HC0 w)
 clear HC0
 have hp := Lib.hid (nt_pointAt (S.out.at_ (l1 := [])))
 have HP := Lib.hid (ptA_size (s := z) hh)
 generalize ntA z h v0 = ca at *
 generalize ptA z h = cp at *
 go_wp2_with (refine wpList_load_agg rfl 33 (.tmp 5) rfl ⟨g1, 0, none⟩ (by simp [Act.eval, Act.put, hsz]) cp.toList _ hp.out Tryd.underlying33 rfl (by rw [Array.length_toList, HP.out]; exact Tryd.infoPointP) ?_)
 refine HC.out.mono ?_
 rintro e w1 ⟨rfl, k1⟩
 have S1 := Lib.hid (S.out.kp k1)
 clear k1
 go_wp2_with fail
 try simp only [Act.put]
 exact hend _ _ sS sP (S1.out)
theorem rtd_r2  (hsz : a.tmps.size = 34) 
 (hend : ∀ a', Same a a' [4] → Sl a' 4 (.int .i64 ((0 : Nat) : Int)) → Q .normal a' (w)) : (Code.region 2 (opsOf 2 Tryd.f56).toArray false).wp Tryd.prog Q a w := by
 refine wp_region_lit ?_
 (conv => arg 4; whnf)
 go_wp2_with fail
 try simp only [Act.put]
 exact hend _ sS sP
theorem rtd_r3 (g1 k : Nat) (z : Int) (h : List UInt8) (hh : h.length = 32) (A : Option Addr) (n c : Nat) (hb : Blk w g1 36 (ntA z h (.slice A n c))) (hsz : a.tmps.size = 34) (o1 : Sl a 1 (.pointer (some ⟨g1, 0, none⟩))) (o4 : Sl a 4 (.int .i64 ((k : Nat) : Int)))
 (hend : ∀ a', Same a a' [8, 9, 10, 11, 12] → Sl a' 12 (.bool (decide (k < n))) → Q .normal a' (w)) : (Code.region 3 (opsOf 3 Tryd.f56).toArray false).wp Tryd.prog Q a w := by
 refine wp_region_lit ?_
 (conv => arg 4; whnf)
 unfold Sl at o1 o4
 have c33 : w.cell? ⟨g1, 33, none⟩ = some (.slice A n c) := by rw [hb.cell]; exact ntA_sigs hh
 go_wp2_with fail
 try simp only [Act.put]
 exact hend _ sS sP
theorem rtd_r5 (g1 k : Nat) (z : Int) (h : List UInt8) (hh : h.length = 32) (ad : Addr) (n c : Nat) (hk : k < n) (hb : Blk w.drew g1 36 (ntA z h (.slice (some ad) n c))) (s : SigD) (hs : s.2.length = 32) (hn : s.1.length ≤ 64) (t : List UInt8) (ht : t.length ≤ 1000000) (hc : ∀ V, Kp [] w.drew V → ∀ j u, (sgL s)[j]? = some u → V.cell? ((ad.add (k * 33)).add j) = some u) (hsz : a.tmps.size = 34) (o1 : Sl a 1 (.pointer (some ⟨g1, 0, none⟩))) (o3 : Sl a 3 (.string ⟨(t).toArray⟩)) (o4 : Sl a 4 (.int .i64 ((k : Nat) : Int)))
 (hend : ∀ a' W, Same a a' [15, 16, 17, 18, 19, 20, 21, 22, 23, 24, 25, 26, 27, 28, 29, 30, 31, 32, 3] → Kp [] w.drew W → Sl a' 3 (.string ⟨(t ++ (s.1 ++ 32 :: (hexS s.2 ++ [10]))).toArray⟩) → Q .normal a' W) : (Code.region 5 (opsOf 5 Tryd.f56).toArray true).wp Tryd.prog Q a w := by
 have hap : apartB (opsOf 5 Tryd.f56) = true := by kernel_rfl
 refine wp_region_invU (l := (opsOf 5 Tryd.f56)) (fun i v W => match i with | 0 => v = .string ⟨(t).toArray⟩ | 1 => v = .pointer (some ⟨g1, 33, none⟩) | 2 => v = .slice (some ad) n c | 3 => v = .int .i64 ((k : Nat) : Int) | 4 => v = .pointer (some (ad.add (k * 33))) | 5 => v = .pointer (some (ad.add (k * 33))) | 6 => v = .string ⟨(s.1).toArray⟩ | 7 => v = .string ⟨(t ++ s.1).toArray⟩ | 8 => v = .string ⟨(t ++ (s.1 ++ [32])).toArray⟩ | 9 => v = .pointer (some ⟨g1, 33, none⟩) | 10 => v = .slice (some ad) n c | 11 => v = .int .i64 ((k : Nat) : Int) | 12 => v = .pointer (some (ad.add (k * 33))) | 13 => v = .pointer (some ((ad.add (k * 33)).add 1)) | 14 => v = .agg (hashA s.2) | 15 => v = .string ⟨(hexS s.2).toArray⟩ | 16 => v = .string ⟨(t ++ (s.1 ++ 32 :: hexS s.2)).toArray⟩ | 17 => v = .string ⟨(t ++ (s.1 ++ 32 :: (hexS s.2 ++ [10]))).toArray⟩ | 18 => v = .string ⟨(t ++ (s.1 ++ 32 :: (hexS s.2 ++ [10]))).toArray⟩ | _ => True) (by kernel_rfl) hap (by kernel_rfl) ?_ ?_ ?_
 · intro i v W W' h _
   iterate 19 (rcases i with _ | i; · exact h)
   exact h
 · refine ⟨?_, ?_, ?_, ?_, ?_, ?_, ?_, ?_, ?_, ?_, ?_, ?_, ?_, ?_, ?_, ?_, ?_, ?_, ?_, trivial⟩
   · intro vs A' W hA hW hd hu K hK; refine wpOp_free _ rfl rfl ?_; (conv => arg 2; whnf)
     have e3 := sU 3 18 hA hap hsz
     rw [show vs 18 = .string ⟨(t).toArray⟩ from (hu 18 _ rfl (by kernel_rfl)).trans (o3.eval (sH 3 hsz rfl))] at e3
     clear hA hd hu o1 o3 o4; go_step; exact hK _ _ kR rfl
   · intro vs A' W hA hW hd hu K hK; refine wpOp_free _ rfl rfl ?_; (conv => arg 2; whnf); have e1 := sO 1 o1 hA hap hsz; clear hA hd hu o1 o3 o4; go_step; exact hK _ _ kR rfl
   · intro vs A' W hA hW hd hu K hK; refine wpOp_free _ rfl rfl ?_; (conv => arg 2; whnf); have e16 := sV 16 (hd 1 (by kernel_rfl)) hA hap hsz; clear hA hd hu o1 o3 o4
     have c0 : W.cell? ⟨g1, 33, none⟩ = some (.slice (some ad) n c) := by rw [(hb.kp hW (by simp)).cell]; exact ntA_sigs hh
     go_step; exact hK _ _ kR rfl
   · intro vs A' W hA hW hd hu K hK; refine wpOp_free _ rfl rfl ?_; (conv => arg 2; whnf); have e4 := sO 4 o4 hA hap hsz; clear hA hd hu o1 o3 o4; go_step; exact hK _ _ kR rfl
   · intro vs A' W hA hW hd hu K hK; refine wpOp_free _ rfl rfl ?_; (conv => arg 2; whnf); have e17 := sV 17 (hd 2 (by kernel_rfl)) hA hap hsz; have e18 := sV 18 (hd 3 (by kernel_rfl)) hA hap hsz; clear hA hd hu o1 o3 o4
     have h0 : 0 ≤ (k : Int) := by omega
     have h1 : (k : Int) < (n : Int) := by omega
     go_step; exact hK _ _ kR rfl
   · intro vs A' W hA hW hd hu K hK; refine wpOp_free _ rfl rfl ?_; (conv => arg 2; whnf); have e19 := sV 19 (hd 4 (by kernel_rfl)) hA hap hsz; clear hA hd hu o1 o3 o4; go_step; exact hK _ _ kR rfl
   · intro vs A' W hA hW hd hu K hK; refine wpOp_free _ rfl rfl ?_; (conv => arg 2; whnf); have e20 := sV 20 (hd 5 (by kernel_rfl)) hA hap hsz; clear hA hd hu o1 o3 o4
     have c0 : W.cell? (ad.add (k * 33)) = some (.string ⟨(s.1).toArray⟩) := by have := hc _ hW 0 _ rfl; simpa [Addr.add, strV] using this
     go_step; exact hK _ _ kR rfl
   · intro vs A' W hA hW hd hu K hK; refine wpOp_free _ rfl rfl ?_; (conv => arg 2; whnf); have e15 := sV 15 (hd 0 (by kernel_rfl)) hA hap hsz; have e21 := sV 21 (hd 6 (by kernel_rfl)) hA hap hsz; clear hA hd hu o1 o3 o4
     have hsz2 : ¬ 9223372036854775807 < t.length + s.1.length := by have := hexS_length s.2; omega
     go_step
     exact hK _ _ kR (congrArg Value.string ((str_add t s.1).trans (congrArg (fun x : List UInt8 => ByteArray.mk x.toArray) (by simp))))
   · intro vs A' W hA hW hd hu K hK; refine wpOp_free _ rfl rfl ?_; (conv => arg 2; whnf); have e22 := sV 22 (hd 7 (by kernel_rfl)) hA hap hsz; clear hA hd hu o1 o3 o4
     have hsz2 : ¬ 9223372036854775807 < t.length + s.1.length + 1 := by have := hexS_length s.2; omega
     go_step
     exact hK _ _ kR (congrArg Value.string ((str_add (t ++ s.1) [32]).trans (congrArg (fun x : List UInt8 => ByteArray.mk x.toArray) (by simp))))
   · intro vs A' W hA hW hd hu K hK; refine wpOp_free _ rfl rfl ?_; (conv => arg 2; whnf); have e1 := sO 1 o1 hA hap hsz; clear hA hd hu o1 o3 o4; go_step; exact hK _ _ kR rfl
   · intro vs A' W hA hW hd hu K hK; refine wpOp_free _ rfl rfl ?_; (conv => arg 2; whnf); have e24 := sV 24 (hd 9 (by kernel_rfl)) hA hap hsz; clear hA hd hu o1 o3 o4
     have c0 : W.cell? ⟨g1, 33, none⟩ = some (.slice (some ad) n c) := by rw [(hb.kp hW (by simp)).cell]; exact ntA_sigs hh
     go_step; exact hK _ _ kR rfl
   · intro vs A' W hA hW hd hu K hK; refine wpOp_free _ rfl rfl ?_; (conv => arg 2; whnf); have e4 := sO 4 o4 hA hap hsz; clear hA hd hu o1 o3 o4; go_step; exact hK _ _ kR rfl
   · intro vs A' W hA hW hd hu K hK; refine wpOp_free _ rfl rfl ?_; (conv => arg 2; whnf); have e25 := sV 25 (hd 10 (by kernel_rfl)) hA hap hsz; have e26 := sV 26 (hd 11 (by kernel_rfl)) hA hap hsz; clear hA hd hu o1 o3 o4
     have h0 : 0 ≤ (k : Int) := by omega
     have h1 : (k : Int) < (n : Int) := by omega
     go_step; exact hK _ _ kR rfl
   · intro vs A' W hA hW hd hu K hK; refine wpOp_free _ rfl rfl ?_; (conv => arg 2; whnf); have e27 := sV 27 (hd 12 (by kernel_rfl)) hA hap hsz; clear hA hd hu o1 o3 o4; go_step; exact hK _ _ kR rfl
   · intro vs A' W hA hW hd hu K hK; refine wpOp_free _ rfl rfl ?_; (conv => arg 2; whnf); have e28 := sV 28 (hd 13 (by kernel_rfl)) hA hap hsz; clear hA hd hu o1 o3 o4
     refine op_runs (v := .agg (hashA s.2)) (w' := W) (exec_load rfl (by simpa [Act.eval] using e28) (run_loadAt_agg W ((ad.add (k * 33)).add 1) 25 (hashA s.2).toList _ (fun j u hu => by have := hc _ hW (j + 1) u (by show (strV s.1 :: bv s.2)[j + 1]? = _; rw [List.getElem?_cons_succ]; exact hu); rw [add_of_add, Nat.add_comm] ; exact this) Tryd.underlying25 rfl (by rw [Array.length_toList, hashA_size, hs]; exact Tryd.infoHashP))) ?_
     exact hK _ _ kR rfl
   · intro vs A' W hA hW hd hu K hK; refine wpOp_free _ rfl rfl ?_; (conv => arg 2; whnf); have e29 := sV 29 (hd 14 (by kernel_rfl)) hA hap hsz; clear hA hd hu o1 o3 o4
     simp only at *
     go_step
     refine (rhex_any s.2 hs W).mono ?_
     rintro e w' ⟨rfl, k⟩
     exact hK _ _ k rfl
   · intro vs A' W hA hW hd hu K hK; refine wpOp_free _ rfl rfl ?_; (conv => arg 2; whnf); have e23 := sV 23 (hd 8 (by kernel_rfl)) hA hap hsz; have e30 := sV 30 (hd 15 (by kernel_rfl)) hA hap hsz; clear hA hd hu o1 o3 o4
     have hsz2 : ¬ 9223372036854775807 < t.length + (s.1.length + 1) + (hexS s.2).length := by have := hexS_length s.2; omega
     go_step
     exact hK _ _ kR (congrArg Value.string ((str_add (t ++ (s.1 ++ [32])) (hexS s.2)).trans (congrArg (fun x : List UInt8 => ByteArray.mk x.toArray) (by simp))))
   · intro vs A' W hA hW hd hu K hK; refine wpOp_free _ rfl rfl ?_; (conv => arg 2; whnf); have e31 := sV 31 (hd 16 (by kernel_rfl)) hA hap hsz; clear hA hd hu o1 o3 o4
     have hsz2 : ¬ 9223372036854775807 < t.length + (s.1.length + ((hexS s.2).length + 1)) + 1 := by have := hexS_length s.2; omega
     go_step
     exact hK _ _ kR (congrArg Value.string ((str_add (t ++ (s.1 ++ 32 :: hexS s.2)) [10]).trans (congrArg (fun x : List UInt8 => ByteArray.mk x.toArray) (by simp))))
   · intro vs A' W hA hW hd hu K hK; refine wpOp_free _ rfl rfl ?_; (conv => arg 2; whnf); have e32 := sV 32 (hd 17 (by kernel_rfl)) hA hap hsz; clear hA hd hu o1 o3 o4; go_step; exact hK _ _ kR rfl
 · intro vs W hW hp
   rw [putAll_eq]
   exact hend _ W sQ hW (sW (hp 18 sB))
theorem rtd_r4 (k : Nat) (hk : k < 9223372036854775807) (hsz : a.tmps.size = 34) (o4 : Sl a 4 (.int .i64 ((k : Nat) : Int)))
 (hend : ∀ a', Same a a' [13, 14, 4] → Sl a' 4 (.int .i64 ((k + 1 : Nat) : Int)) → Q .normal a' (w)) : (Code.region 4 (opsOf 4 Tryd.f56).toArray false).wp Tryd.prog Q a w := by
 refine wp_region_lit ?_
 (conv => arg 4; whnf)
 unfold Sl at o4
 have hw : wrap64 ((k : Int) + 1) = (k : Int) + 1 := by unfold wrap64; omega
 go_wp2_with fail
 try simp only [Act.put]
 exact hend _ sS sP
theorem rtd_r6 (t : Value) (hsz : a.tmps.size = 34) (o3 : Sl a 3 (t))
 (hend : ∀ a', Same a a' [33, 2] → Sl a' 2 (t) → Q .normal a' (w)) : (Code.region 6 (opsOf 6 Tryd.f56).toArray false).wp Tryd.prog Q a w := by
 refine wp_region_lit ?_
 (conv => arg 4; whnf)
 unfold Sl at o3
 go_wp2_with fail
 try simp only [Act.put]
 exact hend _ sS sP
theorem rtx_r0 (w0 : World) (ca : Array Value) (L : List Res) (S : Held w0 w L) (hsz : a.tmps.size = 9) (o0 : Sl a 0 (.agg ca))
 (hend : ∀ a' W, Same a a' [1, 2, 3] → Sl a' 2 (.string ⟨#[]⟩) → (∃ g1, Sl a' 1 (.pointer (some ⟨g1, 0, none⟩)) ∧ Held w0 W (blkR g1 36 ca :: L)) → Q .normal a' W) : (Code.region 0 (opsOf 0 Tryd.f37).toArray false).wp Tryd.prog Q a w := by
 refine wp_region_lit ?_
 (conv => arg 4; whnf)
 unfold Sl at o0
 have S0 := Lib.hid (S.newBlk 36 ca)
 go_wp2_with fail
 try simp only [Act.put]
 exact hend _ _ sS sP (⟨_, sP0, S0.out⟩)
theorem rtx_r1 (w0 : World) (g1 : Nat) (ca : Array Value) (hz : ca.size = 34) (b : Bool) (L : List Res) (S : Held w0 w (blkR g1 36 ca :: L)) (HC0 : ∀ V, Held w0 V (blkR g1 36 ca :: L) → Calls Tryd.prog 49 #[.agg ca] V fun e w' => e = .returned (.bool b) ∧ Kp [] V w') (hsz : a.tmps.size = 9) (o1 : Sl a 1 (.pointer (some ⟨g1, 0, none⟩)))
 (hend : ∀ a' W, Same a a' [4, 5, 6] → Sl a' 6 (.bool (!b)) → (Held w0 W (blkR g1 36 ca :: L)) → Q .normal a' W) : (Code.region 1 (opsOf 1 Tryd.f37).toArray false).wp Tryd.prog Q a w := by
 refine wp_region_lit ?_
 (conv => arg 4; whnf)
 unfold Sl at o1
 have S := Lib.hid S
 have HC := Lib.hid (HC0 _ S.out)
 clear HC0
 have hz := Lib.hid hz
 go_wp2_with (refine wpList_load_blk rfl 36 (.tmp 1) rfl g1 (by simp [Act.eval, Act.put, hsz, o1]) 36 _ (S.out.at_ (l1 := [])) _ Tryd.underlying36 rfl (by rw [hz.out]; exact Tryd.infoNote) ?_)
 refine HC.out.mono ?_
 rintro e w1 ⟨rfl, k1⟩
 have S1 := Lib.hid (S.out.kp k1)
 clear k1
 go_wp2_with fail
 try simp only [Act.put]
 exact hend _ _ sS sP (S1.out)
theorem rtx_r2  (hsz : a.tmps.size = 9) 
 (hend : ∀ a', Same a a' [2, 3] → Sl a' 2 (.string ⟨#[]⟩) → Sl a' 3 (.int .i64 (2 : Int)) → Q .normal a' (w)) : (Code.region 2 (opsOf 2 Tryd.f37).toArray false).wp Tryd.prog Q a w := by
 refine wp_region_lit ?_
 (conv => arg 4; whnf)
 go_wp2_with fail
 try simp only [Act.put]
 exact hend _ sS sP sP
theorem rtx_r3 (w0 : World) (g1 : Nat) (ca : Array Value) (hz : ca.size = 34) (t : ByteArray) (L : List Res) (S : Held w0 w (blkR g1 36 ca :: L)) (HC0 : ∀ V, Held w0 V (blkR g1 36 ca :: L) → Calls Tryd.prog 56 #[.agg ca] V fun e w' => e = .returned (.string t) ∧ Kp [] V w') (hsz : a.tmps.size = 9) (o1 : Sl a 1 (.pointer (some ⟨g1, 0, none⟩)))
 (hend : ∀ a' W, Same a a' [7, 8, 2, 3] → Sl a' 2 (.string t) → Sl a' 3 (.int .i64 (0 : Int)) → (Held w0 W (blkR g1 36 ca :: L)) → Q .normal a' W) : (Code.region 3 (opsOf 3 Tryd.f37).toArray false).wp Tryd.prog Q a w := by
 refine wp_region_lit ?_
 (conv => arg 4; whnf)
 unfold Sl at o1
 have S := Lib.hid S
 have HC := Lib.hid (HC0 _ S.out)
 clear HC0
 have hz := Lib.hid hz
 go_wp2_with (refine wpList_load_blk rfl 36 (.tmp 1) rfl g1 (by simp [Act.eval, Act.put, hsz, o1]) 36 _ (S.out.at_ (l1 := [])) _ Tryd.underlying36 rfl (by rw [hz.out]; exact Tryd.infoNote) ?_)
 refine HC.out.mono ?_
 rintro e w1 ⟨rfl, k1⟩
 have S1 := Lib.hid (S.out.kp k1)
 clear k1
 go_wp2_with fail
 try simp only [Act.put]
 exact hend _ _ sS sP sP (S1.out)
theorem rps_r0 (w0 : World) (L : List Res) (S : Held w0 w L) (hsz : a.tmps.size = 93) 
 (hend : ∀ a' W, Same a a' [2, 3] → Sl a' 3 (.int .i64 (0 : Int)) → (∃ g2, Sl a' 2 (.pointer (some ⟨g2, 0, none⟩)) ∧ Held w0 W (blkR g2 36 zeroN :: L)) → Q .normal a' W) : (Code.region 0 (opsOf 0 Tryd.f39).toArray false).wp Tryd.prog Q a w := by
 refine wp_region_lit ?_
 (conv => arg 4; whnf)
 have S1 := Lib.hid (S.newBlk 36 zeroN)
 go_wp2_with fail
 try simp only [Act.put]
 exact hend _ _ sS sP (⟨_, sP0, S1.out⟩)
theorem rps_r1 (w0 : World) (s : ByteArray) (z : Int) (h : List UInt8) (hh : h.length = 32) (t : List UInt8) (te : Int) (L : List Res) (S : Held w0 w L) (HC0 : ∀ V, Held w0 V L → Calls Tryd.prog 60 #[.string s] V fun e w' => e = .returned (.tuple #[.agg (ptA z h), .string ⟨t.toArray⟩, .int .i64 te]) ∧ Kp [] V w') (hsz : a.tmps.size = 93) (o0 : Sl a 0 (.string s))
 (hend : ∀ a' W, Same a a' [15, 16, 14, 17, 18, 19, 4, 5, 6] → Sl a' 5 (.string ⟨(t).toArray⟩) → Sl a' 6 (.int .i64 te) → (∃ g4, Sl a' 4 (.pointer (some ⟨g4, 0, none⟩)) ∧ Held w0 W (blkR g4 33 (ptA z h) :: L)) → Q .normal a' W) : (Code.region 1 (opsOf 1 Tryd.f39).toArray false).wp Tryd.prog Q a w := by
 refine wp_region_lit ?_
 (conv => arg 4; whnf)
 unfold Sl at o0
 have S := Lib.hid S
 have HC := Lib.hid (HC0 _ S.out)
 clear HC0
 have HP := Lib.hid (ptA_size (s := z) hh)
 have HO := Lib.hid (ptA_one z h)
 generalize ptA z h = cp at *
 obtain ⟨tb, htb⟩ : ∃ tb, (ByteArray.mk t.toArray) = tb := ⟨_, rfl⟩
 rw [htb] at HC hend
 clear htb
 go_wp2_with fail
 refine HC.out.mono ?_
 rintro e w1 ⟨rfl, k1⟩
 have S1 := Lib.hid ((S.out.kp k1).newBlk 33 (ptA 0 (List.replicate 32 0)))
 clear k1
 go_wp2_with (refine wpList_store_blk rfl 33 (.tmp 4) (.tmp 17) rfl w1.heap.size (by simp [Act.eval, Act.put, hsz]) cp (by simp [Act.eval, Act.put, hsz]) 33 _ (S1.out.at_ (l1 := [])) (by rw [HP.out]; exact Tryd.infoPointP) (by rw [HP.out]; rfl) HO.out ?_; intro w7 b7 k7; have S7 := Lib.hid (Held.setBlk (l1 := []) S1.out b7 k7); clear b7 k7)
 try simp only [Act.put]
 exact hend _ _ sS sP sP (⟨_, sP0, S7.out⟩)
theorem rps_r2 (te : Int) (hsz : a.tmps.size = 93) (o6 : Sl a 6 (.int .i64 te))
 (hend : ∀ a', Same a a' [20, 21] → Sl a' 21 (.bool (te != 0)) → Q .normal a' (w)) : (Code.region 2 (opsOf 2 Tryd.f39).toArray false).wp Tryd.prog Q a w := by
 refine wp_region_lit ?_
 (conv => arg 4; whnf)
 unfold Sl at o6
 go_wp2_with fail
 try simp only [Act.put]
 exact hend _ sS sP
theorem rps_r3 (w0 : World) (g2 : Nat) (L : List Res) (S : Held w0 w (blkR g2 36 zeroN :: L)) (hsz : a.tmps.size = 93) (o2 : Sl a 2 (.pointer (some ⟨g2, 0, none⟩)))
 (hend : ∀ a' W, Same a a' [22, 3] → Sl a' 3 (.int .i64 (381 : Int)) → (Held w0 W (blkR g2 36 zeroN :: L)) → Q .normal a' W) : (Code.region 3 (opsOf 3 Tryd.f39).toArray false).wp Tryd.prog Q a w := by
 refine wp_region_lit ?_
 (conv => arg 4; whnf)
 unfold Sl at o2
 have S := Lib.hid S
 have HB0 := Lib.hid Tryd.built_noteZ
 have hzz : Hid (zeroN.size = 34) := Lib.hid rfl
 have hOz : Hid (∀ u, u ∈ zeroN.toList → u.oneCell' = true) := Lib.hid (ntA_one (v := .slice none 0 0) rfl)
 generalize zeroN = cz at *
 go_wp2_with (first | (refine wpList_buildC rfl 36 _ rfl [] (by simp [Act.eval, Act.put]) _ HB0.out ?_) | (refine wpList_store_blk rfl 36 (.tmp 2) (.tmp 22) rfl g2 (by simp [Act.eval, Act.put, hsz, o2]) cz (by simp [Act.eval, Act.put, hsz]) 36 _ (S.out.at_ (l1 := [])) (by rw [hzz.out]; exact Tryd.infoNote) (by rw [hzz.out]) hOz.out ?_; intro w7 b7 k7; have S7 := Lib.hid (Held.setBlk (l1 := []) S.out b7 k7); clear b7 k7))
 try simp only [Act.put]
 exact hend _ _ sS sP (S7.out)
theorem rps_r4 (w0 : World) (g4 : Nat) (z : Int) (h : List UInt8) (hh : h.length = 32) (L : List Res) (S : Held w0 w (blkR g4 33 (ptA z h) :: L)) (hsz : a.tmps.size = 93) (o4 : Sl a 4 (.pointer (some ⟨g4, 0, none⟩)))
 (hend : ∀ a' W, Same a a' [23, 24, 7] → (∃ g7, Sl a' 7 (.pointer (some ⟨g7, 0, none⟩)) ∧ Held w0 W (blkR g7 36 (ntA z h (.slice none 0 0)) :: blkR g4 33 (ptA z h) :: L)) → Q .normal a' W) : (Code.region 4 (opsOf 4 Tryd.f39).toArray false).wp Tryd.prog Q a w := by
 refine wp_region_lit ?_
 (conv => arg 4; whnf)
 unfold Sl at o4
 have S := Lib.hid S
 have HP := Lib.hid (ptA_size (s := z) hh)
 have HB := Lib.hid (Tryd.built_note z h hh)
 have hz2 : Hid ((ntA z h (.slice none 0 0)).size = 34) := Lib.hid (ntA_size hh)
 have HO : Hid (∀ u, u ∈ (ntA z h (.slice none 0 0)).toList → u.oneCell' = true) := Lib.hid (ntA_one rfl)
 have S1 := Lib.hid (S.out.newBlk 36 zeroN)
 generalize ntA z h (.slice none 0 0) = cn at *
 generalize ptA z h = cp at *
 go_wp2_with (first
  | (refine wpList_load_blk rfl 33 (.tmp 4) rfl g4 (by simp [Act.eval, Act.put, hsz, o4]) 33 _ (S.out.at_ (l1 := [])) _ Tryd.underlying33 rfl (by rw [HP.out]; exact Tryd.infoPointP) ?_)
  | (refine wpList_buildC rfl 36 _ rfl [(0, .agg cp)] (by simp [Act.eval, Act.put, hsz]) _ HB.out ?_)
  | (refine wpList_store_blk rfl 36 (.tmp 7) (.tmp 24) rfl w.heap.size (by simp [Act.eval, Act.put, hsz]) cn (by simp [Act.eval, Act.put, hsz]) 36 _ (S1.out.at_ (l1 := [])) (by rw [hz2.out]; exact Tryd.infoNote) (by rw [hz2.out]; rfl) HO.out ?_; intro w7 b7 k7; have S7 := Lib.hid (Held.setBlk (l1 := []) S1.out b7 k7); clear b7 k7))
 try simp only [Act.put]
 exact hend _ _ sS (⟨_, sP0, S7.out⟩)
theorem rps_r5  (hsz : a.tmps.size = 93) 
 (hend : ∀ a', Same a a' [8] → Sl a' 8 (.int .i64 ((0 : Nat) : Int)) → Q .normal a' (w)) : (Code.region 5 (opsOf 5 Tryd.f39).toArray false).wp Tryd.prog Q a w := by
 refine wp_region_lit ?_
 (conv => arg 4; whnf)
 go_wp2_with fail
 try simp only [Act.put]
 exact hend _ sS sP
theorem rps_r6  (hsz : a.tmps.size = 93) 
 (hend : ∀ a', Same a a' [9] → Sl a' 9 (.int .i64 ((0 : Nat) : Int)) → Q .normal a' (w)) : (Code.region 6 (opsOf 6 Tryd.f39).toArray false).wp Tryd.prog Q a w := by
 refine wp_region_lit ?_
 (conv => arg 4; whnf)
 go_wp2_with fail
 try simp only [Act.put]
 exact hend _ sS sP
theorem rps_r7N (k m : Nat) (r : ByteArray) (hm : r.size = m) (hk : ¬ k < m) (hsz : a.tmps.size = 93) (o5 : Sl a 5 (.string r)) (o9 : Sl a 9 (.int .i64 ((k : Nat) : Int)))
 (hend : ∀ a' W, Same a a' [25, 26, 27, 28, 29, 30, 31, 32, 33, 34] → Kp [] w W → Sl a' 34 (.bool false) → Q .normal a' W) : (Code.region 7 (opsOf 7 Tryd.f39).toArray false).wp Tryd.prog Q a w := by
 have hap : apartB (opsOf 7 Tryd.f39) = true := by kernel_rfl
 refine wp_region_invS (l := (opsOf 7 Tryd.f39)) (fun i v W => match i with | 0 => v = .int .i64 ((k : Nat) : Int) | 1 => v = .string r | 2 => v = .int .i64 ((m : Nat) : Int) | 3 => v = .bool false | 4 => v = .bool false | 9 => v = .bool false | _ => True) hap ?_ ?_ ?_
 · intro i v W W' h _
   iterate 10 (rcases i with _ | i; · exact h)
   exact h
 · refine ⟨?_, ?_, ?_, ?_, ?_, ?_, ?_, ?_, ?_, ?_, trivial⟩
   · intro vs A' W hA hW hd hu K hK; refine wpOp_free _ rfl rfl ?_; (conv => arg 2; whnf); have e9 := sO 9 o9 hA hap hsz; clear hA hd hu o5 o9; go_step; exact hK _ _ kR rfl
   · intro vs A' W hA hW hd hu K hK; refine wpOp_free _ rfl rfl ?_; (conv => arg 2; whnf); have e5 := sO 5 o5 hA hap hsz; clear hA hd hu o5 o9; go_step; exact hK _ _ kR rfl
   · intro vs A' W hA hW hd hu K hK; refine wpOp_free _ rfl rfl ?_; (conv => arg 2; whnf); have e26 := sV 26 (hd 1 (by kernel_rfl)) hA hap hsz; clear hA hd hu o5 o9; go_step
     exact hK _ _ kR (by first | rfl | rw [hm])
   · intro vs A' W hA hW hd hu K hK; refine wpOp_free _ rfl rfl ?_; (conv => arg 2; whnf); have e25 := sV 25 (hd 0 (by kernel_rfl)) hA hap hsz; have e27 := sV 27 (hd 2 (by kernel_rfl)) hA hap hsz; clear hA hd hu o5 o9; go_step
     exact hK _ _ kR (by first | rfl | (congr 1; exact decide_eq_false (by omega)))
   · intro vs A' W hA hW hd hu K hK; refine wpOp_free _ rfl rfl ?_; (conv => arg 2; whnf); have e28 := sV 28 (hd 3 (by kernel_rfl)) hA hap hsz; clear hA hd hu o5 o9; go_step; exact hK _ _ kR rfl
   · intro vs A' W hA hW hd hu K hK; have e29 := sV 29 (hd 4 (by kernel_rfl)) hA hap hsz; refine wpOp_skip _ rfl 4 29 true rfl rfl e29 ?_; exact hK _ _ kR trivial
   · intro vs A' W hA hW hd hu K hK; have e29 := sV 29 (hd 4 (by kernel_rfl)) hA hap hsz; refine wpOp_skip _ rfl 4 29 true rfl rfl e29 ?_; exact hK _ _ kR trivial
   · intro vs A' W hA hW hd hu K hK; have e29 := sV 29 (hd 4 (by kernel_rfl)) hA hap hsz; refine wpOp_skip _ rfl 4 29 true rfl rfl e29 ?_; exact hK _ _ kR trivial
   · intro vs A' W hA hW hd hu K hK; have e29 := sV 29 (hd 4 (by kernel_rfl)) hA hap hsz; refine wpOp_skip _ rfl 4 29 true rfl rfl e29 ?_; exact hK _ _ kR trivial
   · intro vs A' W hA hW hd hu K hK; refine wpOp_free _ rfl rfl ?_; (conv => arg 2; whnf); have e29 := sV 29 (hd 4 (by kernel_rfl)) hA hap hsz
     have e33 := sU 33 8 hA hap hsz
     clear hA hd hu o5 o9; go_step; exact hK _ _ kR rfl
 · intro vs W hW hp
   rw [putAll_eq]
   exact hend _ W sQ hW (sW (hp 9 sB))
theorem rps_r7Y (k m : Nat) (r : ByteArray) (hm : r.size = m) (hk : k < m) (z : Int) (h : List UInt8) (hh : h.length = 32) (A : Option Addr) (n c g7 : Nat) (hb7 : Blk w g7 36 (ntA z h (.slice A n c))) (hsz : a.tmps.size = 93) (o5 : Sl a 5 (.string r)) (o7 : Sl a 7 (.pointer (some ⟨g7, 0, none⟩))) (o9 : Sl a 9 (.int .i64 ((k : Nat) : Int)))
 (hend : ∀ a' W, Same a a' [25, 26, 27, 28, 29, 30, 31, 32, 33, 34] → Kp [] w W → Sl a' 34 (.bool (decide (n ≤ 64))) → Q .normal a' W) : (Code.region 7 (opsOf 7 Tryd.f39).toArray false).wp Tryd.prog Q a w := by
 have hap : apartB (opsOf 7 Tryd.f39) = true := by kernel_rfl
 refine wp_region_invS (l := (opsOf 7 Tryd.f39)) (fun i v W => match i with | 0 => v = .int .i64 ((k : Nat) : Int) | 1 => v = .string r | 2 => v = .int .i64 ((m : Nat) : Int) | 3 => v = .bool true | 4 => v = .bool true | 5 => v = .pointer (some ⟨g7, 33, none⟩) | 6 => v = .slice A n c | 7 => v = .int .i64 ((n : Nat) : Int) | 8 => v = .bool (decide (n ≤ 64)) | 9 => v = .bool (decide (n ≤ 64)) | _ => True) hap ?_ ?_ ?_
 · intro i v W W' h _
   iterate 10 (rcases i with _ | i; · exact h)
   exact h
 · refine ⟨?_, ?_, ?_, ?_, ?_, ?_, ?_, ?_, ?_, ?_, trivial⟩
   · intro vs A' W hA hW hd hu K hK; refine wpOp_free _ rfl rfl ?_; (conv => arg 2; whnf); have e9 := sO 9 o9 hA hap hsz; clear hA hd hu o5 o7 o9; go_step; exact hK _ _ kR rfl
   · intro vs A' W hA hW hd hu K hK; refine wpOp_free _ rfl rfl ?_; (conv => arg 2; whnf); have e5 := sO 5 o5 hA hap hsz; clear hA hd hu o5 o7 o9; go_step; exact hK _ _ kR rfl
   · intro vs A' W hA hW hd hu K hK; refine wpOp_free _ rfl rfl ?_; (conv => arg 2; whnf); have e26 := sV 26 (hd 1 (by kernel_rfl)) hA hap hsz; clear hA hd hu o5 o7 o9; go_step
     exact hK _ _ kR (by first | rfl | rw [hm])
   · intro vs A' W hA hW hd hu K hK; refine wpOp_free _ rfl rfl ?_; (conv => arg 2; whnf); have e25 := sV 25 (hd 0 (by kernel_rfl)) hA hap hsz; have e27 := sV 27 (hd 2 (by kernel_rfl)) hA hap hsz; clear hA hd hu o5 o7 o9; go_step
     exact hK _ _ kR (by first | rfl | (congr 1; exact decide_eq_true (by omega)))
   · intro vs A' W hA hW hd hu K hK; refine wpOp_free _ rfl rfl ?_; (conv => arg 2; whnf); have e28 := sV 28 (hd 3 (by kernel_rfl)) hA hap hsz; clear hA hd hu o5 o7 o9; go_step; exact hK _ _ kR rfl
   · intro vs A' W hA hW hd hu K hK; have e29 := sV 29 (hd 4 (by kernel_rfl)) hA hap hsz; refine wpOp_go _ rfl 4 29 true rfl rfl e29 ?_; (conv => arg 2; whnf); have e7 := sO 7 o7 hA hap hsz; clear hA hd hu o5 o7 o9; go_step; exact hK _ _ kR rfl
   · intro vs A' W hA hW hd hu K hK; have e29 := sV 29 (hd 4 (by kernel_rfl)) hA hap hsz; refine wpOp_go _ rfl 4 29 true rfl rfl e29 ?_; (conv => arg 2; whnf); have e30 := sV 30 (hd 5 (by kernel_rfl)) hA hap hsz; clear hA hd hu o5 o7 o9
     have c0 : W.cell? ⟨g7, 33, none⟩ = some (.slice A n c) := by rw [(hb7.kp hW (by simp)).cell]; exact ntA_sigs hh
     go_step; exact hK _ _ kR rfl
   · intro vs A' W hA hW hd hu K hK; have e29 := sV 29 (hd 4 (by kernel_rfl)) hA hap hsz; refine wpOp_go _ rfl 4 29 true rfl rfl e29 ?_; (conv => arg 2; whnf); have e31 := sV 31 (hd 6 (by kernel_rfl)) hA hap hsz; clear hA hd hu o5 o7 o9; go_step; exact hK _ _ kR rfl
   · intro vs A' W hA hW hd hu K hK; have e29 := sV 29 (hd 4 (by kernel_rfl)) hA hap hsz; refine wpOp_go _ rfl 4 29 true rfl rfl e29 ?_; (conv => arg 2; whnf); have e32 := sV 32 (hd 7 (by kernel_rfl)) hA hap hsz; clear hA hd hu o5 o7 o9; go_step
     exact hK _ _ kR (by first | rfl | (congr 1; by_cases h6 : n ≤ 64 <;> simp [h6] <;> omega))
   · intro vs A' W hA hW hd hu K hK; refine wpOp_free _ rfl rfl ?_; (conv => arg 2; whnf); have e29 := sV 29 (hd 4 (by kernel_rfl)) hA hap hsz; have e33 := sV 33 (hd 8 (by kernel_rfl)) hA hap hsz; clear hA hd hu o5 o7 o9; go_step; exact hK _ _ kR rfl
 · intro vs W hW hp
   rw [putAll_eq]
   exact hend _ W sQ hW (sW (hp 9 sB))
theorem rps_r9 (k : Nat) (r : List UInt8) (x : UInt8) (hx : r[k]? = some x) (b : Bool) (hb : ((x.toNat : Int) != 10) = b) (hsz : a.tmps.size = 93) (o5 : Sl a 5 (.string ⟨(r).toArray⟩)) (o9 : Sl a 9 (.int .i64 ((k : Nat) : Int)))
 (hend : ∀ a', Same a a' [37, 38, 39, 40] → Sl a' 40 (.bool b) → Q .normal a' (w)) : (Code.region 9 (opsOf 9 Tryd.f39).toArray false).wp Tryd.prog Q a w := by
 refine wp_region_lit ?_
 (conv => arg 4; whnf)
 unfold Sl at o5 o9
 have hk := (List.getElem?_eq_some_iff.1 hx).1
 have h0 : 0 ≤ (k : Int) := by omega
 have h1 : (k : Int) < ((ByteArray.mk r.toArray).size : Int) := by rw [str_size]; omega
 go_wp2_with fail
 rw [ba_get hx] at *
 try simp only [Act.put]
 exact hend _ sS sP
theorem rps_r10 (f k : Nat) (r : ByteArray) (hf : f ≤ k) (hk : k ≤ r.size) (t : ByteArray) (ht : r.extract f k = t) (hsz : a.tmps.size = 93) (o5 : Sl a 5 (.string r)) (o8 : Sl a 8 (.int .i64 ((f : Nat) : Int))) (o9 : Sl a 9 (.int .i64 ((k : Nat) : Int)))
 (hend : ∀ a', Same a a' [41, 42, 43, 44, 10] → Sl a' 10 (.string t) → Q .normal a' (w)) : (Code.region 10 (opsOf 10 Tryd.f39).toArray false).wp Tryd.prog Q a w := by
 refine wp_region_lit ?_
 (conv => arg 4; whnf)
 unfold Sl at o5 o8 o9
 have h0 : 0 ≤ (f : Int) := by omega
 have h1 : (f : Int) ≤ (k : Int) := by omega
 have h2 : (k : Int) ≤ (r.size : Int) := by omega
 go_wp2_with fail
 try simp only [Act.put]
 exact hend _ sS sP
theorem rps_r11 (k : Nat) (hk : k < 9223372036854775807) (hsz : a.tmps.size = 93) (o9 : Sl a 9 (.int .i64 ((k : Nat) : Int)))
 (hend : ∀ a', Same a a' [45, 46, 8] → Sl a' 8 (.int .i64 ((k + 1 : Nat) : Int)) → Q .normal a' (w)) : (Code.region 11 (opsOf 11 Tryd.f39).toArray false).wp Tryd.prog Q a w := by
 refine wp_region_lit ?_
 (conv => arg 4; whnf)
 unfold Sl at o9
 have hw : wrap64 ((k : Int) + 1) = (k : Int) + 1 := by unfold wrap64; omega
 go_wp2_with fail
 try simp only [Act.put]
 exact hend _ sS sP
theorem rps_r12  (hsz : a.tmps.size = 93) 
 (hend : ∀ a', Same a a' [11] → Sl a' 11 (.int .i64 ((0 : Nat) : Int)) → Q .normal a' (w)) : (Code.region 12 (opsOf 12 Tryd.f39).toArray false).wp Tryd.prog Q a w := by
 refine wp_region_lit ?_
 (conv => arg 4; whnf)
 go_wp2_with fail
 try simp only [Act.put]
 exact hend _ sS sP
theorem rps_r13N (k m : Nat) (r : ByteArray) (hm : r.size = m) (hk : ¬ k < m) (hsz : a.tmps.size = 93) (o10 : Sl a 10 (.string r)) (o11 : Sl a 11 (.int .i64 ((k : Nat) : Int)))
 (hend : ∀ a' W, Same a a' [47, 48, 49, 50, 51, 52, 53, 54, 55, 56] → Kp [] w W → Sl a' 56 (.bool false) → Q .normal a' W) : (Code.region 13 (opsOf 13 Tryd.f39).toArray false).wp Tryd.prog Q a w := by
 have hap : apartB (opsOf 13 Tryd.f39) = true := by kernel_rfl
 refine wp_region_invS (l := (opsOf 13 Tryd.f39)) (fun i v W => match i with | 0 => v = .int .i64 ((k : Nat) : Int) | 1 => v = .string r | 2 => v = .int .i64 ((m : Nat) : Int) | 3 => v = .bool false | 4 => v = .bool false | 9 => v = .bool false | _ => True) hap ?_ ?_ ?_
 · intro i v W W' h _
   iterate 10 (rcases i with _ | i; · exact h)
   exact h
 · refine ⟨?_, ?_, ?_, ?_, ?_, ?_, ?_, ?_, ?_, ?_, trivial⟩
   · intro vs A' W hA hW hd hu K hK; refine wpOp_free _ rfl rfl ?_; (conv => arg 2; whnf); have e11 := sO 11 o11 hA hap hsz; clear hA hd hu o10 o11; go_step; exact hK _ _ kR rfl
   · intro vs A' W hA hW hd hu K hK; refine wpOp_free _ rfl rfl ?_; (conv => arg 2; whnf); have e10 := sO 10 o10 hA hap hsz; clear hA hd hu o10 o11; go_step; exact hK _ _ kR rfl
   · intro vs A' W hA hW hd hu K hK; refine wpOp_free _ rfl rfl ?_; (conv => arg 2; whnf); have e48 := sV 48 (hd 1 (by kernel_rfl)) hA hap hsz; clear hA hd hu o10 o11; go_step
     exact hK _ _ kR (by first | rfl | rw [hm])
   · intro vs A' W hA hW hd hu K hK; refine wpOp_free _ rfl rfl ?_; (conv => arg 2; whnf); have e47 := sV 47 (hd 0 (by kernel_rfl)) hA hap hsz; have e49 := sV 49 (hd 2 (by kernel_rfl)) hA hap hsz; clear hA hd hu o10 o11; go_step
     exact hK _ _ kR (by first | rfl | (congr 1; exact decide_eq_false (by omega)))
   · intro vs A' W hA hW hd hu K hK; refine wpOp_free _ rfl rfl ?_; (conv => arg 2; whnf); have e50 := sV 50 (hd 3 (by kernel_rfl)) hA hap hsz; clear hA hd hu o10 o11; go_step; exact hK _ _ kR rfl
   · intro vs A' W hA hW hd hu K hK; have e51 := sV 51 (hd 4 (by kernel_rfl)) hA hap hsz; refine wpOp_skip _ rfl 4 51 true rfl rfl e51 ?_; exact hK _ _ kR trivial
   · intro vs A' W hA hW hd hu K hK; have e51 := sV 51 (hd 4 (by kernel_rfl)) hA hap hsz; refine wpOp_skip _ rfl 4 51 true rfl rfl e51 ?_; exact hK _ _ kR trivial
   · intro vs A' W hA hW hd hu K hK; have e51 := sV 51 (hd 4 (by kernel_rfl)) hA hap hsz; refine wpOp_skip _ rfl 4 51 true rfl rfl e51 ?_; exact hK _ _ kR trivial
   · intro vs A' W hA hW hd hu K hK; have e51 := sV 51 (hd 4 (by kernel_rfl)) hA hap hsz; refine wpOp_skip _ rfl 4 51 true rfl rfl e51 ?_; exact hK _ _ kR trivial
   · intro vs A' W hA hW hd hu K hK; refine wpOp_free _ rfl rfl ?_; (conv => arg 2; whnf); have e51 := sV 51 (hd 4 (by kernel_rfl)) hA hap hsz
     have e55 := sU 55 8 hA hap hsz
     clear hA hd hu o10 o11; go_step; exact hK _ _ kR rfl
 · intro vs W hW hp
   rw [putAll_eq]
   exact hend _ W sQ hW (sW (hp 9 sB))
theorem rps_r13Y (k : Nat) (r : List UInt8) (x : UInt8) (hx : r[k]? = some x) (hk : k < r.length) (hsz : a.tmps.size = 93) (o10 : Sl a 10 (.string ⟨(r).toArray⟩)) (o11 : Sl a 11 (.int .i64 ((k : Nat) : Int)))
 (hend : ∀ a' W, Same a a' [47, 48, 49, 50, 51, 52, 53, 54, 55, 56] → Kp [] w W → Sl a' 56 (.bool ((x.toNat : Int) != 32)) → Q .normal a' W) : (Code.region 13 (opsOf 13 Tryd.f39).toArray false).wp Tryd.prog Q a w := by
 have hap : apartB (opsOf 13 Tryd.f39) = true := by kernel_rfl
 refine wp_region_invS (l := (opsOf 13 Tryd.f39)) (fun i v W => match i with | 0 => v = .int .i64 ((k : Nat) : Int) | 1 => v = .string ⟨(r).toArray⟩ | 2 => v = .int .i64 ((r.length : Nat) : Int) | 3 => v = .bool true | 4 => v = .bool true | 5 => v = .string ⟨(r).toArray⟩ | 6 => v = .int .i64 ((k : Nat) : Int) | 7 => v = .int .u8 (x.toNat : Int) | 8 => v = .bool ((x.toNat : Int) != 32) | 9 => v = .bool ((x.toNat : Int) != 32) | _ => True) hap ?_ ?_ ?_
 · intro i v W W' h _
   iterate 10 (rcases i with _ | i; · exact h)
   exact h
 · refine ⟨?_, ?_, ?_, ?_, ?_, ?_, ?_, ?_, ?_, ?_, trivial⟩
   · intro vs A' W hA hW hd hu K hK; refine wpOp_free _ rfl rfl ?_; (conv => arg 2; whnf); have e11 := sO 11 o11 hA hap hsz; clear hA hd hu o10 o11; go_step; exact hK _ _ kR rfl
   · intro vs A' W hA hW hd hu K hK; refine wpOp_free _ rfl rfl ?_; (conv => arg 2; whnf); have e10 := sO 10 o10 hA hap hsz; clear hA hd hu o10 o11; go_step; exact hK _ _ kR rfl
   · intro vs A' W hA hW hd hu K hK; refine wpOp_free _ rfl rfl ?_; (conv => arg 2; whnf); have e48 := sV 48 (hd 1 (by kernel_rfl)) hA hap hsz; clear hA hd hu o10 o11; go_step
     exact hK _ _ kR (by first | rfl | rw [str_size])
   · intro vs A' W hA hW hd hu K hK; refine wpOp_free _ rfl rfl ?_; (conv => arg 2; whnf); have e47 := sV 47 (hd 0 (by kernel_rfl)) hA hap hsz; have e49 := sV 49 (hd 2 (by kernel_rfl)) hA hap hsz; clear hA hd hu o10 o11; go_step
     exact hK _ _ kR (by first | rfl | (congr 1; exact decide_eq_true (by omega)))
   · intro vs A' W hA hW hd hu K hK; refine wpOp_free _ rfl rfl ?_; (conv => arg 2; whnf); have e50 := sV 50 (hd 3 (by kernel_rfl)) hA hap hsz; clear hA hd hu o10 o11; go_step; exact hK _ _ kR rfl
   · intro vs A' W hA hW hd hu K hK; have e51 := sV 51 (hd 4 (by kernel_rfl)) hA hap hsz; refine wpOp_go _ rfl 4 51 true rfl rfl e51 ?_; (conv => arg 2; whnf); have e10 := sO 10 o10 hA hap hsz; clear hA hd hu o10 o11; go_step; exact hK _ _ kR rfl
   · intro vs A' W hA hW hd hu K hK; have e51 := sV 51 (hd 4 (by kernel_rfl)) hA hap hsz; refine wpOp_go _ rfl 4 51 true rfl rfl e51 ?_; (conv => arg 2; whnf); have e11 := sO 11 o11 hA hap hsz; clear hA hd hu o10 o11; go_step; exact hK _ _ kR rfl
   · intro vs A' W hA hW hd hu K hK; have e51 := sV 51 (hd 4 (by kernel_rfl)) hA hap hsz; refine wpOp_go _ rfl 4 51 true rfl rfl e51 ?_; (conv => arg 2; whnf); have e52 := sV 52 (hd 5 (by kernel_rfl)) hA hap hsz; have e53 := sV 53 (hd 6 (by kernel_rfl)) hA hap hsz; clear hA hd hu o10 o11
     have h0 : 0 ≤ (k : Int) := by omega
     have h1 : (k : Int) < ((ByteArray.mk r.toArray).size : Int) := by rw [str_size]; omega
     go_step
     exact hK _ _ kR (congrArg (fun u : UInt8 => Value.int .u8 (u.toNat : Int)) (ba_get hx))
   · intro vs A' W hA hW hd hu K hK; have e51 := sV 51 (hd 4 (by kernel_rfl)) hA hap hsz; refine wpOp_go _ rfl 4 51 true rfl rfl e51 ?_; (conv => arg 2; whnf); have e54 := sV 54 (hd 7 (by kernel_rfl)) hA hap hsz; clear hA hd hu o10 o11; go_step; exact hK _ _ kR rfl
   · intro vs A' W hA hW hd hu K hK; refine wpOp_free _ rfl rfl ?_; (conv => arg 2; whnf); have e51 := sV 51 (hd 4 (by kernel_rfl)) hA hap hsz; have e55 := sV 55 (hd 8 (by kernel_rfl)) hA hap hsz; clear hA hd hu o10 o11; go_step; exact hK _ _ kR rfl
 · intro vs W hW hp
   rw [putAll_eq]
   exact hend _ W sQ hW (sW (hp 9 sB))
theorem rps_r14 (k : Nat) (hk : k < 9223372036854775807) (hsz : a.tmps.size = 93) (o11 : Sl a 11 (.int .i64 ((k : Nat) : Int)))
 (hend : ∀ a', Same a a' [57, 58, 11] → Sl a' 11 (.int .i64 ((k + 1 : Nat) : Int)) → Q .normal a' (w)) : (Code.region 14 (opsOf 14 Tryd.f39).toArray false).wp Tryd.prog Q a w := by
 refine wp_region_lit ?_
 (conv => arg 4; whnf)
 unfold Sl at o11
 have hw : wrap64 ((k : Int) + 1) = (k : Int) + 1 := by unfold wrap64; omega
 go_wp2_with fail
 try simp only [Act.put]
 exact hend _ sS sP
theorem rps_r15 (k m : Nat) (r : ByteArray) (hm : r.size = m) (b : Bool) (hb : ((k : Int) == (m : Int)) = b) (hsz : a.tmps.size = 93) (o10 : Sl a 10 (.string r)) (o11 : Sl a 11 (.int .i64 ((k : Nat) : Int)))
 (hend : ∀ a', Same a a' [59, 60, 61, 62] → Sl a' 62 (.bool b) → Q .normal a' (w)) : (Code.region 15 (opsOf 15 Tryd.f39).toArray false).wp Tryd.prog Q a w := by
 refine wp_region_lit ?_
 (conv => arg 4; whnf)
 unfold Sl at o10 o11
 go_wp2_with fail
 try simp only [Act.put]
 exact hend _ sS sP
theorem rps_r16 (w0 : World) (g2 : Nat) (L : List Res) (S : Held w0 w (blkR g2 36 zeroN :: L)) (hsz : a.tmps.size = 93) (o2 : Sl a 2 (.pointer (some ⟨g2, 0, none⟩)))
 (hend : ∀ a' W, Same a a' [63, 3] → Sl a' 3 (.int .i64 (381 : Int)) → (Held w0 W (blkR g2 36 zeroN :: L)) → Q .normal a' W) : (Code.region 16 (opsOf 16 Tryd.f39).toArray false).wp Tryd.prog Q a w := by
 refine wp_region_lit ?_
 (conv => arg 4; whnf)
 unfold Sl at o2
 have S := Lib.hid S
 have HB0 := Lib.hid Tryd.built_noteZ
 have hzz : Hid (zeroN.size = 34) := Lib.hid rfl
 have hOz : Hid (∀ u, u ∈ zeroN.toList → u.oneCell' = true) := Lib.hid (ntA_one (v := .slice none 0 0) rfl)
 generalize zeroN = cz at *
 go_wp2_with (first | (refine wpList_buildC rfl 36 _ rfl [] (by simp [Act.eval, Act.put]) _ HB0.out ?_) | (refine wpList_store_blk rfl 36 (.tmp 2) (.tmp 63) rfl g2 (by simp [Act.eval, Act.put, hsz, o2]) cz (by simp [Act.eval, Act.put, hsz]) 36 _ (S.out.at_ (l1 := [])) (by rw [hzz.out]; exact Tryd.infoNote) (by rw [hzz.out]) hOz.out ?_; intro w7 b7 k7; have S7 := Lib.hid (Held.setBlk (l1 := []) S.out b7 k7); clear b7 k7))
 try simp only [Act.put]
 exact hend _ _ sS sP (S7.out)
theorem rps_r17 (w0 : World) (s : ByteArray) (u : List UInt8) (hu : u.length = 32) (b : Bool) (L : List Res) (S : Held w0 w L) (HC0 : ∀ V, Calls Tryd.prog 61 #[.string s] V fun e w' => e = .returned (.tuple #[.agg (hashA u), .bool b]) ∧ Kp [] V w') (r : ByteArray) (k : Nat) (hk : k < r.size) (hsm : r.size < 9223372036854775807) (hx : r.extract (k + 1) r.size = s) (hsz : a.tmps.size = 93) (o10 : Sl a 10 (.string r)) (o11 : Sl a 11 (.int .i64 ((k : Nat) : Int)))
 (hend : ∀ a' W, Same a a' [65, 66, 67, 68, 69, 64, 70, 71, 12, 13] → Sl a' 13 (.bool b) → (∃ gh, Sl a' 12 (.pointer (some ⟨gh, 0, none⟩)) ∧ Held w0 W (blkR gh 25 (hashA u) :: L)) → Q .normal a' W) : (Code.region 17 (opsOf 17 Tryd.f39).toArray false).wp Tryd.prog Q a w := by
 refine wp_region_lit ?_
 (conv => arg 4; whnf)
 unfold Sl at o10 o11
 have S := Lib.hid S
 have HC := Lib.hid (HC0 w)
 clear HC0
 have hO := Lib.hid (hashA_one u)
 have hz2 : Hid ((hashA u).size = 32) := Lib.hid (by rw [hashA_size, hu])
 generalize hashA u = ch at *
 have hw : wrap64 ((k : Int) + 1) = (k : Int) + 1 := by unfold wrap64; omega
 have h0 : 0 ≤ (k : Int) + 1 := by omega
 have h1 : (k : Int) + 1 ≤ (r.size : Int) := by omega
 go_wp2_with fail
 refine HC.out.mono ?_
 rintro e w1 ⟨rfl, k1⟩
 have S1 := Lib.hid ((S.out.kp k1).newBlk 25 (hashA (List.replicate 32 0)))
 clear k1
 go_wp2_with (refine wpList_store_blk rfl 25 (.tmp 12) (.tmp 70) rfl w1.heap.size (by simp [Act.eval, Act.put, hsz]) ch (by simp [Act.eval, Act.put, hsz]) 25 _ (S1.out.at_ (l1 := [])) (by rw [hz2.out]; exact Tryd.infoHashP) (by rw [hz2.out]; rfl) hO.out ?_; intro w7 b7 k7; have S7 := Lib.hid (Held.setBlk (l1 := []) S1.out b7 k7); clear b7 k7)
 try simp only [Act.put]
 exact hend _ _ sS sP (⟨_, sP0, S7.out⟩)
theorem rps_r8 (k : Nat) (hk : k < 9223372036854775807) (hsz : a.tmps.size = 93) (o9 : Sl a 9 (.int .i64 ((k : Nat) : Int)))
 (hend : ∀ a', Same a a' [35, 36, 9] → Sl a' 9 (.int .i64 ((k + 1 : Nat) : Int)) → Q .normal a' (w)) : (Code.region 8 (opsOf 8 Tryd.f39).toArray false).wp Tryd.prog Q a w := by
 refine wp_region_lit ?_
 (conv => arg 4; whnf)
 unfold Sl at o9
 have hw : wrap64 ((k : Int) + 1) = (k : Int) + 1 := by unfold wrap64; omega
 go_wp2_with fail
 try simp only [Act.put]
 exact hend _ sS sP
theorem rps_r18 (w0 : World) (z : Int) (h : List UInt8) (hh : h.length = 32) (A : Option Addr) (n c : Nat) (hn : n ≤ 2000000) (xs : List Value) (g7 gh : Nat) (t nm : ByteArray) (k : Nat) (hk : k ≤ t.size) (htk : t.extract 0 k = nm) (s : SigD) (hs : s.2.length = 32) (hnm : strV s.1 = .string nm) (L : List Res) (hsz : a.tmps.size = 93) (o7 : Sl a 7 (.pointer (some ⟨g7, 0, none⟩))) (o10 : Sl a 10 (.string t)) (o11 : Sl a 11 (.int .i64 ((k : Nat) : Int))) (o12 : Sl a 12 (.pointer (some ⟨gh, 0, none⟩)))
 (S0 : Held w0 w (blkR g7 36 (ntA z h (.slice A n c)) :: rowR 81 33 (.slice A n c) n xs :: blkR gh 25 (hashA s.2) :: L))
 (hend : ∀ (a' : Act) (vs : Nat → Value) (gs : Nat → Nat) (W : World), Same a a' [72, 73, 74, 75, 76, 77, 78, 79, 80, 81] → Held w0 W (blkR (gs 7) 81 (sgA s) :: rowR 81 33 (vs 8) (n + 1) (xs ++ (sgA s).toList) :: blkR g7 36 (ntA z h (vs 8)) :: blkR gh 25 (hashA s.2) :: L) → Q .normal a' W) : (Code.region 18 (opsOf 18 Tryd.f39).toArray true).wp Tryd.prog Q a w := by
 have hap : apartB (opsOf 18 Tryd.f39) = true := by kernel_rfl
 refine wp_region_sep (Γ := Nat) (l := (opsOf 18 Tryd.f39)) 4 [0, 1, 2, 3, 4, 5, 6, 7, 8, 9, 10, 13, 14]
  (fun i vs gs => match i with | 0 => vs 0 = .pointer (some ⟨g7, 33, none⟩) | 1 => vs 1 = .slice A n c | 2 => vs 2 = .string t | 3 => vs 3 = .int .i64 ((k : Nat) : Int) | 4 => vs 4 = .string nm | 5 => vs 5 = .agg (hashA s.2) | 6 => vs 6 = .agg (sgA s) | 7 => vs 7 = .slice (some ⟨gs 7, 0, none⟩) 1 1 | 9 => vs 9 = .pointer (some ⟨g7, 33, none⟩) | _ => True)
  (fun i vs gs => match i with | 7 => [blkR (gs 7) 81 (sgA s)] | 8 => [rowR 81 33 (vs 8) (n + 1) (xs ++ (sgA s).toList)] | 10 => [blkR g7 36 (ntA z h (vs 8))] | 11 => [blkR g7 36 (ntA z h (.slice A n c))] | 12 => [rowR 81 33 (.slice A n c) n xs] | 13 => [blkR gh 25 (hashA s.2)] | 14 => L | _ => [])
  (fun i => match i with | 8 => [12] | 10 => [11] | _ => []) (fun i => match i with | 1 => [11] | 5 => [13] | 8 => [7] | 10 => [8] | _ => []) S0 (by kernel_rfl) hap (by kernel_rfl) (by kernel_rfl) (fun i => match i with | 0 => [0] | 1 => [1] | 2 => [2] | 3 => [3] | 4 => [4] | 5 => [5] | 6 => [6] | 7 => [7] | 8 => [8] | 9 => [9] | 10 => [8] | _ => []) (by kernel_rfl) ?_ (by kernel_rfl) ?_ ?_ ?_
 · intro s vs vs' gs gs' h
   iterate 15 (rcases s with _ | s; · (first | exact ⟨rfl, id⟩ | (simp only [List.mem_cons, List.not_mem_nil, or_false, forall_eq] at h; simp [h])))
   exact ⟨rfl, id⟩
 · simp only [List.range, List.range.loop, List.flatMap_cons, List.flatMap_nil, List.append_nil]
   exact List.Perm.refl _
 · clear S0 hend
   refine ⟨?_, ?_, ?_, ?_, ?_, ?_, ?_, ?_, ?_, ?_, ?_, trivial⟩
   · intro vs gs A' W LF hA S hR hd hu K hK; replace hK := hK default; have e7 := sO 7 o7 hA hap hsz; clear hA o7 o10 o11 o12; go_step; exact hK _ _ S rfl
   · intro vs gs A' W LF hA S hR hd hu K hK; replace hK := hK default; have e72 := sV 72 (hd 0 (by kernel_rfl)) hA hap hsz; clear hA o7 o10 o11 o12
     have c33 : W.cell? ⟨g7, 33, none⟩ = some (.slice A n c) := by rw [(show Blk W g7 36 (ntA z h (.slice A n c)) from (S.ok (blkR g7 36 (ntA z h (.slice A n c))) (hR 11 (List.mem_singleton.2 rfl) _ (List.mem_singleton.2 rfl)))).cell]; exact ntA_sigs hh
     go_step; exact hK _ _ S rfl
   · intro vs gs A' W LF hA S hR hd hu K hK; replace hK := hK default; have e10 := sO 10 o10 hA hap hsz; clear hA o7 o10 o11 o12; go_step; exact hK _ _ S rfl
   · intro vs gs A' W LF hA S hR hd hu K hK; replace hK := hK default; have e11 := sO 11 o11 hA hap hsz; clear hA o7 o10 o11 o12; go_step; exact hK _ _ S rfl
   · intro vs gs A' W LF hA S hR hd hu K hK; replace hK := hK default; have e74 := sV 74 (hd 2 (by kernel_rfl)) hA hap hsz; have e75 := sV 75 (hd 3 (by kernel_rfl)) hA hap hsz; clear hA o7 o10 o11 o12
     have h0 : 0 ≤ (k : Int) := by omega
     have h1 : (k : Int) ≤ (t.size : Int) := by omega
     go_step
     exact hK _ _ S (by first | rfl | rw [htk])
   · intro vs gs A' W LF hA S hR hd hu K hK; replace hK := hK default; have e12 := sO 12 o12 hA hap hsz; clear hA o7 o10 o11 o12
     refine op_runs (v := .agg (hashA s.2)) (w' := W) (exec_load rfl (by simpa [Act.eval] using e12) (run_loadAt_agg W (⟨gh, 0, none⟩) 25 (hashA s.2).toList _ (Blk.agg (show Blk W gh 25 (hashA s.2) from (S.ok (blkR gh 25 (hashA s.2)) (hR 13 (List.mem_singleton.2 rfl) _ (List.mem_singleton.2 rfl))))) Tryd.underlying25 rfl (by rw [Array.length_toList, hashA_size, hs]; exact Tryd.infoHashP))) ?_
     exact hK _ _ S rfl
   · intro vs gs A' W LF hA S hR hd hu K hK; replace hK := hK default; have e76 := sV 76 (hd 4 (by kernel_rfl)) hA hap hsz; have e77 := sV 77 (hd 5 (by kernel_rfl)) hA hap hsz; clear hA o7 o10 o11 o12
     refine op_build 81 _ rfl [(0, .string nm), (1, .agg (hashA s.2))] (by simp [Act.eval, e76, e77]) _ (hnm ▸ Tryd.built_sig s hs) ?_
     exact hK _ _ S rfl
   · intro vs gs A' W LF hA S hR hd hu K hK; have e78 := sV 78 (hd 6 (by kernel_rfl)) hA hap hsz; clear hA o7 o10 o11 o12
     refine op_sigs1 (.tmp 78) rfl (sgA s) (sgA_size hs) (by simpa [Act.eval] using e78) ?_
     exact hK W.heap.size _ _ (S.newBlk _ _) rfl
   · intro vs gs A' W LF hA S hR hd hu K hK; replace hK := hK default; have e73 := sV 73 (hd 1 (by kernel_rfl)) hA hap hsz; have e79 := sV 79 (hd 7 (by kernel_rfl)) hA hap hsz; clear hA o7 o10 o11 o12
     refine op_app (.tmp 73) (.tmp 79) 34 81 rfl Tryd.infoSigZ Tryd.underlying34 rfl (by decide) (.slice A n c) n xs (by simpa [Act.eval] using e73) S (.slice (some ⟨gs 7, 0, none⟩) 1 1) 1 (sgA s).toList (by simpa [Act.eval] using e79) (rd_sig1 (show Blk W (gs 7) 81 (sgA s) from S.ok (blkR (gs 7) 81 (sgA s)) (List.mem_cons_of_mem _ (hR 7 (List.mem_singleton.2 rfl) _ (List.mem_singleton.2 rfl)))) hs) (sgA_one _) (by unfold maxLen; omega) (by omega) (fun v' w' S' => hK v' w' S' trivial)
   · intro vs gs A' W LF hA S hR hd hu K hK; replace hK := hK default; have e7 := sO 7 o7 hA hap hsz; clear hA o7 o10 o11 o12; go_step; exact hK _ _ S rfl
   · intro vs gs A' W LF hA S hR hd hu K hK; replace hK := hK default; have e81 := sV 81 (hd 9 (by kernel_rfl)) hA hap hsz
     have e80 := sU 80 8 hA hap hsz
     clear hA o7 o10 o11 o12
     have S1 : Held w0 W (blkR g7 36 (ntA z h (.slice A n c)) :: LF) := S
     obtain ⟨A6, c6, e6', -, -⟩ := ow_form (show Ow W 81 33 (vs 8) (n + 1) (xs ++ (sgA s).toList) from S1.ok (rowR 81 33 (vs 8) (n + 1) (xs ++ (sgA s).toList)) (List.mem_cons_of_mem _ (hR 8 (List.mem_singleton.2 rfl) _ (List.mem_singleton.2 rfl))))
     have S2 := S1.set (l1 := []) 33 (.slice A6 (n + 1) c6)
     rw [ntA_setSigs hh, show ntA z h (.slice A6 (n + 1) c6) = ntA z h (vs 8) from by rw [e6']] at S2
     have c33 : W.cell? ⟨g7, 33, none⟩ = some (.slice A n c) := by rw [(S1.at_ (l1 := [])).cell]; exact ntA_sigs hh
     have f33 := (show Blk W g7 _ _ from S1.at_ (l1 := [])).frozen 33
     rw [e6'] at e80
     go_step
     exact hK undef _ S2 trivial
 · intro vs gs W S hp
   have S : Held w0 W (blkR (gs 7) 81 (sgA s) :: rowR 81 33 (vs 8) (n + 1) (xs ++ (sgA s).toList) :: blkR g7 36 (ntA z h (vs 8)) :: blkR gh 25 (hashA s.2) :: L) := by simpa only [List.flatMap_cons, List.flatMap_nil, List.append_nil, List.nil_append, List.cons_append, List.append_assoc] using S
   rw [putAll_eq]
   exact hend _ vs gs W sQ  S
theorem rps_r19N (z : Int) (hz : -9223372036854775808 ≤ z ∧ z ≤ 9223372036854775807) (h : List UInt8) (hh : h.length = 32) (A : Option Addr) (c : Nat) (l : List SigD) (hok : SgOk l) (hll : l.length ≤ 9223372036854775807) (g7 : Nat) (hb7 : Blk w g7 36 (ntA z h (.slice A l.length c))) (hv : Rd w 33 (.slice A l.length c) l.length (sgsC l)) (hm : mayN z l = false) (hsz : a.tmps.size = 93) (o7 : Sl a 7 (.pointer (some ⟨g7, 0, none⟩)))
 (hend : ∀ a' W, Same a a' [82, 83, 84, 85, 86, 87, 88, 89, 90] → Kp [] w W → Sl a' 90 (.bool true) → Q .normal a' W) : (Code.region 19 (opsOf 19 Tryd.f39).toArray false).wp Tryd.prog Q a w := by
 have hap : apartB (opsOf 19 Tryd.f39) = true := by kernel_rfl
 refine wp_region_invS (l := (opsOf 19 Tryd.f39)) (fun i v W => match i with | 0 => v = .agg (ntA z h (.slice A l.length c)) | 1 => v = .bool false | 2 => v = .bool true | 3 => v = .bool true | 8 => v = .bool true | _ => True) hap ?_ ?_ ?_
 · intro i v W W' h _
   iterate 9 (rcases i with _ | i; · exact h)
   exact h
 · refine ⟨?_, ?_, ?_, ?_, ?_, ?_, ?_, ?_, ?_, trivial⟩
   · intro vs A' W hA hW hd hu K hK; refine wpOp_free _ rfl rfl ?_; (conv => arg 2; whnf); have e7 := sO 7 o7 hA hap hsz; clear hA hd hu o7
     refine op_runs (v := .agg (ntA z h (.slice A l.length c))) (w' := W) (exec_load rfl (by simpa [Act.eval] using e7) (run_loadAt_agg W (⟨g7, 0, none⟩) 36 (ntA z h (.slice A l.length c)).toList _ (Blk.agg (hb7.kp hW (by simp))) Tryd.underlying36 rfl (by rw [Array.length_toList, ntA_size hh]; exact Tryd.infoNote))) ?_
     exact hK _ _ kR rfl
   · intro vs A' W hA hW hd hu K hK; refine wpOp_free _ rfl rfl ?_; (conv => arg 2; whnf); have e82 := sV 82 (hd 0 (by kernel_rfl)) hA hap hsz; clear hA hd hu o7; go_step
     refine (rmay_any z hz h hh l hok hll A c W (rd_old hv hW)).mono ?_
     rintro e w' ⟨rfl, k⟩
     exact hK _ _ k (congrArg Value.bool hm)
   · intro vs A' W hA hW hd hu K hK; refine wpOp_free _ rfl rfl ?_; (conv => arg 2; whnf); have e83 := sV 83 (hd 1 (by kernel_rfl)) hA hap hsz; clear hA hd hu o7; go_step; exact hK _ _ kR rfl
   · intro vs A' W hA hW hd hu K hK; refine wpOp_free _ rfl rfl ?_; (conv => arg 2; whnf); have e84 := sV 84 (hd 2 (by kernel_rfl)) hA hap hsz; clear hA hd hu o7; go_step; exact hK _ _ kR rfl
   · intro vs A' W hA hW hd hu K hK; have e85 := sV 85 (hd 3 (by kernel_rfl)) hA hap hsz; refine wpOp_skip _ rfl 3 85 false rfl rfl e85 ?_; exact hK _ _ kR trivial
   · intro vs A' W hA hW hd hu K hK; have e85 := sV 85 (hd 3 (by kernel_rfl)) hA hap hsz; refine wpOp_skip _ rfl 3 85 false rfl rfl e85 ?_; exact hK _ _ kR trivial
   · intro vs A' W hA hW hd hu K hK; have e85 := sV 85 (hd 3 (by kernel_rfl)) hA hap hsz; refine wpOp_skip _ rfl 3 85 false rfl rfl e85 ?_; exact hK _ _ kR trivial
   · intro vs A' W hA hW hd hu K hK; have e85 := sV 85 (hd 3 (by kernel_rfl)) hA hap hsz; refine wpOp_skip _ rfl 3 85 false rfl rfl e85 ?_; exact hK _ _ kR trivial
   · intro vs A' W hA hW hd hu K hK; refine wpOp_free _ rfl rfl ?_; (conv => arg 2; whnf); have e85 := sV 85 (hd 3 (by kernel_rfl)) hA hap hsz
     have e89 := sU 89 7 hA hap hsz
     clear hA hd hu o7; go_step; exact hK _ _ kR rfl
 · intro vs W hW hp
   rw [putAll_eq]
   exact hend _ W sQ hW (sW (hp 8 sB))
theorem rps_r19Y (z : Int) (hz : -9223372036854775808 ≤ z ∧ z ≤ 9223372036854775807) (h : List UInt8) (hh : h.length = 32) (A : Option Addr) (c : Nat) (l : List SigD) (hok : SgOk l) (hll : l.length ≤ 9223372036854775807) (g7 : Nat) (hb7 : Blk w g7 36 (ntA z h (.slice A l.length c))) (hv : Rd w 33 (.slice A l.length c) l.length (sgsC l)) (hm : mayN z l = true) (t s : ByteArray) (b : Bool) (hb : (t.toList != s.toList) = b) (HT : ∀ V, Kp [] w V → Calls Tryd.prog 56 #[.agg (ntA z h (.slice A l.length c))] V fun e w' => e = .returned (.string t) ∧ Kp [] V w') (hsz : a.tmps.size = 93) (o0 : Sl a 0 (.string s)) (o7 : Sl a 7 (.pointer (some ⟨g7, 0, none⟩)))
 (hend : ∀ a' W, Same a a' [82, 83, 84, 85, 86, 87, 88, 89, 90] → Kp [] w W → Sl a' 90 (.bool b) → Q .normal a' W) : (Code.region 19 (opsOf 19 Tryd.f39).toArray false).wp Tryd.prog Q a w := by
 have hap : apartB (opsOf 19 Tryd.f39) = true := by kernel_rfl
 refine wp_region_invS (l := (opsOf 19 Tryd.f39)) (fun i v W => match i with | 0 => v = .agg (ntA z h (.slice A l.length c)) | 1 => v = .bool true | 2 => v = .bool false | 3 => v = .bool false | 4 => v = .agg (ntA z h (.slice A l.length c)) | 5 => v = .string t | 6 => v = .string s | 7 => v = .bool b | 8 => v = .bool b | _ => True) hap ?_ ?_ ?_
 · intro i v W W' h _
   iterate 9 (rcases i with _ | i; · exact h)
   exact h
 · refine ⟨?_, ?_, ?_, ?_, ?_, ?_, ?_, ?_, ?_, trivial⟩
   · intro vs A' W hA hW hd hu K hK; refine wpOp_free _ rfl rfl ?_; (conv => arg 2; whnf); have e7 := sO 7 o7 hA hap hsz; clear hA hd hu o0 o7
     refine op_runs (v := .agg (ntA z h (.slice A l.length c))) (w' := W) (exec_load rfl (by simpa [Act.eval] using e7) (run_loadAt_agg W (⟨g7, 0, none⟩) 36 (ntA z h (.slice A l.length c)).toList _ (Blk.agg (hb7.kp hW (by simp))) Tryd.underlying36 rfl (by rw [Array.length_toList, ntA_size hh]; exact Tryd.infoNote))) ?_
     exact hK _ _ kR rfl
   · intro vs A' W hA hW hd hu K hK; refine wpOp_free _ rfl rfl ?_; (conv => arg 2; whnf); have e82 := sV 82 (hd 0 (by kernel_rfl)) hA hap hsz; clear hA hd hu o0 o7; go_step
     refine (rmay_any z hz h hh l hok hll A c W (rd_old hv hW)).mono ?_
     rintro e w' ⟨rfl, k⟩
     exact hK _ _ k (congrArg Value.bool hm)
   · intro vs A' W hA hW hd hu K hK; refine wpOp_free _ rfl rfl ?_; (conv => arg 2; whnf); have e83 := sV 83 (hd 1 (by kernel_rfl)) hA hap hsz; clear hA hd hu o0 o7; go_step; exact hK _ _ kR rfl
   · intro vs A' W hA hW hd hu K hK; refine wpOp_free _ rfl rfl ?_; (conv => arg 2; whnf); have e84 := sV 84 (hd 2 (by kernel_rfl)) hA hap hsz; clear hA hd hu o0 o7; go_step; exact hK _ _ kR rfl
   · intro vs A' W hA hW hd hu K hK; have e85 := sV 85 (hd 3 (by kernel_rfl)) hA hap hsz; refine wpOp_go _ rfl 3 85 false rfl rfl e85 ?_; (conv => arg 2; whnf); have e7 := sO 7 o7 hA hap hsz; clear hA hd hu o0 o7
     refine op_runs (v := .agg (ntA z h (.slice A l.length c))) (w' := W) (exec_load rfl (by simpa [Act.eval] using e7) (run_loadAt_agg W (⟨g7, 0, none⟩) 36 (ntA z h (.slice A l.length c)).toList _ (Blk.agg (hb7.kp hW (by simp))) Tryd.underlying36 rfl (by rw [Array.length_toList, ntA_size hh]; exact Tryd.infoNote))) ?_
     exact hK _ _ kR rfl
   · intro vs A' W hA hW hd hu K hK; have e85 := sV 85 (hd 3 (by kernel_rfl)) hA hap hsz; refine wpOp_go _ rfl 3 85 false rfl rfl e85 ?_; (conv => arg 2; whnf); have e86 := sV 86 (hd 4 (by kernel_rfl)) hA hap hsz; clear hA hd hu o0 o7; go_step
     refine (HT W hW).mono ?_
     rintro e w' ⟨rfl, k⟩
     exact hK _ _ k rfl
   · intro vs A' W hA hW hd hu K hK; have e85 := sV 85 (hd 3 (by kernel_rfl)) hA hap hsz; refine wpOp_go _ rfl 3 85 false rfl rfl e85 ?_; (conv => arg 2; whnf); have e0 := sO 0 o0 hA hap hsz; clear hA hd hu o0 o7; go_step; exact hK _ _ kR rfl
   · intro vs A' W hA hW hd hu K hK; have e85 := sV 85 (hd 3 (by kernel_rfl)) hA hap hsz; refine wpOp_go _ rfl 3 85 false rfl rfl e85 ?_; (conv => arg 2; whnf); have e87 := sV 87 (hd 5 (by kernel_rfl)) hA hap hsz; have e88 := sV 88 (hd 6 (by kernel_rfl)) hA hap hsz; clear hA hd hu o0 o7; go_step
     exact hK _ _ kR (by first | rfl | exact congrArg Value.bool hb)
   · intro vs A' W hA hW hd hu K hK; refine wpOp_free _ rfl rfl ?_; (conv => arg 2; whnf); have e85 := sV 85 (hd 3 (by kernel_rfl)) hA hap hsz; have e89 := sV 89 (hd 7 (by kernel_rfl)) hA hap hsz; clear hA hd hu o0 o7; go_step; exact hK _ _ kR rfl
 · intro vs W hW hp
   rw [putAll_eq]
   exact hend _ W sQ hW (sW (hp 8 sB))
theorem rps_r20 (w0 : World) (g2 : Nat) (L : List Res) (S : Held w0 w (blkR g2 36 zeroN :: L)) (hsz : a.tmps.size = 93) (o2 : Sl a 2 (.pointer (some ⟨g2, 0, none⟩)))
 (hend : ∀ a' W, Same a a' [91, 3] → Sl a' 3 (.int .i64 (381 : Int)) → (Held w0 W (blkR g2 36 zeroN :: L)) → Q .normal a' W) : (Code.region 20 (opsOf 20 Tryd.f39).toArray false).wp Tryd.prog Q a w := by
 refine wp_region_lit ?_
 (conv => arg 4; whnf)
 unfold Sl at o2
 have S := Lib.hid S
 have HB0 := Lib.hid Tryd.built_noteZ
 have hzz : Hid (zeroN.size = 34) := Lib.hid rfl
 have hOz : Hid (∀ u, u ∈ zeroN.toList → u.oneCell' = true) := Lib.hid (ntA_one (v := .slice none 0 0) rfl)
 generalize zeroN = cz at *
 go_wp2_with (first | (refine wpList_buildC rfl 36 _ rfl [] (by simp [Act.eval, Act.put]) _ HB0.out ?_) | (refine wpList_store_blk rfl 36 (.tmp 2) (.tmp 91) rfl g2 (by simp [Act.eval, Act.put, hsz, o2]) cz (by simp [Act.eval, Act.put, hsz]) 36 _ (S.out.at_ (l1 := [])) (by rw [hzz.out]; exact Tryd.infoNote) (by rw [hzz.out]) hOz.out ?_; intro w7 b7 k7; have S7 := Lib.hid (Held.setBlk (l1 := []) S.out b7 k7); clear b7 k7))
 try simp only [Act.put]
 exact hend _ _ sS sP (S7.out)
theorem rps_r21 (w0 : World) (g7 g2 : Nat) (cn : Array Value) (hcn : cn.size = 34) (h1 : ∀ u, u ∈ cn.toList → u.oneCell' = true) (L : List Res) (S : Held w0 w (blkR g2 36 zeroN :: blkR g7 36 cn :: L)) (hsz : a.tmps.size = 93) (o2 : Sl a 2 (.pointer (some ⟨g2, 0, none⟩))) (o7 : Sl a 7 (.pointer (some ⟨g7, 0, none⟩)))
 (hend : ∀ a' W, Same a a' [92, 3] → Sl a' 3 (.int .i64 (0 : Int)) → (Held w0 W (blkR g2 36 cn :: blkR g7 36 cn :: L)) → Q .normal a' W) : (Code.region 21 (opsOf 21 Tryd.f39).toArray false).wp Tryd.prog Q a w := by
 refine wp_region_lit ?_
 (conv => arg 4; whnf)
 unfold Sl at o2 o7
 have S1 := Lib.hid S
 clear S
 have hz2 := Lib.hid hcn
 have HO := Lib.hid h1
 clear hcn h1
 go_wp2_with (first
  | (refine wpList_load_blk rfl 36 (.tmp 7) rfl g7 (by simp [Act.eval, Act.put, hsz, o7]) 36 _ (S1.out.at_ (l1 := [_])) _ Tryd.underlying36 rfl (by rw [hz2.out]; exact Tryd.infoNote) ?_)
  | (refine wpList_store_blk rfl 36 (.tmp 2) (.tmp 92) rfl g2 (by simp [Act.eval, Act.put, hsz, o2]) cn (by simp [Act.eval, Act.put, hsz]) 36 _ (S1.out.at_ (l1 := [])) (by rw [hz2.out]; exact Tryd.infoNote) (by rw [hz2.out]; rfl) HO.out ?_; intro w7 b7 k7; have S7 := Lib.hid (Held.setBlk (l1 := []) S1.out b7 k7); clear b7 k7))
 try simp only [Act.put]
 exact hend _ _ sS sP (S7.out)
end
/- Parse of the reference: the walk. -/
section
open Go.RowKit
theorem idx_step {r : List UInt8} {c : UInt8} : ∀ {j : Nat}, j < r.idxOf c → ∃ b, r[j]? = some b ∧ b ≠ c := by
 intro j hj
 have h1 : j < r.length := Nat.lt_of_lt_of_le hj List.idxOf_le_length
 exact ⟨r[j], List.getElem?_eq_getElem h1, by simpa using List.not_of_lt_findIdx (p := (· == c)) (by simpa [List.idxOf] using hj)⟩
theorem idx_at {r : List UInt8} {c : UInt8} (h : r.idxOf c < r.length) : r[r.idxOf c]? = some c := by
 rw [List.getElem?_eq_getElem h, List.getElem_idxOf h]
def lnA (ls : List (List UInt8)) : Array Value := ((ls ++ List.replicate (3 - ls.length) []).map fun (l : List UInt8) => Value.string ⟨l.toArray⟩).toArray
theorem lnA_get (ls : List (List UInt8)) (k : Nat) (hk : k < ls.length) : (lnA ls)[k]? = some (.string ⟨(ls[k]).toArray⟩) := by
 simp [lnA, List.getElem?_append_left, hk]
theorem lnA_next (ls : List (List UInt8)) (h : ls.length < 3) : (lnA ls)[ls.length]? = some (.string ⟨#[]⟩) := by
 have : 0 < 3 - ls.length := by omega
 simp [lnA, this]
theorem lnA_set (ls : List (List UInt8)) (l : List UInt8) (h : ls.length < 3) : (lnA ls).setIfInBounds ls.length (.string ⟨l.toArray⟩) = lnA (ls ++ [l]) := by
 apply Array.ext'
 obtain ⟨m, hm⟩ : ∃ m, 3 - ls.length = m + 1 := ⟨2 - ls.length, by omega⟩
 have hm' : 3 - (ls ++ [l]).length = m := by simp; omega
 simp [lnA, hm, List.map_append, List.replicate_succ]
 omega
theorem ext_seg (s : ByteArray) (r : List UInt8) (p j : Nat) (h : s.data.toList.drop p = r) : s.extract p (p + j) = ⟨(r.take j).toArray⟩ := by
 have : (s.extract p (p + j)).data.toList = r.take j := by
  rw [← h]
  simp [ByteArray.data_extract]
 rw [← this]
theorem rparse_any (s : ByteArray) (hs : s.size ≤ 140737488355328) (w : World) : Calls Tryd.prog 60 #[.string s] w (ParsePost s.data.toList w) := by
 have HZ : Hid (zeroP.size = 33) := Lib.hid rfl
 have HZO := Lib.hid (ptA_one 0 (List.replicate 32 0))
 have HSz := Lib.hid (Lib.size_eq s)
 have S0 := Lib.hid (((Held.start w).newBlk 33 zeroP).newBlk 129 (lnA []))
 rw [World.size_alloc] at S0
 go_enter Tryd.func60, Tryd.ntmps60
 go_wp2_with fail
 obtain ⟨g2, hg2⟩ : ∃ g2, w.heap.size = g2 := ⟨_, rfl⟩
 obtain ⟨g5, hg5⟩ : ∃ g5, g2 + 1 = g5 := ⟨_, rfl⟩
 rw [hg2, hg5] at S0 ⊢
 clear hg2 hg5
 go_loopw [6, 7] (fun at_ i wr => ∃ (k p : Nat) (ls : List (List UInt8)) (r : List UInt8), k ≤ 3 ∧ at_ = .int .i64 p ∧ i = .int .i64 k ∧ Hid (lnK s.data.toList k = some (ls, r) ∧ ls.length = k ∧ s.data.toList.drop p = r) ∧ p + r.length = s.size ∧ Held w wr [blkR g5 129 (lnA ls), blkR g2 33 zeroP]) (fun _ i _ => 3 - (intOf i).toNat)
 case atStart => exact ⟨0, 0, [], _, by omega, rfl, rfl, Lib.hid ⟨rfl, rfl, rfl⟩, by rw [← HSz.out]; omega, S0.out⟩
 case round =>
  clear S0
  obtain ⟨k, p, ls, r, hk, rfl, rfl, HK, hpr, S⟩ := hrel
  have HS := Lib.hid S
  clear S
  by_cases hlt : k < 3
  · go_wp2_with fail
    have hixl : r.idxOf 10 ≤ r.length := List.idxOf_le_length
    obtain ⟨ix, Hix⟩ : ∃ ix, Hid (r.idxOf 10 = ix) := ⟨_, Lib.hid rfl⟩
    rw [Hix.out] at hixl
    go_loopw [6] (fun q wi => ∃ j : Nat, j ≤ ix ∧ q = .int .i64 ((p : Int) + j) ∧ wi = wr) (fun q _ => ix - (intOf q - p).toNat)
    case atStart => exact ⟨0, by omega, by go_num, rfl⟩
    case round =>
     obtain ⟨j, hj, rfl, rfl⟩ := hrel
     by_cases hjx : j < ix
     · obtain ⟨b, hb, hb10⟩ := idx_step (r := r) (c := 10) (j := j) (by rw [Hix.out]; exact hjx)
       have hps : p + j < s.size := by omega
       have hbs : s[p + j] = b := by
        have h := HK.out.2.2
        rw [← h, List.getElem?_drop, List.getElem?_eq_getElem (by rw [← HSz.out]; exact hps)] at hb
        exact Option.some.inj hb
       have q1 := fun V => run_str_indexZ s (p + j) ((p : Int) + j) (by omega) hps V
       rw [hbs] at q1
       have hb2 : ((b.toNat : Int) != 10) = true := by
        simp only [bne_iff_ne, ne_eq]
        intro h
        apply hb10
        apply UInt8.toNat.inj
        show b.toNat = 10
        omega
       have hpj : (p : Int) + j < s.size := by omega
       clear hbs hb hb10
       go_wp2
       go_roundw
       case rel => exact ⟨j + 1, by omega, by go_num, trivial⟩
       case measure => simp [intOf]; omega
     · obtain rfl : j = ix := by omega
       clear hjx hj
       by_cases hin : j < r.length
       · have hm : (10 : UInt8) ∈ r := List.idxOf_lt_length_iff.1 (by rw [Hix.out]; exact hin)
         have hps : p + j < s.size := by omega
         have hbs : s[p + j] = 10 := by
          have hb := idx_at (r := r) (c := 10) (by rw [Hix.out]; exact hin)
          rw [Hix.out, ← HK.out.2.2, List.getElem?_drop, List.getElem?_eq_getElem (by rw [← HSz.out]; exact hps)] at hb
          exact Option.some.inj hb
         have q1 := fun V => run_str_indexZ s (p + j) ((p : Int) + j) (by omega) hps V
         rw [hbs] at q1
         clear hbs
         have HN := Lib.hid (lnK_go HK.out.1 hm)
         rw [ct_yes hm, Hix.out] at HN
         have hpj : (p : Int) + j < s.size := by omega
         have hpj2 : ((p : Int) + j == s.size) = false := beq_false_of_ne (by omega)
         have hpj3 : (p : Int) ≤ (p : Int) + j := by omega
         have hex := ext_seg s r p j HK.out.2.2
         have hcell := (HS.out.at_ (l1 := [])).cell k
         rw [← HK.out.2.1, lnA_next ls (by rw [HK.out.2.1]; omega), HK.out.2.1] at hcell
         have hfr := (HS.out.at_ (l1 := [])).frozen k
         have hblt := (HS.out.at_ (l1 := [])).lt
         have S1 := HS.out.set (l1 := []) k (.string ⟨(r.take j).toArray⟩)
         have hls := lnA_set ls (r.take j) (by rw [HK.out.2.1]; exact hlt)
         rw [HK.out.2.1] at hls
         rw [hls] at S1
         have S1 := Lib.hid S1
         clear hls
         have Hps := Lib.hid hps
         clear hps
         go_wp2
         go_roundw
         case rel =>
          exact ⟨k + 1, p + j + 1, ls ++ [r.take j], r.drop (j + 1), by omega, by go_num, by go_num, Lib.hid ⟨HN.out, by rw [List.length_append, HK.out.2.1]; rfl, by rw [← HK.out.2.2, List.drop_drop]; rfl⟩, by rw [List.length_drop]; omega, S1.out⟩
         case measure => simp [intOf]; omega
       · have hm : (10 : UInt8) ∉ r := fun h => hin (by rw [← Hix.out]; exact idx_lt h)
         have HR : Hid (PT s.data.toList = none) := Lib.hid (PT_none (ln3_none (k := k + 1) (by omega) (lnK_stop HK.out.1 hm)))
         have HP := Lib.hid (PVs_none HR.out)
         have hpj : ¬ (p : Int) + j < s.size := by omega
         have hpj2 : ((p : Int) + j == s.size) = true := by rw [show (p : Int) + j = s.size from by omega]; exact beq_self_eq_true _
         clear hm
         go_wp2_with (refine wpList_store_blk rfl 33 (.tmp 2) (.tmp 35) rfl g2 rfl zeroP rfl 33 _ (HS.out.at_ (l1 := [_])) (by rw [HZ.out]; exact Tryd.infoPointP) rfl HZO.out ?_; intro w4 b4 k4; have S4 := Lib.hid (Held.setBlk (l1 := [_]) HS.out b4 k4); clear b4 k4)
         try rw [Exit.noGoto_ret]
         refine bodyPost_ret (results_cell_tmp2P (by rfl) rfl (S4.out.at_ (l1 := [_])) Tryd.underlying33 rfl (by rw [HZ.out]; exact Tryd.infoPointP)) rfl ?_
         exact ⟨by rw [HP.out.1, HP.out.2]; rfl, S4.out.k⟩
  · obtain rfl : k = 3 := by omega
    clear hk hlt
    obtain ⟨l0, l1, l, rfl⟩ : ∃ l0 l1 l, ls = [l0, l1, l] := by
     match ls, HK.out.2.1 with
     | [a, b, c], _ => exact ⟨a, b, c, rfl⟩
    have HL3 : Hid (ln3 s.data.toList = some (l0, l1, l, r)) := Lib.hid (by rw [ln3_of, HK.out.1])
    go_wp2_with fail
    have hcell := (HS.out.at_ (l1 := [])).cell 1
    rw [lnA_get [l0, l1, l] 1 (Nat.le_of_ble_eq_true rfl)] at hcell
    simp only [List.getElem_cons_succ, List.getElem_cons_zero] at hcell
    go_loopw [9, 10] (fun n i wi => ∃ j : Nat, j ≤ l1.length ∧ j ≤ 19 ∧ n = .int .i64 ((l1.take j).foldl rvS 0) ∧ i = .int .i64 j ∧ wi = wr) (fun _ i _ => 19 - (intOf i).toNat)
    case atStart => exact ⟨0, by omega, by omega, rfl, rfl, rfl⟩
    case round =>
     obtain ⟨j, hj1, hj2, rfl, rfl, rfl⟩ := hrel
     by_cases h12 : j < l1.length ∧ j < 19
     · obtain ⟨h1, h2⟩ := h12
       · have q1 := fun V => run_str_indexZ ⟨l1.toArray⟩ j (j : Int) rfl (by rw [Lib.size_eq]; exact h1) V
         obtain ⟨c, hc⟩ : ∃ c, l1[j]? = some c := ⟨l1[j], List.getElem?_eq_getElem h1⟩
         have hc2 : (⟨l1.toArray⟩ : ByteArray)[j]'(by rw [Lib.size_eq]; exact h1) = c := by
          have := List.getElem?_eq_getElem h1
          rw [hc] at this
          exact (Option.some.inj this).symm
         rw [hc2] at q1
         clear hc2
         have HF : Hid ((l1.take (j + 1)).foldl rvS 0 = rvS ((l1.take j).foldl rvS 0) c) := Lib.hid (by rw [List.take_add_one, hc, List.foldl_append]; rfl)
         obtain ⟨n, Hn⟩ : ∃ n, Hid ((l1.take j).foldl rvS 0 = n) := ⟨_, Lib.hid rfl⟩
         rw [Hn.out] at HF ⊢
         clear hc
         go_wp2
         go_roundw
         case rel => exact ⟨j + 1, by omega, by omega, by rw [HF.out]; unfold rvS; congr 1; unfold wrap64; omega, by go_num, trivial⟩
         case measure => simp [intOf]; omega
     · have HV : Hid ((l1.take j).foldl rvS 0 = rv l1) := Lib.hid (by
        unfold rv
        congr 1
        by_cases e : j < l1.length
        · rw [show j = 19 from by omega]
        · rw [List.take_of_length_le (by omega), List.take_of_length_le (by omega)])
       have hzb := rv_bounds l1
       have HPT := Lib.hid (PT_by HL3.out (rv l1) hzb (fun n hn e => by rw [e]; exact rv_dec hn))
       obtain ⟨z, Hz⟩ : ∃ z, Hid (rv l1 = z) := ⟨_, Lib.hid rfl⟩
       rw [Hz.out] at hzb HPT HV
       rw [HV.out]
       have hz1' := hzb.1
       have hz2' := hzb.2
       have hcell2 := (HS.out.at_ (l1 := [])).cell 2
       rw [lnA_get [l0, l1, l] 2 (Nat.le_of_ble_eq_true rfl)] at hcell2
       simp only [List.getElem_cons_succ, List.getElem_cons_zero] at hcell2
       have hor : (¬ j < l1.length) ∨ (j < l1.length ∧ ¬ j < 19) := by omega
       clear h12
       rcases hor with h1 | ⟨h1, h2⟩
       all_goals
        go_wp2_with fail
        refine (runhex_any ⟨l.toArray⟩ _).mono ?_
        rintro e w3 ⟨rfl, k3⟩
        rw [show (⟨l.toArray⟩ : ByteArray).data.toList = l from rfl]
        have hulen := UH_len l
        obtain ⟨hh, Hhh⟩ : ∃ hh, Hid ((UH l).1 = hh) := ⟨_, Lib.hid rfl⟩
        rw [Hhh.out] at hulen HPT ⊢
        have Hul := Lib.hid hulen
        have Hha : Hid ((hashA hh).size = 32) := Lib.hid (by rw [hashA_size, hulen])
        have Hho := Lib.hid (hashA_one hh)
        have HPsz := Lib.hid (ptA_size (s := z) Hul.out)
        clear hulen
        have S6 := Lib.hid (HS.out.kp k3)
        clear k3 hcell hcell2
        go_wp2_with (first
         | (refine wpList_store_blk rfl 25 (.tmp 11) (.tmp 68) rfl w3.heap.size rfl (hashA hh) rfl 25 _ (Blk.new w3 25 _) (by rw [Hha.out]; exact Tryd.infoHashP) (by rw [Hha.out]; rfl) Hho.out ?_; intro w4 b4 k4; have S7 := Lib.hid (Held.setBlk (l1 := []) (S6.out.newBlk 25 _) b4 k4); clear b4 k4)
         | (refine wpList_load_blk rfl 25 (.tmp 11) rfl w3.heap.size rfl 25 _ (S7.out.at_ (l1 := [])) _ Tryd.underlying25 rfl (by rw [Hha.out]; exact Tryd.infoHashP) ?_)
         | (refine wpList_build2 rfl 33 (.tmp 70) (.tmp 71) rfl (.int .i64 z) (.agg (hashA hh)) (by kernel_rfl) (by kernel_rfl) _ (Tryd.built_pt z hh Hul.out) ?_)
         | (refine wpList_store_blk rfl 33 (.tmp 13) (.tmp 72) rfl w4.heap.size rfl (ptA z hh) (by kernel_rfl) 33 _ (Blk.new w4 33 _) (by rw [HPsz.out]; exact Tryd.infoPointP) (by rw [HPsz.out]; rfl) (ptA_one z hh) ?_; intro w5 b5 k5; have S8 := Lib.hid (Held.setBlk (l1 := []) (S7.out.newBlk 33 _) b5 k5); clear b5 k5))
        have hform := (ln3_form HL3.out).1
        have hlen := congrArg List.length hform
        rw [← HSz.out] at hlen
        simp only [List.length_append, List.length_cons] at hlen
        have hpq : (p : Int) ≤ s.size := by omega
        have hext := ext_take s p
        have hpre : s.data.toList.take p = l0 ++ 10 :: (l1 ++ 10 :: (l ++ [10])) := by
         rw [hform, show l0 ++ 10 :: (l1 ++ 10 :: (l ++ 10 :: r)) = (l0 ++ 10 :: (l1 ++ 10 :: (l ++ [10]))) ++ r from by simp]
         rw [List.take_append_of_le_length (by simp; omega), List.take_of_length_le (by simp; omega)]
        rw [hpre] at hext
        obtain ⟨pre, Hpre⟩ : ∃ pre, Hid (l0 ++ 10 :: (l1 ++ 10 :: (l ++ [10])) = pre) := ⟨_, Lib.hid rfl⟩
        rw [Hpre.out] at hext HPT
        have Hlen := Lib.hid hlen
        clear hpre hform hlen
        generalize hg13 : w4.heap.size = g13 at *
        clear hg13
        have S9 : Hid (Held w w5 [blkR g13 33 (ptA z hh), blkR g2 33 zeroP]) := Lib.hid (S8.out.sub (.cons_cons _ (.cons _ (.cons _ (List.Sublist.refl _)))))
        clear S6 S7 S8 HS
        by_cases hz0 : z < 0
        · skip
          refine wp_region_invG (fun i v W => match i with | 0 => v = .int .i64 z | 1 => v = .bool true | 2 => v = .bool true | 9 => v = .bool true | _ => True) (by kernel_rfl) (by kernel_rfl) (by kernel_rfl) ?_ ?_ ?_
          · intro i v W W' h _
            iterate 10 (rcases i with _ | i; · exact h)
            exact h
          · refine ⟨?_, ?_, ?_, ?_, ?_, ?_, ?_, ?_, ?_, ?_, trivial⟩
            · intro vs A' W hA hW hd K hK; refine wpOp_free _ rfl rfl ?_
              have e9 : A'.tmps[9]?.getD undef = .int .i64 z := slot_is hA (by kernel_rfl) (Nat.le_of_ble_eq_true (by kernel_rfl)) (by kernel_rfl)
              go_step; exact hK _ _ kR rfl
            · intro vs A' W hA hW hd K hK; refine wpOp_free _ rfl rfl ?_; have f0 : vs 0 = .int .i64 z := hd 0 (by kernel_rfl)
              have e73 : A'.tmps[73]?.getD undef = vs 0 := slot_is hA (by kernel_rfl) (Nat.le_of_ble_eq_true (by kernel_rfl)) (by kernel_rfl)
              rw [f0] at e73
              have q : decide (z < 0) = true := decide_eq_true hz0
              go_step; exact hK _ _ kR rfl
            · intro vs A' W hA hW hd K hK; refine wpOp_free _ rfl rfl ?_; have f1 : vs 1 = .bool true := hd 1 (by kernel_rfl)
              have e74 : A'.tmps[74]?.getD undef = vs 1 := slot_is hA (by kernel_rfl) (Nat.le_of_ble_eq_true (by kernel_rfl)) (by kernel_rfl)
              rw [f1] at e74; go_step; exact hK _ _ kR rfl
            · intro vs A' W hA hW hd K hK; have f2 : vs 2 = .bool true := hd 2 (by kernel_rfl)
              have e75 : A'.tmps[75]?.getD undef = vs 2 := slot_is hA (by kernel_rfl) (Nat.le_of_ble_eq_true (by kernel_rfl)) (by kernel_rfl)
              rw [f2] at e75; refine wpOp_skip _ rfl 2 75 false rfl rfl e75 ?_; exact hK _ _ kR trivial
            · intro vs A' W hA hW hd K hK; have f2 : vs 2 = .bool true := hd 2 (by kernel_rfl)
              have e75 : A'.tmps[75]?.getD undef = vs 2 := slot_is hA (by kernel_rfl) (Nat.le_of_ble_eq_true (by kernel_rfl)) (by kernel_rfl)
              rw [f2] at e75; refine wpOp_skip _ rfl 2 75 false rfl rfl e75 ?_; exact hK _ _ kR trivial
            · intro vs A' W hA hW hd K hK; have f2 : vs 2 = .bool true := hd 2 (by kernel_rfl)
              have e75 : A'.tmps[75]?.getD undef = vs 2 := slot_is hA (by kernel_rfl) (Nat.le_of_ble_eq_true (by kernel_rfl)) (by kernel_rfl)
              rw [f2] at e75; refine wpOp_skip _ rfl 2 75 false rfl rfl e75 ?_; exact hK _ _ kR trivial
            · intro vs A' W hA hW hd K hK; have f2 : vs 2 = .bool true := hd 2 (by kernel_rfl)
              have e75 : A'.tmps[75]?.getD undef = vs 2 := slot_is hA (by kernel_rfl) (Nat.le_of_ble_eq_true (by kernel_rfl)) (by kernel_rfl)
              rw [f2] at e75; refine wpOp_skip _ rfl 2 75 false rfl rfl e75 ?_; exact hK _ _ kR trivial
            · intro vs A' W hA hW hd K hK; have f2 : vs 2 = .bool true := hd 2 (by kernel_rfl)
              have e75 : A'.tmps[75]?.getD undef = vs 2 := slot_is hA (by kernel_rfl) (Nat.le_of_ble_eq_true (by kernel_rfl)) (by kernel_rfl)
              rw [f2] at e75; refine wpOp_skip _ rfl 2 75 false rfl rfl e75 ?_; exact hK _ _ kR trivial
            · intro vs A' W hA hW hd K hK; have f2 : vs 2 = .bool true := hd 2 (by kernel_rfl)
              have e75 : A'.tmps[75]?.getD undef = vs 2 := slot_is hA (by kernel_rfl) (Nat.le_of_ble_eq_true (by kernel_rfl)) (by kernel_rfl)
              rw [f2] at e75; refine wpOp_skip _ rfl 2 75 false rfl rfl e75 ?_; exact hK _ _ kR trivial
            · intro vs A' W hA hW hd K hK; refine wpOp_free _ rfl rfl ?_; have f2 : vs 2 = .bool true := hd 2 (by kernel_rfl)
              have e75 : A'.tmps[75]?.getD undef = vs 2 := slot_is hA (by kernel_rfl) (Nat.le_of_ble_eq_true (by kernel_rfl)) (by kernel_rfl)
              rw [f2] at e75
              have e81 : A'.tmps[81]?.getD undef = vs 8 := slot_is hA (by kernel_rfl) (Nat.le_of_ble_eq_true (by kernel_rfl)) (by kernel_rfl)
              go_step; exact hK _ _ kR rfl
          · intro vs W hW hp
            have p9 : vs 9 = .bool true := hp 9 (Nat.le_of_ble_eq_true rfl)
            clear hp
            have S10 := Lib.hid (S9.out.kp ((Kp.refl [] _).drew.trans hW (by simp)))
            simp only [putAll, p9, Act.put, List.setIfInBounds_toArray, List.set_cons_succ, List.set_cons_zero]
            clear p9 hW S9
            have HPV := Lib.hid (PVs_none (s := s.data.toList) (by rw [HPT.out, if_neg (fun h => by omega)]))
            go_wp2_with (refine wpList_store_blk rfl 33 (.tmp 2) (.tmp 83) rfl g2 rfl zeroP (by kernel_rfl) 33 _ (S10.out.at_ (l1 := [_])) (by rw [HZ.out]; exact Tryd.infoPointP) rfl HZO.out ?_; intro w4 b4 k4; have S12 := Lib.hid (Held.setBlk (l1 := [_]) S10.out b4 k4); clear b4 k4)
            try rw [Exit.noGoto_ret]
            refine bodyPost_ret (results_cell_tmp2P (by rfl) rfl (S12.out.at_ (l1 := [_])) Tryd.underlying33 rfl (by rw [HZ.out]; exact Tryd.infoPointP)) rfl ?_
            exact ⟨by rw [HPV.out.1, HPV.out.2]; rfl, S12.out.k⟩
        · obtain ⟨n, rfl⟩ : ∃ n : Nat, z = n := ⟨z.toNat, by omega⟩
          have hn : n < 9223372036854775808 := by omega
          obtain ⟨tl, Htl⟩ : ∃ tl, Hid (told n hh = tl) := ⟨_, Lib.hid rfl⟩
          rw [show ((n : Int)).toNat = n from rfl, Htl.out] at HPT
          obtain ⟨bb, Hbb⟩ : ∃ bb, Hid ((!(tl == pre)) = bb) := ⟨_, Lib.hid rfl⟩
          refine wp_region_invG (fun i v W => match i with | 0 => v = .int .i64 (n : Int) | 1 => v = .bool false | 2 => v = .bool false | 3 => v = .agg (ptA (n : Int) hh) | 4 => v = .string ⟨tl.toArray⟩ | 5 => v = .string s | 6 => v = .int .i64 (p : Int) | 7 => v = .string ⟨pre.toArray⟩ | 8 => v = .bool bb | 9 => v = .bool bb | _ => True) (by kernel_rfl) (by kernel_rfl) (by kernel_rfl) ?_ ?_ ?_
          · intro i v W W' h _
            iterate 10 (rcases i with _ | i; · exact h)
            exact h
          · refine ⟨?_, ?_, ?_, ?_, ?_, ?_, ?_, ?_, ?_, ?_, trivial⟩
            · intro vs A' W hA hW hd K hK; refine wpOp_free _ rfl rfl ?_
              have e9 : A'.tmps[9]?.getD undef = .int .i64 (n : Int) := slot_is hA (by kernel_rfl) (Nat.le_of_ble_eq_true (by kernel_rfl)) (by kernel_rfl)
              go_step; exact hK _ _ kR rfl
            · intro vs A' W hA hW hd K hK; refine wpOp_free _ rfl rfl ?_; have f0 : vs 0 = .int .i64 (n : Int) := hd 0 (by kernel_rfl)
              have e73 : A'.tmps[73]?.getD undef = vs 0 := slot_is hA (by kernel_rfl) (Nat.le_of_ble_eq_true (by kernel_rfl)) (by kernel_rfl)
              rw [f0] at e73
              have q : decide ((n : Int) < 0) = false := decide_eq_false (by omega)
              go_step; exact hK _ _ kR rfl
            · intro vs A' W hA hW hd K hK; refine wpOp_free _ rfl rfl ?_; have f1 : vs 1 = .bool false := hd 1 (by kernel_rfl)
              have e74 : A'.tmps[74]?.getD undef = vs 1 := slot_is hA (by kernel_rfl) (Nat.le_of_ble_eq_true (by kernel_rfl)) (by kernel_rfl)
              rw [f1] at e74; go_step; exact hK _ _ kR rfl
            · intro vs A' W hA hW hd K hK; have f2 : vs 2 = .bool false := hd 2 (by kernel_rfl)
              have e75 : A'.tmps[75]?.getD undef = vs 2 := slot_is hA (by kernel_rfl) (Nat.le_of_ble_eq_true (by kernel_rfl)) (by kernel_rfl)
              rw [f2] at e75; refine wpOp_go _ rfl 2 75 false rfl rfl e75 ?_
              have e13 : A'.tmps[13]?.getD undef = .pointer (some ⟨g13, 0, none⟩) := slot_is hA (by kernel_rfl) (Nat.le_of_ble_eq_true (by kernel_rfl)) (by kernel_rfl)
              refine op_runs (v := .agg (ptA (n : Int) hh)) (w' := W) (exec_load rfl (by simpa [Act.eval] using e13) (run_pt_load (Blk.kp (S9.out.at_ (l1 := [])).drew hW (by simp)) Hul.out)) ?_
              exact hK _ _ kR rfl
            · intro vs A' W hA hW hd K hK; have f2 : vs 2 = .bool false := hd 2 (by kernel_rfl)
              have e75 : A'.tmps[75]?.getD undef = vs 2 := slot_is hA (by kernel_rfl) (Nat.le_of_ble_eq_true (by kernel_rfl)) (by kernel_rfl)
              rw [f2] at e75; refine wpOp_go _ rfl 2 75 false rfl rfl e75 ?_; have f3 : vs 3 = .agg (ptA (n : Int) hh) := hd 3 (by kernel_rfl)
              have e76 : A'.tmps[76]?.getD undef = vs 3 := slot_is hA (by kernel_rfl) (Nat.le_of_ble_eq_true (by kernel_rfl)) (by kernel_rfl)
              rw [f3] at e76; go_step
              refine (rtold_any n hn hh Hul.out W).mono ?_
              rintro e W' ⟨rfl, k'⟩
              rw [Htl.out]
              exact hK _ _ k' rfl
            · intro vs A' W hA hW hd K hK; have f2 : vs 2 = .bool false := hd 2 (by kernel_rfl)
              have e75 : A'.tmps[75]?.getD undef = vs 2 := slot_is hA (by kernel_rfl) (Nat.le_of_ble_eq_true (by kernel_rfl)) (by kernel_rfl)
              rw [f2] at e75; refine wpOp_go _ rfl 2 75 false rfl rfl e75 ?_
              have e0 : A'.tmps[0]?.getD undef = .string s := slot_is hA (by kernel_rfl) (Nat.le_of_ble_eq_true (by kernel_rfl)) (by kernel_rfl)
              go_step; exact hK _ _ kR rfl
            · intro vs A' W hA hW hd K hK; have f2 : vs 2 = .bool false := hd 2 (by kernel_rfl)
              have e75 : A'.tmps[75]?.getD undef = vs 2 := slot_is hA (by kernel_rfl) (Nat.le_of_ble_eq_true (by kernel_rfl)) (by kernel_rfl)
              rw [f2] at e75; refine wpOp_go _ rfl 2 75 false rfl rfl e75 ?_
              have e6 : A'.tmps[6]?.getD undef = .int .i64 (p : Int) := slot_is hA (by kernel_rfl) (Nat.le_of_ble_eq_true (by kernel_rfl)) (by kernel_rfl)
              go_step; exact hK _ _ kR rfl
            · intro vs A' W hA hW hd K hK; have f2 : vs 2 = .bool false := hd 2 (by kernel_rfl)
              have e75 : A'.tmps[75]?.getD undef = vs 2 := slot_is hA (by kernel_rfl) (Nat.le_of_ble_eq_true (by kernel_rfl)) (by kernel_rfl)
              rw [f2] at e75; refine wpOp_go _ rfl 2 75 false rfl rfl e75 ?_; have f5 : vs 5 = .string s := hd 5 (by kernel_rfl)
              have e78 : A'.tmps[78]?.getD undef = vs 5 := slot_is hA (by kernel_rfl) (Nat.le_of_ble_eq_true (by kernel_rfl)) (by kernel_rfl)
              rw [f5] at e78; have f6 : vs 6 = .int .i64 (p : Int) := hd 6 (by kernel_rfl)
              have e79 : A'.tmps[79]?.getD undef = vs 6 := slot_is hA (by kernel_rfl) (Nat.le_of_ble_eq_true (by kernel_rfl)) (by kernel_rfl)
              rw [f6] at e79; go_step; exact hK _ _ kR rfl
            · intro vs A' W hA hW hd K hK; have f2 : vs 2 = .bool false := hd 2 (by kernel_rfl)
              have e75 : A'.tmps[75]?.getD undef = vs 2 := slot_is hA (by kernel_rfl) (Nat.le_of_ble_eq_true (by kernel_rfl)) (by kernel_rfl)
              rw [f2] at e75; refine wpOp_go _ rfl 2 75 false rfl rfl e75 ?_; have f4 : vs 4 = .string ⟨tl.toArray⟩ := hd 4 (by kernel_rfl)
              have e77 : A'.tmps[77]?.getD undef = vs 4 := slot_is hA (by kernel_rfl) (Nat.le_of_ble_eq_true (by kernel_rfl)) (by kernel_rfl)
              rw [f4] at e77; have f7 : vs 7 = .string ⟨pre.toArray⟩ := hd 7 (by kernel_rfl)
              have e80 : A'.tmps[80]?.getD undef = vs 7 := slot_is hA (by kernel_rfl) (Nat.le_of_ble_eq_true (by kernel_rfl)) (by kernel_rfl)
              rw [f7] at e80; go_step
              exact hK _ _ kR (congrArg Value.bool Hbb.out)
            · intro vs A' W hA hW hd K hK; refine wpOp_free _ rfl rfl ?_; have f2 : vs 2 = .bool false := hd 2 (by kernel_rfl)
              have e75 : A'.tmps[75]?.getD undef = vs 2 := slot_is hA (by kernel_rfl) (Nat.le_of_ble_eq_true (by kernel_rfl)) (by kernel_rfl)
              rw [f2] at e75; have f8 : vs 8 = .bool bb := hd 8 (by kernel_rfl)
              have e81 : A'.tmps[81]?.getD undef = vs 8 := slot_is hA (by kernel_rfl) (Nat.le_of_ble_eq_true (by kernel_rfl)) (by kernel_rfl)
              rw [f8] at e81; go_step; exact hK _ _ kR rfl
          · intro vs W hW hp
            have p9 : vs 9 = .bool bb := hp 9 (Nat.le_of_ble_eq_true rfl)
            clear hp
            have S10 := Lib.hid (S9.out.kp ((Kp.refl [] _).drew.trans hW (by simp)))
            simp only [putAll, p9, Act.put, List.setIfInBounds_toArray, List.set_cons_succ, List.set_cons_zero]
            clear p9 hW S9
            by_cases hq : tl = pre
            · have HPV := Lib.hid (PVs_some (s := s.data.toList) (by rw [HPT.out, if_pos ⟨by omega, hq⟩]))
              obtain rfl : bb = false := by rw [← Hbb.out, hq, beq_self_eq_true pre]; rfl
              have hext2 := ext_drop s p
              rw [HK.out.2.2] at hext2
              clear hq
              go_wp2_with fail
              refine wp_region_sep (Γ := Unit) 2 [0, 1, 2, 3, 4, 5, 6, 7]
               (fun i vs gs => match i with | 0 => vs 0 = .agg (ptA (n : Int) hh) | 1 => vs 1 = .string s | 2 => vs 2 = .int .i64 (p : Int) | 3 => vs 3 = .string ⟨r.toArray⟩ | 5 => vs 5 = .string ⟨r.toArray⟩ | 6 => vs 6 = .int .i64 0 | _ => True)
               (fun i vs gs => match i with | 4 => [blkR g2 33 (ptA (n : Int) hh)] | 7 => [blkR g13 33 (ptA (n : Int) hh)] | 8 => [blkR g2 33 zeroP] | _ => [])
               (fun i => match i with | 4 => [8] | _ => []) (fun i => match i with | 0 => [7] | _ => []) S10.out (by kernel_rfl) (by kernel_rfl) (by kernel_rfl) (by kernel_rfl) (fun i => match i with | 0 => [0] | 1 => [1] | 2 => [2] | 3 => [3] | 5 => [5] | 6 => [6] | _ => []) (by kernel_rfl) ?_ (by kernel_rfl) ?_ ?_ ?_
              · intro s vs vs' gs gs' h
                iterate 9 (rcases s with _ | s; · (first | exact ⟨rfl, id⟩ | (simp only [List.mem_cons, List.not_mem_nil, or_false, forall_eq] at h; simp [h])))
                exact ⟨rfl, id⟩
              · simp only [List.range, List.range.loop, List.flatMap_cons, List.flatMap_nil, List.append_nil]
                exact List.Perm.refl _
              · refine ⟨?_, ?_, ?_, ?_, ?_, ?_, ?_, trivial⟩
                · intro vs gs A' W LF hA S hR hd hu K hK; replace hK := hK default
                  have e13 : A'.tmps[13]?.getD undef = .pointer (some ⟨g13, 0, none⟩) := slot_is hA (by kernel_rfl) (Nat.le_of_ble_eq_true (by kernel_rfl)) (by kernel_rfl)
                  refine op_runs (v := .agg (ptA (n : Int) hh)) (w' := W) (exec_load rfl (by simpa [Act.eval] using e13) (run_pt_load (S.ok (blkR g13 33 (ptA (n : Int) hh)) (hR 7 (List.mem_singleton.2 rfl) _ (List.mem_singleton.2 rfl))) Hul.out)) ?_
                  exact hK _ _ S rfl
                · intro vs gs A' W LF hA S hR hd hu K hK; replace hK := hK default
                  have e0 : A'.tmps[0]?.getD undef = .string s := slot_is hA (by kernel_rfl) (Nat.le_of_ble_eq_true (by kernel_rfl)) (by kernel_rfl)
                  go_step; exact hK _ _ S rfl
                · intro vs gs A' W LF hA S hR hd hu K hK; replace hK := hK default
                  have e6 : A'.tmps[6]?.getD undef = .int .i64 (p : Int) := slot_is hA (by kernel_rfl) (Nat.le_of_ble_eq_true (by kernel_rfl)) (by kernel_rfl)
                  go_step; exact hK _ _ S rfl
                · intro vs gs A' W LF hA S hR hd hu K hK; replace hK := hK default; have f1 : vs 1 = .string s := hd 1 (by kernel_rfl)
                  have e85 : A'.tmps[85]?.getD undef = vs 1 := slot_is hA (by kernel_rfl) (Nat.le_of_ble_eq_true (by kernel_rfl)) (by kernel_rfl)
                  rw [f1] at e85; have f2 : vs 2 = .int .i64 (p : Int) := hd 2 (by kernel_rfl)
                  have e86 : A'.tmps[86]?.getD undef = vs 2 := slot_is hA (by kernel_rfl) (Nat.le_of_ble_eq_true (by kernel_rfl)) (by kernel_rfl)
                  rw [f2] at e86; go_step; exact hK _ _ S rfl
                · intro vs gs A' W LF hA S hR hd hu K hK; replace hK := hK default
                  have e2 : A'.tmps[2]?.getD undef = .pointer (some ⟨g2, 0, none⟩) := slot_is hA (by kernel_rfl) (Nat.le_of_ble_eq_true (by kernel_rfl)) (by kernel_rfl)
                  have f0 : vs 0 = .agg (ptA (n : Int) hh) := hd 0 (by kernel_rfl)
                  have e84 : A'.tmps[84]?.getD undef = vs 0 := slot_is hA (by kernel_rfl) (Nat.le_of_ble_eq_true (by kernel_rfl)) (by kernel_rfl)
                  rw [f0] at e84
                  have S1 : Held w W (blkR g2 33 zeroP :: LF) := S
                  exact op_store_part (.tmp 2) (.tmp 84) 33 rfl g2 0 (by simpa [Act.eval] using e2) (ptA (n : Int) hh) (by simpa [Act.eval] using e84) 33 _ (S1.at_ (l1 := [])) (by rw [HPsz.out]; exact Tryd.infoPointP) (by rw [HPsz.out, HZ.out]; exact Nat.le_refl _) (ptA_one _ hh) (fun w' hb k => hK undef _ (Held.setBlk (l1 := []) S1 (by rw [set_all _ _ (by rw [HPsz.out, HZ.out])] at hb; exact hb) k) trivial)
                · intro vs gs A' W LF hA S hR hd hu K hK; replace hK := hK default; have f3 : vs 3 = .string ⟨r.toArray⟩ := hd 3 (by kernel_rfl)
                  have e87 : A'.tmps[87]?.getD undef = vs 3 := slot_is hA (by kernel_rfl) (Nat.le_of_ble_eq_true (by kernel_rfl)) (by kernel_rfl)
                  rw [f3] at e87; go_step; exact hK _ _ S rfl
                · intro vs gs A' W LF hA S hR hd hu K hK; replace hK := hK default; go_step; exact hK _ _ S rfl
              · intro vs gs W S hp
                have S : Held w W (blkR g2 33 (ptA (n : Int) hh) :: blkR g13 33 (ptA (n : Int) hh) :: []) := by simpa only [List.flatMap_cons, List.flatMap_nil, List.append_nil, List.nil_append, List.cons_append, List.append_assoc] using S
                have p0 : vs 0 = .agg (ptA (n : Int) hh) := hp 0 (Nat.le_of_ble_eq_true rfl)
                have p1 : vs 1 = .string s := hp 1 (Nat.le_of_ble_eq_true rfl)
                have p2 : vs 2 = .int .i64 (p : Int) := hp 2 (Nat.le_of_ble_eq_true rfl)
                have p3 : vs 3 = .string ⟨r.toArray⟩ := hp 3 (Nat.le_of_ble_eq_true rfl)
                have p5 : vs 5 = .string ⟨r.toArray⟩ := hp 5 (Nat.le_of_ble_eq_true rfl)
                have p6 : vs 6 = .int .i64 0 := hp 6 (Nat.le_of_ble_eq_true rfl)
                clear hp
                have S11 := Lib.hid S
                clear S S10
                simp only [putAll, p0, p1, p2, p3, p5, p6, Act.put, List.setIfInBounds_toArray, List.set_cons_succ, List.set_cons_zero]
                clear p0 p1 p2 p3 p5 p6
                go_wp2_with fail
                try rw [Exit.noGoto_ret]
                refine bodyPost_ret (results_cell_tmp2P (by rfl) rfl (S11.out.at_ (l1 := [])) Tryd.underlying33 rfl (by rw [HPsz.out]; exact Tryd.infoPointP)) rfl ?_
                refine ⟨?_, S11.out.k⟩
                rw [HPV.out.1, HPV.out.2]
                rfl
            · have HPV := Lib.hid (PVs_none (s := s.data.toList) (by rw [HPT.out, if_neg (fun h => hq h.2)]))
              obtain rfl : bb = true := by rw [← Hbb.out, beq_false_of_ne hq]; rfl
              go_wp2_with (refine wpList_store_blk rfl 33 (.tmp 2) (.tmp 83) rfl g2 rfl zeroP (by kernel_rfl) 33 _ (S10.out.at_ (l1 := [_])) (by rw [HZ.out]; exact Tryd.infoPointP) rfl HZO.out ?_; intro w4 b4 k4; have S12 := Lib.hid (Held.setBlk (l1 := [_]) S10.out b4 k4); clear b4 k4)
              try rw [Exit.noGoto_ret]
              refine bodyPost_ret (results_cell_tmp2P (by rfl) rfl (S12.out.at_ (l1 := [_])) Tryd.underlying33 rfl (by rw [HZ.out]; exact Tryd.infoPointP)) rfl ?_
              exact ⟨by rw [HPV.out.1, HPV.out.2]; rfl, S12.out.k⟩
end
end Go.Proofs.YtapboamjpilckaaDoor
