/- Several texts in one: SigAF, SigAG, SigAJ, SigAK, SigAL, SgLaid, Post, PostKept, Open. -/
import Derived.Test.YtapboamjpilckaaDoorCards
import Derived.Test.YtapboamjpilckaaDoorTie
import Derived.ProofKit
import Derived.OpenShut
import Derived.Deep.DeepHandedRow
import Derived.Deep.DeepWitnessRowRef
import Derived.Lib.LaidTab
import Derived.LaidMore
import Derived.Stop.LaidErr
import Derived.Test.YtapboamjpilckaaDoorRows
import Derived.Carry
import Derived.JoinedCond
import Derived.Deep.Slices
import Derived.Test.YtapboamjpilckaaDoorP6
/- known of layer 28: its regions. -/
namespace Go.Proofs.YtapboamjpilckaaDoor
open Go.RowKit
-- REG skn0
set_option maxRecDepth 100000 in
set_option maxHeartbeats 2000000 in
theorem skn_r0 {Q : Exit → Act → World → Prop} {a : Act} {w : World}  (hsz : a.tmps.size = 104) 
    (hend : ∀ (a' : Act), Same a a' [0] → Sl a' 0 (.bool false) → Q .normal a' (w)) : (Code.region 0 (opsOf 0 Tryd.f13).toArray false).wp Tryd.prog Q a w := by
  refine wp_region_lit (l := (opsOf 0 Tryd.f13)) ?_
  conv => arg 4; whnf
  go_wp2_with fail
  try simp only [Act.put]
  exact hend _ (by repeat (first | (with_reducible refine same_set (by decide) ?_) | (with_reducible exact same_nil))) (by unfold Sl; first | (simp [hsz]; done) | (simp [hsz]; omega))
-- END skn0
-- REG skn1
set_option maxRecDepth 100000 in
set_option maxHeartbeats 2000000 in
theorem skn_r1 {Q : Exit → Act → World → Prop} {a : Act} {w : World} (w0 : World) (L : List Res) (S : Held w0 w L) (hsz : a.tmps.size = 104) 
    (hend : ∀ (a' : Act) (W : World), Same a a' [11, 1] → (∃ gk, Sl a' 1 (.slice (some ⟨gk, 0, none⟩) 20 20) ∧ Held w0 W (rowR 5 1 (.slice (some ⟨gk, 0, none⟩) 20 20) 20 (bv (List.replicate 20 0)) :: L)) → Q .normal a' W) : (Code.region 1 (opsOf 1 Tryd.f13).toArray false).wp Tryd.prog Q a w := by
  refine wp_region_lit (l := (opsOf 1 Tryd.f13)) ?_
  conv => arg 4; whnf
  go_wp2_with (refine make_noughts rfl 20 (by decide) rfl ?_; intro w1 o1 k1; have S1 := Lib.hid (S.rownew o1 k1 (by simp [Value.ownBlock])))
  try simp only [Act.put]
  exact hend _ _ (by repeat (first | (with_reducible refine same_set (by decide) ?_) | (with_reducible exact same_nil))) (⟨_, (by unfold Sl; simp [hsz]), S1.out⟩)
-- END skn1
-- REG skn2
set_option maxRecDepth 100000 in
set_option maxHeartbeats 2000000 in
theorem skn_r2 {Q : Exit → Act → World → Prop} {a : Act} {w : World}  (hsz : a.tmps.size = 104) 
    (hend : ∀ (a' : Act), Same a a' [2] → Sl a' 2 (.int .i64 (0 : Int)) → Q .normal a' (w)) : (Code.region 2 (opsOf 2 Tryd.f13).toArray false).wp Tryd.prog Q a w := by
  refine wp_region_lit (l := (opsOf 2 Tryd.f13)) ?_
  conv => arg 4; whnf
  go_wp2_with fail
  try simp only [Act.put]
  exact hend _ (by repeat (first | (with_reducible refine same_set (by decide) ?_) | (with_reducible exact same_nil))) (by unfold Sl; first | (simp [hsz]; done) | (simp [hsz]; omega))
-- END skn2
-- REG skn3
set_option maxRecDepth 100000 in
set_option maxHeartbeats 2000000 in
theorem skn_r3 {Q : Exit → Act → World → Prop} {a : Act} {w : World} (j : Nat) (hsz : a.tmps.size = 104) (o2 : Sl a 2 (.int .i64 (j : Int)))
    (hend : ∀ (a' : Act), Same a a' [12, 13] → Sl a' 13 (.bool (decide ((j : Int) < 20))) → Q .normal a' (w)) : (Code.region 3 (opsOf 3 Tryd.f13).toArray false).wp Tryd.prog Q a w := by
  refine wp_region_lit (l := (opsOf 3 Tryd.f13)) ?_
  conv => arg 4; whnf
  unfold Sl at o2
  go_wp2_with fail
  try simp only [Act.put]
  exact hend _ (by repeat (first | (with_reducible refine same_set (by decide) ?_) | (with_reducible exact same_nil))) (by unfold Sl; first | (simp [hsz]; done) | (simp [hsz]; omega))
-- END skn3
-- REG skn5
set_option maxRecDepth 100000 in
set_option maxHeartbeats 2000000 in
theorem skn_r5 {Q : Exit → Act → World → Prop} {a : Act} {w : World} (w0 : World) (gk j : Nat) (hj : j < 20) (xs : List Value) (L : List Res) (S : Held w0 w (rowR 5 1 (.slice (some ⟨gk, 0, none⟩) 20 20) 20 xs :: L)) (hsz : a.tmps.size = 104) (o1 : Sl a 1 (.slice (some ⟨gk, 0, none⟩) 20 20)) (o2 : Sl a 2 (.int .i64 (j : Int)))
    (hend : ∀ (a' : Act) (W : World), Same a a' [16, 17, 18] → (Held w0 W (rowR 5 1 (.slice (some ⟨gk, 0, none⟩) 20 20) 20 (xs.set j (.int .u8 11)) :: L)) → Q .normal a' W) : (Code.region 5 (opsOf 5 Tryd.f13).toArray false).wp Tryd.prog Q a w := by
  refine wp_region_lit (l := (opsOf 5 Tryd.f13)) ?_
  conv => arg 4; whnf
  unfold Sl at o1 o2
  have S := Lib.hid S
  have hrow := S.out.at_ (l1 := [])
  have h0 : 0 ≤ (j : Int) := by omega
  have h1 : (j : Int) < 20 := by omega
  have hc0 := hrow.cellAt j (by omega)
  have hf0 := hrow.frozenAt j
  have hlw := ow_lt hrow (g := gk) rfl
  have S2 := Lib.hid (S.out.rowset (l1 := []) ((hrow.stored (g := gk) j (.int .u8 11)).1) ((Kp.refl [gk] _).setCell (p := ⟨gk, j, none⟩) (.inl (by simp)) (.int .u8 11)))
  have hlen := hrow.1
  obtain ⟨ux, hx⟩ : ∃ u, xs[j]? = some u := ⟨_, List.getElem?_eq_getElem (by omega)⟩
  rw [hx] at hc0
  clear hrow hlen
  go_wp2_with fail
  try simp only [Act.put]
  exact hend _ _ (by repeat (first | (with_reducible refine same_set (by decide) ?_) | (with_reducible exact same_nil))) (S2.out)
-- END skn5
-- REG skn4
set_option maxRecDepth 100000 in
set_option maxHeartbeats 2000000 in
theorem skn_r4 {Q : Exit → Act → World → Prop} {a : Act} {w : World} (j : Nat) (hj : j < 20) (hsz : a.tmps.size = 104) (o2 : Sl a 2 (.int .i64 (j : Int)))
    (hend : ∀ (a' : Act), Same a a' [14, 15, 2] → Sl a' 2 (.int .i64 ((j + 1 : Nat) : Int)) → Q .normal a' (w)) : (Code.region 4 (opsOf 4 Tryd.f13).toArray false).wp Tryd.prog Q a w := by
  refine wp_region_lit (l := (opsOf 4 Tryd.f13)) ?_
  conv => arg 4; whnf
  unfold Sl at o2
  have hw : wrap64 ((j : Int) + 1) = (j : Int) + 1 := by unfold wrap64; omega
  go_wp2_with fail
  try simp only [Act.put]
  exact hend _ (by repeat (first | (with_reducible refine same_set (by decide) ?_) | (with_reducible exact same_nil))) (by unfold Sl; first | (simp [hsz]; done) | (simp [hsz]; omega))
-- END skn4
-- REG skn6
set_option maxRecDepth 100000 in
set_option maxHeartbeats 2000000 in
theorem skn_r6 {Q : Exit → Act → World → Prop} {a : Act} {w : World} (gk : Nat) (hk : Rd w 1 (.slice (some ⟨gk, 0, none⟩) 20 20) 20 (bv k20)) (hsz : a.tmps.size = 104) (o1 : Sl a 1 (.slice (some ⟨gk, 0, none⟩) 20 20))
    (hend : ∀ (a' : Act) (W : World), Same a a' [19, 20, 21, 22, 23, 24, 25, 3] → (∃ gh, Sl a' 3 (.pointer (some ⟨gh, 0, none⟩)) ∧ Held w W [blkR gh 25 (hashA (macF k20 (hiL ++ thL)))]) → Q .normal a' W) : (Code.region 6 (opsOf 6 Tryd.f13).toArray false).wp Tryd.prog Q a w := by
  refine wp_region_lit (l := (opsOf 6 Tryd.f13)) ?_
  conv => arg 4; whnf
  unfold Sl at o1
  have kc := conv_txt
  have HK := Lib.hid hk
  clear hk
  have HO := Lib.hid (hashA_one (macF k20 (hiL ++ thL)))
  have hz2 : Hid ((hashA (macF k20 (hiL ++ thL))).size = 32) := Lib.hid (by rw [hashA_size, macF_length])
  obtain ⟨ch, hch⟩ : ∃ ch, Hid (hashA (macF k20 (hiL ++ thL)) = ch) := ⟨_, Lib.hid rfl⟩
  rw [hch.out] at hend HO hz2
  go_wp2_with fail
  have K3 : Kp [] w (((w.alloc (.cells #[.int .u8 72, .int .u8 105] 5 (2, 3))).alloc (.cells #[.int .u8 32, .int .u8 84, .int .u8 104, .int .u8 101, .int .u8 114, .int .u8 101] 5 (6, 7))).alloc (.cells #[.slice (some ⟨w.heap.size, 0, none⟩) 2 2, .slice (some ⟨w.heap.size + 1, 0, none⟩) 6 6] 22)) := (((Kp.refl [] w).alloc _).alloc _).alloc _
  have R1 : Rd (w.alloc (.cells #[.int .u8 72, .int .u8 105] 5 (2, 3))) 1 (.slice (some ⟨w.heap.size, 0, none⟩) 2 2) 2 (bv hiL) := rd_txt w 5 _ hiL (2, 3) rfl (by decide) rfl
  have R2 : Rd ((w.alloc (.cells #[.int .u8 72, .int .u8 105] 5 (2, 3))).alloc (.cells #[.int .u8 32, .int .u8 84, .int .u8 104, .int .u8 101, .int .u8 114, .int .u8 101] 5 (6, 7))) 1 (.slice (some ⟨w.heap.size + 1, 0, none⟩) 6 6) 6 (bv thL) := rd_txt _ 5 _ thL (6, 7) rfl (by decide) (by simp)
  obtain ⟨us, R3⟩ := (txs2 (g := w.heap.size + 2) 22 (by simp) (R1.alloc _) R2).f
  refine (mac_any _ [] (some ⟨gk, 0, none⟩) 20 k20 (by decide) _ us [hiL, thL] (by decide) _ (Held.start _) (fun V SV => rd_old (rd_old HK.out K3) SV.k) (fun V SV => R3.kp0 SV.k)).mono ?_
  rintro e w4 ⟨rfl, S⟩
  have S1 := Lib.hid ((Held.of_kp (K3.trans S.k (by simp))).newBlk 25 (hashA zH))
  clear S R3 R2 R1 K3 kc
  rw [show macF k20 [hiL, thL].flatten = macF k20 (hiL ++ thL) from rfl, hch.out]
  go_wp2_with (refine wpList_store_blk rfl 25 (.tmp 3) (.tmp 25) rfl w4.heap.size (by simp [Act.eval, Act.put, hsz]) ch (by simp [Act.eval, Act.put, hsz]) 25 _ (S1.out.at_ (l1 := [])) (by rw [hz2.out]; exact Tryd.infoHashP) (by rw [hz2.out]; rfl) HO.out ?_; intro w7 b7 k7; have S7 := Lib.hid (Held.setBlk (l1 := []) S1.out b7 k7); clear b7 k7)
  try simp only [Act.put]
  exact hend _ _ (by repeat (first | (with_reducible refine same_set (by decide) ?_) | (with_reducible exact same_nil))) (⟨_, (by unfold Sl; simp [hsz]), S7.out⟩)
-- END skn6
-- REG skn7
set_option maxRecDepth 100000 in
set_option maxHeartbeats 2000000 in
theorem skn_r7 {Q : Exit → Act → World → Prop} {a : Act} {w : World} (LDw : LD w) (hsz : a.tmps.size = 104) 
    (hend : ∀ (a' : Act) (W : World), Same a a' [27, 28, 26, 29, 30, 4, 5] → Sl a' 5 (.int .i64 (0 : Int)) → (∃ gn, Sl a' 4 (.pointer (some ⟨gn, 0, none⟩)) ∧ Held w W [blkR gn 36 (ntA 0 zH (.slice none 0 0))]) → Q .normal a' W) : (Code.region 7 (opsOf 7 Tryd.f13).toArray false).wp Tryd.prog Q a w := by
  refine wp_region_lit (l := (opsOf 7 Tryd.f13)) ?_
  conv => arg 4; whnf
  have HL := Lib.hid LDw
  clear LDw
  have HO := Lib.hid (ntA_one (z := 0) (h := zH) (v := .slice none 0 0) rfl)
  have hz2 : Hid ((ntA 0 zH (.slice none 0 0)).size = 34) := Lib.hid (ntA_size zH_length)
  have e1 : Hid (newA 0 zH = ntA 0 zH (.slice none 0 0)) := Lib.hid (by unfold newA; rw [if_pos (by decide)])
  have e2 : Hid (chkN 0 [] = 0) := Lib.hid (by unfold chkN; rw [mayN_nil]; rfl)
  have hst0 : ntA 0 zH (.slice none 0 0) = zeroN := rfl
  obtain ⟨ch, hch⟩ : ∃ ch, Hid (ntA 0 zH (.slice none 0 0) = ch) := ⟨_, Lib.hid rfl⟩
  rw [hch.out] at hend HO hz2 hst0
  have e1 := Lib.hid (e1.out.trans hch.out)
  have hst := Lib.hid hst0
  clear hst0
  go_wp2_with (refine wpList_buildP rfl 33 _ rfl [] rfl _ Tryd.built_pt0 ?_)
  refine (sgnew_any 0 (by decide) zH zH_length w HL.out).mono ?_
  rintro e w1 ⟨rfl, k1⟩
  rw [e1.out, e2.out]
  have S1 := Lib.hid ((Held.of_kp k1).newBlk 36 zeroN)
  clear k1
  go_wp2_with (refine wpList_store_blk rfl 36 (.tmp 4) (.tmp 29) rfl w1.heap.size (by simp [Act.eval, Act.put, hsz]) ch (by simp [Act.eval, Act.put, hsz]) 36 _ (S1.out.at_ (l1 := [])) (by rw [hz2.out]; exact Tryd.infoNote) (by rw [hz2.out]; rfl) HO.out ?_; intro w7 b7 k7; have S7 := Lib.hid (Held.setBlk (l1 := []) S1.out b7 k7); clear b7 k7)
  try simp only [Act.put]
  exact hend _ _ (by repeat (first | (with_reducible refine same_set (by decide) ?_) | (with_reducible exact same_nil))) (by unfold Sl; first | (simp [hsz]; done) | (simp [hsz]; omega)) (⟨_, (by unfold Sl; simp [hsz]), S7.out⟩)
-- END skn7
-- REG skn8
set_option maxRecDepth 100000 in
set_option maxHeartbeats 2000000 in
theorem skn_r8 {Q : Exit → Act → World → Prop} {a : Act} {w : World} (LDw : LD w) (gn : Nat) (hb : Blk w gn 36 (ntA 0 zH (.slice none 0 0))) (hv : Rd w 33 (.slice none 0 0) 0 (sgsC [])) (hsz : a.tmps.size = 104) (o4 : Sl a 4 (.pointer (some ⟨gn, 0, none⟩)))
    (hend : ∀ (a' : Act) (W : World), Same a a' [32, 33, 34, 35, 31, 36, 37, 6, 7] → Sl a' 7 (.int .i64 (0 : Int)) → (∃ A c gm, Sl a' 6 (.pointer (some ⟨gm, 0, none⟩)) ∧ Held w W [blkR gm 36 (ntA 0 zH (.slice A 1 c)), rowR 81 33 (.slice A 1 c) 1 (sgsC [sig1])]) → Q .normal a' W) : (Code.region 8 (opsOf 8 Tryd.f13).toArray false).wp Tryd.prog Q a w := by
  refine wp_region_lit (l := (opsOf 8 Tryd.f13)) ?_
  conv => arg 4; whnf
  unfold Sl at o4
  have HL := Lib.hid LDw
  have HB := Lib.hid hb
  have HV := Lib.hid hv
  clear LDw hb hv
  obtain ⟨cn, hcn⟩ : ∃ cn, Hid (ntA 0 zH (.slice none 0 0) = cn) := ⟨_, Lib.hid rfl⟩
  have hzc : Hid (cn.size = 34) := Lib.hid (by rw [← hcn.out]; exact ntA_size zH_length)
  rw [hcn.out] at HB
  go_wp2_with (first
    | (refine wpList_load_blk rfl 36 (.tmp 4) rfl gn (by simp [Act.eval, Act.put, hsz, o4]) 36 _ HB.out _ Tryd.underlying36 rfl (by rw [hzc.out]; exact Tryd.infoNote) ?_)
    | (refine wpList_buildP rfl 42 _ rfl [(0, .string ⟨#[119]⟩), (1, .slice (some ⟨w.heap.size, 0, none⟩) 2 2)] (by simp [Act.eval, Act.put, hsz]) _ (Tryd.built_key2 ⟨#[119]⟩ _ 2 2) ?_))
  rw [← hcn.out]
  have HR := rd_lit w 5 #[.int .u8 1, .int .u8 2] sec12 rfl (by decide)
  refine (ssign_any 0 (by decide) zH zH_length [] (fun s hs => by cases hs) (by decide) none 0 ⟨#[119]⟩ (by decide) (some ⟨w.heap.size, 0, none⟩) 2 sec12 _ (HL.out.kp ((Kp.refl [] w).alloc _)) (rd_nil_any 33 _) HR).mono ?_
  rintro e w1 ⟨u, rfl, hrow, k1⟩
  have e0 : signE 0 [] (ByteArray.mk #[119]).data.toList sec12 = 0 := signE_0
  have H := hrow e0
  rw [if_pos e0, e0]
  obtain ⟨A, c, hu, -, -⟩ := ow_form (show Ow w1 81 33 u 1 (sgsC [sig1]) from H.at_ (l1 := []))
  subst hu
  have hz2 : Hid ((ntA 0 zH (.slice A 1 c)).size = 34) := Lib.hid (ntA_size zH_length)
  have HO := Lib.hid (ntA_one (z := 0) (h := zH) (v := .slice A 1 c) rfl)
  have S0 : Held w w1 [rowR 81 33 (.slice A 1 c) 1 (sgsC [sig1])] := Held.back ((Kp.refl [] w).alloc _) H
  have S1 := Lib.hid (S0.newBlk 36 zeroN)
  clear S0 H hrow k1 HR e0
  have hend := fun a' W h5 h7 gm h8 => hend a' W h5 h7 ⟨A, c, gm, h8⟩
  obtain ⟨cm, hcm⟩ : ∃ cm, Hid (ntA 0 zH (.slice A 1 c) = cm) := ⟨_, Lib.hid rfl⟩
  rw [hcm.out] at HO hz2 hend ⊢
  go_wp2_with (first
    | (refine wpList_store_blk rfl 36 (.tmp 6) (.tmp 36) rfl w1.heap.size (by simp [Act.eval, Act.put, hsz]) cm (by simp [Act.eval, Act.put, hsz]) 36 _ (S1.out.at_ (l1 := [])) (by rw [hz2.out]; exact Tryd.infoNote) (by rw [hz2.out]; rfl) HO.out ?_; intro w7 b7 k7; have S7 := Lib.hid (Held.setBlk (l1 := []) S1.out b7 k7); clear b7 k7)
    | fail)
  try simp only [Act.put]
  exact hend _ _ (by repeat (first | (with_reducible refine same_set (by decide) ?_) | (with_reducible exact same_nil))) (by unfold Sl; first | (simp [hsz]; done) | (simp [hsz]; omega)) (w1.heap.size) (⟨(by unfold Sl; simp [hsz]), S7.out⟩)
-- END skn8
-- REG skn9
set_option maxRecDepth 100000 in
set_option maxHeartbeats 2000000 in
theorem skn_r9 {Q : Exit → Act → World → Prop} {a : Act} {w : World} (LDw : LD w) (gm : Nat) (A : Option Addr) (c : Nat) (hb : Blk w gm 36 (ntA 0 zH (.slice A 1 c))) (hv : Rd w 33 (.slice A 1 c) 1 (sgsC [sig1])) (hsz : a.tmps.size = 104) (o6 : Sl a 6 (.pointer (some ⟨gm, 0, none⟩)))
    (hend : ∀ (a' : Act) (W : World), Same a a' [39, 40, 41, 42, 38, 43, 44, 8, 9] → Sl a' 9 (.int .i64 (8 : Int)) → (Kp [] w W) → Q .normal a' W) : (Code.region 9 (opsOf 9 Tryd.f13).toArray false).wp Tryd.prog Q a w := by
  refine wp_region_lit (l := (opsOf 9 Tryd.f13)) ?_
  conv => arg 4; whnf
  unfold Sl at o6
  have HL := Lib.hid LDw
  have HB := Lib.hid hb
  have HV := Lib.hid hv
  clear LDw hb hv
  obtain ⟨cn, hcn⟩ : ∃ cn, Hid (ntA 0 zH (.slice A 1 c) = cn) := ⟨_, Lib.hid rfl⟩
  have hzc : Hid (cn.size = 34) := Lib.hid (by rw [← hcn.out]; exact ntA_size zH_length)
  rw [hcn.out] at HB
  go_wp2_with (first
    | (refine wpList_load_blk rfl 36 (.tmp 6) rfl gm (by simp [Act.eval, Act.put, hsz, o6]) 36 _ HB.out _ Tryd.underlying36 rfl (by rw [hzc.out]; exact Tryd.infoNote) ?_)
    | (refine wpList_buildP rfl 42 _ rfl [(0, .string ⟨#[119]⟩), (1, .slice (some ⟨w.heap.size, 0, none⟩) 2 2)] (by simp [Act.eval, Act.put, hsz]) _ (Tryd.built_key2 ⟨#[119]⟩ _ 2 2) ?_))
  rw [← hcn.out]
  have HR := rd_lit w 5 #[.int .u8 1, .int .u8 2] sec12 rfl (by decide)
  refine (ssign_any 0 (by decide) zH zH_length [sig1] sig1_ok (by decide) A c ⟨#[119]⟩ (by decide) (some ⟨w.heap.size, 0, none⟩) 2 sec12 _ (HL.out.kp ((Kp.refl [] w).alloc _)) (rd_old HV.out ((Kp.refl [] w).alloc _)) HR).mono ?_
  rintro e w1 ⟨u, rfl, -, k1⟩
  have e0 : signE 0 [sig1] (ByteArray.mk #[119]).data.toList sec12 = 8 := signE_8
  rw [if_neg (by rw [e0]; decide), e0]
  have hz2 : Hid (zeroN.size = 34) := Lib.hid rfl
  have HO := Lib.hid (ntA_one (z := 0) (h := zH) (v := .slice none 0 0) rfl)
  have S1 := Lib.hid ((Held.of_kp (((Kp.refl [] w).alloc (.cells #[.int .u8 1, .int .u8 2] 5)).trans k1 (by simp))).newBlk 36 zeroN)
  clear k1 HR e0
  have HO : Hid (∀ u, u ∈ zeroN.toList → u.oneCell' = true) := HO
  obtain ⟨cm, hcm⟩ : ∃ cm, Hid (zeroN = cm) := ⟨_, Lib.hid rfl⟩
  rw [hcm.out] at HO hz2 ⊢
  go_wp2_with (first
    | (refine wpList_store_blk rfl 36 (.tmp 8) (.tmp 43) rfl w1.heap.size (by simp [Act.eval, Act.put, hsz]) cm (by simp [Act.eval, Act.put, hsz]) 36 _ (S1.out.at_ (l1 := [])) (by rw [hz2.out]; exact Tryd.infoNote) (by rw [hz2.out]; rfl) HO.out ?_; intro w7 b7 k7; have S7 := Lib.hid (Held.setBlk (l1 := []) S1.out b7 k7); clear b7 k7)
    | fail)
  try simp only [Act.put]
  exact hend _ _ (by repeat (first | (with_reducible refine same_set (by decide) ?_) | (with_reducible exact same_nil))) (by unfold Sl; first | (simp [hsz]; done) | (simp [hsz]; omega)) (S7.out.k)
-- END skn9
-- REG skn10
set_option maxRecDepth 100000 in
set_option maxHeartbeats 2000000 in
theorem skn_r10 {Q : Exit → Act → World → Prop} {a : Act} {w : World} (LDw : LD w) (gm : Nat) (A : Option Addr) (c : Nat) (hb : Blk w gm 36 (ntA 0 zH (.slice A 1 c))) (hv : Rd w 33 (.slice A 1 c) 1 (sgsC [sig1])) (hsz : a.tmps.size = 104) (o6 : Sl a 6 (.pointer (some ⟨gm, 0, none⟩)))
    (hend : ∀ (a' : Act) (W : World), Same a a' [45, 46, 47, 48, 49, 10] → (∃ u, Sl a' 10 u ∧ Held w W [rowR 9 1 u 1 [.string ⟨#[119]⟩]]) → Q .normal a' W) : (Code.region 10 (opsOf 10 Tryd.f13).toArray false).wp Tryd.prog Q a w := by
  refine wp_region_lit (l := (opsOf 10 Tryd.f13)) ?_
  conv => arg 4; whnf
  unfold Sl at o6
  have HL := Lib.hid LDw
  have HB := Lib.hid hb
  have HV := Lib.hid hv
  clear LDw hb hv
  obtain ⟨cn, hcn⟩ : ∃ cn, Hid (ntA 0 zH (.slice A 1 c) = cn) := ⟨_, Lib.hid rfl⟩
  have hzc : Hid (cn.size = 34) := Lib.hid (by rw [← hcn.out]; exact ntA_size zH_length)
  rw [hcn.out] at HB
  go_wp2_with (first
    | (refine wpList_load_blk rfl 36 (.tmp 6) rfl gm (by simp [Act.eval, Act.put, hsz, o6]) 36 _ HB.out _ Tryd.underlying36 rfl (by rw [hzc.out]; exact Tryd.infoNote) ?_)
    | (refine wpList_buildP rfl 42 _ rfl [(0, .string ⟨#[119]⟩), (1, .slice (some ⟨w.heap.size, 0, none⟩) 2 2)] (by simp [Act.eval, Act.put, hsz]) _ (Tryd.built_key2 ⟨#[119]⟩ _ 2 2) ?_)
    | (refine wpList_keys1 rfl 46 42 (.tmp 47) rfl ⟨#[119]⟩ (some ⟨w.heap.size, 0, none⟩) 2 2 (by simp [Act.eval, Act.put, hsz]) ?_))
  rw [← hcn.out]
  have HR := rd_lit w 5 #[.int .u8 1, .int .u8 2] sec12 rfl (by decide)
  have HK := kys1 (g := w.heap.size + 1) 42 (by simp) ⟨#[119]⟩ sec12 HR wN rfl
  refine (sright_any 0 (by decide) zH zH_length A c [sig1] sig1_ok (by decide) (some ⟨w.heap.size + 1, 0, none⟩) 1 [(wN, sec12)] (by decide) (fun k hk => by rw [List.mem_singleton.1 hk]; decide) _ _ (HL.out.kp (((Kp.refl [] w).alloc _).alloc _)) (rd_old HV.out (((Kp.refl [] w).alloc _).alloc _)) HK).mono ?_
  rintro e w1 ⟨u, rfl, H⟩
  rw [right_1] at H
  have S1 : Hid (Held w w1 [rowR 9 1 u 1 [.string ⟨#[119]⟩]]) := Lib.hid (Held.back (((Kp.refl [] w).alloc _).alloc _) H)
  clear H HK HR
  go_wp2_with fail
  try simp only [Act.put]
  exact hend _ _ (by repeat (first | (with_reducible refine same_set (by decide) ?_) | (with_reducible exact same_nil))) (⟨u, (by unfold Sl; simp [hsz]), S1.out⟩)
-- END skn10
-- REG skn11
set_option maxRecDepth 100000 in
set_option maxHeartbeats 2000000 in
theorem skn_r11 {Q : Exit → Act → World → Prop} {a : Act} {w : World} (LDw : LD w) (gh gm go co : Nat) (A : Option Addr) (c : Nat) (hb3 : Blk w gh 25 (hashA kn20)) (hb6 : Blk w gm 36 (ntA 0 zH (.slice A 1 c))) (hv6 : Rd w 33 (.slice A 1 c) 1 (sgsC [sig1])) (hv10 : Rd w 1 (.slice (some ⟨go, 0, none⟩) 1 co) 1 [.string ⟨#[119]⟩]) (hsz : a.tmps.size = 104) (o3 : Sl a 3 (.pointer (some ⟨gh, 0, none⟩))) (o5 : Sl a 5 (.int .i64 (0 : Int))) (o6 : Sl a 6 (.pointer (some ⟨gm, 0, none⟩))) (o7 : Sl a 7 (.int .i64 (0 : Int))) (o9 : Sl a 9 (.int .i64 (8 : Int))) (o10 : Sl a 10 (.slice (some ⟨go, 0, none⟩) 1 co))
    (hend : ∀ (a' : Act) (W : World), Same a a' [50, 51, 52, 53, 54, 55, 56, 57, 58, 59, 60, 61, 62, 63, 64, 65, 66, 67, 68, 69, 70, 71, 72, 73, 74, 75, 76, 77, 78, 79, 80, 81, 82, 83, 84, 85, 86, 87, 88, 89, 90, 91, 92, 93, 94, 95, 96, 97, 98, 99, 100, 101, 102, 103, 0] → Kp [] w W → Sl a' 0 (.bool true) → Q .normal a' W) : (Code.region 11 (opsOf 11 Tryd.f13).toArray false).wp Tryd.prog Q a w := by
  have hap : apartB (opsOf 11 Tryd.f13) = true := by kernel_rfl
  refine wp_region_invS (l := (opsOf 11 Tryd.f13)) (fun i v W => match i with | 0 => v = .pointer (some ⟨gh, 0, none⟩) | 1 => v = .int .u8 176 | 2 => v = .bool true | 3 => v = .bool true | 4 => v = .pointer (some ⟨gh, 1, none⟩) | 5 => v = .int .u8 52 | 6 => v = .bool true | 7 => v = .bool true | 8 => v = .bool true | 9 => v = .pointer (some ⟨gh, 31, none⟩) | 10 => v = .int .u8 247 | 11 => v = .bool true | 12 => v = .bool true | 13 => v = .bool true | 14 => v = .int .i64 (0 : Int) | 15 => v = .int .i64 (0 : Int) | 16 => v = .bool true | 17 => v = .bool true | 18 => v = .bool true | 19 => v = .int .i64 (0 : Int) | 20 => v = .int .i64 (0 : Int) | 21 => v = .bool true | 22 => v = .bool true | 23 => v = .bool true | 24 => v = .pointer (some ⟨gm, 33, none⟩) | 25 => v = .slice A 1 c | 26 => v = .int .i64 (1 : Int) | 27 => v = .bool true | 28 => v = .bool true | 29 => v = .bool true | 30 => v = .int .i64 (8 : Int) | 31 => v = .int .i64 (8 : Int) | 32 => v = .bool true | 33 => v = .bool true | 34 => v = .bool true | 35 => v = .slice (some ⟨go, 0, none⟩) 1 co | 36 => v = .int .i64 (1 : Int) | 37 => v = .bool true | 38 => v = .bool true | 39 => v = .bool true | 40 => v = .slice (some ⟨go, 0, none⟩) 1 co | 41 => v = .pointer (some ⟨go, 0, none⟩) | 42 => v = .string ⟨#[119]⟩ | 43 => v = .bool true | 44 => v = .bool true | 45 => v = .bool true | 46 => v = .agg (ntA 0 zH (.slice A 1 c)) | 47 => ∃ A c, v = .slice A 2 c ∧ Rd W 1 (.slice A 2 c) 2 (bv sec13) | 48 => ∃ A c, v = .agg #[.string ⟨#[119]⟩, .slice A 2 c] ∧ Rd W 1 (.slice A 2 c) 2 (bv sec13) | 49 => ∃ us A, v = .slice A 1 1 ∧ KysF W (.slice A 1 1) us [(wN, sec13)] | 50 => ∃ A c, v = .slice A 0 c | 51 => v = .int .i64 (0 : Int) | 52 => v = .bool true | 53 => v = .bool true | 54 => v = .bool true | _ => True) hap ?_ ?_ ?_
  · intro i v W W' h k
    rcases i with _ | i
    · exact h
    rcases i with _ | i
    · exact h
    rcases i with _ | i
    · exact h
    rcases i with _ | i
    · exact h
    rcases i with _ | i
    · exact h
    rcases i with _ | i
    · exact h
    rcases i with _ | i
    · exact h
    rcases i with _ | i
    · exact h
    rcases i with _ | i
    · exact h
    rcases i with _ | i
    · exact h
    rcases i with _ | i
    · exact h
    rcases i with _ | i
    · exact h
    rcases i with _ | i
    · exact h
    rcases i with _ | i
    · exact h
    rcases i with _ | i
    · exact h
    rcases i with _ | i
    · exact h
    rcases i with _ | i
    · exact h
    rcases i with _ | i
    · exact h
    rcases i with _ | i
    · exact h
    rcases i with _ | i
    · exact h
    rcases i with _ | i
    · exact h
    rcases i with _ | i
    · exact h
    rcases i with _ | i
    · exact h
    rcases i with _ | i
    · exact h
    rcases i with _ | i
    · exact h
    rcases i with _ | i
    · exact h
    rcases i with _ | i
    · exact h
    rcases i with _ | i
    · exact h
    rcases i with _ | i
    · exact h
    rcases i with _ | i
    · exact h
    rcases i with _ | i
    · exact h
    rcases i with _ | i
    · exact h
    rcases i with _ | i
    · exact h
    rcases i with _ | i
    · exact h
    rcases i with _ | i
    · exact h
    rcases i with _ | i
    · exact h
    rcases i with _ | i
    · exact h
    rcases i with _ | i
    · exact h
    rcases i with _ | i
    · exact h
    rcases i with _ | i
    · exact h
    rcases i with _ | i
    · exact h
    rcases i with _ | i
    · exact h
    rcases i with _ | i
    · exact h
    rcases i with _ | i
    · exact h
    rcases i with _ | i
    · exact h
    rcases i with _ | i
    · exact h
    rcases i with _ | i
    · exact h
    rcases i with _ | i
    · obtain ⟨A, c, h1, h2⟩ := h; exact ⟨A, c, h1, rd_old h2 k⟩
    rcases i with _ | i
    · obtain ⟨A, c, h1, h2⟩ := h; exact ⟨A, c, h1, rd_old h2 k⟩
    rcases i with _ | i
    · obtain ⟨us, A, h1, h2⟩ := h; exact ⟨us, A, h1, h2.kp0 k⟩
    rcases i with _ | i
    · exact h
    rcases i with _ | i
    · exact h
    rcases i with _ | i
    · exact h
    rcases i with _ | i
    · exact h
    rcases i with _ | i
    · exact h
    exact h
  · refine ⟨?_, ?_, ?_, ?_, ?_, ?_, ?_, ?_, ?_, ?_, ?_, ?_, ?_, ?_, ?_, ?_, ?_, ?_, ?_, ?_, ?_, ?_, ?_, ?_, ?_, ?_, ?_, ?_, ?_, ?_, ?_, ?_, ?_, ?_, ?_, ?_, ?_, ?_, ?_, ?_, ?_, ?_, ?_, ?_, ?_, ?_, ?_, ?_, ?_, ?_, ?_, ?_, ?_, ?_, ?_, trivial⟩
    · intro vs A' W hA hW hd hu K hK
      refine wpOp_free _ rfl rfl ?_
      conv => arg 2; whnf
      have e3 : A'.tmps[3]?.getD undef = .pointer (some ⟨gh, 0, none⟩) := slot_out hA hap (Nat.lt_of_lt_of_eq (Nat.le_of_ble_eq_true rfl : 3 < 104) hsz.symm) (by kernel_rfl) o3
      clear hA hd hu o3 o5 o6 o7 o9 o10
      go_step
      exact hK _ _ (Kp.refl _ _) rfl
    · intro vs A' W hA hW hd hu K hK
      refine wpOp_free _ rfl rfl ?_
      conv => arg 2; whnf
      have f0 : vs 0 = .pointer (some ⟨gh, 0, none⟩) := hd 0 (by kernel_rfl)
      have e50 : A'.tmps[50]?.getD undef = vs 0 := slot_in hA hap (Nat.lt_of_lt_of_eq (Nat.le_of_ble_eq_true rfl : 50 < 104) hsz.symm) (by kernel_rfl)
      rw [f0] at e50
      clear hA hd hu o3 o5 o6 o7 o9 o10
      have c0 : W.cell? ⟨gh, 0, none⟩ = some (.int .u8 176) := hash_cell (hb3.kp hW (by simp)) 0 176 kn20_at.1
      go_step
      exact hK _ _ (Kp.refl _ _) rfl
    · intro vs A' W hA hW hd hu K hK
      refine wpOp_free _ rfl rfl ?_
      conv => arg 2; whnf
      have f1 : vs 1 = .int .u8 176 := hd 1 (by kernel_rfl)
      have e51 : A'.tmps[51]?.getD undef = vs 1 := slot_in hA hap (Nat.lt_of_lt_of_eq (Nat.le_of_ble_eq_true rfl : 51 < 104) hsz.symm) (by kernel_rfl)
      rw [f1] at e51
      clear hA hd hu o3 o5 o6 o7 o9 o10
      go_step
      exact hK _ _ (Kp.refl _ _) rfl
    · intro vs A' W hA hW hd hu K hK
      refine wpOp_free _ rfl rfl ?_
      conv => arg 2; whnf
      have f2 : vs 2 = .bool true := hd 2 (by kernel_rfl)
      have e52 : A'.tmps[52]?.getD undef = vs 2 := slot_in hA hap (Nat.lt_of_lt_of_eq (Nat.le_of_ble_eq_true rfl : 52 < 104) hsz.symm) (by kernel_rfl)
      rw [f2] at e52
      clear hA hd hu o3 o5 o6 o7 o9 o10
      go_step
      exact hK _ _ (Kp.refl _ _) rfl
    · intro vs A' W hA hW hd hu K hK
      have f3 : vs 3 = .bool true := hd 3 (by kernel_rfl)
      have e53 : A'.tmps[53]?.getD undef = vs 3 := slot_in hA hap (Nat.lt_of_lt_of_eq (Nat.le_of_ble_eq_true rfl : 53 < 104) hsz.symm) (by kernel_rfl)
      rw [f3] at e53
      refine wpOp_go _ rfl 3 53 true rfl rfl e53 ?_
      conv => arg 2; whnf
      have e3 : A'.tmps[3]?.getD undef = .pointer (some ⟨gh, 0, none⟩) := slot_out hA hap (Nat.lt_of_lt_of_eq (Nat.le_of_ble_eq_true rfl : 3 < 104) hsz.symm) (by kernel_rfl) o3
      clear hA hd hu o3 o5 o6 o7 o9 o10
      go_step
      exact hK _ _ (Kp.refl _ _) rfl
    · intro vs A' W hA hW hd hu K hK
      have f3 : vs 3 = .bool true := hd 3 (by kernel_rfl)
      have e53 : A'.tmps[53]?.getD undef = vs 3 := slot_in hA hap (Nat.lt_of_lt_of_eq (Nat.le_of_ble_eq_true rfl : 53 < 104) hsz.symm) (by kernel_rfl)
      rw [f3] at e53
      refine wpOp_go _ rfl 3 53 true rfl rfl e53 ?_
      conv => arg 2; whnf
      have f4 : vs 4 = .pointer (some ⟨gh, 1, none⟩) := hd 4 (by kernel_rfl)
      have e54 : A'.tmps[54]?.getD undef = vs 4 := slot_in hA hap (Nat.lt_of_lt_of_eq (Nat.le_of_ble_eq_true rfl : 54 < 104) hsz.symm) (by kernel_rfl)
      rw [f4] at e54
      clear hA hd hu o3 o5 o6 o7 o9 o10
      have c0 : W.cell? ⟨gh, 1, none⟩ = some (.int .u8 52) := hash_cell (hb3.kp hW (by simp)) 1 52 kn20_at.2.1
      go_step
      exact hK _ _ (Kp.refl _ _) rfl
    · intro vs A' W hA hW hd hu K hK
      have f3 : vs 3 = .bool true := hd 3 (by kernel_rfl)
      have e53 : A'.tmps[53]?.getD undef = vs 3 := slot_in hA hap (Nat.lt_of_lt_of_eq (Nat.le_of_ble_eq_true rfl : 53 < 104) hsz.symm) (by kernel_rfl)
      rw [f3] at e53
      refine wpOp_go _ rfl 3 53 true rfl rfl e53 ?_
      conv => arg 2; whnf
      have f5 : vs 5 = .int .u8 52 := hd 5 (by kernel_rfl)
      have e55 : A'.tmps[55]?.getD undef = vs 5 := slot_in hA hap (Nat.lt_of_lt_of_eq (Nat.le_of_ble_eq_true rfl : 55 < 104) hsz.symm) (by kernel_rfl)
      rw [f5] at e55
      clear hA hd hu o3 o5 o6 o7 o9 o10
      go_step
      exact hK _ _ (Kp.refl _ _) rfl
    · intro vs A' W hA hW hd hu K hK
      refine wpOp_free _ rfl rfl ?_
      conv => arg 2; whnf
      have f3 : vs 3 = .bool true := hd 3 (by kernel_rfl)
      have e53 : A'.tmps[53]?.getD undef = vs 3 := slot_in hA hap (Nat.lt_of_lt_of_eq (Nat.le_of_ble_eq_true rfl : 53 < 104) hsz.symm) (by kernel_rfl)
      rw [f3] at e53
      have f6 : vs 6 = .bool true := hd 6 (by kernel_rfl)
      have e56 : A'.tmps[56]?.getD undef = vs 6 := slot_in hA hap (Nat.lt_of_lt_of_eq (Nat.le_of_ble_eq_true rfl : 56 < 104) hsz.symm) (by kernel_rfl)
      rw [f6] at e56
      clear hA hd hu o3 o5 o6 o7 o9 o10
      go_step
      exact hK _ _ (Kp.refl _ _) rfl
    · intro vs A' W hA hW hd hu K hK
      refine wpOp_free _ rfl rfl ?_
      conv => arg 2; whnf
      have f7 : vs 7 = .bool true := hd 7 (by kernel_rfl)
      have e57 : A'.tmps[57]?.getD undef = vs 7 := slot_in hA hap (Nat.lt_of_lt_of_eq (Nat.le_of_ble_eq_true rfl : 57 < 104) hsz.symm) (by kernel_rfl)
      rw [f7] at e57
      clear hA hd hu o3 o5 o6 o7 o9 o10
      go_step
      exact hK _ _ (Kp.refl _ _) rfl
    · intro vs A' W hA hW hd hu K hK
      have f8 : vs 8 = .bool true := hd 8 (by kernel_rfl)
      have e58 : A'.tmps[58]?.getD undef = vs 8 := slot_in hA hap (Nat.lt_of_lt_of_eq (Nat.le_of_ble_eq_true rfl : 58 < 104) hsz.symm) (by kernel_rfl)
      rw [f8] at e58
      refine wpOp_go _ rfl 8 58 true rfl rfl e58 ?_
      conv => arg 2; whnf
      have e3 : A'.tmps[3]?.getD undef = .pointer (some ⟨gh, 0, none⟩) := slot_out hA hap (Nat.lt_of_lt_of_eq (Nat.le_of_ble_eq_true rfl : 3 < 104) hsz.symm) (by kernel_rfl) o3
      clear hA hd hu o3 o5 o6 o7 o9 o10
      go_step
      exact hK _ _ (Kp.refl _ _) rfl
    · intro vs A' W hA hW hd hu K hK
      have f8 : vs 8 = .bool true := hd 8 (by kernel_rfl)
      have e58 : A'.tmps[58]?.getD undef = vs 8 := slot_in hA hap (Nat.lt_of_lt_of_eq (Nat.le_of_ble_eq_true rfl : 58 < 104) hsz.symm) (by kernel_rfl)
      rw [f8] at e58
      refine wpOp_go _ rfl 8 58 true rfl rfl e58 ?_
      conv => arg 2; whnf
      have f9 : vs 9 = .pointer (some ⟨gh, 31, none⟩) := hd 9 (by kernel_rfl)
      have e59 : A'.tmps[59]?.getD undef = vs 9 := slot_in hA hap (Nat.lt_of_lt_of_eq (Nat.le_of_ble_eq_true rfl : 59 < 104) hsz.symm) (by kernel_rfl)
      rw [f9] at e59
      clear hA hd hu o3 o5 o6 o7 o9 o10
      have c0 : W.cell? ⟨gh, 31, none⟩ = some (.int .u8 247) := hash_cell (hb3.kp hW (by simp)) 31 247 kn20_at.2.2
      go_step
      exact hK _ _ (Kp.refl _ _) rfl
    · intro vs A' W hA hW hd hu K hK
      have f8 : vs 8 = .bool true := hd 8 (by kernel_rfl)
      have e58 : A'.tmps[58]?.getD undef = vs 8 := slot_in hA hap (Nat.lt_of_lt_of_eq (Nat.le_of_ble_eq_true rfl : 58 < 104) hsz.symm) (by kernel_rfl)
      rw [f8] at e58
      refine wpOp_go _ rfl 8 58 true rfl rfl e58 ?_
      conv => arg 2; whnf
      have f10 : vs 10 = .int .u8 247 := hd 10 (by kernel_rfl)
      have e60 : A'.tmps[60]?.getD undef = vs 10 := slot_in hA hap (Nat.lt_of_lt_of_eq (Nat.le_of_ble_eq_true rfl : 60 < 104) hsz.symm) (by kernel_rfl)
      rw [f10] at e60
      clear hA hd hu o3 o5 o6 o7 o9 o10
      go_step
      exact hK _ _ (Kp.refl _ _) rfl
    · intro vs A' W hA hW hd hu K hK
      refine wpOp_free _ rfl rfl ?_
      conv => arg 2; whnf
      have f8 : vs 8 = .bool true := hd 8 (by kernel_rfl)
      have e58 : A'.tmps[58]?.getD undef = vs 8 := slot_in hA hap (Nat.lt_of_lt_of_eq (Nat.le_of_ble_eq_true rfl : 58 < 104) hsz.symm) (by kernel_rfl)
      rw [f8] at e58
      have f11 : vs 11 = .bool true := hd 11 (by kernel_rfl)
      have e61 : A'.tmps[61]?.getD undef = vs 11 := slot_in hA hap (Nat.lt_of_lt_of_eq (Nat.le_of_ble_eq_true rfl : 61 < 104) hsz.symm) (by kernel_rfl)
      rw [f11] at e61
      clear hA hd hu o3 o5 o6 o7 o9 o10
      go_step
      exact hK _ _ (Kp.refl _ _) rfl
    · intro vs A' W hA hW hd hu K hK
      refine wpOp_free _ rfl rfl ?_
      conv => arg 2; whnf
      have f12 : vs 12 = .bool true := hd 12 (by kernel_rfl)
      have e62 : A'.tmps[62]?.getD undef = vs 12 := slot_in hA hap (Nat.lt_of_lt_of_eq (Nat.le_of_ble_eq_true rfl : 62 < 104) hsz.symm) (by kernel_rfl)
      rw [f12] at e62
      clear hA hd hu o3 o5 o6 o7 o9 o10
      go_step
      exact hK _ _ (Kp.refl _ _) rfl
    · intro vs A' W hA hW hd hu K hK
      have f13 : vs 13 = .bool true := hd 13 (by kernel_rfl)
      have e63 : A'.tmps[63]?.getD undef = vs 13 := slot_in hA hap (Nat.lt_of_lt_of_eq (Nat.le_of_ble_eq_true rfl : 63 < 104) hsz.symm) (by kernel_rfl)
      rw [f13] at e63
      refine wpOp_go _ rfl 13 63 true rfl rfl e63 ?_
      conv => arg 2; whnf
      have e5 : A'.tmps[5]?.getD undef = .int .i64 (0 : Int) := slot_out hA hap (Nat.lt_of_lt_of_eq (Nat.le_of_ble_eq_true rfl : 5 < 104) hsz.symm) (by kernel_rfl) o5
      clear hA hd hu o3 o5 o6 o7 o9 o10
      go_step
      exact hK _ _ (Kp.refl _ _) rfl
    · intro vs A' W hA hW hd hu K hK
      have f13 : vs 13 = .bool true := hd 13 (by kernel_rfl)
      have e63 : A'.tmps[63]?.getD undef = vs 13 := slot_in hA hap (Nat.lt_of_lt_of_eq (Nat.le_of_ble_eq_true rfl : 63 < 104) hsz.symm) (by kernel_rfl)
      rw [f13] at e63
      refine wpOp_go _ rfl 13 63 true rfl rfl e63 ?_
      conv => arg 2; whnf
      have f14 : vs 14 = .int .i64 (0 : Int) := hd 14 (by kernel_rfl)
      have e64 : A'.tmps[64]?.getD undef = vs 14 := slot_in hA hap (Nat.lt_of_lt_of_eq (Nat.le_of_ble_eq_true rfl : 64 < 104) hsz.symm) (by kernel_rfl)
      rw [f14] at e64
      clear hA hd hu o3 o5 o6 o7 o9 o10
      go_step
      refine (lnum_any 0 W).mono ?_
      rintro e w' ⟨rfl, rfl⟩
      exact hK _ _ (Kp.refl _ _) rfl
    · intro vs A' W hA hW hd hu K hK
      have f13 : vs 13 = .bool true := hd 13 (by kernel_rfl)
      have e63 : A'.tmps[63]?.getD undef = vs 13 := slot_in hA hap (Nat.lt_of_lt_of_eq (Nat.le_of_ble_eq_true rfl : 63 < 104) hsz.symm) (by kernel_rfl)
      rw [f13] at e63
      refine wpOp_go _ rfl 13 63 true rfl rfl e63 ?_
      conv => arg 2; whnf
      have f15 : vs 15 = .int .i64 (0 : Int) := hd 15 (by kernel_rfl)
      have e65 : A'.tmps[65]?.getD undef = vs 15 := slot_in hA hap (Nat.lt_of_lt_of_eq (Nat.le_of_ble_eq_true rfl : 65 < 104) hsz.symm) (by kernel_rfl)
      rw [f15] at e65
      clear hA hd hu o3 o5 o6 o7 o9 o10
      go_step
      exact hK _ _ (Kp.refl _ _) rfl
    · intro vs A' W hA hW hd hu K hK
      refine wpOp_free _ rfl rfl ?_
      conv => arg 2; whnf
      have f13 : vs 13 = .bool true := hd 13 (by kernel_rfl)
      have e63 : A'.tmps[63]?.getD undef = vs 13 := slot_in hA hap (Nat.lt_of_lt_of_eq (Nat.le_of_ble_eq_true rfl : 63 < 104) hsz.symm) (by kernel_rfl)
      rw [f13] at e63
      have f16 : vs 16 = .bool true := hd 16 (by kernel_rfl)
      have e66 : A'.tmps[66]?.getD undef = vs 16 := slot_in hA hap (Nat.lt_of_lt_of_eq (Nat.le_of_ble_eq_true rfl : 66 < 104) hsz.symm) (by kernel_rfl)
      rw [f16] at e66
      clear hA hd hu o3 o5 o6 o7 o9 o10
      go_step
      exact hK _ _ (Kp.refl _ _) rfl
    · intro vs A' W hA hW hd hu K hK
      refine wpOp_free _ rfl rfl ?_
      conv => arg 2; whnf
      have f17 : vs 17 = .bool true := hd 17 (by kernel_rfl)
      have e67 : A'.tmps[67]?.getD undef = vs 17 := slot_in hA hap (Nat.lt_of_lt_of_eq (Nat.le_of_ble_eq_true rfl : 67 < 104) hsz.symm) (by kernel_rfl)
      rw [f17] at e67
      clear hA hd hu o3 o5 o6 o7 o9 o10
      go_step
      exact hK _ _ (Kp.refl _ _) rfl
    · intro vs A' W hA hW hd hu K hK
      have f18 : vs 18 = .bool true := hd 18 (by kernel_rfl)
      have e68 : A'.tmps[68]?.getD undef = vs 18 := slot_in hA hap (Nat.lt_of_lt_of_eq (Nat.le_of_ble_eq_true rfl : 68 < 104) hsz.symm) (by kernel_rfl)
      rw [f18] at e68
      refine wpOp_go _ rfl 18 68 true rfl rfl e68 ?_
      conv => arg 2; whnf
      have e7 : A'.tmps[7]?.getD undef = .int .i64 (0 : Int) := slot_out hA hap (Nat.lt_of_lt_of_eq (Nat.le_of_ble_eq_true rfl : 7 < 104) hsz.symm) (by kernel_rfl) o7
      clear hA hd hu o3 o5 o6 o7 o9 o10
      go_step
      exact hK _ _ (Kp.refl _ _) rfl
    · intro vs A' W hA hW hd hu K hK
      have f18 : vs 18 = .bool true := hd 18 (by kernel_rfl)
      have e68 : A'.tmps[68]?.getD undef = vs 18 := slot_in hA hap (Nat.lt_of_lt_of_eq (Nat.le_of_ble_eq_true rfl : 68 < 104) hsz.symm) (by kernel_rfl)
      rw [f18] at e68
      refine wpOp_go _ rfl 18 68 true rfl rfl e68 ?_
      conv => arg 2; whnf
      have f19 : vs 19 = .int .i64 (0 : Int) := hd 19 (by kernel_rfl)
      have e69 : A'.tmps[69]?.getD undef = vs 19 := slot_in hA hap (Nat.lt_of_lt_of_eq (Nat.le_of_ble_eq_true rfl : 69 < 104) hsz.symm) (by kernel_rfl)
      rw [f19] at e69
      clear hA hd hu o3 o5 o6 o7 o9 o10
      go_step
      refine (lnum_any 0 W).mono ?_
      rintro e w' ⟨rfl, rfl⟩
      exact hK _ _ (Kp.refl _ _) rfl
    · intro vs A' W hA hW hd hu K hK
      have f18 : vs 18 = .bool true := hd 18 (by kernel_rfl)
      have e68 : A'.tmps[68]?.getD undef = vs 18 := slot_in hA hap (Nat.lt_of_lt_of_eq (Nat.le_of_ble_eq_true rfl : 68 < 104) hsz.symm) (by kernel_rfl)
      rw [f18] at e68
      refine wpOp_go _ rfl 18 68 true rfl rfl e68 ?_
      conv => arg 2; whnf
      have f20 : vs 20 = .int .i64 (0 : Int) := hd 20 (by kernel_rfl)
      have e70 : A'.tmps[70]?.getD undef = vs 20 := slot_in hA hap (Nat.lt_of_lt_of_eq (Nat.le_of_ble_eq_true rfl : 70 < 104) hsz.symm) (by kernel_rfl)
      rw [f20] at e70
      clear hA hd hu o3 o5 o6 o7 o9 o10
      go_step
      exact hK _ _ (Kp.refl _ _) rfl
    · intro vs A' W hA hW hd hu K hK
      refine wpOp_free _ rfl rfl ?_
      conv => arg 2; whnf
      have f18 : vs 18 = .bool true := hd 18 (by kernel_rfl)
      have e68 : A'.tmps[68]?.getD undef = vs 18 := slot_in hA hap (Nat.lt_of_lt_of_eq (Nat.le_of_ble_eq_true rfl : 68 < 104) hsz.symm) (by kernel_rfl)
      rw [f18] at e68
      have f21 : vs 21 = .bool true := hd 21 (by kernel_rfl)
      have e71 : A'.tmps[71]?.getD undef = vs 21 := slot_in hA hap (Nat.lt_of_lt_of_eq (Nat.le_of_ble_eq_true rfl : 71 < 104) hsz.symm) (by kernel_rfl)
      rw [f21] at e71
      clear hA hd hu o3 o5 o6 o7 o9 o10
      go_step
      exact hK _ _ (Kp.refl _ _) rfl
    · intro vs A' W hA hW hd hu K hK
      refine wpOp_free _ rfl rfl ?_
      conv => arg 2; whnf
      have f22 : vs 22 = .bool true := hd 22 (by kernel_rfl)
      have e72 : A'.tmps[72]?.getD undef = vs 22 := slot_in hA hap (Nat.lt_of_lt_of_eq (Nat.le_of_ble_eq_true rfl : 72 < 104) hsz.symm) (by kernel_rfl)
      rw [f22] at e72
      clear hA hd hu o3 o5 o6 o7 o9 o10
      go_step
      exact hK _ _ (Kp.refl _ _) rfl
    · intro vs A' W hA hW hd hu K hK
      have f23 : vs 23 = .bool true := hd 23 (by kernel_rfl)
      have e73 : A'.tmps[73]?.getD undef = vs 23 := slot_in hA hap (Nat.lt_of_lt_of_eq (Nat.le_of_ble_eq_true rfl : 73 < 104) hsz.symm) (by kernel_rfl)
      rw [f23] at e73
      refine wpOp_go _ rfl 23 73 true rfl rfl e73 ?_
      conv => arg 2; whnf
      have e6 : A'.tmps[6]?.getD undef = .pointer (some ⟨gm, 0, none⟩) := slot_out hA hap (Nat.lt_of_lt_of_eq (Nat.le_of_ble_eq_true rfl : 6 < 104) hsz.symm) (by kernel_rfl) o6
      clear hA hd hu o3 o5 o6 o7 o9 o10
      go_step
      exact hK _ _ (Kp.refl _ _) rfl
    · intro vs A' W hA hW hd hu K hK
      have f23 : vs 23 = .bool true := hd 23 (by kernel_rfl)
      have e73 : A'.tmps[73]?.getD undef = vs 23 := slot_in hA hap (Nat.lt_of_lt_of_eq (Nat.le_of_ble_eq_true rfl : 73 < 104) hsz.symm) (by kernel_rfl)
      rw [f23] at e73
      refine wpOp_go _ rfl 23 73 true rfl rfl e73 ?_
      conv => arg 2; whnf
      have f24 : vs 24 = .pointer (some ⟨gm, 33, none⟩) := hd 24 (by kernel_rfl)
      have e74 : A'.tmps[74]?.getD undef = vs 24 := slot_in hA hap (Nat.lt_of_lt_of_eq (Nat.le_of_ble_eq_true rfl : 74 < 104) hsz.symm) (by kernel_rfl)
      rw [f24] at e74
      clear hA hd hu o3 o5 o6 o7 o9 o10
      have c0 : W.cell? ⟨gm, 33, none⟩ = some (.slice A 1 c) := by rw [(hb6.kp hW (by simp)).cell]; exact ntA_sigs zH_length
      go_step
      exact hK _ _ (Kp.refl _ _) rfl
    · intro vs A' W hA hW hd hu K hK
      have f23 : vs 23 = .bool true := hd 23 (by kernel_rfl)
      have e73 : A'.tmps[73]?.getD undef = vs 23 := slot_in hA hap (Nat.lt_of_lt_of_eq (Nat.le_of_ble_eq_true rfl : 73 < 104) hsz.symm) (by kernel_rfl)
      rw [f23] at e73
      refine wpOp_go _ rfl 23 73 true rfl rfl e73 ?_
      conv => arg 2; whnf
      have f25 : vs 25 = .slice A 1 c := hd 25 (by kernel_rfl)
      have e75 : A'.tmps[75]?.getD undef = vs 25 := slot_in hA hap (Nat.lt_of_lt_of_eq (Nat.le_of_ble_eq_true rfl : 75 < 104) hsz.symm) (by kernel_rfl)
      rw [f25] at e75
      clear hA hd hu o3 o5 o6 o7 o9 o10
      go_step
      exact hK _ _ (Kp.refl _ _) rfl
    · intro vs A' W hA hW hd hu K hK
      have f23 : vs 23 = .bool true := hd 23 (by kernel_rfl)
      have e73 : A'.tmps[73]?.getD undef = vs 23 := slot_in hA hap (Nat.lt_of_lt_of_eq (Nat.le_of_ble_eq_true rfl : 73 < 104) hsz.symm) (by kernel_rfl)
      rw [f23] at e73
      refine wpOp_go _ rfl 23 73 true rfl rfl e73 ?_
      conv => arg 2; whnf
      have f26 : vs 26 = .int .i64 (1 : Int) := hd 26 (by kernel_rfl)
      have e76 : A'.tmps[76]?.getD undef = vs 26 := slot_in hA hap (Nat.lt_of_lt_of_eq (Nat.le_of_ble_eq_true rfl : 76 < 104) hsz.symm) (by kernel_rfl)
      rw [f26] at e76
      clear hA hd hu o3 o5 o6 o7 o9 o10
      go_step
      exact hK _ _ (Kp.refl _ _) rfl
    · intro vs A' W hA hW hd hu K hK
      refine wpOp_free _ rfl rfl ?_
      conv => arg 2; whnf
      have f23 : vs 23 = .bool true := hd 23 (by kernel_rfl)
      have e73 : A'.tmps[73]?.getD undef = vs 23 := slot_in hA hap (Nat.lt_of_lt_of_eq (Nat.le_of_ble_eq_true rfl : 73 < 104) hsz.symm) (by kernel_rfl)
      rw [f23] at e73
      have f27 : vs 27 = .bool true := hd 27 (by kernel_rfl)
      have e77 : A'.tmps[77]?.getD undef = vs 27 := slot_in hA hap (Nat.lt_of_lt_of_eq (Nat.le_of_ble_eq_true rfl : 77 < 104) hsz.symm) (by kernel_rfl)
      rw [f27] at e77
      clear hA hd hu o3 o5 o6 o7 o9 o10
      go_step
      exact hK _ _ (Kp.refl _ _) rfl
    · intro vs A' W hA hW hd hu K hK
      refine wpOp_free _ rfl rfl ?_
      conv => arg 2; whnf
      have f28 : vs 28 = .bool true := hd 28 (by kernel_rfl)
      have e78 : A'.tmps[78]?.getD undef = vs 28 := slot_in hA hap (Nat.lt_of_lt_of_eq (Nat.le_of_ble_eq_true rfl : 78 < 104) hsz.symm) (by kernel_rfl)
      rw [f28] at e78
      clear hA hd hu o3 o5 o6 o7 o9 o10
      go_step
      exact hK _ _ (Kp.refl _ _) rfl
    · intro vs A' W hA hW hd hu K hK
      have f29 : vs 29 = .bool true := hd 29 (by kernel_rfl)
      have e79 : A'.tmps[79]?.getD undef = vs 29 := slot_in hA hap (Nat.lt_of_lt_of_eq (Nat.le_of_ble_eq_true rfl : 79 < 104) hsz.symm) (by kernel_rfl)
      rw [f29] at e79
      refine wpOp_go _ rfl 29 79 true rfl rfl e79 ?_
      conv => arg 2; whnf
      have e9 : A'.tmps[9]?.getD undef = .int .i64 (8 : Int) := slot_out hA hap (Nat.lt_of_lt_of_eq (Nat.le_of_ble_eq_true rfl : 9 < 104) hsz.symm) (by kernel_rfl) o9
      clear hA hd hu o3 o5 o6 o7 o9 o10
      go_step
      exact hK _ _ (Kp.refl _ _) rfl
    · intro vs A' W hA hW hd hu K hK
      have f29 : vs 29 = .bool true := hd 29 (by kernel_rfl)
      have e79 : A'.tmps[79]?.getD undef = vs 29 := slot_in hA hap (Nat.lt_of_lt_of_eq (Nat.le_of_ble_eq_true rfl : 79 < 104) hsz.symm) (by kernel_rfl)
      rw [f29] at e79
      refine wpOp_go _ rfl 29 79 true rfl rfl e79 ?_
      conv => arg 2; whnf
      have f30 : vs 30 = .int .i64 (8 : Int) := hd 30 (by kernel_rfl)
      have e80 : A'.tmps[80]?.getD undef = vs 30 := slot_in hA hap (Nat.lt_of_lt_of_eq (Nat.le_of_ble_eq_true rfl : 80 < 104) hsz.symm) (by kernel_rfl)
      rw [f30] at e80
      clear hA hd hu o3 o5 o6 o7 o9 o10
      go_step
      refine (lnum_any 8 W).mono ?_
      rintro e w' ⟨rfl, rfl⟩
      exact hK _ _ (Kp.refl _ _) rfl
    · intro vs A' W hA hW hd hu K hK
      have f29 : vs 29 = .bool true := hd 29 (by kernel_rfl)
      have e79 : A'.tmps[79]?.getD undef = vs 29 := slot_in hA hap (Nat.lt_of_lt_of_eq (Nat.le_of_ble_eq_true rfl : 79 < 104) hsz.symm) (by kernel_rfl)
      rw [f29] at e79
      refine wpOp_go _ rfl 29 79 true rfl rfl e79 ?_
      conv => arg 2; whnf
      have f31 : vs 31 = .int .i64 (8 : Int) := hd 31 (by kernel_rfl)
      have e81 : A'.tmps[81]?.getD undef = vs 31 := slot_in hA hap (Nat.lt_of_lt_of_eq (Nat.le_of_ble_eq_true rfl : 81 < 104) hsz.symm) (by kernel_rfl)
      rw [f31] at e81
      clear hA hd hu o3 o5 o6 o7 o9 o10
      go_step
      exact hK _ _ (Kp.refl _ _) rfl
    · intro vs A' W hA hW hd hu K hK
      refine wpOp_free _ rfl rfl ?_
      conv => arg 2; whnf
      have f29 : vs 29 = .bool true := hd 29 (by kernel_rfl)
      have e79 : A'.tmps[79]?.getD undef = vs 29 := slot_in hA hap (Nat.lt_of_lt_of_eq (Nat.le_of_ble_eq_true rfl : 79 < 104) hsz.symm) (by kernel_rfl)
      rw [f29] at e79
      have f32 : vs 32 = .bool true := hd 32 (by kernel_rfl)
      have e82 : A'.tmps[82]?.getD undef = vs 32 := slot_in hA hap (Nat.lt_of_lt_of_eq (Nat.le_of_ble_eq_true rfl : 82 < 104) hsz.symm) (by kernel_rfl)
      rw [f32] at e82
      clear hA hd hu o3 o5 o6 o7 o9 o10
      go_step
      exact hK _ _ (Kp.refl _ _) rfl
    · intro vs A' W hA hW hd hu K hK
      refine wpOp_free _ rfl rfl ?_
      conv => arg 2; whnf
      have f33 : vs 33 = .bool true := hd 33 (by kernel_rfl)
      have e83 : A'.tmps[83]?.getD undef = vs 33 := slot_in hA hap (Nat.lt_of_lt_of_eq (Nat.le_of_ble_eq_true rfl : 83 < 104) hsz.symm) (by kernel_rfl)
      rw [f33] at e83
      clear hA hd hu o3 o5 o6 o7 o9 o10
      go_step
      exact hK _ _ (Kp.refl _ _) rfl
    · intro vs A' W hA hW hd hu K hK
      have f34 : vs 34 = .bool true := hd 34 (by kernel_rfl)
      have e84 : A'.tmps[84]?.getD undef = vs 34 := slot_in hA hap (Nat.lt_of_lt_of_eq (Nat.le_of_ble_eq_true rfl : 84 < 104) hsz.symm) (by kernel_rfl)
      rw [f34] at e84
      refine wpOp_go _ rfl 34 84 true rfl rfl e84 ?_
      conv => arg 2; whnf
      have e10 : A'.tmps[10]?.getD undef = .slice (some ⟨go, 0, none⟩) 1 co := slot_out hA hap (Nat.lt_of_lt_of_eq (Nat.le_of_ble_eq_true rfl : 10 < 104) hsz.symm) (by kernel_rfl) o10
      clear hA hd hu o3 o5 o6 o7 o9 o10
      go_step
      exact hK _ _ (Kp.refl _ _) rfl
    · intro vs A' W hA hW hd hu K hK
      have f34 : vs 34 = .bool true := hd 34 (by kernel_rfl)
      have e84 : A'.tmps[84]?.getD undef = vs 34 := slot_in hA hap (Nat.lt_of_lt_of_eq (Nat.le_of_ble_eq_true rfl : 84 < 104) hsz.symm) (by kernel_rfl)
      rw [f34] at e84
      refine wpOp_go _ rfl 34 84 true rfl rfl e84 ?_
      conv => arg 2; whnf
      have f35 : vs 35 = .slice (some ⟨go, 0, none⟩) 1 co := hd 35 (by kernel_rfl)
      have e85 : A'.tmps[85]?.getD undef = vs 35 := slot_in hA hap (Nat.lt_of_lt_of_eq (Nat.le_of_ble_eq_true rfl : 85 < 104) hsz.symm) (by kernel_rfl)
      rw [f35] at e85
      clear hA hd hu o3 o5 o6 o7 o9 o10
      go_step
      exact hK _ _ (Kp.refl _ _) rfl
    · intro vs A' W hA hW hd hu K hK
      have f34 : vs 34 = .bool true := hd 34 (by kernel_rfl)
      have e84 : A'.tmps[84]?.getD undef = vs 34 := slot_in hA hap (Nat.lt_of_lt_of_eq (Nat.le_of_ble_eq_true rfl : 84 < 104) hsz.symm) (by kernel_rfl)
      rw [f34] at e84
      refine wpOp_go _ rfl 34 84 true rfl rfl e84 ?_
      conv => arg 2; whnf
      have f36 : vs 36 = .int .i64 (1 : Int) := hd 36 (by kernel_rfl)
      have e86 : A'.tmps[86]?.getD undef = vs 36 := slot_in hA hap (Nat.lt_of_lt_of_eq (Nat.le_of_ble_eq_true rfl : 86 < 104) hsz.symm) (by kernel_rfl)
      rw [f36] at e86
      clear hA hd hu o3 o5 o6 o7 o9 o10
      go_step
      exact hK _ _ (Kp.refl _ _) rfl
    · intro vs A' W hA hW hd hu K hK
      refine wpOp_free _ rfl rfl ?_
      conv => arg 2; whnf
      have f34 : vs 34 = .bool true := hd 34 (by kernel_rfl)
      have e84 : A'.tmps[84]?.getD undef = vs 34 := slot_in hA hap (Nat.lt_of_lt_of_eq (Nat.le_of_ble_eq_true rfl : 84 < 104) hsz.symm) (by kernel_rfl)
      rw [f34] at e84
      have f37 : vs 37 = .bool true := hd 37 (by kernel_rfl)
      have e87 : A'.tmps[87]?.getD undef = vs 37 := slot_in hA hap (Nat.lt_of_lt_of_eq (Nat.le_of_ble_eq_true rfl : 87 < 104) hsz.symm) (by kernel_rfl)
      rw [f37] at e87
      clear hA hd hu o3 o5 o6 o7 o9 o10
      go_step
      exact hK _ _ (Kp.refl _ _) rfl
    · intro vs A' W hA hW hd hu K hK
      refine wpOp_free _ rfl rfl ?_
      conv => arg 2; whnf
      have f38 : vs 38 = .bool true := hd 38 (by kernel_rfl)
      have e88 : A'.tmps[88]?.getD undef = vs 38 := slot_in hA hap (Nat.lt_of_lt_of_eq (Nat.le_of_ble_eq_true rfl : 88 < 104) hsz.symm) (by kernel_rfl)
      rw [f38] at e88
      clear hA hd hu o3 o5 o6 o7 o9 o10
      go_step
      exact hK _ _ (Kp.refl _ _) rfl
    · intro vs A' W hA hW hd hu K hK
      have f39 : vs 39 = .bool true := hd 39 (by kernel_rfl)
      have e89 : A'.tmps[89]?.getD undef = vs 39 := slot_in hA hap (Nat.lt_of_lt_of_eq (Nat.le_of_ble_eq_true rfl : 89 < 104) hsz.symm) (by kernel_rfl)
      rw [f39] at e89
      refine wpOp_go _ rfl 39 89 true rfl rfl e89 ?_
      conv => arg 2; whnf
      have e10 : A'.tmps[10]?.getD undef = .slice (some ⟨go, 0, none⟩) 1 co := slot_out hA hap (Nat.lt_of_lt_of_eq (Nat.le_of_ble_eq_true rfl : 10 < 104) hsz.symm) (by kernel_rfl) o10
      clear hA hd hu o3 o5 o6 o7 o9 o10
      go_step
      exact hK _ _ (Kp.refl _ _) rfl
    · intro vs A' W hA hW hd hu K hK
      have f39 : vs 39 = .bool true := hd 39 (by kernel_rfl)
      have e89 : A'.tmps[89]?.getD undef = vs 39 := slot_in hA hap (Nat.lt_of_lt_of_eq (Nat.le_of_ble_eq_true rfl : 89 < 104) hsz.symm) (by kernel_rfl)
      rw [f39] at e89
      refine wpOp_go _ rfl 39 89 true rfl rfl e89 ?_
      conv => arg 2; whnf
      have f40 : vs 40 = .slice (some ⟨go, 0, none⟩) 1 co := hd 40 (by kernel_rfl)
      have e90 : A'.tmps[90]?.getD undef = vs 40 := slot_in hA hap (Nat.lt_of_lt_of_eq (Nat.le_of_ble_eq_true rfl : 90 < 104) hsz.symm) (by kernel_rfl)
      rw [f40] at e90
      clear hA hd hu o3 o5 o6 o7 o9 o10
      go_step
      exact hK _ _ (Kp.refl _ _) rfl
    · intro vs A' W hA hW hd hu K hK
      have f39 : vs 39 = .bool true := hd 39 (by kernel_rfl)
      have e89 : A'.tmps[89]?.getD undef = vs 39 := slot_in hA hap (Nat.lt_of_lt_of_eq (Nat.le_of_ble_eq_true rfl : 89 < 104) hsz.symm) (by kernel_rfl)
      rw [f39] at e89
      refine wpOp_go _ rfl 39 89 true rfl rfl e89 ?_
      conv => arg 2; whnf
      have f41 : vs 41 = .pointer (some ⟨go, 0, none⟩) := hd 41 (by kernel_rfl)
      have e91 : A'.tmps[91]?.getD undef = vs 41 := slot_in hA hap (Nat.lt_of_lt_of_eq (Nat.le_of_ble_eq_true rfl : 91 < 104) hsz.symm) (by kernel_rfl)
      rw [f41] at e91
      clear hA hd hu o3 o5 o6 o7 o9 o10
      have c0 : W.cell? ⟨go, 0, none⟩ = some (.string ⟨#[119]⟩) := by
        obtain ⟨-, A', c', he, -, -, -, hc⟩ := rd_old hv10 hW
        cases he
        exact hc _ rfl 0 _ rfl
      go_step
      exact hK _ _ (Kp.refl _ _) rfl
    · intro vs A' W hA hW hd hu K hK
      have f39 : vs 39 = .bool true := hd 39 (by kernel_rfl)
      have e89 : A'.tmps[89]?.getD undef = vs 39 := slot_in hA hap (Nat.lt_of_lt_of_eq (Nat.le_of_ble_eq_true rfl : 89 < 104) hsz.symm) (by kernel_rfl)
      rw [f39] at e89
      refine wpOp_go _ rfl 39 89 true rfl rfl e89 ?_
      conv => arg 2; whnf
      have f42 : vs 42 = .string ⟨#[119]⟩ := hd 42 (by kernel_rfl)
      have e92 : A'.tmps[92]?.getD undef = vs 42 := slot_in hA hap (Nat.lt_of_lt_of_eq (Nat.le_of_ble_eq_true rfl : 92 < 104) hsz.symm) (by kernel_rfl)
      rw [f42] at e92
      clear hA hd hu o3 o5 o6 o7 o9 o10
      go_step
      exact hK _ _ (Kp.refl _ _) rfl
    · intro vs A' W hA hW hd hu K hK
      refine wpOp_free _ rfl rfl ?_
      conv => arg 2; whnf
      have f39 : vs 39 = .bool true := hd 39 (by kernel_rfl)
      have e89 : A'.tmps[89]?.getD undef = vs 39 := slot_in hA hap (Nat.lt_of_lt_of_eq (Nat.le_of_ble_eq_true rfl : 89 < 104) hsz.symm) (by kernel_rfl)
      rw [f39] at e89
      have f43 : vs 43 = .bool true := hd 43 (by kernel_rfl)
      have e93 : A'.tmps[93]?.getD undef = vs 43 := slot_in hA hap (Nat.lt_of_lt_of_eq (Nat.le_of_ble_eq_true rfl : 93 < 104) hsz.symm) (by kernel_rfl)
      rw [f43] at e93
      clear hA hd hu o3 o5 o6 o7 o9 o10
      go_step
      exact hK _ _ (Kp.refl _ _) rfl
    · intro vs A' W hA hW hd hu K hK
      refine wpOp_free _ rfl rfl ?_
      conv => arg 2; whnf
      have f44 : vs 44 = .bool true := hd 44 (by kernel_rfl)
      have e94 : A'.tmps[94]?.getD undef = vs 44 := slot_in hA hap (Nat.lt_of_lt_of_eq (Nat.le_of_ble_eq_true rfl : 94 < 104) hsz.symm) (by kernel_rfl)
      rw [f44] at e94
      clear hA hd hu o3 o5 o6 o7 o9 o10
      go_step
      exact hK _ _ (Kp.refl _ _) rfl
    · intro vs A' W hA hW hd hu K hK
      have f45 : vs 45 = .bool true := hd 45 (by kernel_rfl)
      have e95 : A'.tmps[95]?.getD undef = vs 45 := slot_in hA hap (Nat.lt_of_lt_of_eq (Nat.le_of_ble_eq_true rfl : 95 < 104) hsz.symm) (by kernel_rfl)
      rw [f45] at e95
      refine wpOp_go _ rfl 45 95 true rfl rfl e95 ?_
      conv => arg 2; whnf
      have e6 : A'.tmps[6]?.getD undef = .pointer (some ⟨gm, 0, none⟩) := slot_out hA hap (Nat.lt_of_lt_of_eq (Nat.le_of_ble_eq_true rfl : 6 < 104) hsz.symm) (by kernel_rfl) o6
      clear hA hd hu o3 o5 o6 o7 o9 o10
      refine op_runs (v := .agg (ntA 0 zH (.slice A 1 c))) (w' := W) (exec_load rfl (by simpa [Act.eval] using e6) (run_loadAt_agg W (⟨gm, 0, none⟩) 36 (ntA 0 zH (.slice A 1 c)).toList _ (Blk.agg (hb6.kp hW (by simp))) Tryd.underlying36 rfl (by rw [Array.length_toList, ntA_size zH_length]; exact Tryd.infoNote))) ?_
      exact hK _ _ (Kp.refl _ _) rfl
    · intro vs A' W hA hW hd hu K hK
      have f45 : vs 45 = .bool true := hd 45 (by kernel_rfl)
      have e95 : A'.tmps[95]?.getD undef = vs 45 := slot_in hA hap (Nat.lt_of_lt_of_eq (Nat.le_of_ble_eq_true rfl : 95 < 104) hsz.symm) (by kernel_rfl)
      rw [f45] at e95
      refine wpOp_go _ rfl 45 95 true rfl rfl e95 ?_
      conv => arg 2; whnf
      clear hA hd hu o3 o5 o6 o7 o9 o10
      go_step
      exact hK _ _ ((Kp.refl [] W).alloc _) ⟨_, _, rfl, rd_lit W _ _ sec13 rfl (by decide)⟩
    · intro vs A' W hA hW hd hu K hK
      have f45 : vs 45 = .bool true := hd 45 (by kernel_rfl)
      have e95 : A'.tmps[95]?.getD undef = vs 45 := slot_in hA hap (Nat.lt_of_lt_of_eq (Nat.le_of_ble_eq_true rfl : 95 < 104) hsz.symm) (by kernel_rfl)
      rw [f45] at e95
      refine wpOp_go _ rfl 45 95 true rfl rfl e95 ?_
      conv => arg 2; whnf
      have f47 : ∃ A c, (vs 47) = .slice A 2 c ∧ Rd W 1 (.slice A 2 c) 2 (bv sec13) := hd 47 (by kernel_rfl)
      have e97 : A'.tmps[97]?.getD undef = vs 47 := slot_in hA hap (Nat.lt_of_lt_of_eq (Nat.le_of_ble_eq_true rfl : 97 < 104) hsz.symm) (by kernel_rfl)
      clear hA hd hu o3 o5 o6 o7 o9 o10
      obtain ⟨A1, c1, hv1, hr1⟩ := f47
      rw [hv1] at e97
      refine op_build 42 _ rfl [(0, .string ⟨#[119]⟩), (1, .slice A1 2 c1)] (by simp [Act.eval, e97]) _ (Tryd.built_key2 ⟨#[119]⟩ _ 2 _) ?_
      exact hK _ _ (Kp.refl _ _) ⟨A1, c1, rfl, hr1⟩
    · intro vs A' W hA hW hd hu K hK
      have f45 : vs 45 = .bool true := hd 45 (by kernel_rfl)
      have e95 : A'.tmps[95]?.getD undef = vs 45 := slot_in hA hap (Nat.lt_of_lt_of_eq (Nat.le_of_ble_eq_true rfl : 95 < 104) hsz.symm) (by kernel_rfl)
      rw [f45] at e95
      refine wpOp_go _ rfl 45 95 true rfl rfl e95 ?_
      conv => arg 2; whnf
      have f48 : ∃ A c, (vs 48) = .agg #[.string ⟨#[119]⟩, .slice A 2 c] ∧ Rd W 1 (.slice A 2 c) 2 (bv sec13) := hd 48 (by kernel_rfl)
      have e98 : A'.tmps[98]?.getD undef = vs 48 := slot_in hA hap (Nat.lt_of_lt_of_eq (Nat.le_of_ble_eq_true rfl : 98 < 104) hsz.symm) (by kernel_rfl)
      clear hA hd hu o3 o5 o6 o7 o9 o10
      obtain ⟨A1, c1, hv1, hr1⟩ := f48
      rw [hv1] at e98
      refine op_keys1 (.tmp 98) rfl ⟨#[119]⟩ A1 2 c1 (by simp [Act.eval, e98]) ?_
      exact hK _ _ ((Kp.refl [] W).alloc _) ⟨_, _, rfl, kys1 42 rfl ⟨#[119]⟩ sec13 hr1 wN rfl⟩
    · intro vs A' W hA hW hd hu K hK
      have f45 : vs 45 = .bool true := hd 45 (by kernel_rfl)
      have e95 : A'.tmps[95]?.getD undef = vs 45 := slot_in hA hap (Nat.lt_of_lt_of_eq (Nat.le_of_ble_eq_true rfl : 95 < 104) hsz.symm) (by kernel_rfl)
      rw [f45] at e95
      refine wpOp_go _ rfl 45 95 true rfl rfl e95 ?_
      conv => arg 2; whnf
      have f46 : vs 46 = .agg (ntA 0 zH (.slice A 1 c)) := hd 46 (by kernel_rfl)
      have e96 : A'.tmps[96]?.getD undef = vs 46 := slot_in hA hap (Nat.lt_of_lt_of_eq (Nat.le_of_ble_eq_true rfl : 96 < 104) hsz.symm) (by kernel_rfl)
      rw [f46] at e96
      have f49 : ∃ us A, (vs 49) = .slice A 1 1 ∧ KysF W (.slice A 1 1) us [(wN, sec13)] := hd 49 (by kernel_rfl)
      have e99 : A'.tmps[99]?.getD undef = vs 49 := slot_in hA hap (Nat.lt_of_lt_of_eq (Nat.le_of_ble_eq_true rfl : 99 < 104) hsz.symm) (by kernel_rfl)
      clear hA hd hu o3 o5 o6 o7 o9 o10
      obtain ⟨us, A1, hv1, hr1⟩ := f49
      rw [hv1] at e99
      go_step
      refine (sright_any 0 (by decide) zH zH_length A c [sig1] sig1_ok (by decide) A1 1 [(wN, sec13)] (by decide) (fun k hk => by rw [List.mem_singleton.1 hk]; decide) us W (LDw.kp hW) (rd_old hv6 hW) hr1).mono ?_
      rintro e w' ⟨u, rfl, H⟩
      rw [right_0] at H
      obtain ⟨A2, c2, hu, -, -⟩ := ow_form (show Ow w' 9 1 u 0 [] from H.at_ (l1 := []))
      exact hK _ _ H.k ⟨A2, c2, hu⟩
    · intro vs A' W hA hW hd hu K hK
      have f45 : vs 45 = .bool true := hd 45 (by kernel_rfl)
      have e95 : A'.tmps[95]?.getD undef = vs 45 := slot_in hA hap (Nat.lt_of_lt_of_eq (Nat.le_of_ble_eq_true rfl : 95 < 104) hsz.symm) (by kernel_rfl)
      rw [f45] at e95
      refine wpOp_go _ rfl 45 95 true rfl rfl e95 ?_
      conv => arg 2; whnf
      have f50 : ∃ A c, (vs 50) = .slice A 0 c := hd 50 (by kernel_rfl)
      have e100 : A'.tmps[100]?.getD undef = vs 50 := slot_in hA hap (Nat.lt_of_lt_of_eq (Nat.le_of_ble_eq_true rfl : 100 < 104) hsz.symm) (by kernel_rfl)
      clear hA hd hu o3 o5 o6 o7 o9 o10
      obtain ⟨A1, c1, hv1⟩ := f50
      rw [hv1] at e100
      go_step
      exact hK _ _ (Kp.refl _ _) rfl
    · intro vs A' W hA hW hd hu K hK
      have f45 : vs 45 = .bool true := hd 45 (by kernel_rfl)
      have e95 : A'.tmps[95]?.getD undef = vs 45 := slot_in hA hap (Nat.lt_of_lt_of_eq (Nat.le_of_ble_eq_true rfl : 95 < 104) hsz.symm) (by kernel_rfl)
      rw [f45] at e95
      refine wpOp_go _ rfl 45 95 true rfl rfl e95 ?_
      conv => arg 2; whnf
      have f51 : vs 51 = .int .i64 (0 : Int) := hd 51 (by kernel_rfl)
      have e101 : A'.tmps[101]?.getD undef = vs 51 := slot_in hA hap (Nat.lt_of_lt_of_eq (Nat.le_of_ble_eq_true rfl : 101 < 104) hsz.symm) (by kernel_rfl)
      rw [f51] at e101
      clear hA hd hu o3 o5 o6 o7 o9 o10
      go_step
      exact hK _ _ (Kp.refl _ _) rfl
    · intro vs A' W hA hW hd hu K hK
      refine wpOp_free _ rfl rfl ?_
      conv => arg 2; whnf
      have f45 : vs 45 = .bool true := hd 45 (by kernel_rfl)
      have e95 : A'.tmps[95]?.getD undef = vs 45 := slot_in hA hap (Nat.lt_of_lt_of_eq (Nat.le_of_ble_eq_true rfl : 95 < 104) hsz.symm) (by kernel_rfl)
      rw [f45] at e95
      have f52 : vs 52 = .bool true := hd 52 (by kernel_rfl)
      have e102 : A'.tmps[102]?.getD undef = vs 52 := slot_in hA hap (Nat.lt_of_lt_of_eq (Nat.le_of_ble_eq_true rfl : 102 < 104) hsz.symm) (by kernel_rfl)
      rw [f52] at e102
      clear hA hd hu o3 o5 o6 o7 o9 o10
      go_step
      exact hK _ _ (Kp.refl _ _) rfl
    · intro vs A' W hA hW hd hu K hK
      refine wpOp_free _ rfl rfl ?_
      conv => arg 2; whnf
      have f53 : vs 53 = .bool true := hd 53 (by kernel_rfl)
      have e103 : A'.tmps[103]?.getD undef = vs 53 := slot_in hA hap (Nat.lt_of_lt_of_eq (Nat.le_of_ble_eq_true rfl : 103 < 104) hsz.symm) (by kernel_rfl)
      rw [f53] at e103
      clear hA hd hu o3 o5 o6 o7 o9 o10
      go_step
      exact hK _ _ (Kp.refl _ _) rfl
  · intro vs W hW hp
    rw [show putAll vs (opsOf 11 Tryd.f13) 0 a = putD [(50, vs 0), (51, vs 1), (52, vs 2), (53, vs 3), (54, vs 4), (55, vs 5), (56, vs 6), (57, vs 7), (58, vs 8), (59, vs 9), (60, vs 10), (61, vs 11), (62, vs 12), (63, vs 13), (64, vs 14), (65, vs 15), (66, vs 16), (67, vs 17), (68, vs 18), (69, vs 19), (70, vs 20), (71, vs 21), (72, vs 22), (73, vs 23), (74, vs 24), (75, vs 25), (76, vs 26), (77, vs 27), (78, vs 28), (79, vs 29), (80, vs 30), (81, vs 31), (82, vs 32), (83, vs 33), (84, vs 34), (85, vs 35), (86, vs 36), (87, vs 37), (88, vs 38), (89, vs 39), (90, vs 40), (91, vs 41), (92, vs 42), (93, vs 43), (94, vs 44), (95, vs 45), (96, vs 46), (97, vs 47), (98, vs 48), (99, vs 49), (100, vs 50), (101, vs 51), (102, vs 52), (103, vs 53), (0, vs 54)] a from by kernel_rfl]
    exact hend _ W (same_putD _ a) hW (sl_putD _ a 0 _ (by rw [show vs 54 = _ from hp 54 (Nat.le_of_ble_eq_true (by kernel_rfl))]; kernel_rfl))
-- END skn11
end Go.Proofs.YtapboamjpilckaaDoor
/- known of layer 28, whole. -/
namespace Go.Proofs.YtapboamjpilckaaDoor
open Go.RowKit
def filK (j : Nat) : List Value := List.replicate j (.int .u8 11) ++ List.replicate (20 - j) (.int .u8 0)
theorem filK_0 : filK 0 = bv (List.replicate 20 0) := rfl
theorem filK_step {j : Nat} (h : j < 20) : (filK j).set j (.int .u8 11) = filK (j + 1) := by
  unfold filK
  rw [List.set_append_right _ _ (by simp), List.length_replicate, Nat.sub_self, show 20 - j = (20 - (j + 1)) + 1 from by omega, List.replicate_succ, List.set_cons_zero, List.replicate_succ', List.append_assoc]
  rfl
def dsKn : List Nat := [12, 13, 16, 17, 18, 14, 15, 2]
set_option maxRecDepth 100000 in
set_option maxHeartbeats 4000000 in
theorem skn_l0 {Q : Exit → Act → World → Prop} {a : Act} {w0 w : World} (gk : Nat) (L : List Res) (hsz : a.tmps.size = 104) (o1 : Sl a 1 (.slice (some ⟨gk, 0, none⟩) 20 20)) (o2 : Sl a 2 (.int .i64 ((0 : Nat) : Int)))
    (S : Held w0 w (rowR 5 1 (.slice (some ⟨gk, 0, none⟩) 20 20) 20 (bv (List.replicate 20 0)) :: L))
    (hend : ∀ (a' : Act) (W : World), Same a a' dsKn → Held w0 W (rowR 5 1 (.slice (some ⟨gk, 0, none⟩) 20 20) 20 (bv k20) :: L) → Q .normal a' W) :
    (Code.block 0 (blockOf 0 Tryd.f13)).wp Tryd.prog Q a w := by
  refine wp_block ?_
  conv => arg 2; whnf
  refine wp_loop (fun a' w' => ∃ (j : Nat), j ≤ 20 ∧ Same a a' dsKn ∧ Sl a' 2 (.int .i64 ((j : Nat) : Int)) ∧ Held w0 w' (rowR 5 1 (.slice (some ⟨gk, 0, none⟩) 20 20) 20 (filK j) :: L)) (fun a' _ => 20 - (intOf (a'.eval (.tmp 2))).toNat) ⟨0, Nat.zero_le _, Same.refl _ _, o2, by rw [filK_0]; exact S⟩ ?_
  clear o2 S
  rintro a1 w1 ⟨j, hj, T, o2, S⟩
  have hz1 := T.size.trans hsz
  have o1 := T.keep 1 _ (by decide) o1
  have e2 := o2.eval (by rw [hz1]; decide)
  refine wp_seq (wp_seq (skn_r3 j hz1 o2 (fun a2 hs2 o13 => ?_)))
  have hz2 := hs2.size.trans hz1
  have o1 := hs2.keep 1 _ (by decide) o1
  have o2 := hs2.keep 2 _ (by decide) o2
  have T := T.trans hs2
  by_cases hlt : j < 20
  · refine wp_cond_true ((o13.eval (by rw [hz2]; decide)).trans (by rw [decide_eq_true (by omega)])) (wp_skip ?_)
    simp only [Exit.then]
    refine wp_seq (wp_block ?_)
    refine skn_r5 w0 gk j hlt _ L S hz2 o1 o2 (fun a3 w3 hs3 S => ?_)
    have hz3 := hs3.size.trans hz2
    have o1 := hs3.keep 1 _ (by decide) o1
    have o2 := hs3.keep 2 _ (by decide) o2
    have o13 := hs3.keep 13 _ (by decide) o13
    have T := T.trans hs3
    simp only [Exit.inBlock, Exit.then]
    rw [filK_step hlt] at S
    refine skn_r4 j hlt hz3 o2 (fun a4 hs4 o2 => ?_)
    have hz4 := hs4.size.trans hz3
    have o1 := hs4.keep 1 _ (by decide) o1
    have o13 := hs4.keep 13 _ (by decide) o13
    have T := T.trans hs4
    refine ⟨⟨j + 1, by omega, T.more (by decide +kernel), o2, S⟩, ?_⟩
    show 20 - (intOf _).toNat < 20 - (intOf _).toNat
    rw [e2, o2.eval (by rw [hz4]; decide)]
    simp only [intOf]; omega
  · refine wp_cond_false ((o13.eval (by rw [hz2]; decide)).trans (by rw [decide_eq_false (by omega)])) (wp_exit ?_)
    simp only [Exit.then, Exit.inBlock]
    obtain rfl : j = 20 := by omega
    exact hend _ _ (T.more (by decide +kernel)) S
set_option maxRecDepth 100000 in
set_option maxHeartbeats 4000000 in
theorem sknown_any (w : World) (LDw : LD w) : Calls Tryd.prog 13 #[] w fun e w' => e = .returned (.bool true) ∧ Kp [] w w' := by
  refine calls_fr Tryd.func13 rfl 104 rfl (fun a0 hsz hdf hAr => ?_)
  have hz0 : a0.tmps.size = 104 := hsz
  have D := hdf
  refine wp_seq (skn_r0 hz0 (fun a1 hs1 o0 => ?_))
  have hz1 := hs1.size.trans hz0
  have D := hs1.defers.trans D
  refine wp_seq (skn_r1 w [] (Held.start w) hz1 (fun a2 w1 hs2 h1 => ?_))
  have hz2 := hs2.size.trans hz1
  have o0 := hs2.keep 0 _ (by decide) o0
  have D := hs2.defers.trans D
  obtain ⟨gk, o1, S⟩ := h1
  refine wp_seq (wp_seq (skn_r2 hz2 (fun a3 hs3 o2 => ?_)))
  have hz3 := hs3.size.trans hz2
  have o0 := hs3.keep 0 _ (by decide) o0
  have o1 := hs3.keep 1 _ (by decide) o1
  have D := hs3.defers.trans D
  refine skn_l0 gk [] hz3 o1 o2 S (fun a4 w2 hs4 S => ?_)
  have hz4 := hs4.size.trans hz3
  have o0 := hs4.keep 0 _ (by decide) o0
  have o1 := hs4.keep 1 _ (by decide) o1
  have D := hs4.defers.trans D
  have k2 := S.k
  have hk := Rd.of_own (S.at_ (l1 := []))
  refine wp_seq (skn_r6 gk hk hz4 o1 (fun a5 w3 hs5 h3 => ?_))
  have hz5 := hs5.size.trans hz4
  have o0 := hs5.keep 0 _ (by decide) o0
  have o1 := hs5.keep 1 _ (by decide) o1
  have D := hs5.defers.trans D
  obtain ⟨gh, o3, S3⟩ := h3
  have k3 := k2.trans S3.k (by simp)
  have hb3 := S3.at_ (l1 := [])
  refine wp_seq (skn_r7 (LDw.kp k3) hz5 (fun a6 w4 hs6 o5 h4 => ?_))
  have hz6 := hs6.size.trans hz5
  have o0 := hs6.keep 0 _ (by decide) o0
  have o1 := hs6.keep 1 _ (by decide) o1
  have o3 := hs6.keep 3 _ (by decide) o3
  have D := hs6.defers.trans D
  obtain ⟨gn, o4, S4⟩ := h4
  have k4 := k3.trans S4.k (by simp)
  have hb3 := hb3.kp S4.k (by simp)
  refine wp_seq (skn_r8 (LDw.kp k4) gn (S4.at_ (l1 := [])) (rd_nil_any 33 _) hz6 o4 (fun a7 w5 hs7 o7 h5 => ?_))
  have hz7 := hs7.size.trans hz6
  have o0 := hs7.keep 0 _ (by decide) o0
  have o1 := hs7.keep 1 _ (by decide) o1
  have o3 := hs7.keep 3 _ (by decide) o3
  have o5 := hs7.keep 5 _ (by decide) o5
  have o4 := hs7.keep 4 _ (by decide) o4
  have D := hs7.defers.trans D
  obtain ⟨A, c, gm, o6, S5⟩ := h5
  have k5 := k4.trans S5.k (by simp)
  have hb3 := hb3.kp S5.k (by simp)
  have hb6 := S5.at_ (l1 := [])
  have hv6 := Rd.of_own (S5.at_ (l1 := [_]))
  refine wp_seq (skn_r9 (LDw.kp k5) gm A c hb6 hv6 hz7 o6 (fun a8 w6 hs8 o9 h6 => ?_))
  have hz8 := hs8.size.trans hz7
  have o0 := hs8.keep 0 _ (by decide) o0
  have o1 := hs8.keep 1 _ (by decide) o1
  have o3 := hs8.keep 3 _ (by decide) o3
  have o5 := hs8.keep 5 _ (by decide) o5
  have o4 := hs8.keep 4 _ (by decide) o4
  have o7 := hs8.keep 7 _ (by decide) o7
  have o6 := hs8.keep 6 _ (by decide) o6
  have D := hs8.defers.trans D
  have k6 := k5.trans h6 (by simp)
  have hb3 := hb3.kp h6 (by simp)
  have hb6 := hb6.kp h6 (by simp)
  have hv6 := rd_old hv6 h6
  refine wp_seq (skn_r10 (LDw.kp k6) gm A c hb6 hv6 hz8 o6 (fun a9 w7 hs9 h7 => ?_))
  have hz9 := hs9.size.trans hz8
  have o0 := hs9.keep 0 _ (by decide) o0
  have o1 := hs9.keep 1 _ (by decide) o1
  have o3 := hs9.keep 3 _ (by decide) o3
  have o5 := hs9.keep 5 _ (by decide) o5
  have o4 := hs9.keep 4 _ (by decide) o4
  have o7 := hs9.keep 7 _ (by decide) o7
  have o6 := hs9.keep 6 _ (by decide) o6
  have o9 := hs9.keep 9 _ (by decide) o9
  have D := hs9.defers.trans D
  obtain ⟨u, o10, S7⟩ := h7
  have k7 := k6.trans S7.k (by simp)
  have hb3 := hb3.kp S7.k (by simp)
  have hb6 := hb6.kp S7.k (by simp)
  have hv6 := rd_old hv6 S7.k
  obtain ⟨go, co, hu, -, -⟩ := ow_some (show Ow w7 9 1 u 1 [.string ⟨#[119]⟩] from S7.at_ (l1 := [])) (by decide)
  subst hu
  have hv10 := Rd.of_own (S7.at_ (l1 := []))
  have hb3 : Blk w7 gh 25 (hashA kn20) := hb3
  refine wp_seq (skn_r11 (LDw.kp k7) gh gm go co A c hb3 hb6 hv6 hv10 hz9 o3 o5 o6 o7 o9 o10 (fun a10 w8 hs10 k8 o0 => ?_))
  have hz10 := hs10.size.trans hz9
  have o1 := hs10.keep 1 _ (by decide) o1
  have o3 := hs10.keep 3 _ (by decide) o3
  have o5 := hs10.keep 5 _ (by decide) o5
  have o4 := hs10.keep 4 _ (by decide) o4
  have o7 := hs10.keep 7 _ (by decide) o7
  have o6 := hs10.keep 6 _ (by decide) o6
  have o9 := hs10.keep 9 _ (by decide) o9
  have o10 := hs10.keep 10 _ (by decide) o10
  have D := hs10.defers.trans D
  refine wp_ret ?_
  exact (bodyPost_ret (results_t1 (by rfl) (o0.eval (by rw [hz10]; decide))) D ⟨rfl, k7.trans k8 (by simp)⟩)
end Go.Proofs.YtapboamjpilckaaDoor
/- SignNames: its facts. -/
namespace Go.Proofs.YtapboamjpilckaaDoor
open Go.RowKit
theorem Tryd.built_pt3 : Tryd.prog.built 33 [(0, .int .i64 3)] = some (ptA 3 zH) := by kernel_rfl
def nmJ (j : Nat) : List UInt8 := [97, UInt8.ofNat (40 + j)]
def secJ (j : Nat) : List UInt8 := [UInt8.ofNat j]
def sigJ (j : Nat) : SigD := (nmJ j, sumF 3 zH (nmJ j) (secJ j))
/-- The first signatures. -/
def lJ (i : Nat) : List SigD := (List.range i).map sigJ
theorem lJ_length (i : Nat) : (lJ i).length = i := by unfold lJ; rw [List.length_map, List.length_range]
theorem lJ_succ (i : Nat) : lJ (i + 1) = lJ i ++ [sigJ i] := by unfold lJ; rw [List.range_succ, List.map_append]; rfl
theorem lJ_ok (i : Nat) : SgOk (lJ i) := by
  intro s hs
  obtain ⟨j, -, rfl⟩ := List.mem_map.1 hs
  refine ⟨?_, ?_⟩
  · unfold sigJ; exact sumF_length 3 zH _ _
  · unfold sigJ nmJ; show 2 ≤ _; omega
theorem lJ_facts : ∀ i, i ≤ 64 → mayN 3 (lJ i) = true ∧ (i < 64 → hasN (nmJ i) (lJ i) = false ∧ posN (nmJ i) (lJ i) = i ∧ sumOk 3 (nmJ i) (secJ i) = true) := by decide +kernel
theorem insJ {j : Nat} (h : j < 64) : insN (lJ j) ((ByteArray.mk (nmJ j).toArray).data.toList, sumF 3 zH (ByteArray.mk (nmJ j).toArray).data.toList (secJ j)) = lJ (j + 1) := by
  obtain ⟨-, hf⟩ := lJ_facts j (by omega)
  obtain ⟨-, h2, -⟩ := hf h
  show insN (lJ j) (sigJ j) = lJ (j + 1)
  unfold insN
  rw [show posN (sigJ j).1 (lJ j) = j from h2, List.take_of_length_le (by rw [lJ_length]; omega), List.drop_of_length_le (by rw [lJ_length]; omega), lJ_succ]
theorem signE_J {j : Nat} (h : j < 64) : signE 3 (lJ j) (ByteArray.mk (nmJ j).toArray).data.toList (secJ j) = 0 := by
  obtain ⟨h0, hf⟩ := lJ_facts j (by omega)
  obtain ⟨h1, -, h3⟩ := hf h
  show signE 3 (lJ j) (nmJ j) (secJ j) = 0
  unfold signE
  rw [h0, if_neg (by decide), h3, if_neg (by decide), h1, if_neg (by decide), lJ_length, if_neg (by omega)]
theorem signE_380 : signE 3 (lJ 64) [122, 122] [1] = 380 := by
  unfold signE
  rw [(lJ_facts 64 (Nat.le_refl _)).1, if_neg (by decide), show sumOk 3 [122, 122] [1] = true from by decide +kernel, if_neg (by decide), show hasN [122, 122] (lJ 64) = false from by decide +kernel, if_neg (by decide), lJ_length, if_pos rfl]
theorem ssign_J {j : Nat} (hj : j < 64) (A : Option Addr) (c : Nat) (Ak : Option Addr) (ck : Nat) (w : World) (LDw : LD w) (hv : Rd w 33 (.slice A j c) j (sgsC (lJ j))) (hk : Rd w 1 (.slice Ak 1 ck) 1 (bv (secJ j))) :
    Calls Tryd.prog 15 #[.agg (ntA 3 zH (.slice A j c)), .agg #[.string ⟨(nmJ j).toArray⟩, .slice Ak 1 ck]] w fun e w' => ∃ Au cu, e = .returned (.tuple #[.agg (ntA 3 zH (.slice Au (j + 1) cu)), .int .i64 0]) ∧ Held w w' [rowR 81 33 (.slice Au (j + 1) cu) (j + 1) (sgsC (lJ (j + 1)))] := by
  have HS := ssign_any 3 (by decide) zH zH_length (lJ j) (lJ_ok j) (by rw [lJ_length]; omega) A c ⟨(nmJ j).toArray⟩ (by show 2 ≤ 9223372036854775807; omega) Ak ck (secJ j) w LDw (by rw [lJ_length]; exact hv) hk
  rw [lJ_length] at HS
  refine HS.mono ?_
  rintro e w1 ⟨u, rfl, hrow, -⟩
  have e0 := signE_J hj
  have H := hrow e0
  rw [if_pos e0, e0]
  rw [insJ hj] at H
  obtain ⟨Au, cu, hu, -, -⟩ := ow_form (show Ow w1 81 33 u (j + 1) (sgsC (lJ (j + 1))) from H.at_ (l1 := []))
  subst hu
  exact ⟨Au, cu, rfl, H⟩
theorem ssign_380 (A : Option Addr) (c : Nat) (Ak : Option Addr) (ck : Nat) (w : World) (LDw : LD w) (hv : Rd w 33 (.slice A 64 c) 64 (sgsC (lJ 64))) (hk : Rd w 1 (.slice Ak 1 ck) 1 (bv [1])) :
    Calls Tryd.prog 15 #[.agg (ntA 3 zH (.slice A 64 c)), .agg #[.string ⟨#[122, 122]⟩, .slice Ak 1 ck]] w fun e w' => e = .returned (.tuple #[.agg zeroN, .int .i64 380]) ∧ Kp [] w w' := by
  have HS := ssign_any 3 (by decide) zH zH_length (lJ 64) (lJ_ok 64) (by rw [lJ_length]; omega) A c ⟨#[122, 122]⟩ (by show 2 ≤ 9223372036854775807; omega) Ak ck [1] w LDw (by rw [lJ_length]; exact hv) hk
  rw [lJ_length] at HS
  refine HS.mono ?_
  rintro e w1 ⟨u, rfl, -, k1⟩
  have e0 : signE 3 (lJ 64) (ByteArray.mk #[122, 122]).data.toList [1] = 380 := signE_380
  rw [if_neg (by rw [e0]; decide), e0]
  exact ⟨rfl, k1⟩
theorem Tryd.built_key1 (s : ByteArray) : Tryd.prog.built 42 [(0, .string s)] = some #[.string s, .slice none 0 0] := by kernel_rfl
end Go.Proofs.YtapboamjpilckaaDoor
/- SignNames: its regions. -/
namespace Go.Proofs.YtapboamjpilckaaDoor
open Go.RowKit
-- REG sgn0
set_option maxRecDepth 100000 in
set_option maxHeartbeats 2000000 in
theorem sgn_r0 {Q : Exit → Act → World → Prop} {a : Act} {w : World}  (hsz : a.tmps.size = 117) 
    (hend : ∀ (a' : Act), Same a a' [0] → Sl a' 0 (.bool false) → Q .normal a' (w)) : (Code.region 0 (opsOf 0 Tryd.f4).toArray false).wp Tryd.prog Q a w := by
  refine wp_region_lit (l := (opsOf 0 Tryd.f4)) ?_
  conv => arg 4; whnf
  go_wp2_with fail
  try simp only [Act.put]
  exact hend _ (by repeat (first | (with_reducible refine same_set (by decide) ?_) | (with_reducible exact same_nil))) (by unfold Sl; first | (simp [hsz]; done) | (simp [hsz]; omega))
-- END sgn0
-- REG sgn1
set_option maxRecDepth 100000 in
set_option maxHeartbeats 2000000 in
theorem sgn_r1 {Q : Exit → Act → World → Prop} {a : Act} {w : World} (LDw : LD w) (hsz : a.tmps.size = 117) 
    (hend : ∀ (a' : Act) (W : World), Same a a' [17, 18, 16, 19, 20, 1, 2] → Sl a' 2 (.int .i64 (0 : Int)) → (∃ g1, Sl a' 1 (.pointer (some ⟨g1, 0, none⟩)) ∧ Held w W [blkR g1 36 (ntA 3 zH (.slice none 0 0))]) → Q .normal a' W) : (Code.region 1 (opsOf 1 Tryd.f4).toArray false).wp Tryd.prog Q a w := by
  refine wp_region_lit (l := (opsOf 1 Tryd.f4)) ?_
  conv => arg 4; whnf
  have HL := Lib.hid LDw
  clear LDw
  have HO := Lib.hid (ntA_one (z := 3) (h := zH) (v := .slice none 0 0) rfl)
  have hz2 : Hid ((ntA 3 zH (.slice none 0 0)).size = 34) := Lib.hid (ntA_size zH_length)
  have e1 : Hid (newA 3 zH = ntA 3 zH (.slice none 0 0)) := Lib.hid (by unfold newA; rw [if_pos (by decide)])
  have e2 : Hid (chkN 3 [] = 0) := Lib.hid (by unfold chkN; rw [mayN_nil]; rfl)
  obtain ⟨ch, hch⟩ : ∃ ch, Hid (ntA 3 zH (.slice none 0 0) = ch) := ⟨_, Lib.hid rfl⟩
  rw [hch.out] at hend HO hz2
  have e1 := Lib.hid (e1.out.trans hch.out)
  go_wp2_with (refine wpList_buildP rfl 33 _ rfl [(0, .int .i64 3)] rfl _ Tryd.built_pt3 ?_)
  refine (sgnew_any 3 (by decide) zH zH_length w HL.out).mono ?_
  rintro e w1 ⟨rfl, k1⟩
  rw [e1.out, e2.out]
  have S1 := Lib.hid ((Held.of_kp k1).newBlk 36 zeroN)
  clear k1
  go_wp2_with (refine wpList_store_blk rfl 36 (.tmp 1) (.tmp 19) rfl w1.heap.size (by simp [Act.eval, Act.put, hsz]) ch (by simp [Act.eval, Act.put, hsz]) 36 _ (S1.out.at_ (l1 := [])) (by rw [hz2.out]; exact Tryd.infoNote) (by rw [hz2.out]; rfl) HO.out ?_; intro w7 b7 k7; have S7 := Lib.hid (Held.setBlk (l1 := []) S1.out b7 k7); clear b7 k7)
  try simp only [Act.put]
  exact hend _ _ (by repeat (first | (with_reducible refine same_set (by decide) ?_) | (with_reducible exact same_nil))) (by unfold Sl; first | (simp [hsz]; done) | (simp [hsz]; omega)) (⟨_, (by unfold Sl; simp [hsz]), S7.out⟩)
-- END sgn1
-- REG sgn2
set_option maxRecDepth 100000 in
set_option maxHeartbeats 2000000 in
theorem sgn_r2 {Q : Exit → Act → World → Prop} {a : Act} {w : World}  (hsz : a.tmps.size = 117) 
    (hend : ∀ (a' : Act), Same a a' [3] → Sl a' 3 (.int .i64 ((0 : Nat) : Int)) → Q .normal a' (w)) : (Code.region 2 (opsOf 2 Tryd.f4).toArray false).wp Tryd.prog Q a w := by
  refine wp_region_lit (l := (opsOf 2 Tryd.f4)) ?_
  conv => arg 4; whnf
  go_wp2_with fail
  try simp only [Act.put]
  exact hend _ (by repeat (first | (with_reducible refine same_set (by decide) ?_) | (with_reducible exact same_nil))) (by unfold Sl; first | (simp [hsz]; done) | (simp [hsz]; omega))
-- END sgn2
-- REG sgn3
set_option maxRecDepth 100000 in
set_option maxHeartbeats 2000000 in
theorem sgn_r3 {Q : Exit → Act → World → Prop} {a : Act} {w : World} (j : Nat) (hsz : a.tmps.size = 117) (o3 : Sl a 3 (.int .i64 ((j : Nat) : Int)))
    (hend : ∀ (a' : Act), Same a a' [21, 22] → Sl a' 22 (.bool (decide ((j : Int) < 64))) → Q .normal a' (w)) : (Code.region 3 (opsOf 3 Tryd.f4).toArray false).wp Tryd.prog Q a w := by
  refine wp_region_lit (l := (opsOf 3 Tryd.f4)) ?_
  conv => arg 4; whnf
  unfold Sl at o3
  go_wp2_with fail
  try simp only [Act.put]
  exact hend _ (by repeat (first | (with_reducible refine same_set (by decide) ?_) | (with_reducible exact same_nil))) (by unfold Sl; first | (simp [hsz]; done) | (simp [hsz]; omega))
-- END sgn3
-- REG sgn4
set_option maxRecDepth 100000 in
set_option maxHeartbeats 2000000 in
theorem sgn_r4 {Q : Exit → Act → World → Prop} {a : Act} {w : World} (j : Nat) (hj : j < 64) (hsz : a.tmps.size = 117) (o3 : Sl a 3 (.int .i64 ((j : Nat) : Int)))
    (hend : ∀ (a' : Act), Same a a' [23, 24, 3] → Sl a' 3 (.int .i64 ((j + 1 : Nat) : Int)) → Q .normal a' (w)) : (Code.region 4 (opsOf 4 Tryd.f4).toArray false).wp Tryd.prog Q a w := by
  refine wp_region_lit (l := (opsOf 4 Tryd.f4)) ?_
  conv => arg 4; whnf
  unfold Sl at o3
  have hw : wrap64 ((j : Int) + 1) = (j : Int) + 1 := by unfold wrap64; omega
  go_wp2_with fail
  try simp only [Act.put]
  exact hend _ (by repeat (first | (with_reducible refine same_set (by decide) ?_) | (with_reducible exact same_nil))) (by unfold Sl; first | (simp [hsz]; done) | (simp [hsz]; omega))
-- END sgn4
-- REG sgn5
set_option maxRecDepth 100000 in
set_option maxHeartbeats 2000000 in
theorem sgn_r5 {Q : Exit → Act → World → Prop} {a : Act} {w : World} (LDw : LD w) (g1 j : Nat) (hj : j < 64) (A : Option Addr) (c : Nat) (hb : Blk w g1 36 (ntA 3 zH (.slice A j c))) (hv : Rd w 33 (.slice A j c) j (sgsC (lJ j))) (hsz : a.tmps.size = 117) (o1 : Sl a 1 (.pointer (some ⟨g1, 0, none⟩))) (o3 : Sl a 3 (.int .i64 ((j : Nat) : Int)))
    (hend : ∀ (a' : Act) (W : World), Same a a' [26, 27, 28, 29, 30, 31, 32, 33, 34, 35, 36, 25, 37, 38, 4, 5] → Sl a' 5 (.int .i64 (0 : Int)) → (∃ A c g4, Sl a' 4 (.pointer (some ⟨g4, 0, none⟩)) ∧ Held w W [blkR g4 36 (ntA 3 zH (.slice A (j + 1) c)), rowR 81 33 (.slice A (j + 1) c) (j + 1) (sgsC (lJ (j + 1)))]) → Q .normal a' W) : (Code.region 5 (opsOf 5 Tryd.f4).toArray false).wp Tryd.prog Q a w := by
  have hap : apartB ((opsOf 5 Tryd.f4).take 10) = true := by kernel_rfl
  refine wp_region_invSL (l := (opsOf 5 Tryd.f4)) 10 (fun i v W => match i with | 0 => v = .agg (ntA 3 zH (.slice A j c)) | 1 => v = .int .i64 ((j : Nat) : Int) | 2 => v = .int .i64 (40 + (j : Int)) | 3 => v = .int .u8 ((UInt8.ofNat (40 + j)).toNat : Int) | 4 => Rd W 1 v 2 (bv (nmJ j)) | 5 => v = .string ⟨(nmJ j).toArray⟩ | 6 => v = .int .i64 ((j : Nat) : Int) | 7 => v = .int .u8 ((UInt8.ofNat j).toNat : Int) | 8 => Rd W 1 v 1 (bv (secJ j)) | 9 => ∃ A c, v = .agg #[.string ⟨(nmJ j).toArray⟩, .slice A 1 c] ∧ Rd W 1 (.slice A 1 c) 1 (bv (secJ j)) | _ => True) hap ?_ ?_ ?_
  · intro i v W W' h k
    rcases i with _ | i
    · exact h
    rcases i with _ | i
    · exact h
    rcases i with _ | i
    · exact h
    rcases i with _ | i
    · exact h
    rcases i with _ | i
    · exact rd_old h k
    rcases i with _ | i
    · exact h
    rcases i with _ | i
    · exact h
    rcases i with _ | i
    · exact h
    rcases i with _ | i
    · exact rd_old h k
    rcases i with _ | i
    · obtain ⟨A, c, h1, h2⟩ := h; exact ⟨A, c, h1, rd_old h2 k⟩
    exact h
  · refine ⟨?_, ?_, ?_, ?_, ?_, ?_, ?_, ?_, ?_, ?_, trivial⟩
    · intro vs A' W hA hW hd hu K hK
      refine wpOp_free _ rfl rfl ?_
      conv => arg 2; whnf
      have e1 : A'.tmps[1]?.getD undef = .pointer (some ⟨g1, 0, none⟩) := slot_out hA hap (Nat.lt_of_lt_of_eq (Nat.le_of_ble_eq_true rfl : 1 < 117) hsz.symm) (by kernel_rfl) o1
      clear hA hd hu o1 o3
      refine op_runs (v := .agg (ntA 3 zH (.slice A j c))) (w' := W) (exec_load rfl (by simpa [Act.eval] using e1) (run_loadAt_agg W (⟨g1, 0, none⟩) 36 (ntA 3 zH (.slice A j c)).toList _ (Blk.agg (hb.kp hW (by simp))) Tryd.underlying36 rfl (by rw [Array.length_toList, ntA_size zH_length]; exact Tryd.infoNote))) ?_
      exact hK _ _ (Kp.refl _ _) rfl
    · intro vs A' W hA hW hd hu K hK
      refine wpOp_free _ rfl rfl ?_
      conv => arg 2; whnf
      have e3 : A'.tmps[3]?.getD undef = .int .i64 ((j : Nat) : Int) := slot_out hA hap (Nat.lt_of_lt_of_eq (Nat.le_of_ble_eq_true rfl : 3 < 117) hsz.symm) (by kernel_rfl) o3
      clear hA hd hu o1 o3
      go_step
      exact hK _ _ (Kp.refl _ _) rfl
    · intro vs A' W hA hW hd hu K hK
      refine wpOp_free _ rfl rfl ?_
      conv => arg 2; whnf
      have f1 : vs 1 = .int .i64 ((j : Nat) : Int) := hd 1 (by kernel_rfl)
      have e27 : A'.tmps[27]?.getD undef = vs 1 := slot_in hA hap (Nat.lt_of_lt_of_eq (Nat.le_of_ble_eq_true rfl : 27 < 117) hsz.symm) (by kernel_rfl)
      rw [f1] at e27
      clear hA hd hu o1 o3
      have hw : wrap64 (40 + (j : Int)) = 40 + (j : Int) := by unfold wrap64; omega
      go_step
      exact hK _ _ (Kp.refl _ _) rfl
    · intro vs A' W hA hW hd hu K hK
      refine wpOp_free _ rfl rfl ?_
      conv => arg 2; whnf
      have f2 : vs 2 = .int .i64 (40 + (j : Int)) := hd 2 (by kernel_rfl)
      have e28 : A'.tmps[28]?.getD undef = vs 2 := slot_in hA hap (Nat.lt_of_lt_of_eq (Nat.le_of_ble_eq_true rfl : 28 < 117) hsz.symm) (by kernel_rfl)
      rw [f2] at e28
      clear hA hd hu o1 o3
      have hu : ((UInt8.ofNat (40 + j)).toNat : Int) = 40 + (j : Int) := by rw [UInt8.toNat_ofNat_of_lt' (by show 40 + j < 256; omega)]; omega
      go_step
      exact hK _ _ (Kp.refl _ _) (congrArg (Value.int .u8) (by omega))
    · intro vs A' W hA hW hd hu K hK
      refine wpOp_free _ rfl rfl ?_
      conv => arg 2; whnf
      have f3 : vs 3 = .int .u8 ((UInt8.ofNat (40 + j)).toNat : Int) := hd 3 (by kernel_rfl)
      have e29 : A'.tmps[29]?.getD undef = vs 3 := slot_in hA hap (Nat.lt_of_lt_of_eq (Nat.le_of_ble_eq_true rfl : 29 < 117) hsz.symm) (by kernel_rfl)
      rw [f3] at e29
      clear hA hd hu o1 o3
      go_step
      exact hK _ _ ((Kp.refl [] W).alloc _) (rd_lit W _ _ (nmJ j) rfl (by show 2 ≤ 4096; omega))
    · intro vs A' W hA hW hd hu K hK
      refine wpOp_free _ rfl rfl ?_
      conv => arg 2; whnf
      have f4 : Rd W 1 (vs 4) 2 (bv (nmJ j)) := hd 4 (by kernel_rfl)
      have e30 : A'.tmps[30]?.getD undef = vs 4 := slot_in hA hap (Nat.lt_of_lt_of_eq (Nat.le_of_ble_eq_true rfl : 30 < 117) hsz.symm) (by kernel_rfl)
      clear hA hd hu o1 o3
      have kv := strB f4
      obtain ⟨A4, c4, hv4⟩ := rd_form f4
      rw [hv4] at e30 kv
      go_step
      exact hK _ _ (Kp.refl _ _) rfl
    · intro vs A' W hA hW hd hu K hK
      refine wpOp_free _ rfl rfl ?_
      conv => arg 2; whnf
      have e3 : A'.tmps[3]?.getD undef = .int .i64 ((j : Nat) : Int) := slot_out hA hap (Nat.lt_of_lt_of_eq (Nat.le_of_ble_eq_true rfl : 3 < 117) hsz.symm) (by kernel_rfl) o3
      clear hA hd hu o1 o3
      go_step
      exact hK _ _ (Kp.refl _ _) rfl
    · intro vs A' W hA hW hd hu K hK
      refine wpOp_free _ rfl rfl ?_
      conv => arg 2; whnf
      have f6 : vs 6 = .int .i64 ((j : Nat) : Int) := hd 6 (by kernel_rfl)
      have e32 : A'.tmps[32]?.getD undef = vs 6 := slot_in hA hap (Nat.lt_of_lt_of_eq (Nat.le_of_ble_eq_true rfl : 32 < 117) hsz.symm) (by kernel_rfl)
      rw [f6] at e32
      clear hA hd hu o1 o3
      have hu : ((UInt8.ofNat j).toNat : Int) = (j : Int) := by rw [UInt8.toNat_ofNat_of_lt' (by show j < 256; omega)]
      go_step
      exact hK _ _ (Kp.refl _ _) (congrArg (Value.int .u8) (by omega))
    · intro vs A' W hA hW hd hu K hK
      refine wpOp_free _ rfl rfl ?_
      conv => arg 2; whnf
      have f7 : vs 7 = .int .u8 ((UInt8.ofNat j).toNat : Int) := hd 7 (by kernel_rfl)
      have e33 : A'.tmps[33]?.getD undef = vs 7 := slot_in hA hap (Nat.lt_of_lt_of_eq (Nat.le_of_ble_eq_true rfl : 33 < 117) hsz.symm) (by kernel_rfl)
      rw [f7] at e33
      clear hA hd hu o1 o3
      go_step
      exact hK _ _ ((Kp.refl [] W).alloc _) (rd_lit W _ _ (secJ j) rfl (by show 1 ≤ 4096; omega))
    · intro vs A' W hA hW hd hu K hK
      refine wpOp_free _ rfl rfl ?_
      conv => arg 2; whnf
      have f5 : vs 5 = .string ⟨(nmJ j).toArray⟩ := hd 5 (by kernel_rfl)
      have e31 : A'.tmps[31]?.getD undef = vs 5 := slot_in hA hap (Nat.lt_of_lt_of_eq (Nat.le_of_ble_eq_true rfl : 31 < 117) hsz.symm) (by kernel_rfl)
      rw [f5] at e31
      have f8 : Rd W 1 (vs 8) 1 (bv (secJ j)) := hd 8 (by kernel_rfl)
      have e34 : A'.tmps[34]?.getD undef = vs 8 := slot_in hA hap (Nat.lt_of_lt_of_eq (Nat.le_of_ble_eq_true rfl : 34 < 117) hsz.symm) (by kernel_rfl)
      clear hA hd hu o1 o3
      obtain ⟨A8, c8, hv8⟩ := rd_form f8
      rw [hv8] at e34 f8
      refine op_build 42 _ rfl [(0, .string ⟨(nmJ j).toArray⟩), (1, .slice A8 1 c8)] (by simp [Act.eval, e31, e34]) _ (Tryd.built_key2 _ _ 1 _) ?_
      exact hK _ _ (Kp.refl _ _) ⟨A8, c8, rfl, f8⟩
  · intro vs W hW hp
    rw [show putAll vs ((opsOf 5 Tryd.f4).take 10) 0 a = putD [(26, vs 0), (27, vs 1), (28, vs 2), (29, vs 3), (30, vs 4), (31, vs 5), (32, vs 6), (33, vs 7), (34, vs 8), (35, vs 9)] a from by kernel_rfl]
    have hS : Same a (putD [(26, vs 0), (27, vs 1), (28, vs 2), (29, vs 3), (30, vs 4), (31, vs 5), (32, vs 6), (33, vs 7), (34, vs 8), (35, vs 9)] a) [26, 27, 28, 29, 30, 31, 32, 33, 34, 35] := same_putD _ a
    have n26 : Sl (putD [(26, vs 0), (27, vs 1), (28, vs 2), (29, vs 3), (30, vs 4), (31, vs 5), (32, vs 6), (33, vs 7), (34, vs 8), (35, vs 9)] a) 26 (.agg (ntA 3 zH (.slice A j c))) := sl_putD _ a 26 _ (by rw [show vs 0 = _ from hp 0 (Nat.le_of_ble_eq_true (by kernel_rfl))]; kernel_rfl)
    have n35 : Sl (putD [(26, vs 0), (27, vs 1), (28, vs 2), (29, vs 3), (30, vs 4), (31, vs 5), (32, vs 6), (33, vs 7), (34, vs 8), (35, vs 9)] a) 35 (vs 9) := sl_putD _ a 35 _ (by kernel_rfl)
    have h9 : ∃ A c, (vs 9) = .agg #[.string ⟨(nmJ j).toArray⟩, .slice A 1 c] ∧ Rd W 1 (.slice A 1 c) 1 (bv (secJ j)) := hp 9 (Nat.le_of_ble_eq_true (by kernel_rfl))
    clear hp hap
    generalize putD [(26, vs 0), (27, vs 1), (28, vs 2), (29, vs 3), (30, vs 4), (31, vs 5), (32, vs 6), (33, vs 7), (34, vs 8), (35, vs 9)] a = a1 at *
    have hsz1 : a1.tmps.size = 117 := hS.size.trans hsz
    clear o1 o3
    conv => arg 4; whnf
    unfold Sl at n26 n35
    obtain ⟨A9, c9, hv9, hr9⟩ := h9
    rw [hv9] at n35
    have HL := Lib.hid (LDw.kp hW)
    have HV := Lib.hid (rd_old hv hW)
    have HR := Lib.hid hr9
    have HW := Lib.hid hW
    clear hr9 hv9 hb hv LDw hW
    obtain ⟨cn, hcn⟩ : ∃ cn, Hid (ntA 3 zH (.slice A j c) = cn) := ⟨_, Lib.hid rfl⟩
    rw [hcn.out] at n26
    go_wp2_with fail
    rw [← hcn.out]
    refine (ssign_J hj A c A9 c9 _ HL.out HV.out HR.out).mono ?_
    rintro e w1 ⟨Au, cu, rfl, H⟩
    have hz2 : Hid ((ntA 3 zH (.slice Au (j + 1) cu)).size = 34) := Lib.hid (ntA_size zH_length)
    have HO := Lib.hid (ntA_one (z := 3) (h := zH) (v := .slice Au (j + 1) cu) rfl)
    have S0 := Held.back HW.out H
    have S1 := Lib.hid (S0.newBlk 36 zeroN)
    clear S0 H
    have hend := fun a' W h5 h7 g4 h8 => hend a' W h5 h7 ⟨Au, cu, g4, h8⟩
    obtain ⟨cm, hcm⟩ : ∃ cm, Hid (ntA 3 zH (.slice Au (j + 1) cu) = cm) := ⟨_, Lib.hid rfl⟩
    rw [hcm.out] at HO hz2 hend ⊢
    go_wp2_with (refine wpList_store_blk rfl 36 (.tmp 4) (.tmp 37) rfl w1.heap.size (by simp [Act.eval, Act.put, hsz1]) cm (by simp [Act.eval, Act.put, hsz1]) 36 _ (S1.out.at_ (l1 := [])) (by rw [hz2.out]; exact Tryd.infoNote) (by rw [hz2.out]; rfl) HO.out ?_; intro w7 b7 k7; have S7 := Lib.hid (Held.setBlk (l1 := []) S1.out b7 k7); clear b7 k7)
    try simp only [Act.put]
    exact hend _ _ ((hS.trans (d2 := [36, 25, 37, 38, 4, 5]) (by repeat (first | (with_reducible refine same_set (by decide) ?_) | (with_reducible exact same_nil)))).more (by decide +kernel)) (by unfold Sl; first | (simp [hsz1]; done) | (simp [hsz1]; omega)) (w1.heap.size) (⟨(by unfold Sl; simp [hsz1]), S7.out⟩)
-- END sgn5
-- REG sgn6
set_option maxRecDepth 100000 in
set_option maxHeartbeats 2000000 in
theorem sgn_r6 {Q : Exit → Act → World → Prop} {a : Act} {w : World}  (hsz : a.tmps.size = 117) (o5 : Sl a 5 (.int .i64 (0 : Int)))
    (hend : ∀ (a' : Act), Same a a' [39, 40, 41] → Sl a' 41 (.bool false) → Q .normal a' (w)) : (Code.region 6 (opsOf 6 Tryd.f4).toArray false).wp Tryd.prog Q a w := by
  refine wp_region_lit (l := (opsOf 6 Tryd.f4)) ?_
  conv => arg 4; whnf
  unfold Sl at o5
  go_wp2_with fail
  refine (lnum_any 0 w).mono ?_
  rintro e w1 ⟨rfl, rfl⟩
  go_wp2_with fail
  try simp only [Act.put]
  exact hend _ (by repeat (first | (with_reducible refine same_set (by decide) ?_) | (with_reducible exact same_nil))) (by unfold Sl; first | (simp [hsz]; done) | (simp [hsz]; omega))
-- END sgn6
-- REG sgn8
set_option maxRecDepth 100000 in
set_option maxHeartbeats 2000000 in
theorem sgn_r8 {Q : Exit → Act → World → Prop} {a : Act} {w : World} (w0 : World) (g1 g4 : Nat) (co cn : Array Value) (hco : co.size = 34) (hcn : cn.size = 34) (h1 : ∀ u, u ∈ cn.toList → u.oneCell' = true) (L : List Res) (S : Held w0 w (blkR g1 36 co :: blkR g4 36 cn :: L)) (hsz : a.tmps.size = 117) (o1 : Sl a 1 (.pointer (some ⟨g1, 0, none⟩))) (o4 : Sl a 4 (.pointer (some ⟨g4, 0, none⟩)))
    (hend : ∀ (a' : Act) (W : World), Same a a' [42] → (Held w0 W (blkR g1 36 cn :: blkR g4 36 cn :: L)) → Q .normal a' W) : (Code.region 8 (opsOf 8 Tryd.f4).toArray false).wp Tryd.prog Q a w := by
  refine wp_region_lit (l := (opsOf 8 Tryd.f4)) ?_
  conv => arg 4; whnf
  unfold Sl at o1 o4
  have S1 := Lib.hid S
  clear S
  have hz2 := Lib.hid hcn
  have hzo := Lib.hid hco
  have HO := Lib.hid h1
  clear hco hcn h1
  go_wp2_with (first
    | (refine wpList_load_blk rfl 36 (.tmp 4) rfl g4 (by simp [Act.eval, Act.put, hsz, o4]) 36 _ (S1.out.at_ (l1 := [_])) _ Tryd.underlying36 rfl (by rw [hz2.out]; exact Tryd.infoNote) ?_)
    | (refine wpList_store_blk rfl 36 (.tmp 1) (.tmp 42) rfl g1 (by simp [Act.eval, Act.put, hsz, o1]) cn (by simp [Act.eval, Act.put, hsz]) 36 _ (S1.out.at_ (l1 := [])) (by rw [hz2.out]; exact Tryd.infoNote) (by rw [hz2.out, hzo.out]) HO.out ?_; intro w7 b7 k7; have S7 := Lib.hid (Held.setBlk (l1 := []) S1.out b7 k7); clear b7 k7))
  try simp only [Act.put]
  exact hend _ _ (by repeat (first | (with_reducible refine same_set (by decide) ?_) | (with_reducible exact same_nil))) (S7.out)
-- END sgn8
-- REG sgn9
set_option maxRecDepth 100000 in
set_option maxHeartbeats 2000000 in
theorem sgn_r9 {Q : Exit → Act → World → Prop} {a : Act} {w : World} (LDw : LD w) (g1 : Nat) (A : Option Addr) (c : Nat) (hb : Blk w g1 36 (ntA 3 zH (.slice A 64 c))) (hv : Rd w 33 (.slice A 64 c) 64 (sgsC (lJ 64))) (hsz : a.tmps.size = 117) (o1 : Sl a 1 (.pointer (some ⟨g1, 0, none⟩)))
    (hend : ∀ (a' : Act) (W : World), Same a a' [44, 45, 46, 47, 43, 48, 49, 6, 7] → Sl a' 7 (.int .i64 (380 : Int)) → (Kp [] w W) → Q .normal a' W) : (Code.region 9 (opsOf 9 Tryd.f4).toArray false).wp Tryd.prog Q a w := by
  refine wp_region_lit (l := (opsOf 9 Tryd.f4)) ?_
  conv => arg 4; whnf
  unfold Sl at o1
  have HL := Lib.hid LDw
  have HB := Lib.hid hb
  have HV := Lib.hid hv
  clear LDw hb hv
  obtain ⟨cn, hcn⟩ : ∃ cn, Hid (ntA 3 zH (.slice A 64 c) = cn) := ⟨_, Lib.hid rfl⟩
  have hzc : Hid (cn.size = 34) := Lib.hid (by rw [← hcn.out]; exact ntA_size zH_length)
  rw [hcn.out] at HB
  go_wp2_with (first
    | (refine wpList_load_blk rfl 36 (.tmp 1) rfl g1 (by simp [Act.eval, Act.put, hsz, o1]) 36 _ HB.out _ Tryd.underlying36 rfl (by rw [hzc.out]; exact Tryd.infoNote) ?_)
    | (refine wpList_buildP rfl 42 _ rfl [(0, .string ⟨#[122, 122]⟩), (1, .slice (some ⟨w.heap.size, 0, none⟩) 1 1)] (by simp [Act.eval, Act.put, hsz]) _ (Tryd.built_key2 ⟨#[122, 122]⟩ _ 1 1) ?_))
  rw [← hcn.out]
  have HR := rd_lit w 5 #[.int .u8 1] [1] rfl (by decide)
  refine (ssign_380 A c (some ⟨w.heap.size, 0, none⟩) 1 _ (HL.out.kp ((Kp.refl [] w).alloc _)) (rd_old HV.out ((Kp.refl [] w).alloc _)) HR).mono ?_
  rintro e w1 ⟨rfl, k1⟩
  have hz2 : Hid (zeroN.size = 34) := Lib.hid rfl
  have HO : Hid (∀ u, u ∈ zeroN.toList → u.oneCell' = true) := Lib.hid (ntA_one (z := 0) (h := zH) (v := .slice none 0 0) rfl)
  have S1 := Lib.hid ((Held.of_kp (((Kp.refl [] w).alloc (.cells #[.int .u8 1] 5)).trans k1 (by simp))).newBlk 36 zeroN)
  clear k1 HR
  obtain ⟨cm, hcm⟩ : ∃ cm, Hid (zeroN = cm) := ⟨_, Lib.hid rfl⟩
  rw [hcm.out] at HO hz2 ⊢
  go_wp2_with (refine wpList_store_blk rfl 36 (.tmp 6) (.tmp 48) rfl w1.heap.size (by simp [Act.eval, Act.put, hsz]) cm (by simp [Act.eval, Act.put, hsz]) 36 _ (S1.out.at_ (l1 := [])) (by rw [hz2.out]; exact Tryd.infoNote) (by rw [hz2.out]; rfl) HO.out ?_; intro w7 b7 k7; have S7 := Lib.hid (Held.setBlk (l1 := []) S1.out b7 k7); clear b7 k7)
  try simp only [Act.put]
  exact hend _ _ (by repeat (first | (with_reducible refine same_set (by decide) ?_) | (with_reducible exact same_nil))) (by unfold Sl; first | (simp [hsz]; done) | (simp [hsz]; omega)) (S7.out.k)
-- END sgn9
-- REG sgn10
set_option maxRecDepth 100000 in
set_option maxHeartbeats 2000000 in
theorem sgn_r10 {Q : Exit → Act → World → Prop} {a : Act} {w : World} (LDw : LD w) (hsz : a.tmps.size = 117) 
    (hend : ∀ (a' : Act) (W : World), Same a a' [51, 52, 53, 54, 55, 56, 50, 57, 58, 8, 9] → Sl a' 9 (.int .i64 (2 : Int)) → (Kp [] w W) → Q .normal a' W) : (Code.region 10 (opsOf 10 Tryd.f4).toArray false).wp Tryd.prog Q a w := by
  refine wp_region_lit (l := (opsOf 10 Tryd.f4)) ?_
  conv => arg 4; whnf
  have HL := Lib.hid LDw
  clear LDw
  go_wp2_with (first
    | (refine wpList_buildP rfl 33 _ rfl [] rfl _ Tryd.built_pt0 ?_)
    | (refine make_noughts rfl 3 (by decide) rfl ?_; intro w1 o1 k1; have RM := Rd.of_own o1; have kv := strB RM; have RM := Lib.hid RM; have k1 := Lib.hid k1; clear o1)
    | (refine wpList_buildP rfl 42 _ rfl [(0, .string ⟨(List.replicate 3 (0 : UInt8)).toArray⟩), (1, .slice (some ⟨w1.heap.size, 0, none⟩) 1 1)] (by simp [Act.eval, Act.put, hsz]) _ (Tryd.built_key2 ⟨(List.replicate 3 (0 : UInt8)).toArray⟩ _ 1 1) ?_))
  have HR := rd_lit w1 5 #[.int .u8 1] [1] rfl (by decide)
  refine (ssm_any 0 (by decide) zH zH_length ⟨(List.replicate 3 (0 : UInt8)).toArray⟩ (by show 3 ≤ 9223372036854775807; omega) (some ⟨w1.heap.size, 0, none⟩) 1 [1] _ (HL.out.kp (k1.out.alloc _)) HR).mono ?_
  rintro e w4 ⟨rfl, k4⟩
  rw [show (if sumOk 0 ((ByteArray.mk (List.replicate 3 (0 : UInt8)).toArray).data.toList) ([1]) = true then (0 : Int) else 2) = 2 from by decide +kernel]
  have hz2 : Hid ((hashA (sumV 0 zH ((ByteArray.mk (List.replicate 3 (0 : UInt8)).toArray).data.toList) ([1]))).size = 32) := Lib.hid (by rw [hashA_size, sumV_length])
  have HO := Lib.hid (hashA_one (sumV 0 zH ((ByteArray.mk (List.replicate 3 (0 : UInt8)).toArray).data.toList) ([1])))
  have S1 := Lib.hid ((Held.of_kp ((k1.out.alloc (.cells #[.int .u8 1] 5)).trans k4 (by simp))).newBlk 25 (hashA zH))
  clear k4
  generalize hashA (sumV 0 zH ((ByteArray.mk (List.replicate 3 (0 : UInt8)).toArray).data.toList) ([1])) = cm at *
  go_wp2_with (refine wpList_store_blk rfl 25 (.tmp 8) (.tmp 57) rfl w4.heap.size (by simp [Act.eval, Act.put, hsz]) cm (by simp [Act.eval, Act.put, hsz]) 25 _ (S1.out.at_ (l1 := [])) (by rw [hz2.out]; exact Tryd.infoHashP) (by rw [hz2.out]; rfl) HO.out ?_; intro w7 b7 k7; have S7 := Lib.hid (Held.setBlk (l1 := []) S1.out b7 k7); clear b7 k7)
  try simp only [Act.put]
  exact hend _ _ (by repeat (first | (with_reducible refine same_set (by decide) ?_) | (with_reducible exact same_nil))) (by unfold Sl; first | (simp [hsz]; done) | (simp [hsz]; omega)) (S7.out.k)
-- END sgn10
-- REG sgn11
set_option maxRecDepth 100000 in
set_option maxHeartbeats 2000000 in
theorem sgn_r11 {Q : Exit → Act → World → Prop} {a : Act} {w : World} (LDw : LD w) (hsz : a.tmps.size = 117) 
    (hend : ∀ (a' : Act) (W : World), Same a a' [60, 61, 62, 63, 59, 64, 65, 10, 11] → Sl a' 11 (.int .i64 (0 : Int)) → (Kp [] w W) → Q .normal a' W) : (Code.region 11 (opsOf 11 Tryd.f4).toArray false).wp Tryd.prog Q a w := by
  refine wp_region_lit (l := (opsOf 11 Tryd.f4)) ?_
  conv => arg 4; whnf
  have HL := Lib.hid LDw
  clear LDw
  go_wp2_with (first
    | (refine wpList_buildP rfl 33 _ rfl [] rfl _ Tryd.built_pt0 ?_)
    | (refine make_noughts rfl 256 (by decide) rfl ?_; intro w1 o1 k1; have RM := Rd.of_own o1; have RM := Lib.hid RM; have k1 := Lib.hid k1; clear o1)
    | (refine wpList_buildP rfl 42 _ rfl [(0, .string ⟨#[97]⟩), (1, .slice (some ⟨w.heap.size, 0, none⟩) 256 256)] (by simp [Act.eval, Act.put, hsz]) _ (Tryd.built_key2 ⟨#[97]⟩ _ 256 256) ?_))
  refine (ssm_any 0 (by decide) zH zH_length ⟨#[97]⟩ (by show 1 ≤ 9223372036854775807; omega) (some ⟨w.heap.size, 0, none⟩) 256 (List.replicate 256 (0 : UInt8)) _ (HL.out.kp k1.out) (by rw [List.length_replicate]; exact RM.out)).mono ?_
  rintro e w4 ⟨rfl, k4⟩
  rw [show (if sumOk 0 ((ByteArray.mk #[97]).data.toList) ((List.replicate 256 (0 : UInt8))) = true then (0 : Int) else 2) = 0 from by decide +kernel]
  have hz2 : Hid ((hashA (sumV 0 zH ((ByteArray.mk #[97]).data.toList) ((List.replicate 256 (0 : UInt8))))).size = 32) := Lib.hid (by rw [hashA_size, sumV_length])
  have HO := Lib.hid (hashA_one (sumV 0 zH ((ByteArray.mk #[97]).data.toList) ((List.replicate 256 (0 : UInt8)))))
  have S1 := Lib.hid ((Held.of_kp ((k1.out).trans k4 (by simp))).newBlk 25 (hashA zH))
  clear k4
  generalize hashA (sumV 0 zH ((ByteArray.mk #[97]).data.toList) ((List.replicate 256 (0 : UInt8)))) = cm at *
  go_wp2_with (refine wpList_store_blk rfl 25 (.tmp 10) (.tmp 64) rfl w4.heap.size (by simp [Act.eval, Act.put, hsz]) cm (by simp [Act.eval, Act.put, hsz]) 25 _ (S1.out.at_ (l1 := [])) (by rw [hz2.out]; exact Tryd.infoHashP) (by rw [hz2.out]; rfl) HO.out ?_; intro w7 b7 k7; have S7 := Lib.hid (Held.setBlk (l1 := []) S1.out b7 k7); clear b7 k7)
  try simp only [Act.put]
  exact hend _ _ (by repeat (first | (with_reducible refine same_set (by decide) ?_) | (with_reducible exact same_nil))) (by unfold Sl; first | (simp [hsz]; done) | (simp [hsz]; omega)) (S7.out.k)
-- END sgn11
-- REG sgn12
set_option maxRecDepth 100000 in
set_option maxHeartbeats 2000000 in
theorem sgn_r12 {Q : Exit → Act → World → Prop} {a : Act} {w : World} (LDw : LD w) (hsz : a.tmps.size = 117) 
    (hend : ∀ (a' : Act) (W : World), Same a a' [67, 68, 69, 70, 66, 71, 72, 12, 13] → Sl a' 13 (.int .i64 (2 : Int)) → (Kp [] w W) → Q .normal a' W) : (Code.region 12 (opsOf 12 Tryd.f4).toArray false).wp Tryd.prog Q a w := by
  refine wp_region_lit (l := (opsOf 12 Tryd.f4)) ?_
  conv => arg 4; whnf
  have HL := Lib.hid LDw
  clear LDw
  go_wp2_with (first
    | (refine wpList_buildP rfl 33 _ rfl [] rfl _ Tryd.built_pt0 ?_)
    | (refine make_noughts rfl 257 (by decide) rfl ?_; intro w1 o1 k1; have RM := Rd.of_own o1; have RM := Lib.hid RM; have k1 := Lib.hid k1; clear o1)
    | (refine wpList_buildP rfl 42 _ rfl [(0, .string ⟨#[97]⟩), (1, .slice (some ⟨w.heap.size, 0, none⟩) 257 257)] (by simp [Act.eval, Act.put, hsz]) _ (Tryd.built_key2 ⟨#[97]⟩ _ 257 257) ?_))
  refine (ssm_any 0 (by decide) zH zH_length ⟨#[97]⟩ (by show 1 ≤ 9223372036854775807; omega) (some ⟨w.heap.size, 0, none⟩) 257 (List.replicate 257 (0 : UInt8)) _ (HL.out.kp k1.out) (by rw [List.length_replicate]; exact RM.out)).mono ?_
  rintro e w4 ⟨rfl, k4⟩
  rw [show (if sumOk 0 ((ByteArray.mk #[97]).data.toList) ((List.replicate 257 (0 : UInt8))) = true then (0 : Int) else 2) = 2 from by decide +kernel]
  have hz2 : Hid ((hashA (sumV 0 zH ((ByteArray.mk #[97]).data.toList) ((List.replicate 257 (0 : UInt8))))).size = 32) := Lib.hid (by rw [hashA_size, sumV_length])
  have HO := Lib.hid (hashA_one (sumV 0 zH ((ByteArray.mk #[97]).data.toList) ((List.replicate 257 (0 : UInt8)))))
  have S1 := Lib.hid ((Held.of_kp ((k1.out).trans k4 (by simp))).newBlk 25 (hashA zH))
  clear k4
  generalize hashA (sumV 0 zH ((ByteArray.mk #[97]).data.toList) ((List.replicate 257 (0 : UInt8)))) = cm at *
  go_wp2_with (refine wpList_store_blk rfl 25 (.tmp 12) (.tmp 71) rfl w4.heap.size (by simp [Act.eval, Act.put, hsz]) cm (by simp [Act.eval, Act.put, hsz]) 25 _ (S1.out.at_ (l1 := [])) (by rw [hz2.out]; exact Tryd.infoHashP) (by rw [hz2.out]; rfl) HO.out ?_; intro w7 b7 k7; have S7 := Lib.hid (Held.setBlk (l1 := []) S1.out b7 k7); clear b7 k7)
  try simp only [Act.put]
  exact hend _ _ (by repeat (first | (with_reducible refine same_set (by decide) ?_) | (with_reducible exact same_nil))) (by unfold Sl; first | (simp [hsz]; done) | (simp [hsz]; omega)) (S7.out.k)
-- END sgn12
-- REG sgn13
set_option maxRecDepth 100000 in
set_option maxHeartbeats 2000000 in
theorem sgn_r13 {Q : Exit → Act → World → Prop} {a : Act} {w : World} (LDw : LD w) (hsz : a.tmps.size = 117) 
    (hend : ∀ (a' : Act) (W : World), Same a a' [74, 75, 76, 73, 77, 78, 14, 15] → Sl a' 15 (.int .i64 (2 : Int)) → (Kp [] w W) → Q .normal a' W) : (Code.region 13 (opsOf 13 Tryd.f4).toArray false).wp Tryd.prog Q a w := by
  refine wp_region_lit (l := (opsOf 13 Tryd.f4)) ?_
  conv => arg 4; whnf
  have HL := Lib.hid LDw
  clear LDw
  go_wp2_with (first
    | (refine wpList_buildP rfl 33 _ rfl [] rfl _ Tryd.built_pt0 ?_)
    | (refine wpList_buildP rfl 42 _ rfl [(0, .string ⟨#[97]⟩)] (by simp [Act.eval, Act.put, hsz]) _ (Tryd.built_key1 ⟨#[97]⟩) ?_))
  refine (ssm_any 0 (by decide) zH zH_length ⟨#[97]⟩ (by show 1 ≤ 9223372036854775807; omega) none 0 [] _ HL.out (rd_nil_any 1 _)).mono ?_
  rintro e w4 ⟨rfl, k4⟩
  rw [show (if sumOk 0 ((ByteArray.mk #[97]).data.toList) ([]) = true then (0 : Int) else 2) = 2 from by decide +kernel]
  have hz2 : Hid ((hashA (sumV 0 zH ((ByteArray.mk #[97]).data.toList) ([]))).size = 32) := Lib.hid (by rw [hashA_size, sumV_length])
  have HO := Lib.hid (hashA_one (sumV 0 zH ((ByteArray.mk #[97]).data.toList) ([])))
  have S1 := Lib.hid ((Held.of_kp ((Kp.refl [] w).trans k4 (by simp))).newBlk 25 (hashA zH))
  clear k4
  generalize hashA (sumV 0 zH ((ByteArray.mk #[97]).data.toList) ([])) = cm at *
  go_wp2_with (refine wpList_store_blk rfl 25 (.tmp 14) (.tmp 77) rfl w4.heap.size (by simp [Act.eval, Act.put, hsz]) cm (by simp [Act.eval, Act.put, hsz]) 25 _ (S1.out.at_ (l1 := [])) (by rw [hz2.out]; exact Tryd.infoHashP) (by rw [hz2.out]; rfl) HO.out ?_; intro w7 b7 k7; have S7 := Lib.hid (Held.setBlk (l1 := []) S1.out b7 k7); clear b7 k7)
  try simp only [Act.put]
  exact hend _ _ (by repeat (first | (with_reducible refine same_set (by decide) ?_) | (with_reducible exact same_nil))) (by unfold Sl; first | (simp [hsz]; done) | (simp [hsz]; omega)) (S7.out.k)
-- END sgn13
-- REG sgn14
set_option maxRecDepth 100000 in
set_option maxHeartbeats 2000000 in
theorem sgn_r14 {Q : Exit → Act → World → Prop} {a : Act} {w : World} (LDw : LD w) (g1 : Nat) (A : Option Addr) (c : Nat) (hb1 : Blk w g1 36 (ntA 3 zH (.slice A 64 c))) (hsz : a.tmps.size = 117) (o1 : Sl a 1 (.pointer (some ⟨g1, 0, none⟩))) (o7 : Sl a 7 (.int .i64 (380 : Int))) (o9 : Sl a 9 (.int .i64 (2 : Int))) (o11 : Sl a 11 (.int .i64 (0 : Int))) (o13 : Sl a 13 (.int .i64 (2 : Int))) (o15 : Sl a 15 (.int .i64 (2 : Int)))
    (hend : ∀ (a' : Act) (W : World), Same a a' [79, 80, 81, 82, 83, 84, 85, 86, 87, 88, 89, 90, 91, 92, 93, 94, 95, 96, 97, 98, 99, 100, 101, 102, 103, 104, 105, 106, 107, 108, 109, 110, 111, 112, 113, 114, 115, 116, 0] → Kp [] w W → Sl a' 0 (.bool true) → Q .normal a' W) : (Code.region 14 (opsOf 14 Tryd.f4).toArray false).wp Tryd.prog Q a w := by
  have hap : apartB (opsOf 14 Tryd.f4) = true := by kernel_rfl
  refine wp_region_invS (l := (opsOf 14 Tryd.f4)) (fun i v W => match i with | 0 => v = .pointer (some ⟨g1, 33, none⟩) | 1 => v = .slice A 64 c | 2 => v = .int .i64 (64 : Int) | 3 => v = .bool true | 4 => v = .bool true | 5 => v = .int .i64 (380 : Int) | 6 => v = .int .i64 (380 : Int) | 7 => v = .bool true | 8 => v = .bool true | 9 => v = .bool true | 10 => v = .int .i64 (2 : Int) | 11 => v = .int .i64 (2 : Int) | 12 => v = .bool true | 13 => v = .bool true | 14 => v = .bool true | 15 => v = .int .i64 (0 : Int) | 16 => v = .int .i64 (0 : Int) | 17 => v = .bool true | 18 => v = .bool true | 19 => v = .bool true | 20 => v = .int .i64 (2 : Int) | 21 => v = .int .i64 (2 : Int) | 22 => v = .bool true | 23 => v = .bool true | 24 => v = .bool true | 25 => v = .int .i64 (2 : Int) | 26 => v = .int .i64 (2 : Int) | 27 => v = .bool true | 28 => v = .bool true | 29 => v = .bool true | 30 => v = .bool true | 31 => v = .bool true | 32 => v = .bool true | 33 => v = .bool true | 34 => v = .bool true | 35 => v = .bool true | 36 => v = .bool true | 37 => v = .bool true | 38 => v = .bool true | _ => True) hap ?_ ?_ ?_
  · intro i v W W' h _
    iterate 39 (rcases i with _ | i; · exact h)
    exact h
  · refine ⟨?_, ?_, ?_, ?_, ?_, ?_, ?_, ?_, ?_, ?_, ?_, ?_, ?_, ?_, ?_, ?_, ?_, ?_, ?_, ?_, ?_, ?_, ?_, ?_, ?_, ?_, ?_, ?_, ?_, ?_, ?_, ?_, ?_, ?_, ?_, ?_, ?_, ?_, ?_, trivial⟩
    · intro vs A' W hA hW hd hu K hK
      refine wpOp_free _ rfl rfl ?_
      conv => arg 2; whnf
      have e1 : A'.tmps[1]?.getD undef = .pointer (some ⟨g1, 0, none⟩) := slot_out hA hap (Nat.lt_of_lt_of_eq (Nat.le_of_ble_eq_true rfl : 1 < 117) hsz.symm) (by kernel_rfl) o1
      clear hA hd hu o1 o7 o9 o11 o13 o15
      go_step
      exact hK _ _ (Kp.refl _ _) rfl
    · intro vs A' W hA hW hd hu K hK
      refine wpOp_free _ rfl rfl ?_
      conv => arg 2; whnf
      have f0 : vs 0 = .pointer (some ⟨g1, 33, none⟩) := hd 0 (by kernel_rfl)
      have e79 : A'.tmps[79]?.getD undef = vs 0 := slot_in hA hap (Nat.lt_of_lt_of_eq (Nat.le_of_ble_eq_true rfl : 79 < 117) hsz.symm) (by kernel_rfl)
      rw [f0] at e79
      clear hA hd hu o1 o7 o9 o11 o13 o15
      have c0 : W.cell? ⟨g1, 33, none⟩ = some (.slice A 64 c) := by rw [(hb1.kp hW (by simp)).cell]; exact ntA_sigs zH_length
      go_step
      exact hK _ _ (Kp.refl _ _) rfl
    · intro vs A' W hA hW hd hu K hK
      refine wpOp_free _ rfl rfl ?_
      conv => arg 2; whnf
      have f1 : vs 1 = .slice A 64 c := hd 1 (by kernel_rfl)
      have e80 : A'.tmps[80]?.getD undef = vs 1 := slot_in hA hap (Nat.lt_of_lt_of_eq (Nat.le_of_ble_eq_true rfl : 80 < 117) hsz.symm) (by kernel_rfl)
      rw [f1] at e80
      clear hA hd hu o1 o7 o9 o11 o13 o15
      go_step
      exact hK _ _ (Kp.refl _ _) rfl
    · intro vs A' W hA hW hd hu K hK
      refine wpOp_free _ rfl rfl ?_
      conv => arg 2; whnf
      have f2 : vs 2 = .int .i64 (64 : Int) := hd 2 (by kernel_rfl)
      have e81 : A'.tmps[81]?.getD undef = vs 2 := slot_in hA hap (Nat.lt_of_lt_of_eq (Nat.le_of_ble_eq_true rfl : 81 < 117) hsz.symm) (by kernel_rfl)
      rw [f2] at e81
      clear hA hd hu o1 o7 o9 o11 o13 o15
      go_step
      exact hK _ _ (Kp.refl _ _) rfl
    · intro vs A' W hA hW hd hu K hK
      refine wpOp_free _ rfl rfl ?_
      conv => arg 2; whnf
      have f3 : vs 3 = .bool true := hd 3 (by kernel_rfl)
      have e82 : A'.tmps[82]?.getD undef = vs 3 := slot_in hA hap (Nat.lt_of_lt_of_eq (Nat.le_of_ble_eq_true rfl : 82 < 117) hsz.symm) (by kernel_rfl)
      rw [f3] at e82
      clear hA hd hu o1 o7 o9 o11 o13 o15
      go_step
      exact hK _ _ (Kp.refl _ _) rfl
    · intro vs A' W hA hW hd hu K hK
      have f4 : vs 4 = .bool true := hd 4 (by kernel_rfl)
      have e83 : A'.tmps[83]?.getD undef = vs 4 := slot_in hA hap (Nat.lt_of_lt_of_eq (Nat.le_of_ble_eq_true rfl : 83 < 117) hsz.symm) (by kernel_rfl)
      rw [f4] at e83
      refine wpOp_go _ rfl 4 83 true rfl rfl e83 ?_
      conv => arg 2; whnf
      have e7 : A'.tmps[7]?.getD undef = .int .i64 (380 : Int) := slot_out hA hap (Nat.lt_of_lt_of_eq (Nat.le_of_ble_eq_true rfl : 7 < 117) hsz.symm) (by kernel_rfl) o7
      clear hA hd hu o1 o7 o9 o11 o13 o15
      go_step
      exact hK _ _ (Kp.refl _ _) rfl
    · intro vs A' W hA hW hd hu K hK
      have f4 : vs 4 = .bool true := hd 4 (by kernel_rfl)
      have e83 : A'.tmps[83]?.getD undef = vs 4 := slot_in hA hap (Nat.lt_of_lt_of_eq (Nat.le_of_ble_eq_true rfl : 83 < 117) hsz.symm) (by kernel_rfl)
      rw [f4] at e83
      refine wpOp_go _ rfl 4 83 true rfl rfl e83 ?_
      conv => arg 2; whnf
      have f5 : vs 5 = .int .i64 (380 : Int) := hd 5 (by kernel_rfl)
      have e84 : A'.tmps[84]?.getD undef = vs 5 := slot_in hA hap (Nat.lt_of_lt_of_eq (Nat.le_of_ble_eq_true rfl : 84 < 117) hsz.symm) (by kernel_rfl)
      rw [f5] at e84
      clear hA hd hu o1 o7 o9 o11 o13 o15
      go_step
      refine (lnum_any 380 W).mono ?_
      rintro e w' ⟨rfl, rfl⟩
      exact hK _ _ (Kp.refl _ _) rfl
    · intro vs A' W hA hW hd hu K hK
      have f4 : vs 4 = .bool true := hd 4 (by kernel_rfl)
      have e83 : A'.tmps[83]?.getD undef = vs 4 := slot_in hA hap (Nat.lt_of_lt_of_eq (Nat.le_of_ble_eq_true rfl : 83 < 117) hsz.symm) (by kernel_rfl)
      rw [f4] at e83
      refine wpOp_go _ rfl 4 83 true rfl rfl e83 ?_
      conv => arg 2; whnf
      have f6 : vs 6 = .int .i64 (380 : Int) := hd 6 (by kernel_rfl)
      have e85 : A'.tmps[85]?.getD undef = vs 6 := slot_in hA hap (Nat.lt_of_lt_of_eq (Nat.le_of_ble_eq_true rfl : 85 < 117) hsz.symm) (by kernel_rfl)
      rw [f6] at e85
      clear hA hd hu o1 o7 o9 o11 o13 o15
      go_step
      exact hK _ _ (Kp.refl _ _) rfl
    · intro vs A' W hA hW hd hu K hK
      refine wpOp_free _ rfl rfl ?_
      conv => arg 2; whnf
      have f4 : vs 4 = .bool true := hd 4 (by kernel_rfl)
      have e83 : A'.tmps[83]?.getD undef = vs 4 := slot_in hA hap (Nat.lt_of_lt_of_eq (Nat.le_of_ble_eq_true rfl : 83 < 117) hsz.symm) (by kernel_rfl)
      rw [f4] at e83
      have f7 : vs 7 = .bool true := hd 7 (by kernel_rfl)
      have e86 : A'.tmps[86]?.getD undef = vs 7 := slot_in hA hap (Nat.lt_of_lt_of_eq (Nat.le_of_ble_eq_true rfl : 86 < 117) hsz.symm) (by kernel_rfl)
      rw [f7] at e86
      clear hA hd hu o1 o7 o9 o11 o13 o15
      go_step
      exact hK _ _ (Kp.refl _ _) rfl
    · intro vs A' W hA hW hd hu K hK
      refine wpOp_free _ rfl rfl ?_
      conv => arg 2; whnf
      have f8 : vs 8 = .bool true := hd 8 (by kernel_rfl)
      have e87 : A'.tmps[87]?.getD undef = vs 8 := slot_in hA hap (Nat.lt_of_lt_of_eq (Nat.le_of_ble_eq_true rfl : 87 < 117) hsz.symm) (by kernel_rfl)
      rw [f8] at e87
      clear hA hd hu o1 o7 o9 o11 o13 o15
      go_step
      exact hK _ _ (Kp.refl _ _) rfl
    · intro vs A' W hA hW hd hu K hK
      have f9 : vs 9 = .bool true := hd 9 (by kernel_rfl)
      have e88 : A'.tmps[88]?.getD undef = vs 9 := slot_in hA hap (Nat.lt_of_lt_of_eq (Nat.le_of_ble_eq_true rfl : 88 < 117) hsz.symm) (by kernel_rfl)
      rw [f9] at e88
      refine wpOp_go _ rfl 9 88 true rfl rfl e88 ?_
      conv => arg 2; whnf
      have e9 : A'.tmps[9]?.getD undef = .int .i64 (2 : Int) := slot_out hA hap (Nat.lt_of_lt_of_eq (Nat.le_of_ble_eq_true rfl : 9 < 117) hsz.symm) (by kernel_rfl) o9
      clear hA hd hu o1 o7 o9 o11 o13 o15
      go_step
      exact hK _ _ (Kp.refl _ _) rfl
    · intro vs A' W hA hW hd hu K hK
      have f9 : vs 9 = .bool true := hd 9 (by kernel_rfl)
      have e88 : A'.tmps[88]?.getD undef = vs 9 := slot_in hA hap (Nat.lt_of_lt_of_eq (Nat.le_of_ble_eq_true rfl : 88 < 117) hsz.symm) (by kernel_rfl)
      rw [f9] at e88
      refine wpOp_go _ rfl 9 88 true rfl rfl e88 ?_
      conv => arg 2; whnf
      have f10 : vs 10 = .int .i64 (2 : Int) := hd 10 (by kernel_rfl)
      have e89 : A'.tmps[89]?.getD undef = vs 10 := slot_in hA hap (Nat.lt_of_lt_of_eq (Nat.le_of_ble_eq_true rfl : 89 < 117) hsz.symm) (by kernel_rfl)
      rw [f10] at e89
      clear hA hd hu o1 o7 o9 o11 o13 o15
      go_step
      refine (lnum_any 2 W).mono ?_
      rintro e w' ⟨rfl, rfl⟩
      exact hK _ _ (Kp.refl _ _) rfl
    · intro vs A' W hA hW hd hu K hK
      have f9 : vs 9 = .bool true := hd 9 (by kernel_rfl)
      have e88 : A'.tmps[88]?.getD undef = vs 9 := slot_in hA hap (Nat.lt_of_lt_of_eq (Nat.le_of_ble_eq_true rfl : 88 < 117) hsz.symm) (by kernel_rfl)
      rw [f9] at e88
      refine wpOp_go _ rfl 9 88 true rfl rfl e88 ?_
      conv => arg 2; whnf
      have f11 : vs 11 = .int .i64 (2 : Int) := hd 11 (by kernel_rfl)
      have e90 : A'.tmps[90]?.getD undef = vs 11 := slot_in hA hap (Nat.lt_of_lt_of_eq (Nat.le_of_ble_eq_true rfl : 90 < 117) hsz.symm) (by kernel_rfl)
      rw [f11] at e90
      clear hA hd hu o1 o7 o9 o11 o13 o15
      go_step
      exact hK _ _ (Kp.refl _ _) rfl
    · intro vs A' W hA hW hd hu K hK
      refine wpOp_free _ rfl rfl ?_
      conv => arg 2; whnf
      have f9 : vs 9 = .bool true := hd 9 (by kernel_rfl)
      have e88 : A'.tmps[88]?.getD undef = vs 9 := slot_in hA hap (Nat.lt_of_lt_of_eq (Nat.le_of_ble_eq_true rfl : 88 < 117) hsz.symm) (by kernel_rfl)
      rw [f9] at e88
      have f12 : vs 12 = .bool true := hd 12 (by kernel_rfl)
      have e91 : A'.tmps[91]?.getD undef = vs 12 := slot_in hA hap (Nat.lt_of_lt_of_eq (Nat.le_of_ble_eq_true rfl : 91 < 117) hsz.symm) (by kernel_rfl)
      rw [f12] at e91
      clear hA hd hu o1 o7 o9 o11 o13 o15
      go_step
      exact hK _ _ (Kp.refl _ _) rfl
    · intro vs A' W hA hW hd hu K hK
      refine wpOp_free _ rfl rfl ?_
      conv => arg 2; whnf
      have f13 : vs 13 = .bool true := hd 13 (by kernel_rfl)
      have e92 : A'.tmps[92]?.getD undef = vs 13 := slot_in hA hap (Nat.lt_of_lt_of_eq (Nat.le_of_ble_eq_true rfl : 92 < 117) hsz.symm) (by kernel_rfl)
      rw [f13] at e92
      clear hA hd hu o1 o7 o9 o11 o13 o15
      go_step
      exact hK _ _ (Kp.refl _ _) rfl
    · intro vs A' W hA hW hd hu K hK
      have f14 : vs 14 = .bool true := hd 14 (by kernel_rfl)
      have e93 : A'.tmps[93]?.getD undef = vs 14 := slot_in hA hap (Nat.lt_of_lt_of_eq (Nat.le_of_ble_eq_true rfl : 93 < 117) hsz.symm) (by kernel_rfl)
      rw [f14] at e93
      refine wpOp_go _ rfl 14 93 true rfl rfl e93 ?_
      conv => arg 2; whnf
      have e11 : A'.tmps[11]?.getD undef = .int .i64 (0 : Int) := slot_out hA hap (Nat.lt_of_lt_of_eq (Nat.le_of_ble_eq_true rfl : 11 < 117) hsz.symm) (by kernel_rfl) o11
      clear hA hd hu o1 o7 o9 o11 o13 o15
      go_step
      exact hK _ _ (Kp.refl _ _) rfl
    · intro vs A' W hA hW hd hu K hK
      have f14 : vs 14 = .bool true := hd 14 (by kernel_rfl)
      have e93 : A'.tmps[93]?.getD undef = vs 14 := slot_in hA hap (Nat.lt_of_lt_of_eq (Nat.le_of_ble_eq_true rfl : 93 < 117) hsz.symm) (by kernel_rfl)
      rw [f14] at e93
      refine wpOp_go _ rfl 14 93 true rfl rfl e93 ?_
      conv => arg 2; whnf
      have f15 : vs 15 = .int .i64 (0 : Int) := hd 15 (by kernel_rfl)
      have e94 : A'.tmps[94]?.getD undef = vs 15 := slot_in hA hap (Nat.lt_of_lt_of_eq (Nat.le_of_ble_eq_true rfl : 94 < 117) hsz.symm) (by kernel_rfl)
      rw [f15] at e94
      clear hA hd hu o1 o7 o9 o11 o13 o15
      go_step
      refine (lnum_any 0 W).mono ?_
      rintro e w' ⟨rfl, rfl⟩
      exact hK _ _ (Kp.refl _ _) rfl
    · intro vs A' W hA hW hd hu K hK
      have f14 : vs 14 = .bool true := hd 14 (by kernel_rfl)
      have e93 : A'.tmps[93]?.getD undef = vs 14 := slot_in hA hap (Nat.lt_of_lt_of_eq (Nat.le_of_ble_eq_true rfl : 93 < 117) hsz.symm) (by kernel_rfl)
      rw [f14] at e93
      refine wpOp_go _ rfl 14 93 true rfl rfl e93 ?_
      conv => arg 2; whnf
      have f16 : vs 16 = .int .i64 (0 : Int) := hd 16 (by kernel_rfl)
      have e95 : A'.tmps[95]?.getD undef = vs 16 := slot_in hA hap (Nat.lt_of_lt_of_eq (Nat.le_of_ble_eq_true rfl : 95 < 117) hsz.symm) (by kernel_rfl)
      rw [f16] at e95
      clear hA hd hu o1 o7 o9 o11 o13 o15
      go_step
      exact hK _ _ (Kp.refl _ _) rfl
    · intro vs A' W hA hW hd hu K hK
      refine wpOp_free _ rfl rfl ?_
      conv => arg 2; whnf
      have f14 : vs 14 = .bool true := hd 14 (by kernel_rfl)
      have e93 : A'.tmps[93]?.getD undef = vs 14 := slot_in hA hap (Nat.lt_of_lt_of_eq (Nat.le_of_ble_eq_true rfl : 93 < 117) hsz.symm) (by kernel_rfl)
      rw [f14] at e93
      have f17 : vs 17 = .bool true := hd 17 (by kernel_rfl)
      have e96 : A'.tmps[96]?.getD undef = vs 17 := slot_in hA hap (Nat.lt_of_lt_of_eq (Nat.le_of_ble_eq_true rfl : 96 < 117) hsz.symm) (by kernel_rfl)
      rw [f17] at e96
      clear hA hd hu o1 o7 o9 o11 o13 o15
      go_step
      exact hK _ _ (Kp.refl _ _) rfl
    · intro vs A' W hA hW hd hu K hK
      refine wpOp_free _ rfl rfl ?_
      conv => arg 2; whnf
      have f18 : vs 18 = .bool true := hd 18 (by kernel_rfl)
      have e97 : A'.tmps[97]?.getD undef = vs 18 := slot_in hA hap (Nat.lt_of_lt_of_eq (Nat.le_of_ble_eq_true rfl : 97 < 117) hsz.symm) (by kernel_rfl)
      rw [f18] at e97
      clear hA hd hu o1 o7 o9 o11 o13 o15
      go_step
      exact hK _ _ (Kp.refl _ _) rfl
    · intro vs A' W hA hW hd hu K hK
      have f19 : vs 19 = .bool true := hd 19 (by kernel_rfl)
      have e98 : A'.tmps[98]?.getD undef = vs 19 := slot_in hA hap (Nat.lt_of_lt_of_eq (Nat.le_of_ble_eq_true rfl : 98 < 117) hsz.symm) (by kernel_rfl)
      rw [f19] at e98
      refine wpOp_go _ rfl 19 98 true rfl rfl e98 ?_
      conv => arg 2; whnf
      have e13 : A'.tmps[13]?.getD undef = .int .i64 (2 : Int) := slot_out hA hap (Nat.lt_of_lt_of_eq (Nat.le_of_ble_eq_true rfl : 13 < 117) hsz.symm) (by kernel_rfl) o13
      clear hA hd hu o1 o7 o9 o11 o13 o15
      go_step
      exact hK _ _ (Kp.refl _ _) rfl
    · intro vs A' W hA hW hd hu K hK
      have f19 : vs 19 = .bool true := hd 19 (by kernel_rfl)
      have e98 : A'.tmps[98]?.getD undef = vs 19 := slot_in hA hap (Nat.lt_of_lt_of_eq (Nat.le_of_ble_eq_true rfl : 98 < 117) hsz.symm) (by kernel_rfl)
      rw [f19] at e98
      refine wpOp_go _ rfl 19 98 true rfl rfl e98 ?_
      conv => arg 2; whnf
      have f20 : vs 20 = .int .i64 (2 : Int) := hd 20 (by kernel_rfl)
      have e99 : A'.tmps[99]?.getD undef = vs 20 := slot_in hA hap (Nat.lt_of_lt_of_eq (Nat.le_of_ble_eq_true rfl : 99 < 117) hsz.symm) (by kernel_rfl)
      rw [f20] at e99
      clear hA hd hu o1 o7 o9 o11 o13 o15
      go_step
      refine (lnum_any 2 W).mono ?_
      rintro e w' ⟨rfl, rfl⟩
      exact hK _ _ (Kp.refl _ _) rfl
    · intro vs A' W hA hW hd hu K hK
      have f19 : vs 19 = .bool true := hd 19 (by kernel_rfl)
      have e98 : A'.tmps[98]?.getD undef = vs 19 := slot_in hA hap (Nat.lt_of_lt_of_eq (Nat.le_of_ble_eq_true rfl : 98 < 117) hsz.symm) (by kernel_rfl)
      rw [f19] at e98
      refine wpOp_go _ rfl 19 98 true rfl rfl e98 ?_
      conv => arg 2; whnf
      have f21 : vs 21 = .int .i64 (2 : Int) := hd 21 (by kernel_rfl)
      have e100 : A'.tmps[100]?.getD undef = vs 21 := slot_in hA hap (Nat.lt_of_lt_of_eq (Nat.le_of_ble_eq_true rfl : 100 < 117) hsz.symm) (by kernel_rfl)
      rw [f21] at e100
      clear hA hd hu o1 o7 o9 o11 o13 o15
      go_step
      exact hK _ _ (Kp.refl _ _) rfl
    · intro vs A' W hA hW hd hu K hK
      refine wpOp_free _ rfl rfl ?_
      conv => arg 2; whnf
      have f19 : vs 19 = .bool true := hd 19 (by kernel_rfl)
      have e98 : A'.tmps[98]?.getD undef = vs 19 := slot_in hA hap (Nat.lt_of_lt_of_eq (Nat.le_of_ble_eq_true rfl : 98 < 117) hsz.symm) (by kernel_rfl)
      rw [f19] at e98
      have f22 : vs 22 = .bool true := hd 22 (by kernel_rfl)
      have e101 : A'.tmps[101]?.getD undef = vs 22 := slot_in hA hap (Nat.lt_of_lt_of_eq (Nat.le_of_ble_eq_true rfl : 101 < 117) hsz.symm) (by kernel_rfl)
      rw [f22] at e101
      clear hA hd hu o1 o7 o9 o11 o13 o15
      go_step
      exact hK _ _ (Kp.refl _ _) rfl
    · intro vs A' W hA hW hd hu K hK
      refine wpOp_free _ rfl rfl ?_
      conv => arg 2; whnf
      have f23 : vs 23 = .bool true := hd 23 (by kernel_rfl)
      have e102 : A'.tmps[102]?.getD undef = vs 23 := slot_in hA hap (Nat.lt_of_lt_of_eq (Nat.le_of_ble_eq_true rfl : 102 < 117) hsz.symm) (by kernel_rfl)
      rw [f23] at e102
      clear hA hd hu o1 o7 o9 o11 o13 o15
      go_step
      exact hK _ _ (Kp.refl _ _) rfl
    · intro vs A' W hA hW hd hu K hK
      have f24 : vs 24 = .bool true := hd 24 (by kernel_rfl)
      have e103 : A'.tmps[103]?.getD undef = vs 24 := slot_in hA hap (Nat.lt_of_lt_of_eq (Nat.le_of_ble_eq_true rfl : 103 < 117) hsz.symm) (by kernel_rfl)
      rw [f24] at e103
      refine wpOp_go _ rfl 24 103 true rfl rfl e103 ?_
      conv => arg 2; whnf
      have e15 : A'.tmps[15]?.getD undef = .int .i64 (2 : Int) := slot_out hA hap (Nat.lt_of_lt_of_eq (Nat.le_of_ble_eq_true rfl : 15 < 117) hsz.symm) (by kernel_rfl) o15
      clear hA hd hu o1 o7 o9 o11 o13 o15
      go_step
      exact hK _ _ (Kp.refl _ _) rfl
    · intro vs A' W hA hW hd hu K hK
      have f24 : vs 24 = .bool true := hd 24 (by kernel_rfl)
      have e103 : A'.tmps[103]?.getD undef = vs 24 := slot_in hA hap (Nat.lt_of_lt_of_eq (Nat.le_of_ble_eq_true rfl : 103 < 117) hsz.symm) (by kernel_rfl)
      rw [f24] at e103
      refine wpOp_go _ rfl 24 103 true rfl rfl e103 ?_
      conv => arg 2; whnf
      have f25 : vs 25 = .int .i64 (2 : Int) := hd 25 (by kernel_rfl)
      have e104 : A'.tmps[104]?.getD undef = vs 25 := slot_in hA hap (Nat.lt_of_lt_of_eq (Nat.le_of_ble_eq_true rfl : 104 < 117) hsz.symm) (by kernel_rfl)
      rw [f25] at e104
      clear hA hd hu o1 o7 o9 o11 o13 o15
      go_step
      refine (lnum_any 2 W).mono ?_
      rintro e w' ⟨rfl, rfl⟩
      exact hK _ _ (Kp.refl _ _) rfl
    · intro vs A' W hA hW hd hu K hK
      have f24 : vs 24 = .bool true := hd 24 (by kernel_rfl)
      have e103 : A'.tmps[103]?.getD undef = vs 24 := slot_in hA hap (Nat.lt_of_lt_of_eq (Nat.le_of_ble_eq_true rfl : 103 < 117) hsz.symm) (by kernel_rfl)
      rw [f24] at e103
      refine wpOp_go _ rfl 24 103 true rfl rfl e103 ?_
      conv => arg 2; whnf
      have f26 : vs 26 = .int .i64 (2 : Int) := hd 26 (by kernel_rfl)
      have e105 : A'.tmps[105]?.getD undef = vs 26 := slot_in hA hap (Nat.lt_of_lt_of_eq (Nat.le_of_ble_eq_true rfl : 105 < 117) hsz.symm) (by kernel_rfl)
      rw [f26] at e105
      clear hA hd hu o1 o7 o9 o11 o13 o15
      go_step
      exact hK _ _ (Kp.refl _ _) rfl
    · intro vs A' W hA hW hd hu K hK
      refine wpOp_free _ rfl rfl ?_
      conv => arg 2; whnf
      have f24 : vs 24 = .bool true := hd 24 (by kernel_rfl)
      have e103 : A'.tmps[103]?.getD undef = vs 24 := slot_in hA hap (Nat.lt_of_lt_of_eq (Nat.le_of_ble_eq_true rfl : 103 < 117) hsz.symm) (by kernel_rfl)
      rw [f24] at e103
      have f27 : vs 27 = .bool true := hd 27 (by kernel_rfl)
      have e106 : A'.tmps[106]?.getD undef = vs 27 := slot_in hA hap (Nat.lt_of_lt_of_eq (Nat.le_of_ble_eq_true rfl : 106 < 117) hsz.symm) (by kernel_rfl)
      rw [f27] at e106
      clear hA hd hu o1 o7 o9 o11 o13 o15
      go_step
      exact hK _ _ (Kp.refl _ _) rfl
    · intro vs A' W hA hW hd hu K hK
      refine wpOp_free _ rfl rfl ?_
      conv => arg 2; whnf
      have f28 : vs 28 = .bool true := hd 28 (by kernel_rfl)
      have e107 : A'.tmps[107]?.getD undef = vs 28 := slot_in hA hap (Nat.lt_of_lt_of_eq (Nat.le_of_ble_eq_true rfl : 107 < 117) hsz.symm) (by kernel_rfl)
      rw [f28] at e107
      clear hA hd hu o1 o7 o9 o11 o13 o15
      go_step
      exact hK _ _ (Kp.refl _ _) rfl
    · intro vs A' W hA hW hd hu K hK
      refine wpOp_free _ rfl rfl ?_
      conv => arg 2; whnf
      have f29 : vs 29 = .bool true := hd 29 (by kernel_rfl)
      have e108 : A'.tmps[108]?.getD undef = vs 29 := slot_in hA hap (Nat.lt_of_lt_of_eq (Nat.le_of_ble_eq_true rfl : 108 < 117) hsz.symm) (by kernel_rfl)
      rw [f29] at e108
      clear hA hd hu o1 o7 o9 o11 o13 o15
      go_step
      exact hK _ _ (Kp.refl _ _) rfl
    · intro vs A' W hA hW hd hu K hK
      refine wpOp_free _ rfl rfl ?_
      conv => arg 2; whnf
      have f30 : vs 30 = .bool true := hd 30 (by kernel_rfl)
      have e109 : A'.tmps[109]?.getD undef = vs 30 := slot_in hA hap (Nat.lt_of_lt_of_eq (Nat.le_of_ble_eq_true rfl : 109 < 117) hsz.symm) (by kernel_rfl)
      rw [f30] at e109
      clear hA hd hu o1 o7 o9 o11 o13 o15
      go_step
      exact hK _ _ (Kp.refl _ _) rfl
    · intro vs A' W hA hW hd hu K hK
      refine wpOp_free _ rfl rfl ?_
      conv => arg 2; whnf
      have f31 : vs 31 = .bool true := hd 31 (by kernel_rfl)
      have e110 : A'.tmps[110]?.getD undef = vs 31 := slot_in hA hap (Nat.lt_of_lt_of_eq (Nat.le_of_ble_eq_true rfl : 110 < 117) hsz.symm) (by kernel_rfl)
      rw [f31] at e110
      clear hA hd hu o1 o7 o9 o11 o13 o15
      go_step
      exact hK _ _ (Kp.refl _ _) rfl
    · intro vs A' W hA hW hd hu K hK
      refine wpOp_free _ rfl rfl ?_
      conv => arg 2; whnf
      have f32 : vs 32 = .bool true := hd 32 (by kernel_rfl)
      have e111 : A'.tmps[111]?.getD undef = vs 32 := slot_in hA hap (Nat.lt_of_lt_of_eq (Nat.le_of_ble_eq_true rfl : 111 < 117) hsz.symm) (by kernel_rfl)
      rw [f32] at e111
      clear hA hd hu o1 o7 o9 o11 o13 o15
      go_step
      exact hK _ _ (Kp.refl _ _) rfl
    · intro vs A' W hA hW hd hu K hK
      refine wpOp_free _ rfl rfl ?_
      conv => arg 2; whnf
      have f33 : vs 33 = .bool true := hd 33 (by kernel_rfl)
      have e112 : A'.tmps[112]?.getD undef = vs 33 := slot_in hA hap (Nat.lt_of_lt_of_eq (Nat.le_of_ble_eq_true rfl : 112 < 117) hsz.symm) (by kernel_rfl)
      rw [f33] at e112
      clear hA hd hu o1 o7 o9 o11 o13 o15
      go_step
      exact hK _ _ (Kp.refl _ _) rfl
    · intro vs A' W hA hW hd hu K hK
      refine wpOp_free _ rfl rfl ?_
      conv => arg 2; whnf
      have f34 : vs 34 = .bool true := hd 34 (by kernel_rfl)
      have e113 : A'.tmps[113]?.getD undef = vs 34 := slot_in hA hap (Nat.lt_of_lt_of_eq (Nat.le_of_ble_eq_true rfl : 113 < 117) hsz.symm) (by kernel_rfl)
      rw [f34] at e113
      clear hA hd hu o1 o7 o9 o11 o13 o15
      go_step
      exact hK _ _ (Kp.refl _ _) rfl
    · intro vs A' W hA hW hd hu K hK
      have f35 : vs 35 = .bool true := hd 35 (by kernel_rfl)
      have e114 : A'.tmps[114]?.getD undef = vs 35 := slot_in hA hap (Nat.lt_of_lt_of_eq (Nat.le_of_ble_eq_true rfl : 114 < 117) hsz.symm) (by kernel_rfl)
      rw [f35] at e114
      refine wpOp_go _ rfl 35 114 true rfl rfl e114 ?_
      conv => arg 2; whnf
      clear hA hd hu o1 o7 o9 o11 o13 o15
      go_step
      refine (sknown_any W (LDw.kp hW)).mono ?_
      rintro e w' ⟨rfl, k⟩
      exact hK _ _ k rfl
    · intro vs A' W hA hW hd hu K hK
      refine wpOp_free _ rfl rfl ?_
      conv => arg 2; whnf
      have f35 : vs 35 = .bool true := hd 35 (by kernel_rfl)
      have e114 : A'.tmps[114]?.getD undef = vs 35 := slot_in hA hap (Nat.lt_of_lt_of_eq (Nat.le_of_ble_eq_true rfl : 114 < 117) hsz.symm) (by kernel_rfl)
      rw [f35] at e114
      have f36 : vs 36 = .bool true := hd 36 (by kernel_rfl)
      have e115 : A'.tmps[115]?.getD undef = vs 36 := slot_in hA hap (Nat.lt_of_lt_of_eq (Nat.le_of_ble_eq_true rfl : 115 < 117) hsz.symm) (by kernel_rfl)
      rw [f36] at e115
      clear hA hd hu o1 o7 o9 o11 o13 o15
      go_step
      exact hK _ _ (Kp.refl _ _) rfl
    · intro vs A' W hA hW hd hu K hK
      refine wpOp_free _ rfl rfl ?_
      conv => arg 2; whnf
      have f37 : vs 37 = .bool true := hd 37 (by kernel_rfl)
      have e116 : A'.tmps[116]?.getD undef = vs 37 := slot_in hA hap (Nat.lt_of_lt_of_eq (Nat.le_of_ble_eq_true rfl : 116 < 117) hsz.symm) (by kernel_rfl)
      rw [f37] at e116
      clear hA hd hu o1 o7 o9 o11 o13 o15
      go_step
      exact hK _ _ (Kp.refl _ _) rfl
  · intro vs W hW hp
    rw [show putAll vs (opsOf 14 Tryd.f4) 0 a = putD [(79, vs 0), (80, vs 1), (81, vs 2), (82, vs 3), (83, vs 4), (84, vs 5), (85, vs 6), (86, vs 7), (87, vs 8), (88, vs 9), (89, vs 10), (90, vs 11), (91, vs 12), (92, vs 13), (93, vs 14), (94, vs 15), (95, vs 16), (96, vs 17), (97, vs 18), (98, vs 19), (99, vs 20), (100, vs 21), (101, vs 22), (102, vs 23), (103, vs 24), (104, vs 25), (105, vs 26), (106, vs 27), (107, vs 28), (108, vs 29), (109, vs 30), (110, vs 31), (111, vs 32), (112, vs 33), (113, vs 34), (114, vs 35), (115, vs 36), (116, vs 37), (0, vs 38)] a from by kernel_rfl]
    exact hend _ W (same_putD _ a) hW (sl_putD _ a 0 _ (by rw [show vs 38 = _ from hp 38 (Nat.le_of_ble_eq_true (by kernel_rfl))]; kernel_rfl))
-- END sgn14
end Go.Proofs.YtapboamjpilckaaDoor
/- SignNames: the walk. -/
namespace Go.Proofs.YtapboamjpilckaaDoor
open Go.RowKit
def dsNm0 : List Nat := [21, 22, 26, 27, 28, 29, 30, 31, 32, 33, 34, 35, 36, 25, 37, 38, 4, 5, 39, 40, 41, 42, 23, 24, 3]
def ntB (g j : Nat) (A : Option Addr) (c : Nat) : Res := blkR g 36 (ntA 3 zH (.slice A j c))
def rwB (j : Nat) (A : Option Addr) (c : Nat) : Res := rowR 81 33 (.slice A j c) j (sgsC (lJ j))
set_option maxRecDepth 100000 in
set_option maxHeartbeats 4000000 in
theorem sgn_l0 {Q : Exit → Act → World → Prop} {a : Act} {w0 w : World} (LDw : LD w0) (g1 : Nat) (A : Option Addr) (c : Nat) (hsz : a.tmps.size = 117) (o1 : Sl a 1 (.pointer (some ⟨g1, 0, none⟩))) (o3 : Sl a 3 (.int .i64 ((0 : Nat) : Int)))
    (S : Held w0 w [ntB g1 0 A c, rwB 0 A c])
    (hend : ∀ (a' : Act) (W : World) (A : Option Addr) (c : Nat), Same a a' dsNm0 → Held w0 W [ntB g1 64 A c, rwB 64 A c] → Q .normal a' W) :
    (Code.block 0 (blockOf 0 Tryd.f4)).wp Tryd.prog Q a w := by
  refine wp_block ?_
  conv => arg 2; whnf
  refine wp_loop (fun a' w' => ∃ (j : Nat) (A : Option Addr) (c : Nat), j ≤ 64 ∧ Same a a' dsNm0 ∧ Sl a' 3 (.int .i64 ((j : Nat) : Int)) ∧ Held w0 w' [ntB g1 j A c, rwB j A c]) (fun a' _ => 64 - (intOf (a'.eval (.tmp 3))).toNat) ⟨0, A, c, Nat.zero_le _, Same.refl _ _, o3, S⟩ ?_
  clear o3 S A c
  rintro a1 w1 ⟨j, A, c, hj, T, o3, S⟩
  have hz1 := T.size.trans hsz
  have o1 := T.keep 1 _ (by decide) o1
  have e3 := o3.eval (by rw [hz1]; decide)
  refine wp_seq (wp_seq (sgn_r3 j hz1 o3 (fun a2 hs2 o22 => ?_)))
  have hz2 := hs2.size.trans hz1
  have o1 := hs2.keep 1 _ (by decide) o1
  have o3 := hs2.keep 3 _ (by decide) o3
  have T := T.trans hs2
  by_cases hlt : j < 64
  · refine wp_cond_true ((o22.eval (by rw [hz2]; decide)).trans (by rw [decide_eq_true (by omega)])) (wp_skip ?_)
    simp only [Exit.then]
    refine wp_seq (wp_block ?_)
    refine wp_seq (sgn_r5 (LDw.kp S.k) g1 j hlt A c (S.at_ (l1 := [])) (Rd.of_own (S.at_ (l1 := [_]))) hz2 o1 o3 (fun a3 w3 hs3 o5 h3 => ?_))
    have hz3 := hs3.size.trans hz2
    have o1 := hs3.keep 1 _ (by decide) o1
    have o3 := hs3.keep 3 _ (by decide) o3
    have o22 := hs3.keep 22 _ (by decide) o22
    have T := T.trans hs3
    obtain ⟨A2, c2, g4, o4, S3⟩ := h3
    have S : Held w0 w3 [ntB g1 j A c, blkR g4 36 (ntA 3 zH (.slice A2 (j + 1) c2)), rwB (j + 1) A2 c2] := (S.some_of (List.singleton_sublist.2 (by simp))).join S3
    refine wp_seq (wp_seq (sgn_r6 hz3 o5 (fun a4 hs4 o41 => ?_)))
    have hz4 := hs4.size.trans hz3
    have o1 := hs4.keep 1 _ (by decide) o1
    have o3 := hs4.keep 3 _ (by decide) o3
    have o22 := hs4.keep 22 _ (by decide) o22
    have o5 := hs4.keep 5 _ (by decide) o5
    have o4 := hs4.keep 4 _ (by decide) o4
    have T := T.trans hs4
    refine wp_cond_false (o41.eval (by rw [hz4]; decide)) (wp_skip ?_)
    simp only [Exit.then]
    refine sgn_r8 w0 g1 g4 _ _ (ntA_size zH_length) (ntA_size zH_length) (ntA_one rfl) _ S hz4 o1 o4 (fun a5 w5 hs5 S => ?_)
    have hz5 := hs5.size.trans hz4
    have o1 := hs5.keep 1 _ (by decide) o1
    have o3 := hs5.keep 3 _ (by decide) o3
    have o22 := hs5.keep 22 _ (by decide) o22
    have o5 := hs5.keep 5 _ (by decide) o5
    have o4 := hs5.keep 4 _ (by decide) o4
    have o41 := hs5.keep 41 _ (by decide) o41
    have T := T.trans hs5
    simp only [Exit.inBlock, Exit.then]
    have S : Held w0 w5 [ntB g1 (j + 1) A2 c2, rwB (j + 1) A2 c2] := S.some_of (List.Sublist.cons_cons _ (List.Sublist.cons _ (List.Sublist.refl _)))
    refine sgn_r4 j hlt hz5 o3 (fun a6 hs6 o3 => ?_)
    have hz6 := hs6.size.trans hz5
    have o1 := hs6.keep 1 _ (by decide) o1
    have o22 := hs6.keep 22 _ (by decide) o22
    have o5 := hs6.keep 5 _ (by decide) o5
    have o4 := hs6.keep 4 _ (by decide) o4
    have o41 := hs6.keep 41 _ (by decide) o41
    have T := T.trans hs6
    refine ⟨⟨j + 1, A2, c2, by omega, T.more (by decide +kernel), o3, S⟩, ?_⟩
    show 64 - (intOf _).toNat < 64 - (intOf _).toNat
    rw [e3, o3.eval (by rw [hz6]; decide)]
    simp only [intOf]; omega
  · refine wp_cond_false ((o22.eval (by rw [hz2]; decide)).trans (by rw [decide_eq_false (by omega)])) (wp_exit ?_)
    simp only [Exit.then, Exit.inBlock]
    obtain rfl : j = 64 := by omega
    exact hend _ _ A c (T.more (by decide +kernel)) S
set_option maxRecDepth 100000 in
set_option maxHeartbeats 4000000 in
theorem signnames_any (w : World) (LDw : LD w) : Calls Tryd.prog 4 #[] w fun e w' => e = .returned (.bool true) ∧ Kp [] w w' := by
  refine calls_fr Tryd.func4 rfl 117 rfl (fun a0 hsz hdf hAr => ?_)
  have hz0 : a0.tmps.size = 117 := hsz
  have D := hdf
  refine wp_seq (sgn_r0 hz0 (fun a1 hs1 o0 => ?_))
  have hz1 := hs1.size.trans hz0
  have D := hs1.defers.trans D
  refine wp_seq (sgn_r1 LDw hz1 (fun a2 w1 hs2 o2 h1 => ?_))
  have hz2 := hs2.size.trans hz1
  have o0 := hs2.keep 0 _ (by decide) o0
  have D := hs2.defers.trans D
  obtain ⟨g1, o1, S⟩ := h1
  have S : Held w w1 [ntB g1 0 none 0, rwB 0 none 0] := (S.rownew (e := 81) (s := 33) (World.ownsRow_nil _ _ _ _) (Kp.refl [] w1) (by simp [Value.ownBlock])).pull 1 rfl
  refine wp_seq (wp_seq (sgn_r2 hz2 (fun a3 hs3 o3 => ?_)))
  have hz3 := hs3.size.trans hz2
  have o1 := hs3.keep 1 _ (by decide) o1
  have D := hs3.defers.trans D
  refine sgn_l0 LDw g1 none 0 hz3 o1 o3 S (fun a4 w2 A c hs4 S => ?_)
  have hz4 := hs4.size.trans hz3
  have o1 := hs4.keep 1 _ (by decide) o1
  have D := hs4.defers.trans D
  simp only [Exit.then]
  have k2 := S.k
  have hb : Blk w2 g1 36 (ntA 3 zH (.slice A 64 c)) := S.at_ (l1 := [])
  have hv := Rd.of_own (S.at_ (l1 := [_]))
  refine wp_seq (sgn_r9 (LDw.kp k2) g1 A c hb hv hz4 o1 (fun a5 w3 hs5 o7 h3 => ?_))
  have hz5 := hs5.size.trans hz4
  have o1 := hs5.keep 1 _ (by decide) o1
  have D := hs5.defers.trans D
  have hb := hb.kp h3 (by simp)
  have k3 := k2.trans h3 (by simp)
  refine wp_seq (sgn_r10 (LDw.kp k3) hz5 (fun a6 w4 hs6 o9 h4 => ?_))
  have hz6 := hs6.size.trans hz5
  have o1 := hs6.keep 1 _ (by decide) o1
  have o7 := hs6.keep 7 _ (by decide) o7
  have D := hs6.defers.trans D
  have hb := hb.kp h4 (by simp)
  have k4 := k3.trans h4 (by simp)
  refine wp_seq (sgn_r11 (LDw.kp k4) hz6 (fun a7 w5 hs7 o11 h5 => ?_))
  have hz7 := hs7.size.trans hz6
  have o1 := hs7.keep 1 _ (by decide) o1
  have o7 := hs7.keep 7 _ (by decide) o7
  have o9 := hs7.keep 9 _ (by decide) o9
  have D := hs7.defers.trans D
  have hb := hb.kp h5 (by simp)
  have k5 := k4.trans h5 (by simp)
  refine wp_seq (sgn_r12 (LDw.kp k5) hz7 (fun a8 w6 hs8 o13 h6 => ?_))
  have hz8 := hs8.size.trans hz7
  have o1 := hs8.keep 1 _ (by decide) o1
  have o7 := hs8.keep 7 _ (by decide) o7
  have o9 := hs8.keep 9 _ (by decide) o9
  have o11 := hs8.keep 11 _ (by decide) o11
  have D := hs8.defers.trans D
  have hb := hb.kp h6 (by simp)
  have k6 := k5.trans h6 (by simp)
  refine wp_seq (sgn_r13 (LDw.kp k6) hz8 (fun a9 w7 hs9 o15 h7 => ?_))
  have hz9 := hs9.size.trans hz8
  have o1 := hs9.keep 1 _ (by decide) o1
  have o7 := hs9.keep 7 _ (by decide) o7
  have o9 := hs9.keep 9 _ (by decide) o9
  have o11 := hs9.keep 11 _ (by decide) o11
  have o13 := hs9.keep 13 _ (by decide) o13
  have D := hs9.defers.trans D
  have hb := hb.kp h7 (by simp)
  have k7 := k6.trans h7 (by simp)
  refine wp_seq (sgn_r14 (LDw.kp k7) g1 A c hb hz9 o1 o7 o9 o11 o13 o15 (fun a10 w8 hs10 k8 o0 => ?_))
  have hz10 := hs10.size.trans hz9
  have o1 := hs10.keep 1 _ (by decide) o1
  have o7 := hs10.keep 7 _ (by decide) o7
  have o9 := hs10.keep 9 _ (by decide) o9
  have o11 := hs10.keep 11 _ (by decide) o11
  have o13 := hs10.keep 13 _ (by decide) o13
  have o15 := hs10.keep 15 _ (by decide) o15
  have D := hs10.defers.trans D
  refine wp_ret ?_
  exact (bodyPost_ret (results_t1 (by rfl) (o0.eval (by rw [hz10]; decide))) D ⟨rfl, k7.trans k8 (by simp)⟩)
end Go.Proofs.YtapboamjpilckaaDoor
/- What the listed variables give; a world for the witness. -/
namespace Go.Proofs.YtapboamjpilckaaDoor
open Go.ChangeShapes Go.WideShapes Go.ChangeAt Go.RowKit
theorem door_met (os : Os) (args : Array Value) : laidMet Tryd.prog Rows.signMacsRow.laid ((World.doorLaid Tryd.prog 2000 os).forCall (fun _ _ => 0) ⟨#[], args, []⟩).memory :=
  laidMet_of_run' 8 (by kernel_rfl) (by kernel_rfl)
theorem LD_laid {W : World} (h : laidMet Tryd.prog Rows.signMacsRow.laid W) : LD W := by
  have h3 := h.tail.tail
  first
    | exact ⟨Lib.tabIs_of_head (g := 0) (by decide +kernel) (by decide +kernel) Tryd.underlying166 Tryd.underlying136 (by kernel_rfl) (by kernel_rfl) h3⟩
    | exact ⟨Lib.tabIs_of_head (g := 1) (by decide +kernel) (by decide +kernel) Tryd.underlying166 Tryd.underlying136 (by kernel_rfl) (by kernel_rfl) h3⟩
    | exact ⟨Lib.tabIs_of_head (g := 2) (by decide +kernel) (by decide +kernel) Tryd.underlying166 Tryd.underlying136 (by kernel_rfl) (by kernel_rfl) h3⟩
    | exact ⟨Lib.tabIs_of_head (g := 3) (by decide +kernel) (by decide +kernel) Tryd.underlying166 Tryd.underlying136 (by kernel_rfl) (by kernel_rfl) h3⟩
    | exact ⟨Lib.tabIs_of_head (g := 4) (by decide +kernel) (by decide +kernel) Tryd.underlying166 Tryd.underlying136 (by kernel_rfl) (by kernel_rfl) h3⟩
    | exact ⟨Lib.tabIs_of_head (g := 5) (by decide +kernel) (by decide +kernel) Tryd.underlying166 Tryd.underlying136 (by kernel_rfl) (by kernel_rfl) h3⟩
end Go.Proofs.YtapboamjpilckaaDoor
/- The row's last step, where a walk has left 'Below' of the world it began in. -/
namespace Go.Proofs.YtapboamjpilckaaDoor
open Go.RowKit Go.WideShapes Go.ChangeShapes

theorem own_knob : ownKnob Tryd.prog.godebug = none := by kernel_rfl

section
variable {H : Type} {enc : TypeId × Value → H} {P : Program}
/-- 'post_of_same' for a world of which 'Below' alone is known (old cells and old marks are as they were). -/
theorem post_below {f : Func} {s : ChangeSpec} {apart fresh handsOn again : Bool} {W W' : World} {args : Array Value} {v : Value} {ds gs : List (DataW H)} {before pa pv : List MemPlace}
    (hW : DataW.Whole enc P f.params.toList s.vars apart W args.toList ds gs before)
    (hres : ∀ (b : Nat) (sp : Nat → Bool) (hd : Bool), DataW.TrodAll enc P W' b sp hd f.resultTypes.toList (v.resultList f.resultTypes.size) (s.fn H (ds ++ gs)).results [])
    (hargs : ∀ sp : Nat → Bool, (∀ p ∈ before, sp p.block = true) → DataW.TrodAll enc P W' 0 sp true f.params.toList args.toList (s.fn H (ds ++ gs)).args pa)
    (hvars : ∀ sp : Nat → Bool, (∀ p ∈ before, sp p.block = true) → DataW.TrodVars enc P W' sp s.vars (s.fn H (ds ++ gs)).vars pv)
    (hps : before = pa ++ pv) (hb : Below W.heap.size W W')
    (hok : ∀ (j : Nat) (t : TypeId) (r : Value), f.resultTypes[j]? = some t → (v.resultList f.resultTypes.size)[j]? = some r → Value.okWide P W' .any 0 t r) :
    s.post enc P f apart fresh handsOn again W args v W' := by
  have hlt : ∀ p ∈ before, p.block < W.heap.size := fun p hp => hW.lt p hp
  have hold : ∀ p ∈ before, (fun b => decide (b < W.heap.size)) p.block = true := fun p hp => by simpa using hlt p hp
  refine ⟨ds, gs, before, [], pa, pv, hW, hres _ _ _, hargs _ hold, hvars _ hold, World.keptBut_mono (fun p hp => ⟨hp, ?_⟩) (hb.frame (· ∈ before)), fun _ => ?_⟩
  · rw [hps, List.mem_append] at hp
    exact Or.inr hp
  · obtain ⟨_, _, _, _, _, hz, hn⟩ := hW
    refine ⟨hok, _, _, ([] ++ pa) ++ pv, ⟨[] ++ pa, pv, trodAll_append (hargs _ (fun _ _ => rfl)) (hres _ _ _), hvars _ (fun _ _ => rfl), rfl, ?_, ?_⟩, ?_⟩
    · intro b off hp
      have hin : MemPlace.cell b off ∈ before := by rw [hps]; simpa using hp
      rw [hb.frozen (hlt _ hin)]
      exact hz b off hin
    · intro ha
      have := hn ha
      rw [hps] at this
      simpa using this
    · intro p hp _
      rw [hps]
      simpa using hp
end
theorem Kp.below0 {w w' : World} (h : Kp [] w w') : Below w.heap.size w w' := h.below (Nat.le_refl _) (by simp)
end Go.Proofs.YtapboamjpilckaaDoor
/- The row's last step, where the arguments read as they did (out of 'Below' alone). -/
namespace Go.Proofs.YtapboamjpilckaaDoor
open Go.RowKit Go.WideShapes Go.ChangeShapes

section
variable {H : Type} {enc : TypeId × Value → H} {P : Program}
theorem trodAll_stays (hl : laidOutB P = true) {W W' : World} {sp' : Nat → Bool} : ∀ {ts : List TypeId} {vs : List Value} {ds : List (DataW H)} {ps : List MemPlace}, ts.all (fun t => P.readableRec t && decide (t < P.types.size)) = true →
    DataW.TrodAll enc P W 0 (fun _ => true) true ts vs ds ps → (∀ p ∈ ps, W.sameAt W' p) → (∀ p ∈ ps, sp' p.block = true) → DataW.TrodAll enc P W' 0 sp' true ts vs ds ps
  | [], [], [], _, _, h, _, _ => h
  | t :: ts, v :: vs, d :: ds, _, hr, ⟨p, q, h1, h2, e⟩, hm, hs => by
    simp only [List.all_cons, Bool.and_eq_true, decide_eq_true_eq] at hr
    exact ⟨p, q, WideElems.Trod_stays hl hr.1.1 hr.1.2 h1 (fun x hx => hm x (by rw [e]; exact List.mem_append_left _ hx)) (fun x hx => hs x (by rw [e]; exact List.mem_append_left _ hx)),
      trodAll_stays hl hr.2 h2 (fun x hx => hm x (by rw [e]; exact List.mem_append_right _ hx)) (fun x hx => hs x (by rw [e]; exact List.mem_append_right _ hx)), e⟩

theorem post_kept {f : Func} {s : ChangeSpec} {apart fresh handsOn again : Bool} {W W' : World} {args : Array Value} {v : Value} {ds gs : List (DataW H)} {before : List MemPlace}
    (hl : laidOutB P = true) (hr : f.params.toList.all (fun t => P.readableRec t && decide (t < P.types.size)) = true) (hsv : s.vars = [])
    (hW : DataW.Whole enc P f.params.toList s.vars apart W args.toList ds gs before)
    (hres : ∀ (b : Nat) (sp : Nat → Bool) (hd : Bool), DataW.TrodAll enc P W' b sp hd f.resultTypes.toList (v.resultList f.resultTypes.size) (s.fn H (ds ++ gs)).results [])
    (hfa : (s.fn H (ds ++ gs)).args = ds) (hfv : (s.fn H (ds ++ gs)).vars = []) (hb : Below W.heap.size W W')
    (hok : ∀ (j : Nat) (t : TypeId) (r : Value), f.resultTypes[j]? = some t → (v.resultList f.resultTypes.size)[j]? = some r → Value.okWide P W' .any 0 t r) :
    s.post enc P f apart fresh handsOn again W args v W' := by
  have hlt : ∀ p ∈ before, p.block < W.heap.size := fun p hp => hW.lt p hp
  have hW2 := hW
  obtain ⟨p, q, hA, hV, rfl, hz, hn⟩ := hW2
  rw [hsv] at hV
  obtain ⟨rfl, rfl⟩ := trodVars_none hV
  refine post_below (pa := p) (pv := []) hW hres (fun sp hs => ?_) (fun sp hs => ?_) rfl hb hok
  · rw [hfa]
    exact trodAll_stays hl hr hA (fun x hx => hb.same (hlt x (List.mem_append_left _ hx))) (fun x hx => hs x (List.mem_append_left _ hx))
  · rw [hsv, hfv]; exact rfl
end
theorem laid_out : laidOutB Tryd.prog = true := by kernel_rfl
end Go.Proofs.YtapboamjpilckaaDoor
/- What comes in, opened: slices of bytes; how much there is of it. -/
namespace Go.Proofs.YtapboamjpilckaaDoor
open Go.RowKit Go.WideShapes Go.ChangeShapes

section
variable {H : Type} {enc : TypeId × Value → H} {P : Program}
end
end Go.Proofs.YtapboamjpilckaaDoor
