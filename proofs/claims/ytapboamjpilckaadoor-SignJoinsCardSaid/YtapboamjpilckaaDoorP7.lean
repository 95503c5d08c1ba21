/- Several texts in one: SigAF, SigAG, SigAM, SigAN, SigAO, SigAH, SigAR. -/
import Derived.Test.YtapboamjpilckaaDoorP6
/- known of layer 28: its regions. -/
namespace Go.Proofs.YtapboamjpilckaaDoor
open Go.RowKit
-- REG skn0
set_option maxRecDepth 100000 in
set_option maxHeartbeats 2000000 in
theorem skn_r0 {Q : Exit → Act → World → Prop} {a : Act} {w : World}  (hsz : a.tmps.size = 104) 
    (hend : ∀ (a' : Act), Same a a' [0] → Sl a' 0 (.bool false) → Q .normal a' (w)) : (Code.region 0 (opsOf 0 Tryd.f13).toArray false).wp Tryd.prog Q a w := by
  refine wp_region_lit (l := (opsOf 0 Tryd.f13)) ?_
  conv => arg 4; whnf
  go_wp2_with fail
  try simp only [Act.put]
  exact hend _ (by repeat (first | (with_reducible refine same_set (by decide) ?_) | (with_reducible exact same_nil))) (by unfold Sl; first | (simp [hsz]; done) | (simp [hsz]; omega))
-- END skn0
-- REG skn1
set_option maxRecDepth 100000 in
set_option maxHeartbeats 2000000 in
theorem skn_r1 {Q : Exit → Act → World → Prop} {a : Act} {w : World} (w0 : World) (L : List Res) (S : Held w0 w L) (hsz : a.tmps.size = 104) 
    (hend : ∀ (a' : Act) (W : World), Same a a' [11, 1] → (∃ gk, Sl a' 1 (.slice (some ⟨gk, 0, none⟩) 20 20) ∧ Held w0 W (rowR 5 1 (.slice (some ⟨gk, 0, none⟩) 20 20) 20 (bv (List.replicate 20 0)) :: L)) → Q .normal a' W) : (Code.region 1 (opsOf 1 Tryd.f13).toArray false).wp Tryd.prog Q a w := by
  refine wp_region_lit (l := (opsOf 1 Tryd.f13)) ?_
  conv => arg 4; whnf
  go_wp2_with (refine make_noughts rfl 20 (by decide) rfl ?_; intro w1 o1 k1; have S1 := Lib.hid (S.rownew o1 k1 (by simp [Value.ownBlock])))
  try simp only [Act.put]
  exact hend _ _ (by repeat (first | (with_reducible refine same_set (by decide) ?_) | (with_reducible exact same_nil))) (⟨_, (by unfold Sl; simp [hsz]), S1.out⟩)
-- END skn1
-- REG skn2
set_option maxRecDepth 100000 in
set_option maxHeartbeats 2000000 in
theorem skn_r2 {Q : Exit → Act → World → Prop} {a : Act} {w : World}  (hsz : a.tmps.size = 104) 
    (hend : ∀ (a' : Act), Same a a' [2] → Sl a' 2 (.int .i64 (0 : Int)) → Q .normal a' (w)) : (Code.region 2 (opsOf 2 Tryd.f13).toArray false).wp Tryd.prog Q a w := by
  refine wp_region_lit (l := (opsOf 2 Tryd.f13)) ?_
  conv => arg 4; whnf
  go_wp2_with fail
  try simp only [Act.put]
  exact hend _ (by repeat (first | (with_reducible refine same_set (by decide) ?_) | (with_reducible exact same_nil))) (by unfold Sl; first | (simp [hsz]; done) | (simp [hsz]; omega))
-- END skn2
-- REG skn3
set_option maxRecDepth 100000 in
set_option maxHeartbeats 2000000 in
theorem skn_r3 {Q : Exit → Act → World → Prop} {a : Act} {w : World} (j : Nat) (hsz : a.tmps.size = 104) (o2 : Sl a 2 (.int .i64 (j : Int)))
    (hend : ∀ (a' : Act), Same a a' [12, 13] → Sl a' 13 (.bool (decide ((j : Int) < 20))) → Q .normal a' (w)) : (Code.region 3 (opsOf 3 Tryd.f13).toArray false).wp Tryd.prog Q a w := by
  refine wp_region_lit (l := (opsOf 3 Tryd.f13)) ?_
  conv => arg 4; whnf
  unfold Sl at o2
  go_wp2_with fail
  try simp only [Act.put]
  exact hend _ (by repeat (first | (with_reducible refine same_set (by decide) ?_) | (with_reducible exact same_nil))) (by unfold Sl; first | (simp [hsz]; done) | (simp [hsz]; omega))
-- END skn3
-- REG skn5
set_option maxRecDepth 100000 in
set_option maxHeartbeats 2000000 in
theorem skn_r5 {Q : Exit → Act → World → Prop} {a : Act} {w : World} (w0 : World) (gk j : Nat) (hj : j < 20) (xs : List Value) (L : List Res) (S : Held w0 w (rowR 5 1 (.slice (some ⟨gk, 0, none⟩) 20 20) 20 xs :: L)) (hsz : a.tmps.size = 104) (o1 : Sl a 1 (.slice (some ⟨gk, 0, none⟩) 20 20)) (o2 : Sl a 2 (.int .i64 (j : Int)))
    (hend : ∀ (a' : Act) (W : World), Same a a' [16, 17, 18] → (Held w0 W (rowR 5 1 (.slice (some ⟨gk, 0, none⟩) 20 20) 20 (xs.set j (.int .u8 11)) :: L)) → Q .normal a' W) : (Code.region 5 (opsOf 5 Tryd.f13).toArray false).wp Tryd.prog Q a w := by
  refine wp_region_lit (l := (opsOf 5 Tryd.f13)) ?_
  conv => arg 4; whnf
  unfold Sl at o1 o2
  have S := Lib.hid S
  have hrow := S.out.at_ (l1 := [])
  have h0 : 0 ≤ (j : Int) := by omega
  have h1 : (j : Int) < 20 := by omega
  have hc0 := hrow.cellAt j (by omega)
  have hf0 := hrow.frozenAt j
  have hlw := ow_lt hrow (g := gk) rfl
  have S2 := Lib.hid (S.out.rowset (l1 := []) ((hrow.stored (g := gk) j (.int .u8 11)).1) ((Kp.refl [gk] _).setCell (p := ⟨gk, j, none⟩) (.inl (by simp)) (.int .u8 11)))
  have hlen := hrow.1
  obtain ⟨ux, hx⟩ : ∃ u, xs[j]? = some u := ⟨_, List.getElem?_eq_getElem (by omega)⟩
  rw [hx] at hc0
  clear hrow hlen
  go_wp2_with fail
  try simp only [Act.put]
  exact hend _ _ (by repeat (first | (with_reducible refine same_set (by decide) ?_) | (with_reducible exact same_nil))) (S2.out)
-- END skn5
-- REG skn4
set_option maxRecDepth 100000 in
set_option maxHeartbeats 2000000 in
theorem skn_r4 {Q : Exit → Act → World → Prop} {a : Act} {w : World} (j : Nat) (hj : j < 20) (hsz : a.tmps.size = 104) (o2 : Sl a 2 (.int .i64 (j : Int)))
    (hend : ∀ (a' : Act), Same a a' [14, 15, 2] → Sl a' 2 (.int .i64 ((j + 1 : Nat) : Int)) → Q .normal a' (w)) : (Code.region 4 (opsOf 4 Tryd.f13).toArray false).wp Tryd.prog Q a w := by
  refine wp_region_lit (l := (opsOf 4 Tryd.f13)) ?_
  conv => arg 4; whnf
  unfold Sl at o2
  have hw : wrap64 ((j : Int) + 1) = (j : Int) + 1 := by unfold wrap64; omega
  go_wp2_with fail
  try simp only [Act.put]
  exact hend _ (by repeat (first | (with_reducible refine same_set (by decide) ?_) | (with_reducible exact same_nil))) (by unfold Sl; first | (simp [hsz]; done) | (simp [hsz]; omega))
-- END skn4
-- REG skn6
set_option maxRecDepth 100000 in
set_option maxHeartbeats 2000000 in
theorem skn_r6 {Q : Exit → Act → World → Prop} {a : Act} {w : World} (gk : Nat) (hk : Rd w 1 (.slice (some ⟨gk, 0, none⟩) 20 20) 20 (bv k20)) (hsz : a.tmps.size = 104) (o1 : Sl a 1 (.slice (some ⟨gk, 0, none⟩) 20 20))
    (hend : ∀ (a' : Act) (W : World), Same a a' [19, 20, 21, 22, 23, 24, 25, 3] → (∃ gh, Sl a' 3 (.pointer (some ⟨gh, 0, none⟩)) ∧ Held w W [blkR gh 25 (hashA (macF k20 (hiL ++ thL)))]) → Q .normal a' W) : (Code.region 6 (opsOf 6 Tryd.f13).toArray false).wp Tryd.prog Q a w := by
  refine wp_region_lit (l := (opsOf 6 Tryd.f13)) ?_
  conv => arg 4; whnf
  unfold Sl at o1
  have kc := conv_txt
  have HK := Lib.hid hk
  clear hk
  have HO := Lib.hid (hashA_one (macF k20 (hiL ++ thL)))
  have hz2 : Hid ((hashA (macF k20 (hiL ++ thL))).size = 32) := Lib.hid (by rw [hashA_size, macF_length])
  obtain ⟨ch, hch⟩ : ∃ ch, Hid (hashA (macF k20 (hiL ++ thL)) = ch) := ⟨_, Lib.hid rfl⟩
  rw [hch.out] at hend HO hz2
  go_wp2_with fail
  have K3 : Kp [] w (((w.alloc (.cells #[.int .u8 72, .int .u8 105] 5 (2, 3))).alloc (.cells #[.int .u8 32, .int .u8 84, .int .u8 104, .int .u8 101, .int .u8 114, .int .u8 101] 5 (6, 7))).alloc (.cells #[.slice (some ⟨w.heap.size, 0, none⟩) 2 2, .slice (some ⟨w.heap.size + 1, 0, none⟩) 6 6] 22)) := (((Kp.refl [] w).alloc _).alloc _).alloc _
  have R1 : Rd (w.alloc (.cells #[.int .u8 72, .int .u8 105] 5 (2, 3))) 1 (.slice (some ⟨w.heap.size, 0, none⟩) 2 2) 2 (bv hiL) := rd_txt w 5 _ hiL (2, 3) rfl (by decide) rfl
  have R2 : Rd ((w.alloc (.cells #[.int .u8 72, .int .u8 105] 5 (2, 3))).alloc (.cells #[.int .u8 32, .int .u8 84, .int .u8 104, .int .u8 101, .int .u8 114, .int .u8 101] 5 (6, 7))) 1 (.slice (some ⟨w.heap.size + 1, 0, none⟩) 6 6) 6 (bv thL) := rd_txt _ 5 _ thL (6, 7) rfl (by decide) (by simp)
  obtain ⟨us, R3⟩ := (txs2 (g := w.heap.size + 2) 22 (by simp) (R1.alloc _) R2).f
  refine (mac_any _ [] (some ⟨gk, 0, none⟩) 20 k20 (by decide) _ us [hiL, thL] (by decide) _ (Held.start _) (fun V SV => rd_old (rd_old HK.out K3) SV.k) (fun V SV => R3.kp0 SV.k)).mono ?_
  rintro e w4 ⟨rfl, S⟩
  have S1 := Lib.hid ((Held.of_kp (K3.trans S.k (by simp))).newBlk 25 (hashA zH))
  clear S R3 R2 R1 K3 kc
  rw [show macF k20 [hiL, thL].flatten = macF k20 (hiL ++ thL) from rfl, hch.out]
  go_wp2_with (refine wpList_store_blk rfl 25 (.tmp 3) (.tmp 25) rfl w4.heap.size (by simp [Act.eval, Act.put, hsz]) ch (by simp [Act.eval, Act.put, hsz]) 25 _ (S1.out.at_ (l1 := [])) (by rw [hz2.out]; exact Tryd.infoHashP) (by rw [hz2.out]; rfl) HO.out ?_; intro w7 b7 k7; have S7 := Lib.hid (Held.setBlk (l1 := []) S1.out b7 k7); clear b7 k7)
  try simp only [Act.put]
  exact hend _ _ (by repeat (first | (with_reducible refine same_set (by decide) ?_) | (with_reducible exact same_nil))) (⟨_, (by unfold Sl; simp [hsz]), S7.out⟩)
-- END skn6
-- REG skn7
set_option maxRecDepth 100000 in
set_option maxHeartbeats 2000000 in
theorem skn_r7 {Q : Exit → Act → World → Prop} {a : Act} {w : World} (LDw : LD w) (hsz : a.tmps.size = 104) 
    (hend : ∀ (a' : Act) (W : World), Same a a' [27, 28, 26, 29, 30, 4, 5] → Sl a' 5 (.int .i64 (0 : Int)) → (∃ gn, Sl a' 4 (.pointer (some ⟨gn, 0, none⟩)) ∧ Held w W [blkR gn 36 (ntA 0 zH (.slice none 0 0))]) → Q .normal a' W) : (Code.region 7 (opsOf 7 Tryd.f13).toArray false).wp Tryd.prog Q a w := by
  refine wp_region_lit (l := (opsOf 7 Tryd.f13)) ?_
  conv => arg 4; whnf
  have HL := Lib.hid LDw
  clear LDw
  have HO := Lib.hid (ntA_one (z := 0) (h := zH) (v := .slice none 0 0) rfl)
  have hz2 : Hid ((ntA 0 zH (.slice none 0 0)).size = 34) := Lib.hid (ntA_size zH_length)
  have e1 : Hid (newA 0 zH = ntA 0 zH (.slice none 0 0)) := Lib.hid (by unfold newA; rw [if_pos (by decide)])
  have e2 : Hid (chkN 0 [] = 0) := Lib.hid (by unfold chkN; rw [mayN_nil]; rfl)
  have hst0 : ntA 0 zH (.slice none 0 0) = zeroN := rfl
  obtain ⟨ch, hch⟩ : ∃ ch, Hid (ntA 0 zH (.slice none 0 0) = ch) := ⟨_, Lib.hid rfl⟩
  rw [hch.out] at hend HO hz2 hst0
  have e1 := Lib.hid (e1.out.trans hch.out)
  have hst := Lib.hid hst0
  clear hst0
  go_wp2_with (refine wpList_buildP rfl 33 _ rfl [] rfl _ Tryd.built_pt0 ?_)
  refine (sgnew_any 0 (by decide) zH zH_length w HL.out).mono ?_
  rintro e w1 ⟨rfl, k1⟩
  rw [e1.out, e2.out]
  have S1 := Lib.hid ((Held.of_kp k1).newBlk 36 zeroN)
  clear k1
  go_wp2_with (refine wpList_store_blk rfl 36 (.tmp 4) (.tmp 29) rfl w1.heap.size (by simp [Act.eval, Act.put, hsz]) ch (by simp [Act.eval, Act.put, hsz]) 36 _ (S1.out.at_ (l1 := [])) (by rw [hz2.out]; exact Tryd.infoNote) (by rw [hz2.out]; rfl) HO.out ?_; intro w7 b7 k7; have S7 := Lib.hid (Held.setBlk (l1 := []) S1.out b7 k7); clear b7 k7)
  try simp only [Act.put]
  exact hend _ _ (by repeat (first | (with_reducible refine same_set (by decide) ?_) | (with_reducible exact same_nil))) (by unfold Sl; first | (simp [hsz]; done) | (simp [hsz]; omega)) (⟨_, (by unfold Sl; simp [hsz]), S7.out⟩)
-- END skn7
-- REG skn8
set_option maxRecDepth 100000 in
set_option maxHeartbeats 2000000 in
theorem skn_r8 {Q : Exit → Act → World → Prop} {a : Act} {w : World} (LDw : LD w) (gn : Nat) (hb : Blk w gn 36 (ntA 0 zH (.slice none 0 0))) (hv : Rd w 33 (.slice none 0 0) 0 (sgsC [])) (hsz : a.tmps.size = 104) (o4 : Sl a 4 (.pointer (some ⟨gn, 0, none⟩)))
    (hend : ∀ (a' : Act) (W : World), Same a a' [32, 33, 34, 35, 31, 36, 37, 6, 7] → Sl a' 7 (.int .i64 (0 : Int)) → (∃ A c gm, Sl a' 6 (.pointer (some ⟨gm, 0, none⟩)) ∧ Held w W [blkR gm 36 (ntA 0 zH (.slice A 1 c)), rowR 81 33 (.slice A 1 c) 1 (sgsC [sig1])]) → Q .normal a' W) : (Code.region 8 (opsOf 8 Tryd.f13).toArray false).wp Tryd.prog Q a w := by
  refine wp_region_lit (l := (opsOf 8 Tryd.f13)) ?_
  conv => arg 4; whnf
  unfold Sl at o4
  have HL := Lib.hid LDw
  have HB := Lib.hid hb
  have HV := Lib.hid hv
  clear LDw hb hv
  obtain ⟨cn, hcn⟩ : ∃ cn, Hid (ntA 0 zH (.slice none 0 0) = cn) := ⟨_, Lib.hid rfl⟩
  have hzc : Hid (cn.size = 34) := Lib.hid (by rw [← hcn.out]; exact ntA_size zH_length)
  rw [hcn.out] at HB
  go_wp2_with (first
    | (refine wpList_load_blk rfl 36 (.tmp 4) rfl gn (by simp [Act.eval, Act.put, hsz, o4]) 36 _ HB.out _ Tryd.underlying36 rfl (by rw [hzc.out]; exact Tryd.infoNote) ?_)
    | (refine wpList_buildP rfl 42 _ rfl [(0, .string ⟨#[119]⟩), (1, .slice (some ⟨w.heap.size, 0, none⟩) 2 2)] (by simp [Act.eval, Act.put, hsz]) _ (Tryd.built_key2 ⟨#[119]⟩ _ 2 2) ?_))
  rw [← hcn.out]
  have HR := rd_lit w 5 #[.int .u8 1, .int .u8 2] sec12 rfl (by decide)
  refine (ssign_any 0 (by decide) zH zH_length [] (fun s hs => by cases hs) (by decide) none 0 ⟨#[119]⟩ (by decide) (some ⟨w.heap.size, 0, none⟩) 2 sec12 _ (HL.out.kp ((Kp.refl [] w).alloc _)) (rd_nil_any 33 _) HR).mono ?_
  rintro e w1 ⟨u, rfl, hrow, k1⟩
  have e0 : signE 0 [] (ByteArray.mk #[119]).data.toList sec12 = 0 := signE_0
  have H := hrow e0
  rw [if_pos e0, e0]
  obtain ⟨A, c, hu, -, -⟩ := ow_form (show Ow w1 81 33 u 1 (sgsC [sig1]) from H.at_ (l1 := []))
  subst hu
  have hz2 : Hid ((ntA 0 zH (.slice A 1 c)).size = 34) := Lib.hid (ntA_size zH_length)
  have HO := Lib.hid (ntA_one (z := 0) (h := zH) (v := .slice A 1 c) rfl)
  have S0 : Held w w1 [rowR 81 33 (.slice A 1 c) 1 (sgsC [sig1])] := Held.back ((Kp.refl [] w).alloc _) H
  have S1 := Lib.hid (S0.newBlk 36 zeroN)
  clear S0 H hrow k1 HR e0
  have hend := fun a' W h5 h7 gm h8 => hend a' W h5 h7 ⟨A, c, gm, h8⟩
  obtain ⟨cm, hcm⟩ : ∃ cm, Hid (ntA 0 zH (.slice A 1 c) = cm) := ⟨_, Lib.hid rfl⟩
  rw [hcm.out] at HO hz2 hend ⊢
  go_wp2_with (first
    | (refine wpList_store_blk rfl 36 (.tmp 6) (.tmp 36) rfl w1.heap.size (by simp [Act.eval, Act.put, hsz]) cm (by simp [Act.eval, Act.put, hsz]) 36 _ (S1.out.at_ (l1 := [])) (by rw [hz2.out]; exact Tryd.infoNote) (by rw [hz2.out]; rfl) HO.out ?_; intro w7 b7 k7; have S7 := Lib.hid (Held.setBlk (l1 := []) S1.out b7 k7); clear b7 k7)
    | fail)
  try simp only [Act.put]
  exact hend _ _ (by repeat (first | (with_reducible refine same_set (by decide) ?_) | (with_reducible exact same_nil))) (by unfold Sl; first | (simp [hsz]; done) | (simp [hsz]; omega)) (w1.heap.size) (⟨(by unfold Sl; simp [hsz]), S7.out⟩)
-- END skn8
-- REG skn9
set_option maxRecDepth 100000 in
set_option maxHeartbeats 2000000 in
theorem skn_r9 {Q : Exit → Act → World → Prop} {a : Act} {w : World} (LDw : LD w) (gm : Nat) (A : Option Addr) (c : Nat) (hb : Blk w gm 36 (ntA 0 zH (.slice A 1 c))) (hv : Rd w 33 (.slice A 1 c) 1 (sgsC [sig1])) (hsz : a.tmps.size = 104) (o6 : Sl a 6 (.pointer (some ⟨gm, 0, none⟩)))
    (hend : ∀ (a' : Act) (W : World), Same a a' [39, 40, 41, 42, 38, 43, 44, 8, 9] → Sl a' 9 (.int .i64 (8 : Int)) → (Kp [] w W) → Q .normal a' W) : (Code.region 9 (opsOf 9 Tryd.f13).toArray false).wp Tryd.prog Q a w := by
  refine wp_region_lit (l := (opsOf 9 Tryd.f13)) ?_
  conv => arg 4; whnf
  unfold Sl at o6
  have HL := Lib.hid LDw
  have HB := Lib.hid hb
  have HV := Lib.hid hv
  clear LDw hb hv
  obtain ⟨cn, hcn⟩ : ∃ cn, Hid (ntA 0 zH (.slice A 1 c) = cn) := ⟨_, Lib.hid rfl⟩
  have hzc : Hid (cn.size = 34) := Lib.hid (by rw [← hcn.out]; exact ntA_size zH_length)
  rw [hcn.out] at HB
  go_wp2_with (first
    | (refine wpList_load_blk rfl 36 (.tmp 6) rfl gm (by simp [Act.eval, Act.put, hsz, o6]) 36 _ HB.out _ Tryd.underlying36 rfl (by rw [hzc.out]; exact Tryd.infoNote) ?_)
    | (refine wpList_buildP rfl 42 _ rfl [(0, .string ⟨#[119]⟩), (1, .slice (some ⟨w.heap.size, 0, none⟩) 2 2)] (by simp [Act.eval, Act.put, hsz]) _ (Tryd.built_key2 ⟨#[119]⟩ _ 2 2) ?_))
  rw [← hcn.out]
  have HR := rd_lit w 5 #[.int .u8 1, .int .u8 2] sec12 rfl (by decide)
  refine (ssign_any 0 (by decide) zH zH_length [sig1] sig1_ok (by decide) A c ⟨#[119]⟩ (by decide) (some ⟨w.heap.size, 0, none⟩) 2 sec12 _ (HL.out.kp ((Kp.refl [] w).alloc _)) (rd_old HV.out ((Kp.refl [] w).alloc _)) HR).mono ?_
  rintro e w1 ⟨u, rfl, -, k1⟩
  have e0 : signE 0 [sig1] (ByteArray.mk #[119]).data.toList sec12 = 8 := signE_8
  rw [if_neg (by rw [e0]; decide), e0]
  have hz2 : Hid (zeroN.size = 34) := Lib.hid rfl
  have HO := Lib.hid (ntA_one (z := 0) (h := zH) (v := .slice none 0 0) rfl)
  have S1 := Lib.hid ((Held.of_kp (((Kp.refl [] w).alloc (.cells #[.int .u8 1, .int .u8 2] 5)).trans k1 (by simp))).newBlk 36 zeroN)
  clear k1 HR e0
  have HO : Hid (∀ u, u ∈ zeroN.toList → u.oneCell' = true) := HO
  obtain ⟨cm, hcm⟩ : ∃ cm, Hid (zeroN = cm) := ⟨_, Lib.hid rfl⟩
  rw [hcm.out] at HO hz2 ⊢
  go_wp2_with (first
    | (refine wpList_store_blk rfl 36 (.tmp 8) (.tmp 43) rfl w1.heap.size (by simp [Act.eval, Act.put, hsz]) cm (by simp [Act.eval, Act.put, hsz]) 36 _ (S1.out.at_ (l1 := [])) (by rw [hz2.out]; exact Tryd.infoNote) (by rw [hz2.out]; rfl) HO.out ?_; intro w7 b7 k7; have S7 := Lib.hid (Held.setBlk (l1 := []) S1.out b7 k7); clear b7 k7)
    | fail)
  try simp only [Act.put]
  exact hend _ _ (by repeat (first | (with_reducible refine same_set (by decide) ?_) | (with_reducible exact same_nil))) (by unfold Sl; first | (simp [hsz]; done) | (simp [hsz]; omega)) (S7.out.k)
-- END skn9
-- REG skn10
set_option maxRecDepth 100000 in
set_option maxHeartbeats 2000000 in
theorem skn_r10 {Q : Exit → Act → World → Prop} {a : Act} {w : World} (LDw : LD w) (gm : Nat) (A : Option Addr) (c : Nat) (hb : Blk w gm 36 (ntA 0 zH (.slice A 1 c))) (hv : Rd w 33 (.slice A 1 c) 1 (sgsC [sig1])) (hsz : a.tmps.size = 104) (o6 : Sl a 6 (.pointer (some ⟨gm, 0, none⟩)))
    (hend : ∀ (a' : Act) (W : World), Same a a' [45, 46, 47, 48, 49, 10] → (∃ u, Sl a' 10 u ∧ Held w W [rowR 9 1 u 1 [.string ⟨#[119]⟩]]) → Q .normal a' W) : (Code.region 10 (opsOf 10 Tryd.f13).toArray false).wp Tryd.prog Q a w := by
  refine wp_region_lit (l := (opsOf 10 Tryd.f13)) ?_
  conv => arg 4; whnf
  unfold Sl at o6
  have HL := Lib.hid LDw
  have HB := Lib.hid hb
  have HV := Lib.hid hv
  clear LDw hb hv
  obtain ⟨cn, hcn⟩ : ∃ cn, Hid (ntA 0 zH (.slice A 1 c) = cn) := ⟨_, Lib.hid rfl⟩
  have hzc : Hid (cn.size = 34) := Lib.hid (by rw [← hcn.out]; exact ntA_size zH_length)
  rw [hcn.out] at HB
  go_wp2_with (first
    | (refine wpList_load_blk rfl 36 (.tmp 6) rfl gm (by simp [Act.eval, Act.put, hsz, o6]) 36 _ HB.out _ Tryd.underlying36 rfl (by rw [hzc.out]; exact Tryd.infoNote) ?_)
    | (refine wpList_buildP rfl 42 _ rfl [(0, .string ⟨#[119]⟩), (1, .slice (some ⟨w.heap.size, 0, none⟩) 2 2)] (by simp [Act.eval, Act.put, hsz]) _ (Tryd.built_key2 ⟨#[119]⟩ _ 2 2) ?_)
    | (refine wpList_keys1 rfl 46 42 (.tmp 47) rfl ⟨#[119]⟩ (some ⟨w.heap.size, 0, none⟩) 2 2 (by simp [Act.eval, Act.put, hsz]) ?_))
  rw [← hcn.out]
  have HR := rd_lit w 5 #[.int .u8 1, .int .u8 2] sec12 rfl (by decide)
  have HK := kys1 (g := w.heap.size + 1) 42 (by simp) ⟨#[119]⟩ sec12 HR wN rfl
  refine (sright_any 0 (by decide) zH zH_length A c [sig1] sig1_ok (by decide) (some ⟨w.heap.size + 1, 0, none⟩) 1 [(wN, sec12)] (by decide) (fun k hk => by rw [List.mem_singleton.1 hk]; decide) _ _ (HL.out.kp (((Kp.refl [] w).alloc _).alloc _)) (rd_old HV.out (((Kp.refl [] w).alloc _).alloc _)) HK).mono ?_
  rintro e w1 ⟨u, rfl, H⟩
  rw [right_1] at H
  have S1 : Hid (Held w w1 [rowR 9 1 u 1 [.string ⟨#[119]⟩]]) := Lib.hid (Held.back (((Kp.refl [] w).alloc _).alloc _) H)
  clear H HK HR
  go_wp2_with fail
  try simp only [Act.put]
  exact hend _ _ (by repeat (first | (with_reducible refine same_set (by decide) ?_) | (with_reducible exact same_nil))) (⟨u, (by unfold Sl; simp [hsz]), S1.out⟩)
-- END skn10
-- REG skn11
set_option maxRecDepth 100000 in
set_option maxHeartbeats 2000000 in
theorem skn_r11 {Q : Exit → Act → World → Prop} {a : Act} {w : World} (LDw : LD w) (gh gm go co : Nat) (A : Option Addr) (c : Nat) (hb3 : Blk w gh 25 (hashA kn20)) (hb6 : Blk w gm 36 (ntA 0 zH (.slice A 1 c))) (hv6 : Rd w 33 (.slice A 1 c) 1 (sgsC [sig1])) (hv10 : Rd w 1 (.slice (some ⟨go, 0, none⟩) 1 co) 1 [.string ⟨#[119]⟩]) (hsz : a.tmps.size = 104) (o3 : Sl a 3 (.pointer (some ⟨gh, 0, none⟩))) (o5 : Sl a 5 (.int .i64 (0 : Int))) (o6 : Sl a 6 (.pointer (some ⟨gm, 0, none⟩))) (o7 : Sl a 7 (.int .i64 (0 : Int))) (o9 : Sl a 9 (.int .i64 (8 : Int))) (o10 : Sl a 10 (.slice (some ⟨go, 0, none⟩) 1 co))
    (hend : ∀ (a' : Act) (W : World), Same a a' [50, 51, 52, 53, 54, 55, 56, 57, 58, 59, 60, 61, 62, 63, 64, 65, 66, 67, 68, 69, 70, 71, 72, 73, 74, 75, 76, 77, 78, 79, 80, 81, 82, 83, 84, 85, 86, 87, 88, 89, 90, 91, 92, 93, 94, 95, 96, 97, 98, 99, 100, 101, 102, 103, 0] → Kp [] w W → Sl a' 0 (.bool true) → Q .normal a' W) : (Code.region 11 (opsOf 11 Tryd.f13).toArray false).wp Tryd.prog Q a w := by
  have hap : apartB (opsOf 11 Tryd.f13) = true := by kernel_rfl
  refine wp_region_invS (l := (opsOf 11 Tryd.f13)) (fun i v W => match i with | 0 => v = .pointer (some ⟨gh, 0, none⟩) | 1 => v = .int .u8 176 | 2 => v = .bool true | 3 => v = .bool true | 4 => v = .pointer (some ⟨gh, 1, none⟩) | 5 => v = .int .u8 52 | 6 => v = .bool true | 7 => v = .bool true | 8 => v = .bool true | 9 => v = .pointer (some ⟨gh, 31, none⟩) | 10 => v = .int .u8 247 | 11 => v = .bool true | 12 => v = .bool true | 13 => v = .bool true | 14 => v = .int .i64 (0 : Int) | 15 => v = .int .i64 (0 : Int) | 16 => v = .bool true | 17 => v = .bool true | 18 => v = .bool true | 19 => v = .int .i64 (0 : Int) | 20 => v = .int .i64 (0 : Int) | 21 => v = .bool true | 22 => v = .bool true | 23 => v = .bool true | 24 => v = .pointer (some ⟨gm, 33, none⟩) | 25 => v = .slice A 1 c | 26 => v = .int .i64 (1 : Int) | 27 => v = .bool true | 28 => v = .bool true | 29 => v = .bool true | 30 => v = .int .i64 (8 : Int) | 31 => v = .int .i64 (8 : Int) | 32 => v = .bool true | 33 => v = .bool true | 34 => v = .bool true | 35 => v = .slice (some ⟨go, 0, none⟩) 1 co | 36 => v = .int .i64 (1 : Int) | 37 => v = .bool true | 38 => v = .bool true | 39 => v = .bool true | 40 => v = .slice (some ⟨go, 0, none⟩) 1 co | 41 => v = .pointer (some ⟨go, 0, none⟩) | 42 => v = .string ⟨#[119]⟩ | 43 => v = .bool true | 44 => v = .bool true | 45 => v = .bool true | 46 => v = .agg (ntA 0 zH (.slice A 1 c)) | 47 => ∃ A c, v = .slice A 2 c ∧ Rd W 1 (.slice A 2 c) 2 (bv sec13) | 48 => ∃ A c, v = .agg #[.string ⟨#[119]⟩, .slice A 2 c] ∧ Rd W 1 (.slice A 2 c) 2 (bv sec13) | 49 => ∃ us A, v = .slice A 1 1 ∧ KysF W (.slice A 1 1) us [(wN, sec13)] | 50 => ∃ A c, v = .slice A 0 c | 51 => v = .int .i64 (0 : Int) | 52 => v = .bool true | 53 => v = .bool true | 54 => v = .bool true | _ => True) hap ?_ ?_ ?_
  · intro i v W W' h k
    rcases i with _ | i
    · exact h
    rcases i with _ | i
    · exact h
    rcases i with _ | i
    · exact h
    rcases i with _ | i
    · exact h
    rcases i with _ | i
    · exact h
    rcases i with _ | i
    · exact h
    rcases i with _ | i
    · exact h
    rcases i with _ | i
    · exact h
    rcases i with _ | i
    · exact h
    rcases i with _ | i
    · exact h
    rcases i with _ | i
    · exact h
    rcases i with _ | i
    · exact h
    rcases i with _ | i
    · exact h
    rcases i with _ | i
    · exact h
    rcases i with _ | i
    · exact h
    rcases i with _ | i
    · exact h
    rcases i with _ | i
    · exact h
    rcases i with _ | i
    · exact h
    rcases i with _ | i
    · exact h
    rcases i with _ | i
    · exact h
    rcases i with _ | i
    · exact h
    rcases i with _ | i
    · exact h
    rcases i with _ | i
    · exact h
    rcases i with _ | i
    · exact h
    rcases i with _ | i
    · exact h
    rcases i with _ | i
    · exact h
    rcases i with _ | i
    · exact h
    rcases i with _ | i
    · exact h
    rcases i with _ | i
    · exact h
    rcases i with _ | i
    · exact h
    rcases i with _ | i
    · exact h
    rcases i with _ | i
    · exact h
    rcases i with _ | i
    · exact h
    rcases i with _ | i
    · exact h
    rcases i with _ | i
    · exact h
    rcases i with _ | i
    · exact h
    rcases i with _ | i
    · exact h
    rcases i with _ | i
    · exact h
    rcases i with _ | i
    · exact h
    rcases i with _ | i
    · exact h
    rcases i with _ | i
    · exact h
    rcases i with _ | i
    · exact h
    rcases i with _ | i
    · exact h
    rcases i with _ | i
    · exact h
    rcases i with _ | i
    · exact h
    rcases i with _ | i
    · exact h
    rcases i with _ | i
    · exact h
    rcases i with _ | i
    · obtain ⟨A, c, h1, h2⟩ := h; exact ⟨A, c, h1, rd_old h2 k⟩
    rcases i with _ | i
    · obtain ⟨A, c, h1, h2⟩ := h; exact ⟨A, c, h1, rd_old h2 k⟩
    rcases i with _ | i
    · obtain ⟨us, A, h1, h2⟩ := h; exact ⟨us, A, h1, h2.kp0 k⟩
    rcases i with _ | i
    · exact h
    rcases i with _ | i
    · exact h
    rcases i with _ | i
    · exact h
    rcases i with _ | i
    · exact h
    rcases i with _ | i
    · exact h
    exact h
  · refine ⟨?_, ?_, ?_, ?_, ?_, ?_, ?_, ?_, ?_, ?_, ?_, ?_, ?_, ?_, ?_, ?_, ?_, ?_, ?_, ?_, ?_, ?_, ?_, ?_, ?_, ?_, ?_, ?_, ?_, ?_, ?_, ?_, ?_, ?_, ?_, ?_, ?_, ?_, ?_, ?_, ?_, ?_, ?_, ?_, ?_, ?_, ?_, ?_, ?_, ?_, ?_, ?_, ?_, ?_, ?_, trivial⟩
    · intro vs A' W hA hW hd hu K hK
      refine wpOp_free _ rfl rfl ?_
      conv => arg 2; whnf
      have e3 : A'.tmps[3]?.getD undef = .pointer (some ⟨gh, 0, none⟩) := slot_out hA hap (Nat.lt_of_lt_of_eq (Nat.le_of_ble_eq_true rfl : 3 < 104) hsz.symm) (by kernel_rfl) o3
      clear hA hd hu o3 o5 o6 o7 o9 o10
      go_step
      exact hK _ _ (Kp.refl _ _) rfl
    · intro vs A' W hA hW hd hu K hK
      refine wpOp_free _ rfl rfl ?_
      conv => arg 2; whnf
      have f0 : vs 0 = .pointer (some ⟨gh, 0, none⟩) := hd 0 (by kernel_rfl)
      have e50 : A'.tmps[50]?.getD undef = vs 0 := slot_in hA hap (Nat.lt_of_lt_of_eq (Nat.le_of_ble_eq_true rfl : 50 < 104) hsz.symm) (by kernel_rfl)
      rw [f0] at e50
      clear hA hd hu o3 o5 o6 o7 o9 o10
      have c0 : W.cell? ⟨gh, 0, none⟩ = some (.int .u8 176) := hash_cell (hb3.kp hW (by simp)) 0 176 kn20_at.1
      go_step
      exact hK _ _ (Kp.refl _ _) rfl
    · intro vs A' W hA hW hd hu K hK
      refine wpOp_free _ rfl rfl ?_
      conv => arg 2; whnf
      have f1 : vs 1 = .int .u8 176 := hd 1 (by kernel_rfl)
      have e51 : A'.tmps[51]?.getD undef = vs 1 := slot_in hA hap (Nat.lt_of_lt_of_eq (Nat.le_of_ble_eq_true rfl : 51 < 104) hsz.symm) (by kernel_rfl)
      rw [f1] at e51
      clear hA hd hu o3 o5 o6 o7 o9 o10
      go_step
      exact hK _ _ (Kp.refl _ _) rfl
    · intro vs A' W hA hW hd hu K hK
      refine wpOp_free _ rfl rfl ?_
      conv => arg 2; whnf
      have f2 : vs 2 = .bool true := hd 2 (by kernel_rfl)
      have e52 : A'.tmps[52]?.getD undef = vs 2 := slot_in hA hap (Nat.lt_of_lt_of_eq (Nat.le_of_ble_eq_true rfl : 52 < 104) hsz.symm) (by kernel_rfl)
      rw [f2] at e52
      clear hA hd hu o3 o5 o6 o7 o9 o10
      go_step
      exact hK _ _ (Kp.refl _ _) rfl
    · intro vs A' W hA hW hd hu K hK
      have f3 : vs 3 = .bool true := hd 3 (by kernel_rfl)
      have e53 : A'.tmps[53]?.getD undef = vs 3 := slot_in hA hap (Nat.lt_of_lt_of_eq (Nat.le_of_ble_eq_true rfl : 53 < 104) hsz.symm) (by kernel_rfl)
      rw [f3] at e53
      refine wpOp_go _ rfl 3 53 true rfl rfl e53 ?_
      conv => arg 2; whnf
      have e3 : A'.tmps[3]?.getD undef = .pointer (some ⟨gh, 0, none⟩) := slot_out hA hap (Nat.lt_of_lt_of_eq (Nat.le_of_ble_eq_true rfl : 3 < 104) hsz.symm) (by kernel_rfl) o3
      clear hA hd hu o3 o5 o6 o7 o9 o10
      go_step
      exact hK _ _ (Kp.refl _ _) rfl
    · intro vs A' W hA hW hd hu K hK
      have f3 : vs 3 = .bool true := hd 3 (by kernel_rfl)
      have e53 : A'.tmps[53]?.getD undef = vs 3 := slot_in hA hap (Nat.lt_of_lt_of_eq (Nat.le_of_ble_eq_true rfl : 53 < 104) hsz.symm) (by kernel_rfl)
      rw [f3] at e53
      refine wpOp_go _ rfl 3 53 true rfl rfl e53 ?_
      conv => arg 2; whnf
      have f4 : vs 4 = .pointer (some ⟨gh, 1, none⟩) := hd 4 (by kernel_rfl)
      have e54 : A'.tmps[54]?.getD undef = vs 4 := slot_in hA hap (Nat.lt_of_lt_of_eq (Nat.le_of_ble_eq_true rfl : 54 < 104) hsz.symm) (by kernel_rfl)
      rw [f4] at e54
      clear hA hd hu o3 o5 o6 o7 o9 o10
      have c0 : W.cell? ⟨gh, 1, none⟩ = some (.int .u8 52) := hash_cell (hb3.kp hW (by simp)) 1 52 kn20_at.2.1
      go_step
      exact hK _ _ (Kp.refl _ _) rfl
    · intro vs A' W hA hW hd hu K hK
      have f3 : vs 3 = .bool true := hd 3 (by kernel_rfl)
      have e53 : A'.tmps[53]?.getD undef = vs 3 := slot_in hA hap (Nat.lt_of_lt_of_eq (Nat.le_of_ble_eq_true rfl : 53 < 104) hsz.symm) (by kernel_rfl)
      rw [f3] at e53
      refine wpOp_go _ rfl 3 53 true rfl rfl e53 ?_
      conv => arg 2; whnf
      have f5 : vs 5 = .int .u8 52 := hd 5 (by kernel_rfl)
      have e55 : A'.tmps[55]?.getD undef = vs 5 := slot_in hA hap (Nat.lt_of_lt_of_eq (Nat.le_of_ble_eq_true rfl : 55 < 104) hsz.symm) (by kernel_rfl)
      rw [f5] at e55
      clear hA hd hu o3 o5 o6 o7 o9 o10
      go_step
      exact hK _ _ (Kp.refl _ _) rfl
    · intro vs A' W hA hW hd hu K hK
      refine wpOp_free _ rfl rfl ?_
      conv => arg 2; whnf
      have f3 : vs 3 = .bool true := hd 3 (by kernel_rfl)
      have e53 : A'.tmps[53]?.getD undef = vs 3 := slot_in hA hap (Nat.lt_of_lt_of_eq (Nat.le_of_ble_eq_true rfl : 53 < 104) hsz.symm) (by kernel_rfl)
      rw [f3] at e53
      have f6 : vs 6 = .bool true := hd 6 (by kernel_rfl)
      have e56 : A'.tmps[56]?.getD undef = vs 6 := slot_in hA hap (Nat.lt_of_lt_of_eq (Nat.le_of_ble_eq_true rfl : 56 < 104) hsz.symm) (by kernel_rfl)
      rw [f6] at e56
      clear hA hd hu o3 o5 o6 o7 o9 o10
      go_step
      exact hK _ _ (Kp.refl _ _) rfl
    · intro vs A' W hA hW hd hu K hK
      refine wpOp_free _ rfl rfl ?_
      conv => arg 2; whnf
      have f7 : vs 7 = .bool true := hd 7 (by kernel_rfl)
      have e57 : A'.tmps[57]?.getD undef = vs 7 := slot_in hA hap (Nat.lt_of_lt_of_eq (Nat.le_of_ble_eq_true rfl : 57 < 104) hsz.symm) (by kernel_rfl)
      rw [f7] at e57
      clear hA hd hu o3 o5 o6 o7 o9 o10
      go_step
      exact hK _ _ (Kp.refl _ _) rfl
    · intro vs A' W hA hW hd hu K hK
      have f8 : vs 8 = .bool true := hd 8 (by kernel_rfl)
      have e58 : A'.tmps[58]?.getD undef = vs 8 := slot_in hA hap (Nat.lt_of_lt_of_eq (Nat.le_of_ble_eq_true rfl : 58 < 104) hsz.symm) (by kernel_rfl)
      rw [f8] at e58
      refine wpOp_go _ rfl 8 58 true rfl rfl e58 ?_
      conv => arg 2; whnf
      have e3 : A'.tmps[3]?.getD undef = .pointer (some ⟨gh, 0, none⟩) := slot_out hA hap (Nat.lt_of_lt_of_eq (Nat.le_of_ble_eq_true rfl : 3 < 104) hsz.symm) (by kernel_rfl) o3
      clear hA hd hu o3 o5 o6 o7 o9 o10
      go_step
      exact hK _ _ (Kp.refl _ _) rfl
    · intro vs A' W hA hW hd hu K hK
      have f8 : vs 8 = .bool true := hd 8 (by kernel_rfl)
      have e58 : A'.tmps[58]?.getD undef = vs 8 := slot_in hA hap (Nat.lt_of_lt_of_eq (Nat.le_of_ble_eq_true rfl : 58 < 104) hsz.symm) (by kernel_rfl)
      rw [f8] at e58
      refine wpOp_go _ rfl 8 58 true rfl rfl e58 ?_
      conv => arg 2; whnf
      have f9 : vs 9 = .pointer (some ⟨gh, 31, none⟩) := hd 9 (by kernel_rfl)
      have e59 : A'.tmps[59]?.getD undef = vs 9 := slot_in hA hap (Nat.lt_of_lt_of_eq (Nat.le_of_ble_eq_true rfl : 59 < 104) hsz.symm) (by kernel_rfl)
      rw [f9] at e59
      clear hA hd hu o3 o5 o6 o7 o9 o10
      have c0 : W.cell? ⟨gh, 31, none⟩ = some (.int .u8 247) := hash_cell (hb3.kp hW (by simp)) 31 247 kn20_at.2.2
      go_step
      exact hK _ _ (Kp.refl _ _) rfl
    · intro vs A' W hA hW hd hu K hK
      have f8 : vs 8 = .bool true := hd 8 (by kernel_rfl)
      have e58 : A'.tmps[58]?.getD undef = vs 8 := slot_in hA hap (Nat.lt_of_lt_of_eq (Nat.le_of_ble_eq_true rfl : 58 < 104) hsz.symm) (by kernel_rfl)
      rw [f8] at e58
      refine wpOp_go _ rfl 8 58 true rfl rfl e58 ?_
      conv => arg 2; whnf
      have f10 : vs 10 = .int .u8 247 := hd 10 (by kernel_rfl)
      have e60 : A'.tmps[60]?.getD undef = vs 10 := slot_in hA hap (Nat.lt_of_lt_of_eq (Nat.le_of_ble_eq_true rfl : 60 < 104) hsz.symm) (by kernel_rfl)
      rw [f10] at e60
      clear hA hd hu o3 o5 o6 o7 o9 o10
      go_step
      exact hK _ _ (Kp.refl _ _) rfl
    · intro vs A' W hA hW hd hu K hK
      refine wpOp_free _ rfl rfl ?_
      conv => arg 2; whnf
      have f8 : vs 8 = .bool true := hd 8 (by kernel_rfl)
      have e58 : A'.tmps[58]?.getD undef = vs 8 := slot_in hA hap (Nat.lt_of_lt_of_eq (Nat.le_of_ble_eq_true rfl : 58 < 104) hsz.symm) (by kernel_rfl)
      rw [f8] at e58
      have f11 : vs 11 = .bool true := hd 11 (by kernel_rfl)
      have e61 : A'.tmps[61]?.getD undef = vs 11 := slot_in hA hap (Nat.lt_of_lt_of_eq (Nat.le_of_ble_eq_true rfl : 61 < 104) hsz.symm) (by kernel_rfl)
      rw [f11] at e61
      clear hA hd hu o3 o5 o6 o7 o9 o10
      go_step
      exact hK _ _ (Kp.refl _ _) rfl
    · intro vs A' W hA hW hd hu K hK
      refine wpOp_free _ rfl rfl ?_
      conv => arg 2; whnf
      have f12 : vs 12 = .bool true := hd 12 (by kernel_rfl)
      have e62 : A'.tmps[62]?.getD undef = vs 12 := slot_in hA hap (Nat.lt_of_lt_of_eq (Nat.le_of_ble_eq_true rfl : 62 < 104) hsz.symm) (by kernel_rfl)
      rw [f12] at e62
      clear hA hd hu o3 o5 o6 o7 o9 o10
      go_step
      exact hK _ _ (Kp.refl _ _) rfl
    · intro vs A' W hA hW hd hu K hK
      have f13 : vs 13 = .bool true := hd 13 (by kernel_rfl)
      have e63 : A'.tmps[63]?.getD undef = vs 13 := slot_in hA hap (Nat.lt_of_lt_of_eq (Nat.le_of_ble_eq_true rfl : 63 < 104) hsz.symm) (by kernel_rfl)
      rw [f13] at e63
      refine wpOp_go _ rfl 13 63 true rfl rfl e63 ?_
      conv => arg 2; whnf
      have e5 : A'.tmps[5]?.getD undef = .int .i64 (0 : Int) := slot_out hA hap (Nat.lt_of_lt_of_eq (Nat.le_of_ble_eq_true rfl : 5 < 104) hsz.symm) (by kernel_rfl) o5
      clear hA hd hu o3 o5 o6 o7 o9 o10
      go_step
      exact hK _ _ (Kp.refl _ _) rfl
    · intro vs A' W hA hW hd hu K hK
      have f13 : vs 13 = .bool true := hd 13 (by kernel_rfl)
      have e63 : A'.tmps[63]?.getD undef = vs 13 := slot_in hA hap (Nat.lt_of_lt_of_eq (Nat.le_of_ble_eq_true rfl : 63 < 104) hsz.symm) (by kernel_rfl)
      rw [f13] at e63
      refine wpOp_go _ rfl 13 63 true rfl rfl e63 ?_
      conv => arg 2; whnf
      have f14 : vs 14 = .int .i64 (0 : Int) := hd 14 (by kernel_rfl)
      have e64 : A'.tmps[64]?.getD undef = vs 14 := slot_in hA hap (Nat.lt_of_lt_of_eq (Nat.le_of_ble_eq_true rfl : 64 < 104) hsz.symm) (by kernel_rfl)
      rw [f14] at e64
      clear hA hd hu o3 o5 o6 o7 o9 o10
      go_step
      refine (lnum_any 0 W).mono ?_
      rintro e w' ⟨rfl, rfl⟩
      exact hK _ _ (Kp.refl _ _) rfl
    · intro vs A' W hA hW hd hu K hK
      have f13 : vs 13 = .bool true := hd 13 (by kernel_rfl)
      have e63 : A'.tmps[63]?.getD undef = vs 13 := slot_in hA hap (Nat.lt_of_lt_of_eq (Nat.le_of_ble_eq_true rfl : 63 < 104) hsz.symm) (by kernel_rfl)
      rw [f13] at e63
      refine wpOp_go _ rfl 13 63 true rfl rfl e63 ?_
      conv => arg 2; whnf
      have f15 : vs 15 = .int .i64 (0 : Int) := hd 15 (by kernel_rfl)
      have e65 : A'.tmps[65]?.getD undef = vs 15 := slot_in hA hap (Nat.lt_of_lt_of_eq (Nat.le_of_ble_eq_true rfl : 65 < 104) hsz.symm) (by kernel_rfl)
      rw [f15] at e65
      clear hA hd hu o3 o5 o6 o7 o9 o10
      go_step
      exact hK _ _ (Kp.refl _ _) rfl
    · intro vs A' W hA hW hd hu K hK
      refine wpOp_free _ rfl rfl ?_
      conv => arg 2; whnf
      have f13 : vs 13 = .bool true := hd 13 (by kernel_rfl)
      have e63 : A'.tmps[63]?.getD undef = vs 13 := slot_in hA hap (Nat.lt_of_lt_of_eq (Nat.le_of_ble_eq_true rfl : 63 < 104) hsz.symm) (by kernel_rfl)
      rw [f13] at e63
      have f16 : vs 16 = .bool true := hd 16 (by kernel_rfl)
      have e66 : A'.tmps[66]?.getD undef = vs 16 := slot_in hA hap (Nat.lt_of_lt_of_eq (Nat.le_of_ble_eq_true rfl : 66 < 104) hsz.symm) (by kernel_rfl)
      rw [f16] at e66
      clear hA hd hu o3 o5 o6 o7 o9 o10
      go_step
      exact hK _ _ (Kp.refl _ _) rfl
    · intro vs A' W hA hW hd hu K hK
      refine wpOp_free _ rfl rfl ?_
      conv => arg 2; whnf
      have f17 : vs 17 = .bool true := hd 17 (by kernel_rfl)
      have e67 : A'.tmps[67]?.getD undef = vs 17 := slot_in hA hap (Nat.lt_of_lt_of_eq (Nat.le_of_ble_eq_true rfl : 67 < 104) hsz.symm) (by kernel_rfl)
      rw [f17] at e67
      clear hA hd hu o3 o5 o6 o7 o9 o10
      go_step
      exact hK _ _ (Kp.refl _ _) rfl
    · intro vs A' W hA hW hd hu K hK
      have f18 : vs 18 = .bool true := hd 18 (by kernel_rfl)
      have e68 : A'.tmps[68]?.getD undef = vs 18 := slot_in hA hap (Nat.lt_of_lt_of_eq (Nat.le_of_ble_eq_true rfl : 68 < 104) hsz.symm) (by kernel_rfl)
      rw [f18] at e68
      refine wpOp_go _ rfl 18 68 true rfl rfl e68 ?_
      conv => arg 2; whnf
      have e7 : A'.tmps[7]?.getD undef = .int .i64 (0 : Int) := slot_out hA hap (Nat.lt_of_lt_of_eq (Nat.le_of_ble_eq_true rfl : 7 < 104) hsz.symm) (by kernel_rfl) o7
      clear hA hd hu o3 o5 o6 o7 o9 o10
      go_step
      exact hK _ _ (Kp.refl _ _) rfl
    · intro vs A' W hA hW hd hu K hK
      have f18 : vs 18 = .bool true := hd 18 (by kernel_rfl)
      have e68 : A'.tmps[68]?.getD undef = vs 18 := slot_in hA hap (Nat.lt_of_lt_of_eq (Nat.le_of_ble_eq_true rfl : 68 < 104) hsz.symm) (by kernel_rfl)
      rw [f18] at e68
      refine wpOp_go _ rfl 18 68 true rfl rfl e68 ?_
      conv => arg 2; whnf
      have f19 : vs 19 = .int .i64 (0 : Int) := hd 19 (by kernel_rfl)
      have e69 : A'.tmps[69]?.getD undef = vs 19 := slot_in hA hap (Nat.lt_of_lt_of_eq (Nat.le_of_ble_eq_true rfl : 69 < 104) hsz.symm) (by kernel_rfl)
      rw [f19] at e69
      clear hA hd hu o3 o5 o6 o7 o9 o10
      go_step
      refine (lnum_any 0 W).mono ?_
      rintro e w' ⟨rfl, rfl⟩
      exact hK _ _ (Kp.refl _ _) rfl
    · intro vs A' W hA hW hd hu K hK
      have f18 : vs 18 = .bool true := hd 18 (by kernel_rfl)
      have e68 : A'.tmps[68]?.getD undef = vs 18 := slot_in hA hap (Nat.lt_of_lt_of_eq (Nat.le_of_ble_eq_true rfl : 68 < 104) hsz.symm) (by kernel_rfl)
      rw [f18] at e68
      refine wpOp_go _ rfl 18 68 true rfl rfl e68 ?_
      conv => arg 2; whnf
      have f20 : vs 20 = .int .i64 (0 : Int) := hd 20 (by kernel_rfl)
      have e70 : A'.tmps[70]?.getD undef = vs 20 := slot_in hA hap (Nat.lt_of_lt_of_eq (Nat.le_of_ble_eq_true rfl : 70 < 104) hsz.symm) (by kernel_rfl)
      rw [f20] at e70
      clear hA hd hu o3 o5 o6 o7 o9 o10
      go_step
      exact hK _ _ (Kp.refl _ _) rfl
    · intro vs A' W hA hW hd hu K hK
      refine wpOp_free _ rfl rfl ?_
      conv => arg 2; whnf
      have f18 : vs 18 = .bool true := hd 18 (by kernel_rfl)
      have e68 : A'.tmps[68]?.getD undef = vs 18 := slot_in hA hap (Nat.lt_of_lt_of_eq (Nat.le_of_ble_eq_true rfl : 68 < 104) hsz.symm) (by kernel_rfl)
      rw [f18] at e68
      have f21 : vs 21 = .bool true := hd 21 (by kernel_rfl)
      have e71 : A'.tmps[71]?.getD undef = vs 21 := slot_in hA hap (Nat.lt_of_lt_of_eq (Nat.le_of_ble_eq_true rfl : 71 < 104) hsz.symm) (by kernel_rfl)
      rw [f21] at e71
      clear hA hd hu o3 o5 o6 o7 o9 o10
      go_step
      exact hK _ _ (Kp.refl _ _) rfl
    · intro vs A' W hA hW hd hu K hK
      refine wpOp_free _ rfl rfl ?_
      conv => arg 2; whnf
      have f22 : vs 22 = .bool true := hd 22 (by kernel_rfl)
      have e72 : A'.tmps[72]?.getD undef = vs 22 := slot_in hA hap (Nat.lt_of_lt_of_eq (Nat.le_of_ble_eq_true rfl : 72 < 104) hsz.symm) (by kernel_rfl)
      rw [f22] at e72
      clear hA hd hu o3 o5 o6 o7 o9 o10
      go_step
      exact hK _ _ (Kp.refl _ _) rfl
    · intro vs A' W hA hW hd hu K hK
      have f23 : vs 23 = .bool true := hd 23 (by kernel_rfl)
      have e73 : A'.tmps[73]?.getD undef = vs 23 := slot_in hA hap (Nat.lt_of_lt_of_eq (Nat.le_of_ble_eq_true rfl : 73 < 104) hsz.symm) (by kernel_rfl)
      rw [f23] at e73
      refine wpOp_go _ rfl 23 73 true rfl rfl e73 ?_
      conv => arg 2; whnf
      have e6 : A'.tmps[6]?.getD undef = .pointer (some ⟨gm, 0, none⟩) := slot_out hA hap (Nat.lt_of_lt_of_eq (Nat.le_of_ble_eq_true rfl : 6 < 104) hsz.symm) (by kernel_rfl) o6
      clear hA hd hu o3 o5 o6 o7 o9 o10
      go_step
      exact hK _ _ (Kp.refl _ _) rfl
    · intro vs A' W hA hW hd hu K hK
      have f23 : vs 23 = .bool true := hd 23 (by kernel_rfl)
      have e73 : A'.tmps[73]?.getD undef = vs 23 := slot_in hA hap (Nat.lt_of_lt_of_eq (Nat.le_of_ble_eq_true rfl : 73 < 104) hsz.symm) (by kernel_rfl)
      rw [f23] at e73
      refine wpOp_go _ rfl 23 73 true rfl rfl e73 ?_
      conv => arg 2; whnf
      have f24 : vs 24 = .pointer (some ⟨gm, 33, none⟩) := hd 24 (by kernel_rfl)
      have e74 : A'.tmps[74]?.getD undef = vs 24 := slot_in hA hap (Nat.lt_of_lt_of_eq (Nat.le_of_ble_eq_true rfl : 74 < 104) hsz.symm) (by kernel_rfl)
      rw [f24] at e74
      clear hA hd hu o3 o5 o6 o7 o9 o10
      have c0 : W.cell? ⟨gm, 33, none⟩ = some (.slice A 1 c) := by rw [(hb6.kp hW (by simp)).cell]; exact ntA_sigs zH_length
      go_step
      exact hK _ _ (Kp.refl _ _) rfl
    · intro vs A' W hA hW hd hu K hK
      have f23 : vs 23 = .bool true := hd 23 (by kernel_rfl)
      have e73 : A'.tmps[73]?.getD undef = vs 23 := slot_in hA hap (Nat.lt_of_lt_of_eq (Nat.le_of_ble_eq_true rfl : 73 < 104) hsz.symm) (by kernel_rfl)
      rw [f23] at e73
      refine wpOp_go _ rfl 23 73 true rfl rfl e73 ?_
      conv => arg 2; whnf
      have f25 : vs 25 = .slice A 1 c := hd 25 (by kernel_rfl)
      have e75 : A'.tmps[75]?.getD undef = vs 25 := slot_in hA hap (Nat.lt_of_lt_of_eq (Nat.le_of_ble_eq_true rfl : 75 < 104) hsz.symm) (by kernel_rfl)
      rw [f25] at e75
      clear hA hd hu o3 o5 o6 o7 o9 o10
      go_step
      exact hK _ _ (Kp.refl _ _) rfl
    · intro vs A' W hA hW hd hu K hK
      have f23 : vs 23 = .bool true := hd 23 (by kernel_rfl)
      have e73 : A'.tmps[73]?.getD undef = vs 23 := slot_in hA hap (Nat.lt_of_lt_of_eq (Nat.le_of_ble_eq_true rfl : 73 < 104) hsz.symm) (by kernel_rfl)
      rw [f23] at e73
      refine wpOp_go _ rfl 23 73 true rfl rfl e73 ?_
      conv => arg 2; whnf
      have f26 : vs 26 = .int .i64 (1 : Int) := hd 26 (by kernel_rfl)
      have e76 : A'.tmps[76]?.getD undef = vs 26 := slot_in hA hap (Nat.lt_of_lt_of_eq (Nat.le_of_ble_eq_true rfl : 76 < 104) hsz.symm) (by kernel_rfl)
      rw [f26] at e76
      clear hA hd hu o3 o5 o6 o7 o9 o10
      go_step
      exact hK _ _ (Kp.refl _ _) rfl
    · intro vs A' W hA hW hd hu K hK
      refine wpOp_free _ rfl rfl ?_
      conv => arg 2; whnf
      have f23 : vs 23 = .bool true := hd 23 (by kernel_rfl)
      have e73 : A'.tmps[73]?.getD undef = vs 23 := slot_in hA hap (Nat.lt_of_lt_of_eq (Nat.le_of_ble_eq_true rfl : 73 < 104) hsz.symm) (by kernel_rfl)
      rw [f23] at e73
      have f27 : vs 27 = .bool true := hd 27 (by kernel_rfl)
      have e77 : A'.tmps[77]?.getD undef = vs 27 := slot_in hA hap (Nat.lt_of_lt_of_eq (Nat.le_of_ble_eq_true rfl : 77 < 104) hsz.symm) (by kernel_rfl)
      rw [f27] at e77
      clear hA hd hu o3 o5 o6 o7 o9 o10
      go_step
      exact hK _ _ (Kp.refl _ _) rfl
    · intro vs A' W hA hW hd hu K hK
      refine wpOp_free _ rfl rfl ?_
      conv => arg 2; whnf
      have f28 : vs 28 = .bool true := hd 28 (by kernel_rfl)
      have e78 : A'.tmps[78]?.getD undef = vs 28 := slot_in hA hap (Nat.lt_of_lt_of_eq (Nat.le_of_ble_eq_true rfl : 78 < 104) hsz.symm) (by kernel_rfl)
      rw [f28] at e78
      clear hA hd hu o3 o5 o6 o7 o9 o10
      go_step
      exact hK _ _ (Kp.refl _ _) rfl
    · intro vs A' W hA hW hd hu K hK
      have f29 : vs 29 = .bool true := hd 29 (by kernel_rfl)
      have e79 : A'.tmps[79]?.getD undef = vs 29 := slot_in hA hap (Nat.lt_of_lt_of_eq (Nat.le_of_ble_eq_true rfl : 79 < 104) hsz.symm) (by kernel_rfl)
      rw [f29] at e79
      refine wpOp_go _ rfl 29 79 true rfl rfl e79 ?_
      conv => arg 2; whnf
      have e9 : A'.tmps[9]?.getD undef = .int .i64 (8 : Int) := slot_out hA hap (Nat.lt_of_lt_of_eq (Nat.le_of_ble_eq_true rfl : 9 < 104) hsz.symm) (by kernel_rfl) o9
      clear hA hd hu o3 o5 o6 o7 o9 o10
      go_step
      exact hK _ _ (Kp.refl _ _) rfl
    · intro vs A' W hA hW hd hu K hK
      have f29 : vs 29 = .bool true := hd 29 (by kernel_rfl)
      have e79 : A'.tmps[79]?.getD undef = vs 29 := slot_in hA hap (Nat.lt_of_lt_of_eq (Nat.le_of_ble_eq_true rfl : 79 < 104) hsz.symm) (by kernel_rfl)
      rw [f29] at e79
      refine wpOp_go _ rfl 29 79 true rfl rfl e79 ?_
      conv => arg 2; whnf
      have f30 : vs 30 = .int .i64 (8 : Int) := hd 30 (by kernel_rfl)
      have e80 : A'.tmps[80]?.getD undef = vs 30 := slot_in hA hap (Nat.lt_of_lt_of_eq (Nat.le_of_ble_eq_true rfl : 80 < 104) hsz.symm) (by kernel_rfl)
      rw [f30] at e80
      clear hA hd hu o3 o5 o6 o7 o9 o10
      go_step
      refine (lnum_any 8 W).mono ?_
      rintro e w' ⟨rfl, rfl⟩
      exact hK _ _ (Kp.refl _ _) rfl
    · intro vs A' W hA hW hd hu K hK
      have f29 : vs 29 = .bool true := hd 29 (by kernel_rfl)
      have e79 : A'.tmps[79]?.getD undef = vs 29 := slot_in hA hap (Nat.lt_of_lt_of_eq (Nat.le_of_ble_eq_true rfl : 79 < 104) hsz.symm) (by kernel_rfl)
      rw [f29] at e79
      refine wpOp_go _ rfl 29 79 true rfl rfl e79 ?_
      conv => arg 2; whnf
      have f31 : vs 31 = .int .i64 (8 : Int) := hd 31 (by kernel_rfl)
      have e81 : A'.tmps[81]?.getD undef = vs 31 := slot_in hA hap (Nat.lt_of_lt_of_eq (Nat.le_of_ble_eq_true rfl : 81 < 104) hsz.symm) (by kernel_rfl)
      rw [f31] at e81
      clear hA hd hu o3 o5 o6 o7 o9 o10
      go_step
      exact hK _ _ (Kp.refl _ _) rfl
    · intro vs A' W hA hW hd hu K hK
      refine wpOp_free _ rfl rfl ?_
      conv => arg 2; whnf
      have f29 : vs 29 = .bool true := hd 29 (by kernel_rfl)
      have e79 : A'.tmps[79]?.getD undef = vs 29 := slot_in hA hap (Nat.lt_of_lt_of_eq (Nat.le_of_ble_eq_true rfl : 79 < 104) hsz.symm) (by kernel_rfl)
      rw [f29] at e79
      have f32 : vs 32 = .bool true := hd 32 (by kernel_rfl)
      have e82 : A'.tmps[82]?.getD undef = vs 32 := slot_in hA hap (Nat.lt_of_lt_of_eq (Nat.le_of_ble_eq_true rfl : 82 < 104) hsz.symm) (by kernel_rfl)
      rw [f32] at e82
      clear hA hd hu o3 o5 o6 o7 o9 o10
      go_step
      exact hK _ _ (Kp.refl _ _) rfl
    · intro vs A' W hA hW hd hu K hK
      refine wpOp_free _ rfl rfl ?_
      conv => arg 2; whnf
      have f33 : vs 33 = .bool true := hd 33 (by kernel_rfl)
      have e83 : A'.tmps[83]?.getD undef = vs 33 := slot_in hA hap (Nat.lt_of_lt_of_eq (Nat.le_of_ble_eq_true rfl : 83 < 104) hsz.symm) (by kernel_rfl)
      rw [f33] at e83
      clear hA hd hu o3 o5 o6 o7 o9 o10
      go_step
      exact hK _ _ (Kp.refl _ _) rfl
    · intro vs A' W hA hW hd hu K hK
      have f34 : vs 34 = .bool true := hd 34 (by kernel_rfl)
      have e84 : A'.tmps[84]?.getD undef = vs 34 := slot_in hA hap (Nat.lt_of_lt_of_eq (Nat.le_of_ble_eq_true rfl : 84 < 104) hsz.symm) (by kernel_rfl)
      rw [f34] at e84
      refine wpOp_go _ rfl 34 84 true rfl rfl e84 ?_
      conv => arg 2; whnf
      have e10 : A'.tmps[10]?.getD undef = .slice (some ⟨go, 0, none⟩) 1 co := slot_out hA hap (Nat.lt_of_lt_of_eq (Nat.le_of_ble_eq_true rfl : 10 < 104) hsz.symm) (by kernel_rfl) o10
      clear hA hd hu o3 o5 o6 o7 o9 o10
      go_step
      exact hK _ _ (Kp.refl _ _) rfl
    · intro vs A' W hA hW hd hu K hK
      have f34 : vs 34 = .bool true := hd 34 (by kernel_rfl)
      have e84 : A'.tmps[84]?.getD undef = vs 34 := slot_in hA hap (Nat.lt_of_lt_of_eq (Nat.le_of_ble_eq_true rfl : 84 < 104) hsz.symm) (by kernel_rfl)
      rw [f34] at e84
      refine wpOp_go _ rfl 34 84 true rfl rfl e84 ?_
      conv => arg 2; whnf
      have f35 : vs 35 = .slice (some ⟨go, 0, none⟩) 1 co := hd 35 (by kernel_rfl)
      have e85 : A'.tmps[85]?.getD undef = vs 35 := slot_in hA hap (Nat.lt_of_lt_of_eq (Nat.le_of_ble_eq_true rfl : 85 < 104) hsz.symm) (by kernel_rfl)
      rw [f35] at e85
      clear hA hd hu o3 o5 o6 o7 o9 o10
      go_step
      exact hK _ _ (Kp.refl _ _) rfl
    · intro vs A' W hA hW hd hu K hK
      have f34 : vs 34 = .bool true := hd 34 (by kernel_rfl)
      have e84 : A'.tmps[84]?.getD undef = vs 34 := slot_in hA hap (Nat.lt_of_lt_of_eq (Nat.le_of_ble_eq_true rfl : 84 < 104) hsz.symm) (by kernel_rfl)
      rw [f34] at e84
      refine wpOp_go _ rfl 34 84 true rfl rfl e84 ?_
      conv => arg 2; whnf
      have f36 : vs 36 = .int .i64 (1 : Int) := hd 36 (by kernel_rfl)
      have e86 : A'.tmps[86]?.getD undef = vs 36 := slot_in hA hap (Nat.lt_of_lt_of_eq (Nat.le_of_ble_eq_true rfl : 86 < 104) hsz.symm) (by kernel_rfl)
      rw [f36] at e86
      clear hA hd hu o3 o5 o6 o7 o9 o10
      go_step
      exact hK _ _ (Kp.refl _ _) rfl
    · intro vs A' W hA hW hd hu K hK
      refine wpOp_free _ rfl rfl ?_
      conv => arg 2; whnf
      have f34 : vs 34 = .bool true := hd 34 (by kernel_rfl)
      have e84 : A'.tmps[84]?.getD undef = vs 34 := slot_in hA hap (Nat.lt_of_lt_of_eq (Nat.le_of_ble_eq_true rfl : 84 < 104) hsz.symm) (by kernel_rfl)
      rw [f34] at e84
      have f37 : vs 37 = .bool true := hd 37 (by kernel_rfl)
      have e87 : A'.tmps[87]?.getD undef = vs 37 := slot_in hA hap (Nat.lt_of_lt_of_eq (Nat.le_of_ble_eq_true rfl : 87 < 104) hsz.symm) (by kernel_rfl)
      rw [f37] at e87
      clear hA hd hu o3 o5 o6 o7 o9 o10
      go_step
      exact hK _ _ (Kp.refl _ _) rfl
    · intro vs A' W hA hW hd hu K hK
      refine wpOp_free _ rfl rfl ?_
      conv => arg 2; whnf
      have f38 : vs 38 = .bool true := hd 38 (by kernel_rfl)
      have e88 : A'.tmps[88]?.getD undef = vs 38 := slot_in hA hap (Nat.lt_of_lt_of_eq (Nat.le_of_ble_eq_true rfl : 88 < 104) hsz.symm) (by kernel_rfl)
      rw [f38] at e88
      clear hA hd hu o3 o5 o6 o7 o9 o10
      go_step
      exact hK _ _ (Kp.refl _ _) rfl
    · intro vs A' W hA hW hd hu K hK
      have f39 : vs 39 = .bool true := hd 39 (by kernel_rfl)
      have e89 : A'.tmps[89]?.getD undef = vs 39 := slot_in hA hap (Nat.lt_of_lt_of_eq (Nat.le_of_ble_eq_true rfl : 89 < 104) hsz.symm) (by kernel_rfl)
      rw [f39] at e89
      refine wpOp_go _ rfl 39 89 true rfl rfl e89 ?_
      conv => arg 2; whnf
      have e10 : A'.tmps[10]?.getD undef = .slice (some ⟨go, 0, none⟩) 1 co := slot_out hA hap (Nat.lt_of_lt_of_eq (Nat.le_of_ble_eq_true rfl : 10 < 104) hsz.symm) (by kernel_rfl) o10
      clear hA hd hu o3 o5 o6 o7 o9 o10
      go_step
      exact hK _ _ (Kp.refl _ _) rfl
    · intro vs A' W hA hW hd hu K hK
      have f39 : vs 39 = .bool true := hd 39 (by kernel_rfl)
      have e89 : A'.tmps[89]?.getD undef = vs 39 := slot_in hA hap (Nat.lt_of_lt_of_eq (Nat.le_of_ble_eq_true rfl : 89 < 104) hsz.symm) (by kernel_rfl)
      rw [f39] at e89
      refine wpOp_go _ rfl 39 89 true rfl rfl e89 ?_
      conv => arg 2; whnf
      have f40 : vs 40 = .slice (some ⟨go, 0, none⟩) 1 co := hd 40 (by kernel_rfl)
      have e90 : A'.tmps[90]?.getD undef = vs 40 := slot_in hA hap (Nat.lt_of_lt_of_eq (Nat.le_of_ble_eq_true rfl : 90 < 104) hsz.symm) (by kernel_rfl)
      rw [f40] at e90
      clear hA hd hu o3 o5 o6 o7 o9 o10
      go_step
      exact hK _ _ (Kp.refl _ _) rfl
    · intro vs A' W hA hW hd hu K hK
      have f39 : vs 39 = .bool true := hd 39 (by kernel_rfl)
      have e89 : A'.tmps[89]?.getD undef = vs 39 := slot_in hA hap (Nat.lt_of_lt_of_eq (Nat.le_of_ble_eq_true rfl : 89 < 104) hsz.symm) (by kernel_rfl)
      rw [f39] at e89
      refine wpOp_go _ rfl 39 89 true rfl rfl e89 ?_
      conv => arg 2; whnf
      have f41 : vs 41 = .pointer (some ⟨go, 0, none⟩) := hd 41 (by kernel_rfl)
      have e91 : A'.tmps[91]?.getD undef = vs 41 := slot_in hA hap (Nat.lt_of_lt_of_eq (Nat.le_of_ble_eq_true rfl : 91 < 104) hsz.symm) (by kernel_rfl)
      rw [f41] at e91
      clear hA hd hu o3 o5 o6 o7 o9 o10
      have c0 : W.cell? ⟨go, 0, none⟩ = some (.string ⟨#[119]⟩) := by
        obtain ⟨-, A', c', he, -, -, -, hc⟩ := rd_old hv10 hW
        cases he
        exact hc _ rfl 0 _ rfl
      go_step
      exact hK _ _ (Kp.refl _ _) rfl
    · intro vs A' W hA hW hd hu K hK
      have f39 : vs 39 = .bool true := hd 39 (by kernel_rfl)
      have e89 : A'.tmps[89]?.getD undef = vs 39 := slot_in hA hap (Nat.lt_of_lt_of_eq (Nat.le_of_ble_eq_true rfl : 89 < 104) hsz.symm) (by kernel_rfl)
      rw [f39] at e89
      refine wpOp_go _ rfl 39 89 true rfl rfl e89 ?_
      conv => arg 2; whnf
      have f42 : vs 42 = .string ⟨#[119]⟩ := hd 42 (by kernel_rfl)
      have e92 : A'.tmps[92]?.getD undef = vs 42 := slot_in hA hap (Nat.lt_of_lt_of_eq (Nat.le_of_ble_eq_true rfl : 92 < 104) hsz.symm) (by kernel_rfl)
      rw [f42] at e92
      clear hA hd hu o3 o5 o6 o7 o9 o10
      go_step
      exact hK _ _ (Kp.refl _ _) rfl
    · intro vs A' W hA hW hd hu K hK
      refine wpOp_free _ rfl rfl ?_
      conv => arg 2; whnf
      have f39 : vs 39 = .bool true := hd 39 (by kernel_rfl)
      have e89 : A'.tmps[89]?.getD undef = vs 39 := slot_in hA hap (Nat.lt_of_lt_of_eq (Nat.le_of_ble_eq_true rfl : 89 < 104) hsz.symm) (by kernel_rfl)
      rw [f39] at e89
      have f43 : vs 43 = .bool true := hd 43 (by kernel_rfl)
      have e93 : A'.tmps[93]?.getD undef = vs 43 := slot_in hA hap (Nat.lt_of_lt_of_eq (Nat.le_of_ble_eq_true rfl : 93 < 104) hsz.symm) (by kernel_rfl)
      rw [f43] at e93
      clear hA hd hu o3 o5 o6 o7 o9 o10
      go_step
      exact hK _ _ (Kp.refl _ _) rfl
    · intro vs A' W hA hW hd hu K hK
      refine wpOp_free _ rfl rfl ?_
      conv => arg 2; whnf
      have f44 : vs 44 = .bool true := hd 44 (by kernel_rfl)
      have e94 : A'.tmps[94]?.getD undef = vs 44 := slot_in hA hap (Nat.lt_of_lt_of_eq (Nat.le_of_ble_eq_true rfl : 94 < 104) hsz.symm) (by kernel_rfl)
      rw [f44] at e94
      clear hA hd hu o3 o5 o6 o7 o9 o10
      go_step
      exact hK _ _ (Kp.refl _ _) rfl
    · intro vs A' W hA hW hd hu K hK
      have f45 : vs 45 = .bool true := hd 45 (by kernel_rfl)
      have e95 : A'.tmps[95]?.getD undef = vs 45 := slot_in hA hap (Nat.lt_of_lt_of_eq (Nat.le_of_ble_eq_true rfl : 95 < 104) hsz.symm) (by kernel_rfl)
      rw [f45] at e95
      refine wpOp_go _ rfl 45 95 true rfl rfl e95 ?_
      conv => arg 2; whnf
      have e6 : A'.tmps[6]?.getD undef = .pointer (some ⟨gm, 0, none⟩) := slot_out hA hap (Nat.lt_of_lt_of_eq (Nat.le_of_ble_eq_true rfl : 6 < 104) hsz.symm) (by kernel_rfl) o6
      clear hA hd hu o3 o5 o6 o7 o9 o10
      refine op_runs (v := .agg (ntA 0 zH (.slice A 1 c))) (w' := W) (exec_load rfl (by simpa [Act.eval] using e6) (run_loadAt_agg W (⟨gm, 0, none⟩) 36 (ntA 0 zH (.slice A 1 c)).toList _ (Blk.agg (hb6.kp hW (by simp))) Tryd.underlying36 rfl (by rw [Array.length_toList, ntA_size zH_length]; exact Tryd.infoNote))) ?_
      exact hK _ _ (Kp.refl _ _) rfl
    · intro vs A' W hA hW hd hu K hK
      have f45 : vs 45 = .bool true := hd 45 (by kernel_rfl)
      have e95 : A'.tmps[95]?.getD undef = vs 45 := slot_in hA hap (Nat.lt_of_lt_of_eq (Nat.le_of_ble_eq_true rfl : 95 < 104) hsz.symm) (by kernel_rfl)
      rw [f45] at e95
      refine wpOp_go _ rfl 45 95 true rfl rfl e95 ?_
      conv => arg 2; whnf
      clear hA hd hu o3 o5 o6 o7 o9 o10
      go_step
      exact hK _ _ ((Kp.refl [] W).alloc _) ⟨_, _, rfl, rd_lit W _ _ sec13 rfl (by decide)⟩
    · intro vs A' W hA hW hd hu K hK
      have f45 : vs 45 = .bool true := hd 45 (by kernel_rfl)
      have e95 : A'.tmps[95]?.getD undef = vs 45 := slot_in hA hap (Nat.lt_of_lt_of_eq (Nat.le_of_ble_eq_true rfl : 95 < 104) hsz.symm) (by kernel_rfl)
      rw [f45] at e95
      refine wpOp_go _ rfl 45 95 true rfl rfl e95 ?_
      conv => arg 2; whnf
      have f47 : ∃ A c, (vs 47) = .slice A 2 c ∧ Rd W 1 (.slice A 2 c) 2 (bv sec13) := hd 47 (by kernel_rfl)
      have e97 : A'.tmps[97]?.getD undef = vs 47 := slot_in hA hap (Nat.lt_of_lt_of_eq (Nat.le_of_ble_eq_true rfl : 97 < 104) hsz.symm) (by kernel_rfl)
      clear hA hd hu o3 o5 o6 o7 o9 o10
      obtain ⟨A1, c1, hv1, hr1⟩ := f47
      rw [hv1] at e97
      refine op_build 42 _ rfl [(0, .string ⟨#[119]⟩), (1, .slice A1 2 c1)] (by simp [Act.eval, e97]) _ (Tryd.built_key2 ⟨#[119]⟩ _ 2 _) ?_
      exact hK _ _ (Kp.refl _ _) ⟨A1, c1, rfl, hr1⟩
    · intro vs A' W hA hW hd hu K hK
      have f45 : vs 45 = .bool true := hd 45 (by kernel_rfl)
      have e95 : A'.tmps[95]?.getD undef = vs 45 := slot_in hA hap (Nat.lt_of_lt_of_eq (Nat.le_of_ble_eq_true rfl : 95 < 104) hsz.symm) (by kernel_rfl)
      rw [f45] at e95
      refine wpOp_go _ rfl 45 95 true rfl rfl e95 ?_
      conv => arg 2; whnf
      have f48 : ∃ A c, (vs 48) = .agg #[.string ⟨#[119]⟩, .slice A 2 c] ∧ Rd W 1 (.slice A 2 c) 2 (bv sec13) := hd 48 (by kernel_rfl)
      have e98 : A'.tmps[98]?.getD undef = vs 48 := slot_in hA hap (Nat.lt_of_lt_of_eq (Nat.le_of_ble_eq_true rfl : 98 < 104) hsz.symm) (by kernel_rfl)
      clear hA hd hu o3 o5 o6 o7 o9 o10
      obtain ⟨A1, c1, hv1, hr1⟩ := f48
      rw [hv1] at e98
      refine op_keys1 (.tmp 98) rfl ⟨#[119]⟩ A1 2 c1 (by simp [Act.eval, e98]) ?_
      exact hK _ _ ((Kp.refl [] W).alloc _) ⟨_, _, rfl, kys1 42 rfl ⟨#[119]⟩ sec13 hr1 wN rfl⟩
    · intro vs A' W hA hW hd hu K hK
      have f45 : vs 45 = .bool true := hd 45 (by kernel_rfl)
      have e95 : A'.tmps[95]?.getD undef = vs 45 := slot_in hA hap (Nat.lt_of_lt_of_eq (Nat.le_of_ble_eq_true rfl : 95 < 104) hsz.symm) (by kernel_rfl)
      rw [f45] at e95
      refine wpOp_go _ rfl 45 95 true rfl rfl e95 ?_
      conv => arg 2; whnf
      have f46 : vs 46 = .agg (ntA 0 zH (.slice A 1 c)) := hd 46 (by kernel_rfl)
      have e96 : A'.tmps[96]?.getD undef = vs 46 := slot_in hA hap (Nat.lt_of_lt_of_eq (Nat.le_of_ble_eq_true rfl : 96 < 104) hsz.symm) (by kernel_rfl)
      rw [f46] at e96
      have f49 : ∃ us A, (vs 49) = .slice A 1 1 ∧ KysF W (.slice A 1 1) us [(wN, sec13)] := hd 49 (by kernel_rfl)
      have e99 : A'.tmps[99]?.getD undef = vs 49 := slot_in hA hap (Nat.lt_of_lt_of_eq (Nat.le_of_ble_eq_true rfl : 99 < 104) hsz.symm) (by kernel_rfl)
      clear hA hd hu o3 o5 o6 o7 o9 o10
      obtain ⟨us, A1, hv1, hr1⟩ := f49
      rw [hv1] at e99
      go_step
      refine (sright_any 0 (by decide) zH zH_length A c [sig1] sig1_ok (by decide) A1 1 [(wN, sec13)] (by decide) (fun k hk => by rw [List.mem_singleton.1 hk]; decide) us W (LDw.kp hW) (rd_old hv6 hW) hr1).mono ?_
      rintro e w' ⟨u, rfl, H⟩
      rw [right_0] at H
      obtain ⟨A2, c2, hu, -, -⟩ := ow_form (show Ow w' 9 1 u 0 [] from H.at_ (l1 := []))
      exact hK _ _ H.k ⟨A2, c2, hu⟩
    · intro vs A' W hA hW hd hu K hK
      have f45 : vs 45 = .bool true := hd 45 (by kernel_rfl)
      have e95 : A'.tmps[95]?.getD undef = vs 45 := slot_in hA hap (Nat.lt_of_lt_of_eq (Nat.le_of_ble_eq_true rfl : 95 < 104) hsz.symm) (by kernel_rfl)
      rw [f45] at e95
      refine wpOp_go _ rfl 45 95 true rfl rfl e95 ?_
      conv => arg 2; whnf
      have f50 : ∃ A c, (vs 50) = .slice A 0 c := hd 50 (by kernel_rfl)
      have e100 : A'.tmps[100]?.getD undef = vs 50 := slot_in hA hap (Nat.lt_of_lt_of_eq (Nat.le_of_ble_eq_true rfl : 100 < 104) hsz.symm) (by kernel_rfl)
      clear hA hd hu o3 o5 o6 o7 o9 o10
      obtain ⟨A1, c1, hv1⟩ := f50
      rw [hv1] at e100
      go_step
      exact hK _ _ (Kp.refl _ _) rfl
    · intro vs A' W hA hW hd hu K hK
      have f45 : vs 45 = .bool true := hd 45 (by kernel_rfl)
      have e95 : A'.tmps[95]?.getD undef = vs 45 := slot_in hA hap (Nat.lt_of_lt_of_eq (Nat.le_of_ble_eq_true rfl : 95 < 104) hsz.symm) (by kernel_rfl)
      rw [f45] at e95
      refine wpOp_go _ rfl 45 95 true rfl rfl e95 ?_
      conv => arg 2; whnf
      have f51 : vs 51 = .int .i64 (0 : Int) := hd 51 (by kernel_rfl)
      have e101 : A'.tmps[101]?.getD undef = vs 51 := slot_in hA hap (Nat.lt_of_lt_of_eq (Nat.le_of_ble_eq_true rfl : 101 < 104) hsz.symm) (by kernel_rfl)
      rw [f51] at e101
      clear hA hd hu o3 o5 o6 o7 o9 o10
      go_step
      exact hK _ _ (Kp.refl _ _) rfl
    · intro vs A' W hA hW hd hu K hK
      refine wpOp_free _ rfl rfl ?_
      conv => arg 2; whnf
      have f45 : vs 45 = .bool true := hd 45 (by kernel_rfl)
      have e95 : A'.tmps[95]?.getD undef = vs 45 := slot_in hA hap (Nat.lt_of_lt_of_eq (Nat.le_of_ble_eq_true rfl : 95 < 104) hsz.symm) (by kernel_rfl)
      rw [f45] at e95
      have f52 : vs 52 = .bool true := hd 52 (by kernel_rfl)
      have e102 : A'.tmps[102]?.getD undef = vs 52 := slot_in hA hap (Nat.lt_of_lt_of_eq (Nat.le_of_ble_eq_true rfl : 102 < 104) hsz.symm) (by kernel_rfl)
      rw [f52] at e102
      clear hA hd hu o3 o5 o6 o7 o9 o10
      go_step
      exact hK _ _ (Kp.refl _ _) rfl
    · intro vs A' W hA hW hd hu K hK
      refine wpOp_free _ rfl rfl ?_
      conv => arg 2; whnf
      have f53 : vs 53 = .bool true := hd 53 (by kernel_rfl)
      have e103 : A'.tmps[103]?.getD undef = vs 53 := slot_in hA hap (Nat.lt_of_lt_of_eq (Nat.le_of_ble_eq_true rfl : 103 < 104) hsz.symm) (by kernel_rfl)
      rw [f53] at e103
      clear hA hd hu o3 o5 o6 o7 o9 o10
      go_step
      exact hK _ _ (Kp.refl _ _) rfl
  · intro vs W hW hp
    rw [show putAll vs (opsOf 11 Tryd.f13) 0 a = putD [(50, vs 0), (51, vs 1), (52, vs 2), (53, vs 3), (54, vs 4), (55, vs 5), (56, vs 6), (57, vs 7), (58, vs 8), (59, vs 9), (60, vs 10), (61, vs 11), (62, vs 12), (63, vs 13), (64, vs 14), (65, vs 15), (66, vs 16), (67, vs 17), (68, vs 18), (69, vs 19), (70, vs 20), (71, vs 21), (72, vs 22), (73, vs 23), (74, vs 24), (75, vs 25), (76, vs 26), (77, vs 27), (78, vs 28), (79, vs 29), (80, vs 30), (81, vs 31), (82, vs 32), (83, vs 33), (84, vs 34), (85, vs 35), (86, vs 36), (87, vs 37), (88, vs 38), (89, vs 39), (90, vs 40), (91, vs 41), (92, vs 42), (93, vs 43), (94, vs 44), (95, vs 45), (96, vs 46), (97, vs 47), (98, vs 48), (99, vs 49), (100, vs 50), (101, vs 51), (102, vs 52), (103, vs 53), (0, vs 54)] a from by kernel_rfl]
    exact hend _ W (same_putD _ a) hW (sl_putD _ a 0 _ (by rw [show vs 54 = _ from hp 54 (Nat.le_of_ble_eq_true (by kernel_rfl))]; kernel_rfl))
-- END skn11
end Go.Proofs.YtapboamjpilckaaDoor
/- known of layer 28, whole. -/
namespace Go.Proofs.YtapboamjpilckaaDoor
open Go.RowKit
def filK (j : Nat) : List Value := List.replicate j (.int .u8 11) ++ List.replicate (20 - j) (.int .u8 0)
theorem filK_0 : filK 0 = bv (List.replicate 20 0) := rfl
theorem filK_step {j : Nat} (h : j < 20) : (filK j).set j (.int .u8 11) = filK (j + 1) := by
  unfold filK
  rw [List.set_append_right _ _ (by simp), List.length_replicate, Nat.sub_self, show 20 - j = (20 - (j + 1)) + 1 from by omega, List.replicate_succ, List.set_cons_zero, List.replicate_succ', List.append_assoc]
  rfl
def dsKn : List Nat := [12, 13, 16, 17, 18, 14, 15, 2]
set_option maxRecDepth 100000 in
set_option maxHeartbeats 4000000 in
theorem skn_l0 {Q : Exit → Act → World → Prop} {a : Act} {w0 w : World} (gk : Nat) (L : List Res) (hsz : a.tmps.size = 104) (o1 : Sl a 1 (.slice (some ⟨gk, 0, none⟩) 20 20)) (o2 : Sl a 2 (.int .i64 ((0 : Nat) : Int)))
    (S : Held w0 w (rowR 5 1 (.slice (some ⟨gk, 0, none⟩) 20 20) 20 (bv (List.replicate 20 0)) :: L))
    (hend : ∀ (a' : Act) (W : World), Same a a' dsKn → Held w0 W (rowR 5 1 (.slice (some ⟨gk, 0, none⟩) 20 20) 20 (bv k20) :: L) → Q .normal a' W) :
    (Code.block 0 (blockOf 0 Tryd.f13)).wp Tryd.prog Q a w := by
  refine wp_block ?_
  conv => arg 2; whnf
  refine wp_loop (fun a' w' => ∃ (j : Nat), j ≤ 20 ∧ Same a a' dsKn ∧ Sl a' 2 (.int .i64 ((j : Nat) : Int)) ∧ Held w0 w' (rowR 5 1 (.slice (some ⟨gk, 0, none⟩) 20 20) 20 (filK j) :: L)) (fun a' _ => 20 - (intOf (a'.eval (.tmp 2))).toNat) ⟨0, Nat.zero_le _, Same.refl _ _, o2, by rw [filK_0]; exact S⟩ ?_
  clear o2 S
  rintro a1 w1 ⟨j, hj, T, o2, S⟩
  have hz1 := T.size.trans hsz
  have o1 := T.keep 1 _ (by decide) o1
  have e2 := o2.eval (by rw [hz1]; decide)
  refine wp_seq (wp_seq (skn_r3 j hz1 o2 (fun a2 hs2 o13 => ?_)))
  have hz2 := hs2.size.trans hz1
  have o1 := hs2.keep 1 _ (by decide) o1
  have o2 := hs2.keep 2 _ (by decide) o2
  have T := T.trans hs2
  by_cases hlt : j < 20
  · refine wp_cond_true ((o13.eval (by rw [hz2]; decide)).trans (by rw [decide_eq_true (by omega)])) (wp_skip ?_)
    simp only [Exit.then]
    refine wp_seq (wp_block ?_)
    refine skn_r5 w0 gk j hlt _ L S hz2 o1 o2 (fun a3 w3 hs3 S => ?_)
    have hz3 := hs3.size.trans hz2
    have o1 := hs3.keep 1 _ (by decide) o1
    have o2 := hs3.keep 2 _ (by decide) o2
    have o13 := hs3.keep 13 _ (by decide) o13
    have T := T.trans hs3
    simp only [Exit.inBlock, Exit.then]
    rw [filK_step hlt] at S
    refine skn_r4 j hlt hz3 o2 (fun a4 hs4 o2 => ?_)
    have hz4 := hs4.size.trans hz3
    have o1 := hs4.keep 1 _ (by decide) o1
    have o13 := hs4.keep 13 _ (by decide) o13
    have T := T.trans hs4
    refine ⟨⟨j + 1, by omega, T.more (by decide +kernel), o2, S⟩, ?_⟩
    show 20 - (intOf _).toNat < 20 - (intOf _).toNat
    rw [e2, o2.eval (by rw [hz4]; decide)]
    simp only [intOf]; omega
  · refine wp_cond_false ((o13.eval (by rw [hz2]; decide)).trans (by rw [decide_eq_false (by omega)])) (wp_exit ?_)
    simp only [Exit.then, Exit.inBlock]
    obtain rfl : j = 20 := by omega
    exact hend _ _ (T.more (by decide +kernel)) S
set_option maxRecDepth 100000 in
set_option maxHeartbeats 4000000 in
theorem sknown_any (w : World) (LDw : LD w) : Calls Tryd.prog 13 #[] w fun e w' => e = .returned (.bool true) ∧ Kp [] w w' := by
  refine calls_fr Tryd.func13 rfl 104 rfl (fun a0 hsz hdf hAr => ?_)
  have hz0 : a0.tmps.size = 104 := hsz
  have D := hdf
  refine wp_seq (skn_r0 hz0 (fun a1 hs1 o0 => ?_))
  have hz1 := hs1.size.trans hz0
  have D := hs1.defers.trans D
  refine wp_seq (skn_r1 w [] (Held.start w) hz1 (fun a2 w1 hs2 h1 => ?_))
  have hz2 := hs2.size.trans hz1
  have o0 := hs2.keep 0 _ (by decide) o0
  have D := hs2.defers.trans D
  obtain ⟨gk, o1, S⟩ := h1
  refine wp_seq (wp_seq (skn_r2 hz2 (fun a3 hs3 o2 => ?_)))
  have hz3 := hs3.size.trans hz2
  have o0 := hs3.keep 0 _ (by decide) o0
  have o1 := hs3.keep 1 _ (by decide) o1
  have D := hs3.defers.trans D
  refine skn_l0 gk [] hz3 o1 o2 S (fun a4 w2 hs4 S => ?_)
  have hz4 := hs4.size.trans hz3
  have o0 := hs4.keep 0 _ (by decide) o0
  have o1 := hs4.keep 1 _ (by decide) o1
  have D := hs4.defers.trans D
  have k2 := S.k
  have hk := Rd.of_own (S.at_ (l1 := []))
  refine wp_seq (skn_r6 gk hk hz4 o1 (fun a5 w3 hs5 h3 => ?_))
  have hz5 := hs5.size.trans hz4
  have o0 := hs5.keep 0 _ (by decide) o0
  have o1 := hs5.keep 1 _ (by decide) o1
  have D := hs5.defers.trans D
  obtain ⟨gh, o3, S3⟩ := h3
  have k3 := k2.trans S3.k (by simp)
  have hb3 := S3.at_ (l1 := [])
  refine wp_seq (skn_r7 (LDw.kp k3) hz5 (fun a6 w4 hs6 o5 h4 => ?_))
  have hz6 := hs6.size.trans hz5
  have o0 := hs6.keep 0 _ (by decide) o0
  have o1 := hs6.keep 1 _ (by decide) o1
  have o3 := hs6.keep 3 _ (by decide) o3
  have D := hs6.defers.trans D
  obtain ⟨gn, o4, S4⟩ := h4
  have k4 := k3.trans S4.k (by simp)
  have hb3 := hb3.kp S4.k (by simp)
  refine wp_seq (skn_r8 (LDw.kp k4) gn (S4.at_ (l1 := [])) (rd_nil_any 33 _) hz6 o4 (fun a7 w5 hs7 o7 h5 => ?_))
  have hz7 := hs7.size.trans hz6
  have o0 := hs7.keep 0 _ (by decide) o0
  have o1 := hs7.keep 1 _ (by decide) o1
  have o3 := hs7.keep 3 _ (by decide) o3
  have o5 := hs7.keep 5 _ (by decide) o5
  have o4 := hs7.keep 4 _ (by decide) o4
  have D := hs7.defers.trans D
  obtain ⟨A, c, gm, o6, S5⟩ := h5
  have k5 := k4.trans S5.k (by simp)
  have hb3 := hb3.kp S5.k (by simp)
  have hb6 := S5.at_ (l1 := [])
  have hv6 := Rd.of_own (S5.at_ (l1 := [_]))
  refine wp_seq (skn_r9 (LDw.kp k5) gm A c hb6 hv6 hz7 o6 (fun a8 w6 hs8 o9 h6 => ?_))
  have hz8 := hs8.size.trans hz7
  have o0 := hs8.keep 0 _ (by decide) o0
  have o1 := hs8.keep 1 _ (by decide) o1
  have o3 := hs8.keep 3 _ (by decide) o3
  have o5 := hs8.keep 5 _ (by decide) o5
  have o4 := hs8.keep 4 _ (by decide) o4
  have o7 := hs8.keep 7 _ (by decide) o7
  have o6 := hs8.keep 6 _ (by decide) o6
  have D := hs8.defers.trans D
  have k6 := k5.trans h6 (by simp)
  have hb3 := hb3.kp h6 (by simp)
  have hb6 := hb6.kp h6 (by simp)
  have hv6 := rd_old hv6 h6
  refine wp_seq (skn_r10 (LDw.kp k6) gm A c hb6 hv6 hz8 o6 (fun a9 w7 hs9 h7 => ?_))
  have hz9 := hs9.size.trans hz8
  have o0 := hs9.keep 0 _ (by decide) o0
  have o1 := hs9.keep 1 _ (by decide) o1
  have o3 := hs9.keep 3 _ (by decide) o3
  have o5 := hs9.keep 5 _ (by decide) o5
  have o4 := hs9.keep 4 _ (by decide) o4
  have o7 := hs9.keep 7 _ (by decide) o7
  have o6 := hs9.keep 6 _ (by decide) o6
  have o9 := hs9.keep 9 _ (by decide) o9
  have D := hs9.defers.trans D
  obtain ⟨u, o10, S7⟩ := h7
  have k7 := k6.trans S7.k (by simp)
  have hb3 := hb3.kp S7.k (by simp)
  have hb6 := hb6.kp S7.k (by simp)
  have hv6 := rd_old hv6 S7.k
  obtain ⟨go, co, hu, -, -⟩ := ow_some (show Ow w7 9 1 u 1 [.string ⟨#[119]⟩] from S7.at_ (l1 := [])) (by decide)
  subst hu
  have hv10 := Rd.of_own (S7.at_ (l1 := []))
  have hb3 : Blk w7 gh 25 (hashA kn20) := hb3
  refine wp_seq (skn_r11 (LDw.kp k7) gh gm go co A c hb3 hb6 hv6 hv10 hz9 o3 o5 o6 o7 o9 o10 (fun a10 w8 hs10 k8 o0 => ?_))
  have hz10 := hs10.size.trans hz9
  have o1 := hs10.keep 1 _ (by decide) o1
  have o3 := hs10.keep 3 _ (by decide) o3
  have o5 := hs10.keep 5 _ (by decide) o5
  have o4 := hs10.keep 4 _ (by decide) o4
  have o7 := hs10.keep 7 _ (by decide) o7
  have o6 := hs10.keep 6 _ (by decide) o6
  have o9 := hs10.keep 9 _ (by decide) o9
  have o10 := hs10.keep 10 _ (by decide) o10
  have D := hs10.defers.trans D
  refine wp_ret ?_
  exact (bodyPost_ret (results_t1 (by rfl) (o0.eval (by rw [hz10]; decide))) D ⟨rfl, k7.trans k8 (by simp)⟩)
end Go.Proofs.YtapboamjpilckaaDoor
/- sign.Enough, sign.Text: their regions. -/
namespace Go.Proofs.YtapboamjpilckaaDoor
open Go.RowKit
-- REG sen0
-- END sen0
-- REG sen1N
-- END sen1N
-- REG sen1M
-- END sen1M
-- REG sen1Y
-- END sen1Y
-- REG stx0
-- END stx0
-- REG stx1
-- END stx1
-- REG stx2
-- END stx2
-- REG stx3
-- END stx3
-- REG stx4
-- END stx4
-- REG stx5
-- END stx5
-- REG stx6
-- END stx6
-- REG stx7
-- END stx7
-- REG stx8
-- END stx8
-- REG stx9
-- END stx9
-- REG stx10
-- END stx10
end Go.Proofs.YtapboamjpilckaaDoor
/- sign.Enough, sign.Text: whole. -/
namespace Go.Proofs.YtapboamjpilckaaDoor
open Go.RowKit
theorem rising_nm : ∀ {l : List SigD} {a : List UInt8}, rising a l = true → ∀ s, s ∈ l → nmOk s.1 = true
  | [], _, _, s, h => by cases h
  | x :: l, a, h, s, hs => by
    unfold rising at h
    simp only [Bool.and_eq_true] at h
    rcases List.mem_cons.1 hs with rfl | hs
    · exact h.1.1
    · exact rising_nm h.2 s hs
end Go.Proofs.YtapboamjpilckaaDoor
/- Signing, one key after another: mathematics. -/
namespace Go.Proofs.YtapboamjpilckaaDoor
open Go.RowKit
theorem posN_lt {nm : List UInt8} {x : SigD} {l : List SigD} (h : cmpB x.1 nm < 0) : posN nm (x :: l) = posN nm l + 1 := by
  unfold posN
  rw [List.takeWhile_cons, if_pos (by simpa using h), List.length_cons]
theorem posN_ge {nm : List UInt8} {x : SigD} {l : List SigD} (h : ¬ cmpB x.1 nm < 0) : posN nm (x :: l) = 0 := by
  unfold posN
  rw [List.takeWhile_cons, if_neg (by simpa using h)]
  rfl
theorem hasN_lt {nm : List UInt8} {x : SigD} {l : List SigD} (h : cmpB x.1 nm < 0) : hasN nm (x :: l) = hasN nm l := by
  unfold hasN
  rw [posN_lt h, List.getElem?_cons_succ]
theorem hasN_ge {nm : List UInt8} {x : SigD} {l : List SigD} (h : ¬ cmpB x.1 nm < 0) : hasN nm (x :: l) = decide (cmpB x.1 nm = 0) := by
  unfold hasN
  rw [posN_ge h]
  rfl
theorem insN_lt {s : SigD} {x : SigD} {l : List SigD} (h : cmpB x.1 s.1 < 0) : insN (x :: l) s = x :: insN l s := by
  unfold insN
  rw [posN_lt h, List.take_succ_cons, List.drop_succ_cons, List.cons_append]
theorem insN_ge {s : SigD} {x : SigD} {l : List SigD} (h : ¬ cmpB x.1 s.1 < 0) : insN (x :: l) s = s :: x :: l := by
  unfold insN
  rw [posN_ge h]
  rfl
theorem insN_nil (s : SigD) : insN [] s = [s] := by
  unfold insN
  rw [List.take_nil, List.drop_nil]
  rfl
theorem insN_mem {s x : SigD} : ∀ {l : List SigD}, x ∈ insN l s → x = s ∨ x ∈ l := by
  intro l h
  unfold insN at h
  rcases List.mem_append.1 h with h | h
  · exact .inr (List.mem_of_mem_take h)
  · rcases List.mem_cons.1 h with h | h
    · exact .inl h
    · exact .inr (List.mem_of_mem_drop h)
theorem insN_self (s : SigD) (l : List SigD) : s ∈ insN l s := by
  unfold insN
  exact List.mem_append_right _ (List.mem_cons_self ..)
theorem insN_length (s : SigD) (l : List SigD) : (insN l s).length = l.length + 1 := by
  unfold insN
  rw [List.length_append, List.length_take, List.length_cons, List.length_drop]
  have := posN_le s.1 l
  omega
theorem rising_ins {s : SigD} (hn : nmOk s.1 = true) : ∀ {l : List SigD} {a : List UInt8}, rising a l = true → 0 < cmpB s.1 a → hasN s.1 l = false → rising a (insN l s) = true
  | [], a, _, h0, _ => by
    rw [insN_nil]
    unfold rising rising
    rw [hn, decide_eq_true h0]
    rfl
  | x :: l, a, h, h0, hh => by
    have h' := h
    unfold rising at h'
    simp only [Bool.and_eq_true, decide_eq_true_eq] at h'
    by_cases hx : cmpB x.1 s.1 < 0
    · rw [insN_lt hx]
      rw [hasN_lt hx] at hh
      unfold rising
      rw [h'.1.1, decide_eq_true h'.1.2, rising_ins hn h'.2 (by rw [cmpB_neg x.1 s.1]; omega) hh]
      rfl
    · rw [insN_ge hx]
      rw [hasN_ge hx] at hh
      have hne : ¬ cmpB x.1 s.1 = 0 := by simpa using hh
      unfold rising rising
      rw [hn, decide_eq_true h0, h'.1.1, decide_eq_true (show 0 < cmpB x.1 s.1 by omega), h'.2]
      rfl
theorem hasN_mem {s : SigD} : ∀ {l : List SigD} {a : List UInt8}, rising a l = true → s ∈ l → hasN s.1 l = true
  | [], _, _, h => by cases h
  | x :: l, a, h, hs => by
    have h' := h
    unfold rising at h'
    simp only [Bool.and_eq_true, decide_eq_true_eq] at h'
    rcases List.mem_cons.1 hs with rfl | hs
    · rw [hasN_ge (by rw [cmpB_self]; omega), cmpB_self]
      rfl
    · have := rising_all h'.2 s hs
      rw [hasN_lt this]
      exact hasN_mem h'.2 hs
/-- How a note stands, when these keys have signed. -/
structure InvH (z : Int) (h : List UInt8) (l : List SigD) (ks : List KeyD) : Prop where
  may : mayN z l = true
  len : l.length = ks.length
  ok : ∀ k, k ∈ ks → sumOk z k.1 k.2 = true
  sig : ∀ s, s ∈ l → ∃ k, k ∈ ks ∧ s = (k.1, sumF z h k.1 k.2)
theorem InvH.nil {z : Int} {h : List UInt8} (hz : 0 ≤ z) : InvH z h [] [] := ⟨by rw [mayN_nil]; exact decide_eq_true hz, rfl, (fun _ h => by cases h), fun _ h => by cases h⟩
theorem sumV_ok {z : Int} {h nm sec : List UInt8} (o : sumOk z nm sec = true) : sumV z h nm sec = sumF z h nm sec := by unfold sumV; rw [if_pos o]
theorem InvH.right {z : Int} {h : List UInt8} {l : List SigD} {ks : List KeyD} (I : InvH z h l ks) : (rightA z h l ks).length = ks.length := by
  unfold rightA rightN
  rw [I.may, if_pos rfl, List.length_map, ← I.len]
  congr 1
  rw [List.filter_eq_self]
  intro s hs
  obtain ⟨k, hk, rfl⟩ := I.sig s hs
  refine List.any_eq_true.2 ⟨k, hk, ?_⟩
  unfold matchS
  rw [I.ok k hk, sumV_ok (I.ok k hk)]
  simp
theorem signE_zero {z : Int} {l : List SigD} {nm sec : List UInt8} (e : signE z l nm sec = 0) : mayN z l = true ∧ sumOk z nm sec = true ∧ hasN nm l = false ∧ l.length ≠ 64 := by
  unfold signE at e
  cases h1 : mayN z l
  · rw [h1, if_pos rfl] at e; exact absurd e (by decide)
  · rw [h1, if_neg (by decide)] at e
    cases h2 : sumOk z nm sec
    · rw [h2, if_pos rfl] at e; exact absurd e (by decide)
    · rw [h2, if_neg (by decide)] at e
      cases h3 : hasN nm l
      · rw [h3, if_neg (by decide)] at e
        refine ⟨rfl, rfl, rfl, fun h => ?_⟩
        rw [if_pos h] at e
        exact absurd e (by decide)
      · rw [h3, if_pos rfl] at e; exact absurd e (by decide)
theorem sumOk_nm {z : Int} {nm sec : List UInt8} (o : sumOk z nm sec = true) : nmOk nm = true := by
  unfold sumOk keyOk at o
  simp only [Bool.and_eq_true] at o
  exact o.2.1.1
theorem InvH.step {z : Int} {h : List UInt8} {l : List SigD} {ks : List KeyD} (I : InvH z h l ks) {k : KeyD} (e : signE z l k.1 k.2 = 0) : InvH z h (insN l (k.1, sumF z h k.1 k.2)) (ks ++ [k]) := by
  obtain ⟨h1, h2, h3, h4⟩ := signE_zero e
  obtain ⟨h64, hr⟩ := mayN_64 h1
  have hn := sumOk_nm h2
  refine ⟨?_, ?_, ?_, ?_⟩
  · have hz : 0 ≤ z := by
      unfold mayN at h1
      simp only [Bool.and_eq_true, decide_eq_true_eq] at h1
      exact h1.1.1
    unfold mayN
    rw [decide_eq_true hz, insN_length, decide_eq_true (show l.length + 1 ≤ 64 by omega), rising_ins (s := (k.1, sumF z h k.1 k.2)) hn hr (cmp_nil hn) h3]
    rfl
  · rw [insN_length, List.length_append, I.len]; rfl
  · intro x hx
    rcases List.mem_append.1 hx with hx | hx
    · exact I.ok x hx
    · rw [List.mem_singleton.1 hx]; exact h2
  · intro s hs
    rcases insN_mem hs with rfl | hs
    · exact ⟨k, List.mem_append_right _ (List.mem_singleton.2 rfl), rfl⟩
    · obtain ⟨x, hx, e⟩ := I.sig s hs
      exact ⟨x, List.mem_append_left _ hx, e⟩
theorem InvH.again {z : Int} {h : List UInt8} {l : List SigD} {ks : List KeyD} (I : InvH z h l ks) {k : KeyD} (e : signE z l k.1 k.2 = 0) : signE z (insN l (k.1, sumF z h k.1 k.2)) k.1 k.2 = 8 := by
  obtain ⟨h1, h2, h3, h4⟩ := signE_zero e
  have J := I.step e
  have hh := hasN_mem (mayN_64 J.may).2 (insN_self (k.1, sumF z h k.1 k.2) l)
  unfold signE
  rw [J.may, if_neg (by decide), h2, if_neg (by decide), hh, if_pos rfl]
theorem insN_ok {l : List SigD} {s : SigD} (hok : SgOk l) (h1 : s.2.length = 32) (h2 : s.1.length ≤ 9223372036854775807) : SgOk (insN l s) := by
  intro x hx
  rcases insN_mem hx with rfl | hx
  · exact ⟨h1, h2⟩
  · exact hok x hx
end Go.Proofs.YtapboamjpilckaaDoor
/- SignMacs: its regions. -/
namespace Go.Proofs.YtapboamjpilckaaDoor
open Go.RowKit
theorem wpList_appH {P : Program} {ops : Array Oper} {rest : List Oper} {o : Oper} {a : Act} {w0 w : World} {Q : Exit → Act → World → Prop} {L : List Res} (hg : o.guard = none) (s x : Operand) (t e : TypeId)
    (ho : o.op = .call { callee := .builtin .append, args := #[s, x], argTypes := #[t, t] })
    {size bytes : Nat} {z : Value} (hI : (P.info? e).map (fun i => (i.zero, i.size, i.bytes)) = some (some z, size, bytes)) (ht : P.underlying t = some (.slice e)) (hzs : z.cells.size = size) (hsz : 0 < size)
    (v : Value) (n : Nat) (xs : List Value) (hs : a.eval s = v) (S : Held w0 w (rowR e size v n xs :: L))
    (y : Value) (m : Nat) (news : List Value) (hx : a.eval x = y) (hr : Rd w size y m news) (h1 : ∀ u ∈ news, u.oneCell' = true)
    (h63 : n + m ≤ maxLen) (hbytes : (n + m) * bytes ≤ 140737488355328)
    (h : ∀ v' w', Held w0 w' (rowR e size v' (n + m) (xs ++ news) :: L) → wpList P ops Q rest (a.put o.dst v') w') : wpList P ops Q (o :: rest) a w :=
  wpList_plain hg fun _ hK => op_app s x t e ho hI ht hzs hsz v n xs hs S y m news hx hr h1 h63 hbytes (fun v' w' S' => hK _ _ (h v' w' S'))
theorem wpList_appHN {P : Program} {ops : Array Oper} {rest : List Oper} {o : Oper} {a : Act} {w0 w : World} {Q : Exit → Act → World → Prop} {L : List Res} (hg : o.guard = none) (s x : Operand) (t e : TypeId)
    (ho : o.op = .call { callee := .builtin .append, args := #[s, x], argTypes := #[t, t] })
    {size bytes : Nat} {z : Value} (hI : (P.info? e).map (fun i => (i.zero, i.size, i.bytes)) = some (some z, size, bytes)) (ht : P.underlying t = some (.slice e)) (hzs : z.cells.size = size) (hsz : 0 < size)
    (hs : a.eval s = .slice none 0 0) (S : Held w0 w L)
    (y : Value) (m : Nat) (news : List Value) (hx : a.eval x = y) (hr : Rd w size y m news) (h1 : ∀ u ∈ news, u.oneCell' = true)
    (h63 : m ≤ maxLen) (hbytes : m * bytes ≤ 140737488355328)
    (h : ∀ v' w', Held w0 w' (rowR e size v' m news :: L) → wpList P ops Q rest (a.put o.dst v') w') : wpList P ops Q (o :: rest) a w :=
  wpList_plain hg fun _ hK => op_app_nil s x t e ho hI ht hzs hsz hs S y m news hx hr h1 h63 hbytes (fun v' w' S' => hK _ _ (h v' w' S'))
-- REG smc0
-- END smc0
-- REG smc1
-- END smc1
-- REG smc2
-- END smc2
-- REG smc3
-- END smc3
-- REG smc4
-- END smc4
-- REG smc10
-- END smc10
-- REG smc5
-- END smc5
-- REG smc11
-- END smc11
-- REG smc6
-- END smc6
-- REG smc12
-- END smc12
-- REG smc7
-- END smc7
-- REG smc8
-- END smc8
-- REG smc9
-- END smc9
-- REG smc13
-- END smc13
-- REG smc15
-- END smc15
end Go.Proofs.YtapboamjpilckaaDoor
/- Comparing signatures; cuts of lists of signatures. -/
namespace Go.Proofs.YtapboamjpilckaaDoor
open Go.RowKit
theorem sgA_root (s : SigD) (hs : s.2.length = 32) : (sgA s).extract 1 33 = hashA s.2 := by
  apply Array.ext'
  rw [Array.toList_extract, List.extract_eq_take_drop]
  show ((strV s.1 :: bv s.2).drop 1).take 32 = bv s.2
  rw [List.drop_succ_cons, List.drop_zero, List.take_of_length_le (by rw [bv_length, hs]; omega)]
theorem run_sg_eq (w : World) (d : Nat) (s t : SigD) (ha : s.2.length = 32) (hb : t.2.length = 32) : (Op.equalIn (d + 3) 81 (.agg (sgA s)) (.agg (sgA t))).run Tryd.prog w = .ok ((s.1 == t.1) && (s.2 == t.2)) w := by
  have hu : ∃ f g : Field, Tryd.prog.underlying 81 = some (.struct #[f, g]) ∧ f.name = "Name" ∧ f.type = 9 ∧ f.offset = 0 ∧ g.name = "Sum" ∧ g.type = 25 ∧ g.offset = 1 := ⟨_, _, Tryd.underlying81, rfl, rfl, rfl, rfl, rfl, rfl⟩
  obtain ⟨f, g, hu, f1, f2, f3, g1, g2, g3⟩ := hu
  have hf : Tryd.prog.fieldsOf 81 = #[f, g] := by unfold Program.fieldsOf; rw [hu]
  rw [run_equalIn_agg (P := Tryd.prog) w (d + 2) 81 (sgA s) (sgA t) (by rw [hf]; exact hu) Tryd.stoodInHeld81, hf]
  have n1 : ¬ ("Name" = "_") := by decide
  have n2 : ¬ ("Sum" = "_") := by decide
  obtain ⟨bs, hbs, hbl, -, -⟩ := str_of s.1
  obtain ⟨bt, hbt, hbm, -, -⟩ := str_of t.1
  have p1 : (part 9 (sgA s) 0).run Tryd.prog w = .ok (.string bs) w := run_part_plain w (by kernel_rfl) (by rw [← hbs.out]; rfl)
  have p2 : (part 9 (sgA t) 0).run Tryd.prog w = .ok (.string bt) w := run_part_plain w (by kernel_rfl) (by rw [← hbt.out]; rfl)
  have p3 := run_equalIn_string (P := Tryd.prog) w (d + 1) 9 bs bt Tryd.underlying9
  have q : ∀ s : SigD, s.2.length = 32 → (part 25 (sgA s) 1).run Tryd.prog w = .ok (.agg (hashA s.2)) w := by
    intro s ha
    obtain ⟨i0, hi, hz⟩ : ∃ i, Tryd.prog.info? 25 = some i ∧ i.size = 32 := by
      have := Tryd.infoHashP
      cases h : Tryd.prog.info? 25 with
      | none => rw [h] at this; cases this
      | some i => rw [h] at this; exact ⟨i, rfl, Option.some.inj this⟩
    have hS : (sizeOf 25).run Tryd.prog w = .ok 32 w := by rw [← hz]; simp only [sizeOf, typeInfo]; simp [hi, go_sem]
    have hA : (isAgg 25).run Tryd.prog w = .ok true w := by simp [isAgg, run_underlying Tryd.underlying25]
    simp only [part, Sem.run_bind, hA, hS, Result.andThen_ok, if_true, Sem.run_pure]
    rw [show 1 + 32 = 33 from rfl, sgA_root s ha]
  have q3 := run_hash_eq w d s.2 t.2 ha hb
  rw [hbl.out, hbm.out] at p3
  exact eq_fields2 w (d + 2) _ _ f g (by rw [f1]; exact n1) (by rw [g1]; exact n2) (.string bs) (.string bt) (.agg (hashA s.2)) (.agg (hashA t.2)) _ _ (by rw [f2, f3]; exact p1) (by rw [f2, f3]; exact p2) (by rw [f2]; exact p3) (by rw [g2, g3]; exact q s ha) (by rw [g2, g3]; exact q t hb) (by rw [g2]; exact q3)
theorem sg_eq_top (w : World) (s t : SigD) (ha : s.2.length = 32) (hb : t.2.length = 32) : (Op.equalIn 10000 81 (.agg (sgA s)) (.agg (sgA t))).run Tryd.prog w = .ok ((s.1 == t.1) && (s.2 == t.2)) w := by
  have h := fun n (e : n + 3 = 10000) => e ▸ run_sg_eq w n s t ha hb
  exact h 9997 (by decide)
theorem neq_sg (w : World) (s t : SigD) (ha : s.2.length = 32) (hb : t.2.length = 32) : (binOp .neq 81 (.agg (sgA s)) (.agg (sgA t))).run Tryd.prog w = .ok (.bool (!((s.1 == t.1) && (s.2 == t.2)))) w := by
  rw [run_neq_struct, sg_eq_top w s t ha hb, Result.andThen_ok]
theorem cut_hiS (A : Option Addr) (n c k : Nat) (hk : k ≤ c) (w : World) : (Instr.sliceAt 34 (.slice A n c) none (some (.int .i64 (k : Int))) none).run Tryd.prog w = .ok (.slice A k c) w := by
  rw [run_sliceAt_slice w 34 _ _ _ _ und_sig, run_slice_h w 34 A n c und_sig .i64 k (by omega) (by omega), elem_sig, size_sig]
  simp only [Result.andThen_ok, Int.toNat_natCast]
  congr 1
  by_cases e : c = 0
  · simp [sliced, e]
  · cases A with
    | none => simp [sliced, e]
    | some ad => simp [sliced, e, Addr.add]
theorem rd_hiS {w : World} {A : Option Addr} {n c k : Nat} {l : List SigD} (hok : SgOk l) (h : Rd w 33 (.slice A n c) n (sgsC l)) (hn : n = l.length) (hk : k ≤ n) : Rd w 33 (.slice A k c) k (sgsC (l.take k)) := by
  subst hn
  have hl := sgsC_length hok
  have hl2 := sgsC_length (l := l.take k) (fun s hs => hok s (List.mem_of_mem_take hs))
  rw [List.length_take, Nat.min_eq_left hk] at hl2
  have he : sgsC l = sgsC (l.take k) ++ sgsC (l.drop k) := by rw [← sgsC_append, List.take_append_drop]
  obtain ⟨h1, A', c', e, h2, h3, h4, h5⟩ := h
  cases e
  refine ⟨hl2, A, c, rfl, by omega, h3, (fun hA => ?_), fun ad had j u hu => h5 ad had j u ?_⟩
  · have := h4 hA; omega
  · rw [he, List.getElem?_append_left (List.getElem?_eq_some_iff.1 hu).1]
    exact hu
theorem rd_loS {w : World} {A : Option Addr} {n c k : Nat} {l : List SigD} (hok : SgOk l) (h : Rd w 33 (.slice A n c) n (sgsC l)) (hn : n = l.length) (hk : k ≤ n) : Rd w 33 (sliced A k n c 33) (n - k) (sgsC (l.drop k)) := by
  subst hn
  have hl := sgsC_length hok
  have hl1 := sgsC_length (l := l.take k) (fun s hs => hok s (List.mem_of_mem_take hs))
  have hl2 := sgsC_length (l := l.drop k) (fun s hs => hok s (List.mem_of_mem_drop hs))
  rw [List.length_take, Nat.min_eq_left hk] at hl1
  rw [List.length_drop] at hl2
  have he : sgsC l = sgsC (l.take k) ++ sgsC (l.drop k) := by rw [← sgsC_append, List.take_append_drop]
  obtain ⟨h1, A', c', e, h2, h3, h4, h5⟩ := h
  cases e
  unfold sliced
  refine ⟨hl2, _, c - k, rfl, by omega, by omega, (fun hA => ?_), fun ad had j u hu => ?_⟩
  · by_cases e : c = k
    · rw [if_pos e] at hA
      have := h4 hA; omega
    · rw [if_neg e, Option.map_eq_none_iff] at hA
      have := h4 hA; omega
  · by_cases e : c = k
    · have := (List.getElem?_eq_some_iff.1 hu).1
      rw [hl2] at this
      omega
    · rw [if_neg e] at had
      obtain ⟨ad0, rfl, rfl⟩ := Option.map_eq_some_iff.1 had
      rw [add_of_add]
      refine h5 ad0 rfl _ u ?_
      rw [he, List.getElem?_append_right (by omega), hl1, show k * 33 + j - k * 33 = j from by omega]
      exact hu
end Go.Proofs.YtapboamjpilckaaDoor
